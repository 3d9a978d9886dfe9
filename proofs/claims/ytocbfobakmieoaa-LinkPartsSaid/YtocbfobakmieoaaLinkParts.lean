/-
  LinkParts: for every input the law returns true and each argument reads behind the call as it read before. No condition.
-/
import Derived.Test.YtocbfobakmieoaaRows
import Derived.WalkKit
import Derived.ProofKit
import Derived.OpenShut
import Derived.Test.YtocbfobakmieoaaLkOpen
import Derived.Test.YtocbfobakmieoaaLkP2
namespace Go.Proofs.Ytocbfobakmieoaa
set_option linter.unusedVariables false
set_option linter.unusedSimpArgs false
set_option linter.unusedSectionVars false
namespace linkParts
open Go.ChangeMaps (open_string shut_string)
open Go.ChangeShapes Go.WideShapes Go.ChangeAt Go.RowKit Go.Deep Go.Joins
set_option linter.unusedVariables false

theorem own : ownKnob Try.prog.godebug = none := by kernel_rfl

set_option maxRecDepth 100000 in
theorem lifted (os : Os) (started : os.Started) (H : Type) (enc : TypeId × Value → H) :
    ReturnsInHanded {} Try.checked os 6 .any (Rows.linkPartsSpec.pre6 enc Try.prog Try.f6 Rows.linkPartsRow.domain false) (Rows.linkPartsSpec.post enc Try.prog Try.f6 false true false false) := by
  refine returnsInHanded_of_change (C := Try.checked) own started (by kernel_rfl) Try.func6
    (ChangeSpec.witness6 (enc := enc) (C := Try.checked) false ⟨#[], #[.agg #[.slice none 0 0, .slice none 0 0], .slice none 0 0, .slice none 0 0], []⟩ 8 (by kernel_rfl) (by kernel_rfl) (by kernel_rfl) (by kernel_rfl)) ?_
  intro W base args ds gs before hval0 hW hcnd _
  have hval : ∀ (j : Nat) t v, Try.f6.params[j]? = some t → args[j]? = some v → Value.okWide Try.prog W .any base t v := hval0
  have hW' := hW
  obtain ⟨p, q, hA0, hV, rfl, hfz, hnd⟩ := hW
  have hA : DataW.TrodAll enc Try.prog W 0 (fun _ => true) true Try.f6.params.toList args.toList ds p := hA0
  rw [Try.params6] at hA hval
  obtain ⟨v0, vs0, d0, ds0, p0, q0, hargs, rfl, rfl, h0, r0⟩ := trodAll_cons hA
  obtain ⟨v1, vs1, d1, ds1, p1, q1, rfl, rfl, rfl, h1, r1⟩ := trodAll_cons r0
  obtain ⟨v2, vs2, d2, ds2, p2, q2, rfl, rfl, rfl, h2, r2⟩ := trodAll_cons r1
  obtain ⟨rfl, rfl, rfl⟩ := trodAll_nil r2
  obtain rfl : args = #[v0, v1, v2] := by cases args; simp_all
  obtain ⟨rfl, rfl⟩ := trodVars_none hV
  clear hA0 hval0
  obtain ⟨x0, y0, s0, t0, n0, rfl, rfl, rfl, e0, f0⟩ := open_agg2 Try.underlying25 (by kernel_rfl) cells_Air (hval 0 25 v0 rfl rfl) h0
  obtain ⟨u0, l0, k0, z0⟩ := open_Msgs e0
  obtain ⟨u0b, m0, k0b, z0b⟩ := open_Prs f0
  simp only [List.cons.injEq, and_true] at k0 k0b
  subst k0 k0b
  obtain ⟨A0, c0, k0, _⟩ := SliceOf.shape z0
  obtain ⟨B0, d0x, k0b, _⟩ := SliceOf.shape z0b
  subst k0 k0b
  obtain ⟨_, _, _, rfl⟩ := okWide_slice Try.underlying28 (hval 1 28 v1 rfl rfl)
  obtain ⟨n1, e1⟩ := h1
  obtain ⟨u1, l1, e1, z1⟩ := open_Evs e1
  simp [Value.cells] at e1
  subst e1
  obtain ⟨A1, c1, e1, _⟩ := SliceOf.shape z1
  cases e1
  obtain ⟨_, _, _, rfl⟩ := okWide_slice Try.underlying28 (hval 2 28 v2 rfl rfl)
  obtain ⟨n2, e2⟩ := h2
  obtain ⟨u2, l2, e2, z2⟩ := open_Evs e2
  simp [Value.cells] at e2
  subst e2
  obtain ⟨A2, c2, e2, _⟩ := SliceOf.shape z2
  cases e2
  refine (parts_v (a := ⟨l0, m0⟩) z0 z0b z1 z2).mono ?_
  rintro e W' ⟨rfl, hb⟩
  exact ⟨_, rfl, law_post laidOut (by rw [Try.params6]; intro t ht; revert t; decide +kernel) rfl rfl Try.underlying4 hW' rfl (only_below hb)⟩

theorem over : Rows.linkPartsRow.holds Try.pinned (OpenSpec.ofChange Rows.linkPartsSpec) :=
  OpenClaim.holds_of_wide 6 Try.f6 rfl rfl rfl rfl rfl rfl rfl ⟨rfl, rfl, rfl, rfl, rfl⟩ rfl rfl rfl rfl rfl (by kernel_rfl) Try.func6 (by kernel_rfl)
    (of_decide_eq_true (by kernel_rfl)) (by unfold Func.isWrapper; first | (rw [if_pos (by decide +kernel)]; kernel_rfl) | (rw [if_neg (by decide +kernel)]; exact ⟨rfl, rfl⟩))
    (fun os started H enc _ => lifted os started H enc)
end linkParts

theorem linkParts_holds : Rows.LinkPartsSaid := linkParts.over
end Go.Proofs.Ytocbfobakmieoaa
