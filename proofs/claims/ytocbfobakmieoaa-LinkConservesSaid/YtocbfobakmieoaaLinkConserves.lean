/-
  LinkConserves: for every input the law returns true and each argument reads behind the call as it read before. No condition.
-/
import Derived.Test.YtocbfobakmieoaaRows
import Derived.WalkKit
import Derived.ProofKit
import Derived.OpenShut
import Derived.Test.YtocbfobakmieoaaLkOpen
import Derived.Test.YtocbfobakmieoaaLkC2
namespace Go.Proofs.Ytocbfobakmieoaa
set_option linter.unusedVariables false
set_option linter.unusedSimpArgs false
set_option linter.unusedSectionVars false
namespace linkConserves
open Go.ChangeMaps (open_string shut_string)
open Go.ChangeShapes Go.WideShapes Go.ChangeAt Go.RowKit Go.Deep Go.Joins
set_option linter.unusedVariables false

theorem own : ownKnob Try.prog.godebug = none := by kernel_rfl

set_option maxRecDepth 100000 in
theorem lifted (os : Os) (started : os.Started) (H : Type) (enc : TypeId × Value → H) :
    ReturnsInHanded {} Try.checked os 4 .any (Rows.linkConservesSpec.pre6 enc Try.prog Try.f4 Rows.linkConservesRow.domain false) (Rows.linkConservesSpec.post enc Try.prog Try.f4 false true false false) := by
  refine returnsInHanded_of_change (C := Try.checked) own started (by kernel_rfl) Try.func4
    (ChangeSpec.witness6 (enc := enc) (C := Try.checked) false ⟨#[], #[.agg #[.slice none 0 0, .slice none 0 0], .slice none 0 0, .agg #[.int .i64 0, .int .i64 0, .string ByteArray.empty]], []⟩ 8 (by kernel_rfl) (by kernel_rfl) (by kernel_rfl) (by kernel_rfl)) ?_
  intro W base args ds gs before hval0 hW hcnd _
  have hval : ∀ (j : Nat) t v, Try.f4.params[j]? = some t → args[j]? = some v → Value.okWide Try.prog W .any base t v := hval0
  have hW' := hW
  obtain ⟨p, q, hA0, hV, rfl, hfz, hnd⟩ := hW
  have hA : DataW.TrodAll enc Try.prog W 0 (fun _ => true) true Try.f4.params.toList args.toList ds p := hA0
  rw [Try.params4] at hA hval
  obtain ⟨v0, vs0, d0, ds0, p0, q0, hargs, rfl, rfl, h0, r0⟩ := trodAll_cons hA
  obtain ⟨v1, vs1, d1, ds1, p1, q1, rfl, rfl, rfl, h1, r1⟩ := trodAll_cons r0
  obtain ⟨v2, vs2, d2, ds2, p2, q2, rfl, rfl, rfl, h2, r2⟩ := trodAll_cons r1
  obtain ⟨rfl, rfl, rfl⟩ := trodAll_nil r2
  obtain rfl : args = #[v0, v1, v2] := by cases args; simp_all
  obtain ⟨rfl, rfl⟩ := trodVars_none hV
  clear hA0 hval0
  obtain ⟨x0, y0, s0, t0, n0, rfl, rfl, rfl, e0, f0⟩ := open_agg2 Try.underlying25 (by kernel_rfl) cells_Air (hval 0 25 v0 rfl rfl) h0
  obtain ⟨u0, l0, k0, z0⟩ := open_Msgs e0
  obtain ⟨u0b, m0, k0b, z0b⟩ := open_Prs f0
  simp only [List.cons.injEq, and_true] at k0 k0b
  subst k0 k0b
  obtain ⟨A0, c0, k0, _⟩ := SliceOf.shape z0
  obtain ⟨B0, d0x, k0b, _⟩ := SliceOf.shape z0b
  subst k0 k0b
  obtain ⟨_, _, _, rfl⟩ := okWide_slice Try.underlying28 (hval 1 28 v1 rfl rfl)
  obtain ⟨n1, e1⟩ := h1
  obtain ⟨u1, l1, e1, z1⟩ := open_Evs e1
  simp [Value.cells] at e1
  subst e1
  obtain ⟨A1, c1, e1, _⟩ := SliceOf.shape z1
  cases e1
  obtain ⟨x2, y2, y2b, s2, t2, t2b, n2, rfl, rfl, rfl, e2, f2, g2⟩ := open_agg3 Try.underlying27 (by kernel_rfl) cells_Msg (hval 2 27 v2 rfl rfl) h2
  obtain ⟨i2, k2, _, w2⟩ := DataW.trod_int Try.underlying3 e2
  obtain ⟨i2b, k2b, _, w2b⟩ := DataW.trod_int Try.underlying3 f2
  obtain ⟨i2c, k2c, _, w2c⟩ := DataW.trod_string Try.underlying9 g2
  simp only [List.cons.injEq, and_true] at k2 k2b k2c
  subst k2 k2b k2c
  refine (conserves_v (a := ⟨l0, m0⟩) z0 z0b z1 (m := ⟨i2, i2b, i2c.data.toList⟩) ⟨wf_I64 w2, wf_I64 w2b, by simpa using w2c⟩).mono ?_
  rintro e W' ⟨rfl, hb⟩
  exact ⟨_, rfl, law_post laidOut (by rw [Try.params4]; intro t ht; revert t; decide +kernel) rfl rfl Try.underlying4 hW' rfl (only_below hb)⟩

theorem over : Rows.linkConservesRow.holds Try.pinned (OpenSpec.ofChange Rows.linkConservesSpec) :=
  OpenClaim.holds_of_wide 4 Try.f4 rfl rfl rfl rfl rfl rfl rfl ⟨rfl, rfl, rfl, rfl, rfl⟩ rfl rfl rfl rfl rfl (by kernel_rfl) Try.func4 (by kernel_rfl)
    (of_decide_eq_true (by kernel_rfl)) (by unfold Func.isWrapper; first | (rw [if_pos (by decide +kernel)]; kernel_rfl) | (rw [if_neg (by decide +kernel)]; exact ⟨rfl, rfl⟩))
    (fun os started H enc _ => lifted os started H enc)
end linkConserves

theorem linkConserves_holds : Rows.LinkConservesSaid := linkConserves.over
end Go.Proofs.Ytocbfobakmieoaa
