/-
  LinkTells: for every input the law returns true and each argument reads behind the call as it read before. No condition.
-/
import Derived.Test.YtocbfobakmieoaaRows
import Derived.WalkKit
import Derived.ProofKit
import Derived.OpenShut
import Derived.Test.YtocbfobakmieoaaLkOpen
import Derived.Test.YtocbfobakmieoaaLkT2
namespace Go.Proofs.Ytocbfobakmieoaa
set_option linter.unusedVariables false
set_option linter.unusedSimpArgs false
set_option linter.unusedSectionVars false
namespace linkTells
open Go.ChangeMaps (open_string shut_string)
open Go.ChangeShapes Go.WideShapes Go.ChangeAt Go.RowKit Go.Deep Go.Joins
set_option linter.unusedVariables false

theorem own : ownKnob Try.prog.godebug = none := by kernel_rfl

set_option maxRecDepth 100000 in
theorem lifted (os : Os) (started : os.Started) (H : Type) (enc : TypeId × Value → H) :
    ReturnsInHanded {} Try.checked os 3 .any (Rows.linkTellsSpec.pre6 enc Try.prog Try.f3 Rows.linkTellsRow.domain false) (Rows.linkTellsSpec.post enc Try.prog Try.f3 false true false false) := by
  refine returnsInHanded_of_change (C := Try.checked) own started (by kernel_rfl) Try.func3
    (ChangeSpec.witness6 (enc := enc) (C := Try.checked) false ⟨#[], #[.agg #[.slice none 0 0, .slice none 0 0], .agg #[.int .i64 0, .int .i64 0, .string ByteArray.empty], .int .i64 0, .int .i64 0, .slice none 0 0], []⟩ 8 (by kernel_rfl) (by kernel_rfl) (by kernel_rfl) (by kernel_rfl)) ?_
  intro W base args ds gs before hval0 hW hcnd _
  have hval : ∀ (j : Nat) t v, Try.f3.params[j]? = some t → args[j]? = some v → Value.okWide Try.prog W .any base t v := hval0
  have hW' := hW
  obtain ⟨p, q, hA0, hV, rfl, hfz, hnd⟩ := hW
  have hA : DataW.TrodAll enc Try.prog W 0 (fun _ => true) true Try.f3.params.toList args.toList ds p := hA0
  rw [Try.params3] at hA hval
  obtain ⟨v0, vs0, d0, ds0, p0, q0, hargs, rfl, rfl, h0, r0⟩ := trodAll_cons hA
  obtain ⟨v1, vs1, d1, ds1, p1, q1, rfl, rfl, rfl, h1, r1⟩ := trodAll_cons r0
  obtain ⟨v2, vs2, d2, ds2, p2, q2, rfl, rfl, rfl, h2, r2⟩ := trodAll_cons r1
  obtain ⟨v3, vs3, d3, ds3, p3, q3, rfl, rfl, rfl, h3, r3⟩ := trodAll_cons r2
  obtain ⟨v4, vs4, d4, ds4, p4, q4, rfl, rfl, rfl, h4, r4⟩ := trodAll_cons r3
  obtain ⟨rfl, rfl, rfl⟩ := trodAll_nil r4
  obtain rfl : args = #[v0, v1, v2, v3, v4] := by cases args; simp_all
  obtain ⟨rfl, rfl⟩ := trodVars_none hV
  clear hA0 hval0
  obtain ⟨x0, y0, s0, t0, n0, rfl, rfl, rfl, e0, f0⟩ := open_agg2 Try.underlying25 (by kernel_rfl) cells_Air (hval 0 25 v0 rfl rfl) h0
  obtain ⟨u0, l0, k0, z0⟩ := open_Msgs e0
  obtain ⟨u0b, m0, k0b, z0b⟩ := open_Prs f0
  simp only [List.cons.injEq, and_true] at k0 k0b
  subst k0 k0b
  obtain ⟨A0, c0, k0, _⟩ := SliceOf.shape z0
  obtain ⟨B0, d0x, k0b, _⟩ := SliceOf.shape z0b
  subst k0 k0b
  obtain ⟨x1, y1, y1b, s1, t1, t1b, n1, rfl, rfl, rfl, e1, f1, g1⟩ := open_agg3 Try.underlying27 (by kernel_rfl) cells_Msg (hval 1 27 v1 rfl rfl) h1
  obtain ⟨i1, k1, _, w1⟩ := DataW.trod_int Try.underlying3 e1
  obtain ⟨i1b, k1b, _, w1b⟩ := DataW.trod_int Try.underlying3 f1
  obtain ⟨i1c, k1c, _, w1c⟩ := DataW.trod_string Try.underlying9 g1
  simp only [List.cons.injEq, and_true] at k1 k1b k1c
  subst k1 k1b k1c
  obtain ⟨a2, rfl, rfl, rfl, w2⟩ := open_int Try.underlying3 (hval 2 3 v2 rfl rfl) h2
  have w2 := wf_I64 w2
  obtain ⟨a3, rfl, rfl, rfl, w3⟩ := open_int Try.underlying3 (hval 3 3 v3 rfl rfl) h3
  have w3 := wf_I64 w3
  obtain ⟨_, _, _, rfl⟩ := okWide_slice Try.underlying28 (hval 4 28 v4 rfl rfl)
  obtain ⟨n4, e4⟩ := h4
  obtain ⟨u4, l4, e4, z4⟩ := open_Evs e4
  simp [Value.cells] at e4
  subst e4
  obtain ⟨A4, c4, e4, _⟩ := SliceOf.shape z4
  cases e4
  refine (tells_v (a := ⟨l0, m0⟩) z0 z0b (m := ⟨i1, i1b, i1c.data.toList⟩) ⟨wf_I64 w1, wf_I64 w1b, by simpa using w1c⟩ w2 w3 z4).mono ?_
  rintro e W' ⟨rfl, hb⟩
  exact ⟨_, rfl, law_post laidOut (by rw [Try.params3]; intro t ht; revert t; decide +kernel) rfl rfl Try.underlying4 hW' rfl (only_below hb)⟩

theorem over : Rows.linkTellsRow.holds Try.pinned (OpenSpec.ofChange Rows.linkTellsSpec) :=
  OpenClaim.holds_of_wide 3 Try.f3 rfl rfl rfl rfl rfl rfl rfl ⟨rfl, rfl, rfl, rfl, rfl⟩ rfl rfl rfl rfl rfl (by kernel_rfl) Try.func3 (by kernel_rfl)
    (of_decide_eq_true (by kernel_rfl)) (by unfold Func.isWrapper; first | (rw [if_pos (by decide +kernel)]; kernel_rfl) | (rw [if_neg (by decide +kernel)]; exact ⟨rfl, rfl⟩))
    (fun os started H enc _ => lifted os started H enc)
end linkTells

theorem linkTells_holds : Rows.LinkTellsSaid := linkTells.over
end Go.Proofs.Ytocbfobakmieoaa
