/-
  GossipHonest: for every input the law returns true and each argument reads behind the call as it read before, the listed variables as the program lays them. No condition beyond that.
-/
import Derived.Test.YtdcbjedkddgfkaaDoorRows
import Derived.Test.YtdcbjedkddgfkaaDoorCards
import Derived.Test.YtdcbjedkddgfkaaDoorTie
import Derived.WalkKit
import Derived.ProofKit
import Derived.OpenShut
import Derived.SevenTiedAt
import Derived.ChangeSame
import Derived.Test.YtdcbjedkddgfkaaDoorGLaid
import Derived.Test.YtdcbjedkddgfkaaDoorWOpen
import Derived.Test.YtdcbjedkddgfkaaDoorWU
import Derived.Test.YtdcbjedkddgfkaaDoorSA
import Derived.Test.YtdcbjedkddgfkaaDoorGOs
import Derived.Test.YtdcbjedkddgfkaaDoorGo22
namespace Go.Proofs.YtdcbjedkddgfkaaDoor
set_option linter.unusedVariables false
set_option linter.unusedSimpArgs false
set_option linter.unusedSectionVars false
namespace gossipHonest
open Go.ChangeMaps (open_string shut_string)
open Go.ChangeShapes Go.WideShapes Go.ChangeAt Go.RowKit Go.Deep Go.Joins
set_option linter.unusedVariables false
theorem own : ownKnob Tryd.prog.godebug = none := by kernel_rfl
set_option maxRecDepth 100000 in
theorem lifted (os : Os) (started : os.Started) (H : Type) (enc : TypeId × Value → H) :
 ReturnsInHanded {} Tryd.checked os 7 .any (fun w args => (Rows.gossipHonestSpec.pre enc Tryd.prog Tryd.f7 Rows.gossipHonestRow.domain false w args ∧ laidMet Tryd.prog Rows.gossipHonestRow.laid w) ∧ sizedMet enc Tryd.prog Tryd.f7 (OpenSpec.ofChange Rows.gossipHonestSpec) false w args) (Rows.gossipHonestSpec.post enc Tryd.prog Tryd.f7 false true false false) := by
 refine returnsInHanded_of_change_and (C := Tryd.checked) (X := fun w _ => laidMet Tryd.prog Rows.gossipHonestRow.laid w) (fun _ _ _ hh h => h.of_heap hh) own started (by kernel_rfl) Tryd.func7
  (ChangeSpec.witness_at (enc := enc) (C := Tryd.checked) (os := os) (X := fun w _ => laidMet Tryd.prog Rows.gossipHonestRow.laid w) false (laidWorld os) #[.slice none 0 0, .slice none 0 0] 8 rfl (by kernel_rfl) (by kernel_rfl) (by kernel_rfl) (by kernel_rfl) (by kernel_rfl) (laidWorld_met os _)) ?_
 intro W base args ds gs before hval0 hW hcnd hsz0 hL _
 have hval : ∀ (j : Nat) t v, Tryd.f7.params[j]? = some t → args[j]? = some v → Value.okWide Tryd.prog W .any base t v := hval0
 have hW' := hW
 obtain ⟨p, q, hA0, hV, rfl, hfz, hnd⟩ := hW
 have hA : DataW.TrodAll enc Tryd.prog W 0 (fun _ => true) true Tryd.f7.params.toList args.toList ds p := hA0
 rw [Tryd.params7] at hA hval
 obtain ⟨v0, vs0, d0, ds0, p0, q0, hargs, rfl, rfl, h0, r0⟩ := trodAll_cons hA
 obtain ⟨v1, vs1, d1, ds1, p1, q1, rfl, rfl, rfl, h1, r1⟩ := trodAll_cons r0
 obtain ⟨rfl, rfl, rfl⟩ := trodAll_nil r1
 obtain rfl : args = #[v0, v1] := by cases args; simp_all
 obtain ⟨rfl, rfl⟩ := trodVars_none hV
 clear hA0 hval0 hsz0
 obtain ⟨_, _, _, rfl⟩ := okWide_slice Tryd.underlying53 (hval 0 53 v0 rfl rfl)
 obtain ⟨n0, e0⟩ := h0
 obtain ⟨u0, l0, e0, z0⟩ := open_Steps e0
 simp [Value.cells] at e0
 subst e0
 obtain ⟨A0, c0, e0, _⟩ := SliceOf.shape z0
 cases e0
 obtain ⟨_, _, _, rfl⟩ := okWide_slice Tryd.underlying23 (hval 1 23 v1 rfl rfl)
 obtain ⟨n1, e1⟩ := h1
 obtain ⟨u1, l1, e1, z1⟩ := open_U8s e1
 simp [Value.cells] at e1
 subst e1
 obtain ⟨A1, c1, e1, _⟩ := SliceOf.shape z1
 cases e1
 refine (honest39_v (Gr.laid hL) z0 z1).mono ?_
 rintro e W' ⟨rfl, hb⟩
 exact ⟨_, rfl, law_post laidOut (by rw [Tryd.params7]; intro t ht; revert t; decide +kernel) rfl rfl Tryd.underlying4 hW' rfl (only_below hb)⟩
theorem over : Rows.gossipHonestRow.holds Tryd.pinned (OpenSpec.ofChange Rows.gossipHonestSpec) :=
 OpenClaim.holds_of_wide 7 Tryd.f7 rfl rfl rfl rfl rfl rfl rfl ⟨rfl, rfl, rfl, rfl, rfl⟩ rfl rfl rfl rfl rfl (by kernel_rfl) Tryd.func7 (by kernel_rfl)
  (of_decide_eq_true (by kernel_rfl)) (by unfold Func.isWrapper; first | (rw [if_pos (by decide +kernel)]; kernel_rfl) | (rw [if_neg (by decide +kernel)]; exact ⟨rfl, rfl⟩))
  (fun os started H enc _ => lifted os started H enc)
theorem card : Rows.GossipHonestCardSaid :=
 Claim7.holds_tied_plain_at .later [] [.data, .data, .data] true Rows.gossipHonestCard.stood.harness false
  over (fun _ h => by cases h) (by kernel_rfl) (fun _ h => by cases h) gossipHonest_row_tie rfl ⟨rfl, rfl⟩ (by kernel_rfl) rfl
  (fun f fn hf hfn => by
   obtain rfl : f = 7 := Option.some.inj ((show Tryd.prog.funcNamed Rows.gossipHonestRow.func = some 7 by kernel_rfl).symm.trans hf) |>.symm
   obtain rfl : fn = Tryd.f7 := (Option.some.inj (Tryd.func7.symm.trans hfn)).symm
   exact ⟨by kernel_rfl, fun j t ht => by
    rw [Tryd.params7] at ht
    have hm : t ∈ [53, 23] := by
     have := Array.mem_of_getElem? ht
     simpa using this
    simp only [List.mem_cons, List.not_mem_nil, or_false] at hm
    rcases hm with rfl | rfl
    · exact (show Tryd.prog.wantsStandIn 53 = false by kernel_rfl)
    · exact (show Tryd.prog.wantsStandIn 23 = false by kernel_rfl)⟩)
  (by kernel_rfl)
end gossipHonest
theorem gossipHonest_holds : Rows.GossipHonestCardSaid := gossipHonest.card
end Go.Proofs.YtdcbjedkddgfkaaDoor
