/-
  slices.Clone at the element types of this translation. Condition: at most 100,000,000 elements.
-/
import Derived.Test.YtdegmpigkgkafaaGreatDoorMem
import Derived.Test.YtdegmpigkgkafaaGreatDoorProg
import Derived.KernelRfl
import Derived.WalkSpells
namespace Go.Proofs.YtdegmpigkgkafaaGreatDoor
set_option linter.unusedVariables false
set_option linter.unusedSimpArgs false
set_option linter.unusedSectionVars false
set_option maxRecDepth 20000
open Go.RowKit
theorem info_Sec : (Tryz.prog.info? 84).map (fun i => (i.zero, i.size, i.bytes)) = some (some (.agg #[.int .i64 0, .int .i64 0]), 2, 16) := by kernel_rfl
theorem info_int : (Tryz.prog.info? 3).map (fun i => (i.zero, i.size, i.bytes)) = some (some (.int .i64 0), 1, 8) := by kernel_rfl
set_option maxHeartbeats 400000 in
theorem cloneint_c (w : World) (S : Nat → Prop) (A : Option Addr) (n cap : Nat) (xs : List Value) (hr : Reads w S 1 A n xs) (h1 : ∀ u ∈ xs, u.oneCell' = true) (hn : n ≤ 100000000) :
 Calls Tryz.prog 34 #[.slice A n cap] w fun e w' => ∃ A' c', e = .returned (.slice A' n c') ∧ Only NoF w w' ∧ w'.ownsRow w.heap.size 3 1 (.slice A' n c') n xs := by
 cases A with
 | none =>
  have he := fun W : World => Lib.run_eql_slice_nil (P := Tryz.prog) W 37 3 none n cap 0 0 Tryz.underlying37
  have h0 : n = 0 := by
   rcases Nat.eq_zero_or_pos n with h0 | h0
   · exact h0
   · obtain ⟨ad, h, _⟩ := hr.2 h0
     cases h
  subst h0
  obtain rfl : xs = [] := List.eq_nil_of_length_eq_zero (by simpa using hr.1)
  clear hr h1
  go_enter Tryz.func34, Tryz.ntmps34
  go_wp2
  go_ret
  exact ⟨_, _, rfl, Only.refl _ _, World.ownsRow_nil _ _ _ _⟩
 | some ad =>
  have he := fun W : World => Lib.run_eql_slice_nil (P := Tryz.prog) W 37 3 (some ad) n cap 0 0 Tryz.underlying37
  obtain ⟨i, hi, hz0, hz1, hz2⟩ := info_parts info_int
  have hr' : Reads (w.alloc (.cells #[] 3)) S 1 (some ad) n xs := hr.keep (by simp) fun p _ hp => World.cell?_alloc_lt w _ p hp
  have hown := World.ownsRow_made (base := w.heap.size) (e := 3) (size := 1) w #[] 0 (Nat.le_refl _) (Nat.zero_le _) rfl
  go_enter Tryz.func34, Tryz.ntmps34
  go_wp2_with (at_builtin; refine wpList_append_any _ rfl _ _ _ rfl w.heap.size 3 i _ 1 8 Tryz.underlying37 hi hz0 hz1 hz2 rfl (by decide) (.slice (some ⟨w.heap.size, 0, none⟩) 0 0) 0 [] rfl hown S (some ad) n cap xs rfl hr' h1 (by unfold maxLen; omega) (by omega) (by simp) ?_; intro v' w1 hown1 hgrow _)
  go_ret
  simp only [Nat.zero_add, List.nil_append] at hown1
  obtain ⟨A', c', e1, _⟩ := Reads.of_own hown1
  refine ⟨A', c', by rw [← e1]; rfl, ((Only.refl _ _).alloc _).grown hgrow fun k hk => .inr ?_, ?_⟩
  · simp [Value.ownBlock] at hk
    omega
  · rw [← e1]; exact hown1
end Go.Proofs.YtdegmpigkgkafaaGreatDoor
