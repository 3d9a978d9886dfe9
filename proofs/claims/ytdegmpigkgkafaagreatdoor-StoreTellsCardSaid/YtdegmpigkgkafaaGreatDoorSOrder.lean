/-
  SealOrder, walked, from 'small': it returns true. No condition but the listed variables.
-/
import Derived.Test.YtdegmpigkgkafaaGreatDoorSA
namespace Go.Proofs.YtdegmpigkgkafaaGreatDoor
set_option linter.unusedVariables false
set_option linter.unusedSimpArgs false
set_option linter.unusedSectionVars false
open Go.RowKit
/-- what a chain that is valid tells of each note -/
def Chain (l : List NM) : Prop := ∀ (k : Nat) (m : NM), l[k]? = some m → right m = true ∧ m.h = hdH l ∧ m.n = (k : Int) ∧ ∀ p : NM, 0 < k → l[k - 1]? = some p → p.d ≤ m.d
theorem chk_zero {h0 : Int} : ∀ (l : List NM) (i : Nat) (d : Int), chk h0 i d l = 0 → ∀ (k : Nat) (m : NM), l[k]? = some m → right m = true ∧ m.h = h0 ∧ m.n = ((i + k : Nat) : Int) ∧ (k = 0 → d ≤ m.d) ∧ ∀ p : NM, 0 < k → l[k - 1]? = some p → p.d ≤ m.d
 | [], _, _, _, k, m, hm => by simp at hm
 | x :: l, i, d, h, k, m, hm => by
  unfold chk at h
  by_cases h1 : right x = false
  · rw [if_pos h1] at h; cases h
  rw [if_neg h1] at h
  by_cases h2 : x.h ≠ h0
  · rw [if_pos h2] at h; cases h
  rw [if_neg h2] at h
  by_cases h3 : (i : Int) < x.n
  · rw [if_pos h3] at h; cases h
  rw [if_neg h3] at h
  by_cases h4 : x.n < (i : Int)
  · rw [if_pos h4] at h; cases h
  rw [if_neg h4] at h
  by_cases h5 : x.d < d
  · rw [if_pos h5] at h; cases h
  rw [if_neg h5] at h
  cases k with
  | zero =>
   simp at hm
   subst hm
   refine ⟨by simpa using h1, by simpa using h2, by omega, fun _ => by omega, fun p hp => absurd hp (by omega)⟩
  | succ k =>
   rw [List.getElem?_cons_succ] at hm
   obtain ⟨g1, g2, g3, g4, g5⟩ := chk_zero l (i + 1) x.d h k m hm
   refine ⟨g1, g2, by rw [g3]; omega, fun h0 => by omega, fun p _ hp => ?_⟩
   rw [Nat.add_sub_cancel] at hp
   cases k with
   | zero =>
    simp at hp
    subst hp
    exact g4 rfl
   | succ k =>
    rw [List.getElem?_cons_succ] at hp
    exact g5 p (by omega) (by simpa using hp)
theorem check_zero {l : List NM} (h : check l = 0) : Chain l := by
 unfold check at h
 split at h
 · cases h
 · intro k m hm
   obtain ⟨g1, g2, g3, _, g5⟩ := chk_zero l 0 0 h k m hm
   exact ⟨g1, g2, by rw [g3]; omega, g5⟩
end Go.Proofs.YtdegmpigkgkafaaGreatDoor
