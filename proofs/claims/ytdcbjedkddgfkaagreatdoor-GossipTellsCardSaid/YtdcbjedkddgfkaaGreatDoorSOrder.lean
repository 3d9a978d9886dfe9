/-
  SealOrder, walked, from 'small': it returns true. No condition but the listed variables.
-/
import Derived.Test.YtdcbjedkddgfkaaGreatDoorSA
namespace Go.Proofs.YtdcbjedkddgfkaaGreatDoor
set_option linter.unusedVariables false
set_option linter.unusedSimpArgs false
set_option linter.unusedSectionVars false
open Go.RowKit
/-- what a chain that is valid tells of each note -/
def Chain (l : List NM) : Prop := ∀ (k : Nat) (m : NM), l[k]? = some m → right m = true ∧ m.h = hdH l ∧ m.n = (k : Int) ∧ ∀ p : NM, 0 < k → l[k - 1]? = some p → p.d ≤ m.d
theorem chk_zero {h0 : Int} : ∀ (l : List NM) (i : Nat) (d : Int), chk h0 i d l = 0 → ∀ (k : Nat) (m : NM), l[k]? = some m → right m = true ∧ m.h = h0 ∧ m.n = ((i + k : Nat) : Int) ∧ (k = 0 → d ≤ m.d) ∧ ∀ p : NM, 0 < k → l[k - 1]? = some p → p.d ≤ m.d
 | [], _, _, _, k, m, hm => by simp at hm
 | x :: l, i, d, h, k, m, hm => by
  unfold chk at h
  by_cases h1 : right x = false
  · rw [if_pos h1] at h; cases h
  rw [if_neg h1] at h
  by_cases h2 : x.h ≠ h0
  · rw [if_pos h2] at h; cases h
  rw [if_neg h2] at h
  by_cases h3 : (i : Int) < x.n
  · rw [if_pos h3] at h; cases h
  rw [if_neg h3] at h
  by_cases h4 : x.n < (i : Int)
  · rw [if_pos h4] at h; cases h
  rw [if_neg h4] at h
  by_cases h5 : x.d < d
  · rw [if_pos h5] at h; cases h
  rw [if_neg h5] at h
  cases k with
  | zero =>
   simp at hm
   subst hm
   refine ⟨by simpa using h1, by simpa using h2, by omega, fun _ => by omega, fun p hp => absurd hp (by omega)⟩
  | succ k =>
   rw [List.getElem?_cons_succ] at hm
   obtain ⟨g1, g2, g3, g4, g5⟩ := chk_zero l (i + 1) x.d h k m hm
   refine ⟨g1, g2, by rw [g3]; omega, fun h0 => by omega, fun p _ hp => ?_⟩
   rw [Nat.add_sub_cancel] at hp
   cases k with
   | zero =>
    simp at hp
    subst hp
    exact g4 rfl
   | succ k =>
    rw [List.getElem?_cons_succ] at hp
    exact g5 p (by omega) (by simpa using hp)
theorem check_zero {l : List NM} (h : check l = 0) : Chain l := by
 unfold check at h
 split at h
 · cases h
 · intro k m hm
   obtain ⟨g1, g2, g3, _, g5⟩ := chk_zero l 0 0 h k m hm
   exact ⟨g1, g2, by rw [g3]; omega, g5⟩
theorem refs_get {h n : Int} : ∀ (p : RM) (l : List RM), refsOk h n p l = true → ∀ (j : Nat) (r : RM), l[j]? = some r → kn r.h r.n = true ∧ (decide (r.h = h) && decide (n ≤ r.n)) = false ∧ ∀ r', 0 < j → l[j - 1]? = some r' → refGt r.h r.n r'.h r'.n = true
 | p, [], _, j, r, hr => by simp at hr
 | p, x :: l, hx, j, r, hr => by
  simp only [refsOk, Bool.and_eq_true] at hx
  obtain ⟨h1, h2⟩ := hx
  have key : kn x.h x.n = true ∧ refGt x.h x.n p.h p.n = true ∧ (decide (x.h = h) && decide (n ≤ x.n)) = false := by
   unfold refOk at h1
   simp only [Bool.not_eq_true', Bool.or_eq_false_iff, Bool.not_eq_false'] at h1
   exact ⟨h1.1.1, h1.1.2, h1.2⟩
  cases j with
  | zero =>
   simp at hr
   subst hr
   exact ⟨key.1, key.2.2, fun _ h0 => absurd h0 (by omega)⟩
  | succ j =>
   rw [List.getElem?_cons_succ] at hr
   obtain ⟨g1, g2, g3⟩ := refs_get x l h2 j r hr
   refine ⟨g1, g2, fun r' _ hr' => ?_⟩
   rw [Nat.add_sub_cancel] at hr'
   cases j with
   | zero =>
    simp at hr'
    subst hr'
    cases l with
    | nil => simp at hr
    | cons y l =>
     simp at hr
     subst hr
     simp only [refsOk, Bool.and_eq_true] at h2
     have h3 := h2.1
     unfold refOk at h3
     simp only [Bool.not_eq_true', Bool.or_eq_false_iff, Bool.not_eq_false'] at h3
     exact h3.1.2
   | succ j =>
    rw [List.getElem?_cons_succ] at hr'
    exact g3 r' (by omega) (by simpa using hr')
theorem right_refs {m : NM} (h : right m = true) : refsOk m.h m.n ⟨-1, 0⟩ m.l = true := by
 unfold right at h
 simp only [Bool.and_eq_true] at h
 exact h.2
end Go.Proofs.YtdcbjedkddgfkaaGreatDoor
