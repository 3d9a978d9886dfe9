/-
  Lists and texts of the wire read, and what is written read back. No condition: plain lemmas.
-/
import Derived.Test.YtdcbjedkddgfkaaDoorWW3
namespace Go.Proofs.YtdcbjedkddgfkaaDoor
set_option linter.unusedVariables false
set_option linter.unusedSimpArgs false
set_option linter.unusedSectionVars false
namespace Wr
theorem int_len (s : Rd) : (int s).2.r.length ≤ s.r.length ∧ ((int s).2.b = false → (int s).2.r.length + 1 ≤ s.r.length) := number_len s _ _
theorem int_fine {s : Rd} (h : Fine s) : Fine (int s).2 := number_fine _ _ h
theorem text_cases (s : Rd) : (text s = ([], failed)) ∨ ∃ q : Nat, (number s 58 0).1 = (q : Int) ∧ q ≤ (number s 58 0).2.r.length ∧
 ((close ⟨(number s 58 0).2.r.drop q, (number s 58 0).2.b⟩ 44).b = true ∧ text s = ([], close ⟨(number s 58 0).2.r.drop q, (number s 58 0).2.b⟩ 44) ∨
  (close ⟨(number s 58 0).2.r.drop q, (number s 58 0).2.b⟩ 44).b = false ∧ text s = ((number s 58 0).2.r.take q, close ⟨(number s 58 0).2.r.drop q, (number s 58 0).2.b⟩ 44)) := by
 by_cases h : (((number s 58 0).2.r.length : Nat) : Int) < (number s 58 0).1
 · exact .inl (text_f1 h)
 · have h0 := number_least s 58 0 (Int.le_refl _)
   obtain ⟨q, hq⟩ : ∃ q : Nat, (number s 58 0).1 = (q : Int) := ⟨(number s 58 0).1.toNat, by omega⟩
   refine .inr ⟨q, hq, by omega, ?_⟩
   cases hb : (close ⟨(number s 58 0).2.r.drop q, (number s 58 0).2.b⟩ 44).b with
   | true => exact .inl ⟨rfl, text_f2 h hq hb⟩
   | false => exact .inr ⟨rfl, text_s h hq hb⟩
theorem text_len (s : Rd) : (text s).2.r.length ≤ s.r.length ∧ ((text s).2.b = false → (text s).2.r.length + 1 ≤ s.r.length) := by
 have hn := number_len s 58 0
 rcases text_cases s with h | ⟨q, hq, hl, ⟨hb, h⟩ | ⟨hb, h⟩⟩
 · rw [h]; exact ⟨Nat.zero_le _, fun h => by cases h⟩
 · have hc := close_len ⟨(number s 58 0).2.r.drop q, (number s 58 0).2.b⟩ 44
   rw [h]
   dsimp only
   simp only [List.length_drop] at hc
   exact ⟨by omega, fun h => by rw [hb] at h; cases h⟩
 · have hc := close_len ⟨(number s 58 0).2.r.drop q, (number s 58 0).2.b⟩ 44
   rw [h]
   dsimp only
   simp only [List.length_drop] at hc
   have hk := (close_back hb).1
   have := hn.2 hk
   exact ⟨by omega, fun _ => by omega⟩
theorem text_val_len (s : Rd) : (text s).1.length ≤ s.r.length := by
 have hn := number_len s 58 0
 rcases text_cases s with h | ⟨q, hq, hl, ⟨hb, h⟩ | ⟨hb, h⟩⟩
 · rw [h]; exact Nat.zero_le _
 · rw [h]; exact Nat.zero_le _
 · rw [h]; simp only [List.length_take]; omega
theorem text_fine {s : Rd} (h : Fine s) : Fine (text s).2 := by
 have hn := number_fine 58 0 h
 have hd : ∀ q : Nat, Fine ⟨(number s 58 0).2.r.drop q, (number s 58 0).2.b⟩ := fun q hb => by
  show List.drop q (number s 58 0).2.r = []
  rw [hn hb]; simp
 rcases text_cases s with h | ⟨q, _, _, ⟨_, h⟩ | ⟨_, h⟩⟩
 · rw [h]; intro _; rfl
 · rw [h]; exact close_fine 44 (hd q)
 · rw [h]; exact close_fine 44 (hd q)
theorem end_or {m : Nat} {st : Rd} (h : (decide ((0 : Int) < (m : Int)) && !st.b) = false) : m = 0 ∨ st.b = true := by
 rcases and_f h with h | h
 · have := of_decide_eq_false h; exact .inl (by omega)
 · exact .inr (nt_f h)
section
variable {α : Type} (one : Rd → α × Rd)
theorem items_bad {n : Nat} {s : Rd} (h : s.b = true) : items one n s = ([], s) := by
 cases n with
 | zero => rfl
 | succ n => simp [items, h]
theorem items_end {n : Nat} {s : Rd} (h : n = 0 ∨ s.b = true) : items one n s = ([], s) := by
 rcases h with rfl | h
 · rfl
 · exact items_bad one h
theorem items_step {n : Nat} {s : Rd} {acc : List α} (hn : 0 < n) (hb : s.b = false) : (acc ++ (items one n s).1, (items one n s).2) = (acc ++ [(one s).1] ++ (items one (n - 1) (one s).2).1, (items one (n - 1) (one s).2).2) := by
 obtain ⟨k, rfl⟩ : ∃ k, n = k + 1 := ⟨n - 1, by omega⟩
 simp [items, hb]
end
section
variable {α : Type} {one : Rd → α × Rd} {s st : Rd} {acc : List α} {m0 : Nat}
theorem list_bad (hm : (number s 91 0).1 = (m0 : Int)) (hit : items one m0 (number s 91 0).2 = (acc, st)) (hb : (close st 93).b = true) : list one s = ([], close st 93) := by
 have e : (number s 91 0).1.toNat = m0 := by omega
 unfold list
 rw [e, hit, if_pos hb]
theorem list_ok (hm : (number s 91 0).1 = (m0 : Int)) (hit : items one m0 (number s 91 0).2 = (acc, st)) (hb : (close st 93).b = false) : list one s = (acc, close st 93) := by
 have e : (number s 91 0).1.toNat = m0 := by omega
 unfold list
 rw [e, hit, if_neg (by rw [hb]; decide)]
end
end Wr
end Go.Proofs.YtdcbjedkddgfkaaDoor
