/-
  Lists and texts of the wire read, and what is written read back. No condition: plain lemmas.
-/
import Derived.Test.YtdcbjedkddgfkaaDoorWW3
namespace Go.Proofs.YtdcbjedkddgfkaaDoor
set_option linter.unusedVariables false
set_option linter.unusedSimpArgs false
set_option linter.unusedSectionVars false
namespace Wr
theorem text_cases (s : Rd) : (text s = ([], failed)) ∨ ∃ q : Nat, (number s 58 0).1 = (q : Int) ∧ q ≤ (number s 58 0).2.r.length ∧
 ((close ⟨(number s 58 0).2.r.drop q, (number s 58 0).2.b⟩ 44).b = true ∧ text s = ([], close ⟨(number s 58 0).2.r.drop q, (number s 58 0).2.b⟩ 44) ∨
  (close ⟨(number s 58 0).2.r.drop q, (number s 58 0).2.b⟩ 44).b = false ∧ text s = ((number s 58 0).2.r.take q, close ⟨(number s 58 0).2.r.drop q, (number s 58 0).2.b⟩ 44)) := by
 by_cases h : (((number s 58 0).2.r.length : Nat) : Int) < (number s 58 0).1
 · exact .inl (text_f1 h)
 · have h0 := number_least s 58 0 (Int.le_refl _)
   obtain ⟨q, hq⟩ : ∃ q : Nat, (number s 58 0).1 = (q : Int) := ⟨(number s 58 0).1.toNat, by omega⟩
   refine .inr ⟨q, hq, by omega, ?_⟩
   cases hb : (close ⟨(number s 58 0).2.r.drop q, (number s 58 0).2.b⟩ 44).b with
   | true => exact .inl ⟨rfl, text_f2 h hq hb⟩
   | false => exact .inr ⟨rfl, text_s h hq hb⟩
theorem text_val_len (s : Rd) : (text s).1.length ≤ s.r.length := by
 have hn := number_len s 58 0
 rcases text_cases s with h | ⟨q, hq, hl, ⟨hb, h⟩ | ⟨hb, h⟩⟩
 · rw [h]; exact Nat.zero_le _
 · rw [h]; exact Nat.zero_le _
 · rw [h]; simp only [List.length_take]; omega
section
variable {α : Type} (one : Rd → α × Rd)
end
section
variable {α : Type} {one : Rd → α × Rd} {s st : Rd} {acc : List α} {m0 : Nat}
theorem list_ok (hm : (number s 91 0).1 = (m0 : Int)) (hit : items one m0 (number s 91 0).2 = (acc, st)) (hb : (close st 93).b = false) : list one s = (acc, close st 93) := by
 have e : (number s 91 0).1.toNat = m0 := by omega
 unfold list
 rw [e, hit, if_neg (by rw [hb]; decide)]
end
end Wr
end Go.Proofs.YtdcbjedkddgfkaaDoor
