/-
  The seal: what is decoded has the string as its encoding. No condition.
-/
import Derived.Test.YtgmnoianhonihaaDoorSW6
import Derived.Test.YtgmnoianhonihaaDoorWir5
namespace Go.Proofs.YtgmnoianhonihaaDoor
set_option linter.unusedVariables false
set_option linter.unusedSimpArgs false
set_option linter.unusedSectionVars false
open Go.RowKit

theorem rd_bad {s : Wr.Rd} (hf : Wr.Fine s) (h : s.b = true) : s = ⟨[], true⟩ := by
  have := hf h
  cases s
  simp only at h this
  rw [h, this]
theorem num_bad : (Wr.num ⟨[], true⟩).2.b = true := by decide +kernel
theorem nums_bad : (Wr.nums ⟨[], true⟩).2.b = true := by decide +kernel
theorem text_bad : (Wr.text ⟨[], true⟩).2.b = true := by decide +kernel
theorem flat_pairs : ∀ (l : List Int), (pairs l).2 = [] → flat2 (pairs l).1 = l
  | [], _ => rfl
  | [a], h => by simp [pairs] at h
  | a :: b :: l, h => by
    have e : pairs (a :: b :: l) = (⟨a, b⟩ :: (pairs l).1, (pairs l).2) := by rw [pairs]
    rw [e] at h ⊢
    show a :: b :: flat2 (pairs l).1 = _
    rw [flat_pairs l h]
theorem dec_right {t : Str} (h : decOk t = true) : right (decN t) = true := by
  unfold decOk at h
  simp only [Bool.not_eq_true', Bool.or_eq_false_iff, Bool.not_eq_false'] at h
  exact h.2
theorem enc_dec {t : Str} (h : decOk t = true) : encN (decN t) = t := by
  unfold decOk at h
  simp only [Bool.not_eq_true', Bool.or_eq_false_iff, Bool.not_eq_false', decide_eq_false_iff_not] at h
  obtain ⟨⟨h1, h2⟩, _⟩ := h
  unfold Wr.done at h1
  simp only [Bool.and_eq_true, Bool.not_eq_true', decide_eq_true_eq] at h1
  obtain ⟨b5, r5⟩ := h1
  have b4 : (d4 t).2.b = false := by
    rcases tf (d4 t).2.b with h | h
    · exact h
    · have e : d5 t = Wr.text ⟨[], true⟩ := congrArg Wr.text (rd_bad (dfine_4 t) h)
      rw [e, text_bad] at b5; cases b5
  have b3 : (d3 t).2.b = false := by
    rcases tf (d3 t).2.b with h | h
    · exact h
    · have e : d4 t = Wr.nums ⟨[], true⟩ := congrArg Wr.nums (rd_bad (dfine_3 t) h)
      rw [e, nums_bad] at b4; cases b4
  have b2 : (d2 t).2.b = false := by
    rcases tf (d2 t).2.b with h | h
    · exact h
    · have e : d3 t = Wr.num ⟨[], true⟩ := congrArg Wr.num (rd_bad (dfine_2 t) h)
      rw [e, num_bad] at b3; cases b3
  have b1 : (d1 t).2.b = false := by
    rcases tf (d1 t).2.b with h | h
    · exact h
    · have e : d2 t = Wr.num ⟨[], true⟩ := congrArg Wr.num (rd_bad (dfine_1 t) h)
      rw [e, num_bad] at b2; cases b2
  have e1 : t = Wr.numE (d1 t).1 ++ (d1 t).2.r := Wr.num_was ⟨t, false⟩ b1
  have e2 : (d1 t).2.r = Wr.numE (d2 t).1 ++ (d2 t).2.r := Wr.num_was _ b2
  have e3 : (d2 t).2.r = Wr.numE (d3 t).1 ++ (d3 t).2.r := Wr.num_was _ b3
  have e4 : (d3 t).2.r = Wr.numsE (d4 t).1 ++ (d4 t).2.r := Wr.nums_was _ b4
  have e5 : (d4 t).2.r = Wr.textE (d5 t).1 ++ (d5 t).2.r := Wr.text_was _ b5
  have hp : (pairs (d4 t).1).2 = [] := List.eq_nil_of_length_eq_zero (by omega)
  have hf : flat2 (decN t).l = (d4 t).1 := flat_pairs _ hp
  unfold encN
  rw [hf]
  show Wr.numE (d1 t).1 ++ Wr.numE (d2 t).1 ++ Wr.numE (d3 t).1 ++ Wr.numsE (d4 t).1 ++ Wr.textE (d5 t).1 = t
  conv => rhs; rw [e1, e2, e3, e4, e5, r5]
  simp [List.append_assoc]
end Go.Proofs.YtgmnoianhonihaaDoor
