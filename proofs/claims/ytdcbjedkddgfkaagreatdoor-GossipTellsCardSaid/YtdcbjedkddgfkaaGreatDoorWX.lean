/-
  Lists and texts of the wire read, and what is written read back. No condition: plain lemmas.
  What is written is read back, and what is read was written. No condition: plain lemmas.
-/
import Derived.Test.YtdcbjedkddgfkaaGreatDoorWQ
namespace Go.Proofs.YtdcbjedkddgfkaaGreatDoor
set_option linter.unusedVariables false
set_option linter.unusedSimpArgs false
set_option linter.unusedSectionVars false
section
namespace Wr
theorem text_cases (s : Rd) : (text s = ([], failed)) ∨ ∃ q : Nat, (number s 58 0).1 = (q : Int) ∧ q ≤ (number s 58 0).2.r.length ∧
 ((close ⟨(number s 58 0).2.r.drop q, (number s 58 0).2.b⟩ 44).b = true ∧ text s = ([], close ⟨(number s 58 0).2.r.drop q, (number s 58 0).2.b⟩ 44) ∨
  (close ⟨(number s 58 0).2.r.drop q, (number s 58 0).2.b⟩ 44).b = false ∧ text s = ((number s 58 0).2.r.take q, close ⟨(number s 58 0).2.r.drop q, (number s 58 0).2.b⟩ 44)) := by
 by_cases h : (((number s 58 0).2.r.length : Nat) : Int) < (number s 58 0).1
 · exact .inl (text_f1 h)
 · have h0 := number_least s 58 0 (Int.le_refl _)
   obtain ⟨q, hq⟩ : ∃ q : Nat, (number s 58 0).1 = (q : Int) := ⟨(number s 58 0).1.toNat, by omega⟩
   refine .inr ⟨q, hq, by omega, ?_⟩
   cases hb : (close ⟨(number s 58 0).2.r.drop q, (number s 58 0).2.b⟩ 44).b with
   | true => exact .inl ⟨rfl, text_f2 h hq hb⟩
   | false => exact .inr ⟨rfl, text_s h hq hb⟩
theorem text_val_len (s : Rd) : (text s).1.length ≤ s.r.length := by
 have hn := number_len s 58 0
 rcases text_cases s with h | ⟨q, hq, hl, ⟨hb, h⟩ | ⟨hb, h⟩⟩
 · rw [h]; exact Nat.zero_le _
 · rw [h]; exact Nat.zero_le _
 · rw [h]; simp only [List.length_take]; omega
section
variable {α : Type} (one : Rd → α × Rd)
end
section
variable {α : Type} {one : Rd → α × Rd} {s st : Rd} {acc : List α} {m0 : Nat}
theorem list_ok (hm : (number s 91 0).1 = (m0 : Int)) (hit : items one m0 (number s 91 0).2 = (acc, st)) (hb : (close st 93).b = false) : list one s = (acc, close st 93) := by
 have e : (number s 91 0).1.toNat = m0 := by omega
 unfold list
 rw [e, hit, if_neg (by rw [hb]; decide)]
end
end Wr
end
section
namespace Wr
theorem sep59 : Sep 59 := by unfold Sep; decide
theorem sep58 : Sep 58 := by unfold Sep; decide
theorem sep91 : Sep 91 := by unfold Sep; decide
theorem int_ok {n : Int} (hn : Ok n) (r : Str) (b : Bool) : int ⟨intE n ++ r, b⟩ = (n, ⟨r, b⟩) := by
 have := number_ok (r := r) (b := b) hn sep59 hn.1
 unfold int intE
 rwa [List.append_assoc]
theorem num_ok {n : Int} (hn : Ok n) (h0 : 0 ≤ n) (r : Str) (b : Bool) : num ⟨numE n ++ r, b⟩ = (n, ⟨r, b⟩) := by
 have := number_ok (r := r) (b := b) hn sep59 h0
 unfold num numE intE
 rw [if_neg (by omega)]
 rwa [List.append_assoc]
theorem text_ok {t : Str} (ht : t.length ≤ 9223372036854775807) (r : Str) : text ⟨textE t ++ r, false⟩ = (t, ⟨r, false⟩) := by
 have hn := number_ok (n := ((t.length : Nat) : Int)) (r := t ++ 44 :: r) (b := false) (least := 0) ⟨by omega, by omega⟩ sep58 (by omega)
 have e : textE t ++ r = Lib.itoa ((t.length : Nat) : Int) ++ 58 :: (t ++ 44 :: r) := by simp [textE]
 rw [e]
 have hs := text_s (s := ⟨Lib.itoa ((t.length : Nat) : Int) ++ 58 :: (t ++ 44 :: r), false⟩) (q := t.length) (by rw [hn]; simp; omega) (by rw [hn]) (by rw [hn]; simp [close])
 rw [hs, hn]
 simp [close]
section
variable {α : Type} {one : Rd → α × Rd} {oneE : α → Str}
theorem items_back' : ∀ (l : List α) (r : Str), (∀ x ∈ l, ∀ r, one ⟨oneE x ++ r, false⟩ = (x, ⟨r, false⟩)) → items one l.length ⟨l.flatMap oneE ++ r, false⟩ = (l, ⟨r, false⟩)
 | [], r, _ => rfl
 | x :: l, r, h => by
  have hx := h x (by simp) (l.flatMap oneE ++ r)
  have ih := items_back' l r fun y hy => h y (by simp [hy])
  simp only [List.length_cons, List.flatMap_cons, List.append_assoc, items, Bool.false_eq_true, if_false, hx, ih]
theorem list_ok' {l : List α} (hl : l.length ≤ 9223372036854775807) (h : ∀ x ∈ l, ∀ r, one ⟨oneE x ++ r, false⟩ = (x, ⟨r, false⟩)) (r : Str) : list one ⟨listE oneE l ++ r, false⟩ = (l, ⟨r, false⟩) := by
 have hn := number_ok (n := ((l.length : Nat) : Int)) (r := l.flatMap oneE ++ 93 :: r) (b := false) (least := 0) ⟨by omega, by omega⟩ sep91 (by omega)
 have e : listE oneE l ++ r = Lib.itoa ((l.length : Nat) : Int) ++ 91 :: (l.flatMap oneE ++ 93 :: r) := by simp [listE]
 have hit := items_back' (one := one) l (93 :: r) h
 have hq := list_ok (one := one) (s := ⟨Lib.itoa ((l.length : Nat) : Int) ++ 91 :: (l.flatMap oneE ++ 93 :: r), false⟩) (m0 := l.length) (acc := l) (st := ⟨93 :: r, false⟩) (by rw [hn]) (by rw [hn]; exact hit) (by simp [close])
 rw [e, hq]
 simp [close]
end
/-- the kind of a value -/
def kind (k : Int) : Int := k % 5
end Wr
end
end Go.Proofs.YtdcbjedkddgfkaaGreatDoor
