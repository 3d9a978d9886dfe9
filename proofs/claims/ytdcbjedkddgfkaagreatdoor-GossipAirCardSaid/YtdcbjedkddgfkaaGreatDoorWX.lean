/-
  Lists and texts of the wire read, and what is written read back. No condition: plain lemmas.
  What is written is read back, and what is read was written. No condition: plain lemmas.
-/
import Derived.Test.YtdcbjedkddgfkaaGreatDoorWQ
namespace Go.Proofs.YtdcbjedkddgfkaaGreatDoor
set_option linter.unusedVariables false
set_option linter.unusedSimpArgs false
set_option linter.unusedSectionVars false
section
namespace Wr
theorem int_len (s : Rd) : (int s).2.r.length ≤ s.r.length ∧ ((int s).2.b = false → (int s).2.r.length + 1 ≤ s.r.length) := number_len s _ _
theorem int_fine {s : Rd} (h : Fine s) : Fine (int s).2 := number_fine _ _ h
theorem text_cases (s : Rd) : (text s = ([], failed)) ∨ ∃ q : Nat, (number s 58 0).1 = (q : Int) ∧ q ≤ (number s 58 0).2.r.length ∧
 ((close ⟨(number s 58 0).2.r.drop q, (number s 58 0).2.b⟩ 44).b = true ∧ text s = ([], close ⟨(number s 58 0).2.r.drop q, (number s 58 0).2.b⟩ 44) ∨
  (close ⟨(number s 58 0).2.r.drop q, (number s 58 0).2.b⟩ 44).b = false ∧ text s = ((number s 58 0).2.r.take q, close ⟨(number s 58 0).2.r.drop q, (number s 58 0).2.b⟩ 44)) := by
 by_cases h : (((number s 58 0).2.r.length : Nat) : Int) < (number s 58 0).1
 · exact .inl (text_f1 h)
 · have h0 := number_least s 58 0 (Int.le_refl _)
   obtain ⟨q, hq⟩ : ∃ q : Nat, (number s 58 0).1 = (q : Int) := ⟨(number s 58 0).1.toNat, by omega⟩
   refine .inr ⟨q, hq, by omega, ?_⟩
   cases hb : (close ⟨(number s 58 0).2.r.drop q, (number s 58 0).2.b⟩ 44).b with
   | true => exact .inl ⟨rfl, text_f2 h hq hb⟩
   | false => exact .inr ⟨rfl, text_s h hq hb⟩
theorem text_val_len (s : Rd) : (text s).1.length ≤ s.r.length := by
 have hn := number_len s 58 0
 rcases text_cases s with h | ⟨q, hq, hl, ⟨hb, h⟩ | ⟨hb, h⟩⟩
 · rw [h]; exact Nat.zero_le _
 · rw [h]; exact Nat.zero_le _
 · rw [h]; simp only [List.length_take]; omega
theorem end_or {m : Nat} {st : Rd} (h : (decide ((0 : Int) < (m : Int)) && !st.b) = false) : m = 0 ∨ st.b = true := by
 rcases and_f h with h | h
 · have := of_decide_eq_false h; exact .inl (by omega)
 · exact .inr (nt_f h)
section
variable {α : Type} (one : Rd → α × Rd)
theorem items_bad {n : Nat} {s : Rd} (h : s.b = true) : items one n s = ([], s) := by
 cases n with
 | zero => rfl
 | succ n => simp [items, h]
theorem items_end {n : Nat} {s : Rd} (h : n = 0 ∨ s.b = true) : items one n s = ([], s) := by
 rcases h with rfl | h
 · rfl
 · exact items_bad one h
theorem items_step {n : Nat} {s : Rd} {acc : List α} (hn : 0 < n) (hb : s.b = false) : (acc ++ (items one n s).1, (items one n s).2) = (acc ++ [(one s).1] ++ (items one (n - 1) (one s).2).1, (items one (n - 1) (one s).2).2) := by
 obtain ⟨k, rfl⟩ : ∃ k, n = k + 1 := ⟨n - 1, by omega⟩
 simp [items, hb]
end
section
variable {α : Type} {one : Rd → α × Rd} {s st : Rd} {acc : List α} {m0 : Nat}
theorem list_bad (hm : (number s 91 0).1 = (m0 : Int)) (hit : items one m0 (number s 91 0).2 = (acc, st)) (hb : (close st 93).b = true) : list one s = ([], close st 93) := by
 have e : (number s 91 0).1.toNat = m0 := by omega
 unfold list
 rw [e, hit, if_pos hb]
theorem list_ok (hm : (number s 91 0).1 = (m0 : Int)) (hit : items one m0 (number s 91 0).2 = (acc, st)) (hb : (close st 93).b = false) : list one s = (acc, close st 93) := by
 have e : (number s 91 0).1.toNat = m0 := by omega
 unfold list
 rw [e, hit, if_neg (by rw [hb]; decide)]
end
end Wr
end
section
namespace Wr
theorem sep59 : Sep 59 := by unfold Sep; decide
theorem sep58 : Sep 58 := by unfold Sep; decide
theorem sep91 : Sep 91 := by unfold Sep; decide
theorem int_ok {n : Int} (hn : Ok n) (r : Str) (b : Bool) : int ⟨intE n ++ r, b⟩ = (n, ⟨r, b⟩) := by
 have := number_ok (r := r) (b := b) hn sep59 hn.1
 unfold int intE
 rwa [List.append_assoc]
theorem num_ok {n : Int} (hn : Ok n) (h0 : 0 ≤ n) (r : Str) (b : Bool) : num ⟨numE n ++ r, b⟩ = (n, ⟨r, b⟩) := by
 have := number_ok (r := r) (b := b) hn sep59 h0
 unfold num numE intE
 rw [if_neg (by omega)]
 rwa [List.append_assoc]
theorem text_ok {t : Str} (ht : t.length ≤ 9223372036854775807) (r : Str) : text ⟨textE t ++ r, false⟩ = (t, ⟨r, false⟩) := by
 have hn := number_ok (n := ((t.length : Nat) : Int)) (r := t ++ 44 :: r) (b := false) (least := 0) ⟨by omega, by omega⟩ sep58 (by omega)
 have e : textE t ++ r = Lib.itoa ((t.length : Nat) : Int) ++ 58 :: (t ++ 44 :: r) := by simp [textE]
 rw [e]
 have hs := text_s (s := ⟨Lib.itoa ((t.length : Nat) : Int) ++ 58 :: (t ++ 44 :: r), false⟩) (q := t.length) (by rw [hn]; simp; omega) (by rw [hn]) (by rw [hn]; simp [close])
 rw [hs, hn]
 simp [close]
section
variable {α : Type} {one : Rd → α × Rd} {oneE : α → Str}
theorem items_back' : ∀ (l : List α) (r : Str), (∀ x ∈ l, ∀ r, one ⟨oneE x ++ r, false⟩ = (x, ⟨r, false⟩)) → items one l.length ⟨l.flatMap oneE ++ r, false⟩ = (l, ⟨r, false⟩)
 | [], r, _ => rfl
 | x :: l, r, h => by
  have hx := h x (by simp) (l.flatMap oneE ++ r)
  have ih := items_back' l r fun y hy => h y (by simp [hy])
  simp only [List.length_cons, List.flatMap_cons, List.append_assoc, items, Bool.false_eq_true, if_false, hx, ih]
theorem list_ok' {l : List α} (hl : l.length ≤ 9223372036854775807) (h : ∀ x ∈ l, ∀ r, one ⟨oneE x ++ r, false⟩ = (x, ⟨r, false⟩)) (r : Str) : list one ⟨listE oneE l ++ r, false⟩ = (l, ⟨r, false⟩) := by
 have hn := number_ok (n := ((l.length : Nat) : Int)) (r := l.flatMap oneE ++ 93 :: r) (b := false) (least := 0) ⟨by omega, by omega⟩ sep91 (by omega)
 have e : listE oneE l ++ r = Lib.itoa ((l.length : Nat) : Int) ++ 91 :: (l.flatMap oneE ++ 93 :: r) := by simp [listE]
 have hit := items_back' (one := one) l (93 :: r) h
 have hq := list_ok (one := one) (s := ⟨Lib.itoa ((l.length : Nat) : Int) ++ 91 :: (l.flatMap oneE ++ 93 :: r), false⟩) (m0 := l.length) (acc := l) (st := ⟨93 :: r, false⟩) (by rw [hn]) (by rw [hn]; exact hit) (by simp [close])
 rw [e, hq]
 simp [close]
/-- items that were read -/
theorem items_was (h1 : ∀ s, (one s).2.b = false → s.r = oneE (one s).1 ++ (one s).2.r) : ∀ (n : Nat) (s : Rd), (items one n s).2.b = false → s.b = false ∧ s.r = (items one n s).1.flatMap oneE ++ (items one n s).2.r ∧ (items one n s).1.length = n
 | 0, s, h => ⟨h, by simp [items], rfl⟩
 | n + 1, s, h => by
  by_cases hb : s.b = true
  · rw [items_bad one hb] at h; rw [hb] at h; cases h
  · have e : items one (n + 1) s = ((one s).1 :: (items one n (one s).2).1, (items one n (one s).2).2) := by simp [items, hb]
    rw [e] at h ⊢
    obtain ⟨g1, g2, g3⟩ := items_was h1 n (one s).2 h
    refine ⟨by simpa using hb, ?_, by simp [g3]⟩
    rw [h1 s g1]
    simp only [List.flatMap_cons, List.append_assoc]
    rw [← g2]
theorem list_was (h1 : ∀ s, (one s).2.b = false → s.r = oneE (one s).1 ++ (one s).2.r) (s : Rd) (h : (list one s).2.b = false) : s.b = false ∧ s.r = listE oneE (list one s).1 ++ (list one s).2.r := by
 unfold list at h ⊢
 by_cases hc : (close (items one (number s 91 0).1.toNat (number s 91 0).2).2 93).b = true
 · rw [if_pos hc] at h; dsimp only at h; rw [hc] at h; cases h
 · rw [if_neg hc] at h ⊢
   dsimp only at h ⊢
   obtain ⟨c1, c2⟩ := close_back h
   obtain ⟨i1, i2, i3⟩ := items_was h1 _ _ c1
   obtain ⟨n1, n2, n3, n4⟩ := number_back i1
   refine ⟨n3, ?_⟩
   have hz : (((items one (number s 91 0).1.toNat (number s 91 0).2).1.length : Nat) : Int) = (number s 91 0).1 := by rw [i3]; omega
   unfold listE
   rw [hz, n4, i2, c2]
   simp
end
theorem int_was (s : Rd) (h : (int s).2.b = false) : s.r = intE (int s).1 ++ (int s).2.r := by
 obtain ⟨_, _, _, h4⟩ := number_back h
 unfold intE
 rw [List.append_assoc]
 exact h4
theorem num_was (s : Rd) (h : (num s).2.b = false) : s.r = numE (num s).1 ++ (num s).2.r := by
 obtain ⟨_, h2, _, h4⟩ := number_back h
 unfold numE intE
 rw [if_neg (by unfold num; omega), List.append_assoc]
 exact h4
theorem nums_was (s : Rd) (h : (nums s).2.b = false) : s.r = numsE (nums s).1 ++ (nums s).2.r := (list_was int_was s h).2
theorem list_fine {α : Type} {one : Rd → α × Rd} (h1 : ∀ s, Fine s → Fine (one s).2) {s : Rd} (h : Fine s) : Fine (list one s).2 := by
 have hi : ∀ (n : Nat) (s : Rd), Fine s → Fine (items one n s).2 := by
  intro n
  induction n with
  | zero => intro s h; exact h
  | succ n ih =>
   intro s h
   by_cases hb : s.b = true
   · rw [items_bad one hb]; exact h
   · have e : items one (n + 1) s = ((one s).1 :: (items one n (one s).2).1, (items one n (one s).2).2) := by simp [items, hb]
     rw [e]
     exact ih _ (h1 s h)
 have := close_fine 93 (hi (number s 91 0).1.toNat _ (number_fine 91 0 h))
 unfold list
 split <;> exact this
theorem nums_fine {s : Rd} (h : Fine s) : Fine (nums s).2 := list_fine (fun _ h => int_fine h) h
theorem num_fine {s : Rd} (h : Fine s) : Fine (num s).2 := number_fine _ _ h
theorem list_sizes {α : Type} {one : Rd → α × Rd} {oneE : α → Str} (h1 : ∀ s, (one s).2.b = false → s.r = oneE (one s).1 ++ (one s).2.r) (hp : ∀ x, oneE x ≠ []) (s : Rd) : (list one s).1.length ≤ s.r.length ∧ ((list one s).1.flatMap oneE).length ≤ s.r.length := by
 have hle : ∀ l : List α, l.length ≤ (l.flatMap oneE).length := by
  intro l
  induction l with
  | nil => simp
  | cons x l ih =>
   have := List.length_pos_iff.2 (hp x)
   simp only [List.flatMap_cons, List.length_append, List.length_cons]
   omega
 cases hb : (list one s).2.b with
 | true =>
  have : (list one s).1 = [] := by
   unfold list at hb ⊢
   by_cases hc : (close (items one (number s 91 0).1.toNat (number s 91 0).2).2 93).b = true
   · rw [if_pos hc]
   · rw [if_neg hc] at hb; exact absurd hb hc
  rw [this]
  exact ⟨Nat.zero_le _, Nat.zero_le _⟩
 | false =>
  have h := congrArg List.length (list_was h1 s hb).2
  unfold listE at h
  simp only [List.length_append] at h
  have := hle (list one s).1
  omega
theorem intE_ne (n : Int) : intE n ≠ [] := by simp [intE]
/-- the kind of a value -/
def kind (k : Int) : Int := k % 5
end Wr
end
end Go.Proofs.YtdcbjedkddgfkaaGreatDoor
