/-
  What is written is read back, and what is read was written. No condition: plain lemmas.
-/
import Derived.Test.YtdcbjedkddgfkaaDoorWir3
namespace Go.Proofs.YtdcbjedkddgfkaaDoor
set_option linter.unusedVariables false
set_option linter.unusedSimpArgs false
set_option linter.unusedSectionVars false
namespace Wr
theorem sep59 : Sep 59 := by unfold Sep; decide
theorem sep58 : Sep 58 := by unfold Sep; decide
theorem sep91 : Sep 91 := by unfold Sep; decide
theorem int_ok {n : Int} (hn : Ok n) (r : Str) (b : Bool) : int ⟨intE n ++ r, b⟩ = (n, ⟨r, b⟩) := by
 have := number_ok (r := r) (b := b) hn sep59 hn.1
 unfold int intE
 rwa [List.append_assoc]
theorem num_ok {n : Int} (hn : Ok n) (h0 : 0 ≤ n) (r : Str) (b : Bool) : num ⟨numE n ++ r, b⟩ = (n, ⟨r, b⟩) := by
 have := number_ok (r := r) (b := b) hn sep59 h0
 unfold num numE intE
 rw [if_neg (by omega)]
 rwa [List.append_assoc]
theorem text_ok {t : Str} (ht : t.length ≤ 9223372036854775807) (r : Str) : text ⟨textE t ++ r, false⟩ = (t, ⟨r, false⟩) := by
 have hn := number_ok (n := ((t.length : Nat) : Int)) (r := t ++ 44 :: r) (b := false) (least := 0) ⟨by omega, by omega⟩ sep58 (by omega)
 have e : textE t ++ r = Lib.itoa ((t.length : Nat) : Int) ++ 58 :: (t ++ 44 :: r) := by simp [textE]
 rw [e]
 have hs := text_s (s := ⟨Lib.itoa ((t.length : Nat) : Int) ++ 58 :: (t ++ 44 :: r), false⟩) (q := t.length) (by rw [hn]; simp; omega) (by rw [hn]) (by rw [hn]; simp [close])
 rw [hs, hn]
 simp [close]
section
variable {α : Type} {one : Rd → α × Rd} {oneE : α → Str}
theorem items_back' : ∀ (l : List α) (r : Str), (∀ x ∈ l, ∀ r, one ⟨oneE x ++ r, false⟩ = (x, ⟨r, false⟩)) → items one l.length ⟨l.flatMap oneE ++ r, false⟩ = (l, ⟨r, false⟩)
 | [], r, _ => rfl
 | x :: l, r, h => by
  have hx := h x (by simp) (l.flatMap oneE ++ r)
  have ih := items_back' l r fun y hy => h y (by simp [hy])
  simp only [List.length_cons, List.flatMap_cons, List.append_assoc, items, Bool.false_eq_true, if_false, hx, ih]
theorem list_ok' {l : List α} (hl : l.length ≤ 9223372036854775807) (h : ∀ x ∈ l, ∀ r, one ⟨oneE x ++ r, false⟩ = (x, ⟨r, false⟩)) (r : Str) : list one ⟨listE oneE l ++ r, false⟩ = (l, ⟨r, false⟩) := by
 have hn := number_ok (n := ((l.length : Nat) : Int)) (r := l.flatMap oneE ++ 93 :: r) (b := false) (least := 0) ⟨by omega, by omega⟩ sep91 (by omega)
 have e : listE oneE l ++ r = Lib.itoa ((l.length : Nat) : Int) ++ 91 :: (l.flatMap oneE ++ 93 :: r) := by simp [listE]
 have hit := items_back' (one := one) l (93 :: r) h
 have hq := list_ok (one := one) (s := ⟨Lib.itoa ((l.length : Nat) : Int) ++ 91 :: (l.flatMap oneE ++ 93 :: r), false⟩) (m0 := l.length) (acc := l) (st := ⟨93 :: r, false⟩) (by rw [hn]) (by rw [hn]; exact hit) (by simp [close])
 rw [e, hq]
 simp [close]
/-- items that were read -/
theorem items_was (h1 : ∀ s, (one s).2.b = false → s.r = oneE (one s).1 ++ (one s).2.r) : ∀ (n : Nat) (s : Rd), (items one n s).2.b = false → s.b = false ∧ s.r = (items one n s).1.flatMap oneE ++ (items one n s).2.r ∧ (items one n s).1.length = n
 | 0, s, h => ⟨h, by simp [items], rfl⟩
 | n + 1, s, h => by
  by_cases hb : s.b = true
  · rw [items_bad one hb] at h; rw [hb] at h; cases h
  · have e : items one (n + 1) s = ((one s).1 :: (items one n (one s).2).1, (items one n (one s).2).2) := by simp [items, hb]
    rw [e] at h ⊢
    obtain ⟨g1, g2, g3⟩ := items_was h1 n (one s).2 h
    refine ⟨by simpa using hb, ?_, by simp [g3]⟩
    rw [h1 s g1]
    simp only [List.flatMap_cons, List.append_assoc]
    rw [← g2]
theorem list_was (h1 : ∀ s, (one s).2.b = false → s.r = oneE (one s).1 ++ (one s).2.r) (s : Rd) (h : (list one s).2.b = false) : s.b = false ∧ s.r = listE oneE (list one s).1 ++ (list one s).2.r := by
 unfold list at h ⊢
 by_cases hc : (close (items one (number s 91 0).1.toNat (number s 91 0).2).2 93).b = true
 · rw [if_pos hc] at h; dsimp only at h; rw [hc] at h; cases h
 · rw [if_neg hc] at h ⊢
   dsimp only at h ⊢
   obtain ⟨c1, c2⟩ := close_back h
   obtain ⟨i1, i2, i3⟩ := items_was h1 _ _ c1
   obtain ⟨n1, n2, n3, n4⟩ := number_back i1
   refine ⟨n3, ?_⟩
   have hz : (((items one (number s 91 0).1.toNat (number s 91 0).2).1.length : Nat) : Int) = (number s 91 0).1 := by rw [i3]; omega
   unfold listE
   rw [hz, n4, i2, c2]
   simp
end
theorem int_was (s : Rd) (h : (int s).2.b = false) : s.r = intE (int s).1 ++ (int s).2.r := by
 obtain ⟨_, _, _, h4⟩ := number_back h
 unfold intE
 rw [List.append_assoc]
 exact h4
theorem num_was (s : Rd) (h : (num s).2.b = false) : s.r = numE (num s).1 ++ (num s).2.r := by
 obtain ⟨_, h2, _, h4⟩ := number_back h
 unfold numE intE
 rw [if_neg (by unfold num; omega), List.append_assoc]
 exact h4
theorem text_was (s : Rd) (h : (text s).2.b = false) : s.r = textE (text s).1 ++ (text s).2.r := by
 rcases text_cases s with h' | ⟨q, hq, hl, ⟨hb, h'⟩ | ⟨hb, h'⟩⟩
 · rw [h'] at h; cases h
 · rw [h'] at h; dsimp only at h; rw [hb] at h; cases h
 · rw [h']
   dsimp only
   obtain ⟨c1, c2⟩ := close_back hb
   dsimp only at c1 c2
   obtain ⟨n1, n2, n3, n4⟩ := number_back c1
   have hz : (((List.take q (number s 58 0).2.r).length : Nat) : Int) = (number s 58 0).1 := by rw [hq, List.length_take]; omega
   unfold textE
   rw [hz]
   conv => lhs; rw [n4, ← List.take_append_drop q (number s 58 0).2.r, c2]
   simp
theorem nums_was (s : Rd) (h : (nums s).2.b = false) : s.r = numsE (nums s).1 ++ (nums s).2.r := (list_was int_was s h).2
theorem texts_was (s : Rd) (h : (texts s).2.b = false) : s.r = textsE (texts s).1 ++ (texts s).2.r := (list_was text_was s h).2
theorem list_fine {α : Type} {one : Rd → α × Rd} (h1 : ∀ s, Fine s → Fine (one s).2) {s : Rd} (h : Fine s) : Fine (list one s).2 := by
 have hi : ∀ (n : Nat) (s : Rd), Fine s → Fine (items one n s).2 := by
  intro n
  induction n with
  | zero => intro s h; exact h
  | succ n ih =>
   intro s h
   by_cases hb : s.b = true
   · rw [items_bad one hb]; exact h
   · have e : items one (n + 1) s = ((one s).1 :: (items one n (one s).2).1, (items one n (one s).2).2) := by simp [items, hb]
     rw [e]
     exact ih _ (h1 s h)
 have := close_fine 93 (hi (number s 91 0).1.toNat _ (number_fine 91 0 h))
 unfold list
 split <;> exact this
theorem nums_fine {s : Rd} (h : Fine s) : Fine (nums s).2 := list_fine (fun _ h => int_fine h) h
theorem texts_fine {s : Rd} (h : Fine s) : Fine (texts s).2 := list_fine (fun _ h => text_fine h) h
theorem num_fine {s : Rd} (h : Fine s) : Fine (num s).2 := number_fine _ _ h
/-- a read that did not fail, and its encoding: all that WireAgain asks -/
theorem again {s : Str} {E : Str} {s' : Rd} (hf : Fine s') (hw : s'.b = false → s = E ++ s'.r) (hc : (decide (((s'.r.length : Nat) : Int) = 0) && !(done s')) = false) : s'.r.length ≤ s.length ∧ E = s.take (s.length - s'.r.length) := by
 have hb : s'.b = false := by
  cases hb : s'.b with
  | false => rfl
  | true =>
   exfalso
   rw [hf hb] at hc
   have : done s' = false := by unfold done; rw [hb]; rfl
   rw [this] at hc
   simp at hc
 have h := hw hb
 have hl := congrArg List.length h
 rw [List.length_append] at hl
 refine ⟨by omega, ?_⟩
 have : s.length - s'.r.length = E.length := by omega
 rw [this]
 conv => rhs; rw [h]
 rw [List.take_left]
theorem list_sizes {α : Type} {one : Rd → α × Rd} {oneE : α → Str} (h1 : ∀ s, (one s).2.b = false → s.r = oneE (one s).1 ++ (one s).2.r) (hp : ∀ x, oneE x ≠ []) (s : Rd) : (list one s).1.length ≤ s.r.length ∧ ((list one s).1.flatMap oneE).length ≤ s.r.length := by
 have hle : ∀ l : List α, l.length ≤ (l.flatMap oneE).length := by
  intro l
  induction l with
  | nil => simp
  | cons x l ih =>
   have := List.length_pos_iff.2 (hp x)
   simp only [List.flatMap_cons, List.length_append, List.length_cons]
   omega
 cases hb : (list one s).2.b with
 | true =>
  have : (list one s).1 = [] := by
   unfold list at hb ⊢
   by_cases hc : (close (items one (number s 91 0).1.toNat (number s 91 0).2).2 93).b = true
   · rw [if_pos hc]
   · rw [if_neg hc] at hb; exact absurd hb hc
  rw [this]
  exact ⟨Nat.zero_le _, Nat.zero_le _⟩
 | false =>
  have h := congrArg List.length (list_was h1 s hb).2
  unfold listE at h
  simp only [List.length_append] at h
  have := hle (list one s).1
  omega
theorem intE_ne (n : Int) : intE n ≠ [] := by simp [intE]
theorem textE_ne (t : Str) : textE t ≠ [] := by simp [textE]
/-- the kind of a value -/
def kind (k : Int) : Int := k % 5
theorem kind_eq (k : Int) : kind k = if k.tmod 5 < 0 then k.tmod 5 + 5 else k.tmod 5 := by
 unfold kind
 have h := Int.tmod_eq_emod (a := k) (b := 5)
 have h1 := Int.emod_nonneg k (show (5 : Int) ≠ 0 by decide)
 have h2 := Int.emod_lt_of_pos k (show (0 : Int) < 5 by decide)
 split at h <;> split <;> omega
def absN (n : Int) : Int := if n < 0 then -(n + 1) else n
end Wr
end Go.Proofs.YtdcbjedkddgfkaaDoor
