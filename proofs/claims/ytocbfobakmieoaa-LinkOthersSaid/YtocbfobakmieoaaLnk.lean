/-
  What is on its way between houses (chapter 38) as plain data: what each call makes of it. No condition: definitions and plain lemmas.
-/
import Derived.Test.YtocbfobakmieoaaMem
namespace Go.Proofs.Ytocbfobakmieoaa
set_option linter.unusedVariables false
set_option linter.unusedSimpArgs false
set_option linter.unusedSectionVars false

structure Msg where
  a : Int
  b : Int
  t : Str
deriving DecidableEq
structure Pr where
  x : Int
  y : Int
deriving DecidableEq
structure Air where
  ms : List Msg
  cs : List Pr
deriving DecidableEq
structure Ev where
  k : Int
  a : Int
  b : Int
  t : Str
deriving DecidableEq

namespace Lnk
def houses (x y : Int) : Bool := decide (0 ≤ x ∧ x < 400 ∧ 0 ≤ y ∧ y < 400 ∧ x ≠ y)
def rightM (m : Msg) : Bool := houses m.a m.b && decide (m.t.length ≤ 20000)
def pair (x y : Int) : Pr := ⟨min x y, max x y⟩
def lt (p q : Pr) : Bool := decide (p.x < q.x ∨ (p.x = q.x ∧ p.y < q.y))
def okCut (c : Pr) : Bool := houses c.x c.y && decide (c.x ≤ c.y)
/-- strictly ascending -/
def sorted : List Pr → Bool
  | [] => true
  | [_] => true
  | p :: q :: l => lt p q && sorted (q :: l)
def right (a : Air) : Bool := a.cs.all okCut && sorted a.cs && decide (a.ms.length ≤ 1000) && a.ms.all rightM
def none_ : Air := ⟨[], []⟩
def noM : Msg := ⟨0, 0, []⟩
/-- what prevents a call on the message i -/
def bad (a : Air) (i : Int) : Int := if right a = false then 1 else if i < 0 ∨ (a.ms.length : Int) ≤ i then 4 else 0
def with_ (a : Air) (m : Msg) : Air × Int := if 1000 ≤ a.ms.length then (none_, 6) else ({ a with ms := a.ms ++ [m] }, 0)
def send (a : Air) (m : Msg) : Air × Int := if right a = false ∨ rightM m = false then (none_, 1) else with_ a m
def msg (a : Air) (i : Int) : Msg := a.ms.getD i.toNat noM
def without (a : Air) (i : Int) : Air := { a with ms := a.ms.eraseIdx i.toNat }
def double (a : Air) (i : Int) : Air × Int := if bad a i ≠ 0 then (none_, bad a i) else with_ a (msg a i)
def lose (a : Air) (i : Int) : Air × Int := if bad a i ≠ 0 then (none_, bad a i) else (without a i, 0)
def isCut (a : Air) (x y : Int) : Bool := decide (pair x y ∈ a.cs)
def deliver (a : Air) (i : Int) : Air × Msg × Int :=
  if bad a i ≠ 0 then (none_, noM, bad a i) else if isCut a (msg a i).a (msg a i).b then (none_, noM, 7) else (without a i, msg a i, 0)
/-- the place of a pair among the cuts -/
def posC (c : Pr) (l : List Pr) : Nat := (l.takeWhile fun q => lt q c).length
def insC (c : Pr) (l : List Pr) : List Pr := l.take (posC c l) ++ c :: l.drop (posC c l)
def cut (a : Air) (x y : Int) : Air × Int :=
  if right a = false ∨ houses x y = false then (none_, 1) else if isCut a x y then (none_, 5) else ({ a with cs := insC (pair x y) a.cs }, 0)
def heal (a : Air) (x y : Int) : Air × Int :=
  if right a = false ∨ houses x y = false then (none_, 1) else if isCut a x y = false then (none_, 4) else ({ a with cs := a.cs.filter fun q => q != pair x y }, 0)
def do_ (a : Air) (e : Ev) : Air × List Msg × Int :=
  if e.k = 0 then ((send a ⟨e.a, e.b, e.t⟩).1, [], (send a ⟨e.a, e.b, e.t⟩).2)
  else if e.k = 1 then ((deliver a e.a).1, if (deliver a e.a).2.2 = 0 then [(deliver a e.a).2.1] else [], (deliver a e.a).2.2)
  else if e.k = 2 then ((lose a e.a).1, [], (lose a e.a).2)
  else if e.k = 3 then ((double a e.a).1, [], (double a e.a).2)
  else if e.k = 4 then ((cut a e.a e.b).1, [], (cut a e.a e.b).2)
  else if e.k = 5 then ((heal a e.a e.b).1, [], (heal a e.a e.b).2)
  else (none_, [], 1)
def next (a : Air) (e : Ev) : Air := if (do_ a e).2.2 = 0 then (do_ a e).1 else a
def runs (a : Air) : List Ev → Air × List Msg × List Int
  | [] => (a, [], [])
  | e :: l => ((runs (next a e) l).1, (do_ a e).2.1 ++ (runs (next a e) l).2.1, (do_ a e).2.2 :: (runs (next a e) l).2.2)
def run (a : Air) (l : List Ev) : Air × List Msg × List Int := if right a = false then (none_, [], []) else runs a l

/-! ### order -/
theorem lt_irrefl (p : Pr) : lt p p = false := by simp [lt]
theorem lt_trans {p q r : Pr} (h : lt p q = true) (k : lt q r = true) : lt p r = true := by
  simp only [lt, decide_eq_true_eq] at *
  omega
theorem lt_total {p q : Pr} (h : lt p q = false) (k : lt q p = false) : p = q := by
  obtain ⟨a, b⟩ := p
  obtain ⟨c, d⟩ := q
  simp only [lt, decide_eq_false_iff_not] at *
  have e1 : a = c := by omega
  have e2 : b = d := by omega
  rw [e1, e2]
theorem lt_asymm {p q : Pr} (h : lt p q = true) : lt q p = false := by
  simp only [lt, decide_eq_true_eq, decide_eq_false_iff_not] at *
  omega
theorem sorted_cons {p : Pr} {l : List Pr} : sorted (p :: l) = true ↔ (∀ q ∈ l, lt p q = true) ∧ sorted l = true := by
  induction l generalizing p with
  | nil => simp [sorted]
  | cons q l ih =>
    simp only [sorted, Bool.and_eq_true]
    rw [ih]
    constructor
    · rintro ⟨h1, h2, h3⟩
      refine ⟨fun r hr => ?_, h2, h3⟩
      rcases List.mem_cons.1 hr with rfl | hr
      · exact h1
      · exact lt_trans h1 (h2 r hr)
    · rintro ⟨h1, h2, h3⟩
      exact ⟨h1 q (by simp), h2, h3⟩
theorem sorted_pairwise {l : List Pr} (h : sorted l = true) : l.Pairwise (fun p q => lt p q = true) := by
  induction l with
  | nil => exact .nil
  | cons p l ih =>
    rw [sorted_cons] at h
    exact .cons h.1 (ih h.2)
theorem sorted_of_pairwise {l : List Pr} (h : l.Pairwise (fun p q => lt p q = true)) : sorted l = true := by
  induction h with
  | nil => rfl
  | cons h1 _ ih => exact sorted_cons.2 ⟨h1, ih⟩
theorem posC_le (c : Pr) (l : List Pr) : posC c l ≤ l.length := (List.takeWhile_sublist _).length_le
theorem takeWhile_take {α : Type} (p : α → Bool) : ∀ l : List α, l.take (l.takeWhile p).length = l.takeWhile p ∧ l.drop (l.takeWhile p).length = l.dropWhile p
  | [] => by simp
  | x :: l => by
    by_cases h : p x = true
    · simp [h, takeWhile_take p l]
    · simp [h]
theorem insC_eq (c : Pr) (l : List Pr) : insC c l = l.takeWhile (fun q => lt q c) ++ c :: l.dropWhile (fun q => lt q c) := by
  unfold insC posC
  rw [(takeWhile_take _ l).1, (takeWhile_take _ l).2]
theorem sorted_ins {c : Pr} {l : List Pr} (h : sorted l = true) (hc : c ∉ l) : sorted (insC c l) = true := by
  rw [insC_eq]
  induction l with
  | nil => rfl
  | cons q l ih =>
    have h' := sorted_cons.1 h
    simp only [List.mem_cons, not_or] at hc
    by_cases hq : lt q c = true
    · simp only [List.takeWhile_cons, List.dropWhile_cons, hq, if_true, List.cons_append]
      refine sorted_cons.2 ⟨fun r hr => ?_, ih h'.2 hc.2⟩
      rcases List.mem_append.1 hr with hr | hr
      · exact h'.1 r (List.takeWhile_sublist _ |>.subset hr)
      · rcases List.mem_cons.1 hr with rfl | hr
        · exact hq
        · exact h'.1 r (List.dropWhile_sublist _ |>.subset hr)
    · have hq' : lt q c = false := by simpa using hq
      simp only [List.takeWhile_cons, List.dropWhile_cons, hq', Bool.false_eq_true, if_false, List.nil_append]
      have hcq : lt c q = true := by
        cases hx : lt c q with
        | true => rfl
        | false => exact absurd (lt_total hx hq') hc.1
      refine sorted_cons.2 ⟨fun r hr => ?_, h⟩
      rcases List.mem_cons.1 hr with rfl | hr
      · exact hcq
      · exact lt_trans hcq (h'.1 r hr)
theorem mem_ins {c p : Pr} {l : List Pr} : p ∈ insC c l ↔ p = c ∨ p ∈ l := by
  unfold insC
  rw [List.mem_append, List.mem_cons]
  constructor
  · rintro (h | h | h)
    · exact .inr (List.mem_of_mem_take h)
    · exact .inl h
    · exact .inr (List.mem_of_mem_drop h)
  · rintro (h | h)
    · exact .inr (.inl h)
    · rw [← List.take_append_drop (posC c l) l, List.mem_append] at h
      rcases h with h | h
      · exact .inl h
      · exact .inr (.inr h)

/-! ### what stays right -/
theorem right_iff {a : Air} : right a = true ↔ (∀ c ∈ a.cs, okCut c = true) ∧ sorted a.cs = true ∧ a.ms.length ≤ 1000 ∧ ∀ m ∈ a.ms, rightM m = true := by
  simp [right, and_assoc]
theorem bad_zero {a : Air} {i : Int} (h : bad a i = 0) : right a = true ∧ 0 ≤ i ∧ i < a.ms.length := by
  unfold bad at h
  cases hr : right a with
  | false => rw [hr] at h; simp at h
  | true =>
    rw [hr, if_neg (by simp)] at h
    by_cases hi : i < 0 ∨ (a.ms.length : Int) ≤ i
    · rw [if_pos hi] at h; omega
    · exact ⟨rfl, by omega, by omega⟩
theorem msg_mem {a : Air} {i : Int} (h0 : 0 ≤ i) (h1 : i < a.ms.length) : msg a i ∈ a.ms := by
  unfold msg
  have : i.toNat < a.ms.length := by omega
  rw [List.getD_eq_getElem?_getD, List.getElem?_eq_getElem this]
  exact List.getElem_mem this
theorem right_with {a : Air} {m : Msg} (h : right a = true) (hm : rightM m = true) (h0 : (with_ a m).2 = 0) : right (with_ a m).1 = true := by
  unfold with_ at h0 ⊢
  split
  · rename_i hl
    rw [if_pos hl] at h0
    simp at h0
  · rename_i hl
    rw [right_iff] at h ⊢
    refine ⟨h.1, h.2.1, by simp; omega, fun x hx => ?_⟩
    rcases List.mem_append.1 hx with hx | hx
    · exact h.2.2.2 x hx
    · simp at hx
      subst hx
      exact hm
theorem right_without {a : Air} {i : Int} (h : right a = true) : right (without a i) = true := by
  rw [right_iff] at h ⊢
  refine ⟨h.1, h.2.1, ?_, fun x hx => h.2.2.2 x (List.mem_of_mem_eraseIdx hx)⟩
  have := List.length_eraseIdx_le a.ms i.toNat
  simp only [without]
  omega
theorem okCut_pair {x y : Int} (h : houses x y = true) : okCut (pair x y) = true := by
  rcases Int.le_total x y with hl | hl
  · have e : pair x y = ⟨x, y⟩ := by simp [pair, Int.min_eq_left hl, Int.max_eq_right hl]
    rw [e]
    simp only [okCut, houses, Bool.and_eq_true, decide_eq_true_eq] at *
    omega
  · have e : pair x y = ⟨y, x⟩ := by simp [pair, Int.min_eq_right hl, Int.max_eq_left hl]
    rw [e]
    simp only [okCut, houses, Bool.and_eq_true, decide_eq_true_eq] at *
    omega
theorem right_none : right none_ = true := by decide
theorem right_next {a : Air} (h : right a = true) (e : Ev) : right (next a e) = true := by
  unfold next
  split
  · rename_i h0
    unfold do_ at h0 ⊢
    split
    · rename_i hk
      rw [if_pos hk] at h0
      simp only at h0 ⊢
      unfold send at h0 ⊢
      split
      · rename_i hb
        rw [if_pos hb] at h0
        simp at h0
      · rename_i hb
        rw [if_neg hb] at h0
        have hb' : rightM ⟨e.a, e.b, e.t⟩ = true := by
          cases hx : rightM ⟨e.a, e.b, e.t⟩ with
          | true => rfl
          | false => exact absurd (.inr hx) hb
        exact right_with h hb' h0
    split
    · rename_i h1 hk
      rw [if_neg h1, if_pos hk] at h0
      simp only at h0 ⊢
      unfold deliver at h0 ⊢
      split
      · exact right_none
      split
      · exact right_none
      · exact right_without h
    split
    · unfold lose
      split
      · exact right_none
      · exact right_without h
    split
    · rename_i h1 h2 h3 hk
      rw [if_neg h1, if_neg h2, if_neg h3, if_pos hk] at h0
      simp only at h0 ⊢
      unfold double at h0 ⊢
      split
      · exact right_none
      · rename_i hb
        simp only [Classical.not_not] at hb
        rw [if_neg (by simpa using hb)] at h0
        obtain ⟨b1, b2, b3⟩ := bad_zero hb
        exact right_with h ((right_iff.1 h).2.2.2 _ (msg_mem b2 b3)) h0
    split
    · unfold cut
      split
      · exact right_none
      · rename_i hb
        split
        · exact right_none
        · rename_i hc
          have hh : houses e.a e.b = true := by
            cases hx : houses e.a e.b with
            | true => rfl
            | false => exact absurd (.inr hx) hb
          rw [right_iff] at h ⊢
          refine ⟨fun c hc' => ?_, sorted_ins h.2.1 (by simpa [isCut] using hc), h.2.2.1, h.2.2.2⟩
          rcases mem_ins.1 hc' with rfl | hc'
          · exact okCut_pair hh
          · exact h.1 c hc'
    split
    · unfold heal
      split
      · exact right_none
      split
      · exact right_none
      · rw [right_iff] at h ⊢
        refine ⟨fun c hc => h.1 c (List.mem_filter.1 hc).1, sorted_of_pairwise ((sorted_pairwise h.2.1).filter _), h.2.2.1, h.2.2.2⟩
    · exact right_none
  · exact h
theorem right_runs {l : List Ev} : ∀ {a : Air}, right a = true → right (runs a l).1 = true := by
  induction l with
  | nil => intro a h; exact h
  | cons e l ih => intro a h; exact ih (right_next h e)
theorem runs_append (l m : List Ev) : ∀ a : Air, runs a (l ++ m) = ((runs (runs a l).1 m).1, (runs a l).2.1 ++ (runs (runs a l).1 m).2.1, (runs a l).2.2 ++ (runs (runs a l).1 m).2.2) := by
  induction l with
  | nil => intro a; simp [runs]
  | cons e l ih => intro a; simp [runs, ih]
theorem runs_len (l : List Ev) : ∀ a : Air, (runs a l).2.2.length = l.length := by
  induction l with
  | nil => intro a; rfl
  | cons e l ih => intro a; simp [runs, ih]
end Lnk
end Go.Proofs.Ytocbfobakmieoaa
