/-
  What is on its way between houses (chapter 38) as plain data: what each call makes of it. No condition: definitions and plain lemmas.
  How what is on its way lies in memory: messages, pairs, events, errors, an Air. No condition: definitions and lemmas on them.
  The link's rows element by element, for the calculus of small steps. No condition: plain lemmas.
  The link's leaf functions, walked: houses, right, pair, cmp's Compare and Or, before. No condition: contracts.
  The order of the cuts, index by index. No condition: plain lemmas.
  The link's Right, walked, with slices.ContainsFunc at its closure. No condition: contracts.
  slices.Clone and the link's clone, walked. Condition: at most 1,000,000 elements.
  The link's with, at, Send and Double, walked. Condition: at most 1,000,000 elements.
  The link's at, Send and Double, walked. Condition: at most 1,000,000 elements.
  The link's Send and Double, walked. Condition: at most 1,000,000 elements.
  slices.Delete of one element, walked; the link's without and Lose. Condition: at most 1,000,000 elements.
  The link's without and Lose, walked. Condition: at most 1,000,000 elements.
  slices.Index and Contains of pairs, the link's Deliver, walked. Condition: at most 1,000,000 elements.
-/
import Derived.Test.YtdcbjedkddgfkaaGreatDoorMem
import Derived.Test.YtdcbjedkddgfkaaGreatDoorRowOps
import Derived.Test.YtdcbjedkddgfkaaGreatDoorSx
import Derived.Test.YtdcbjedkddgfkaaGreatDoorProg
import Derived.KernelRfl
import Derived.WalkSpells
import Derived.Test.YtdcbjedkddgfkaaGreatDoorRow
import Derived.Test.YtdcbjedkddgfkaaGreatDoorRegion
import Derived.Deep.RegionHeld3
import Derived.Deep.QuietTactic
import Derived.BigQuiet
namespace Go.Proofs.YtdcbjedkddgfkaaGreatDoor
set_option maxHeartbeats 1000000
set_option maxRecDepth 100000
set_option linter.unusedVariables false
set_option linter.unusedSimpArgs false
set_option linter.unusedSectionVars false
set_option maxRecDepth 20000
section
structure Msg where
 a : Int
 b : Int
 t : Str
deriving DecidableEq
structure Pr where
 x : Int
 y : Int
deriving DecidableEq
structure Air where
 ms : List Msg
 cs : List Pr
deriving DecidableEq
structure Ev where
 k : Int
 a : Int
 b : Int
 t : Str
deriving DecidableEq
namespace Lnk
def houses (x y : Int) : Bool := decide (0 ≤ x ∧ x < 400 ∧ 0 ≤ y ∧ y < 400 ∧ x ≠ y)
def rightM (m : Msg) : Bool := houses m.a m.b && decide (m.t.length ≤ 20000)
def pair (x y : Int) : Pr := ⟨min x y, max x y⟩
def lt (p q : Pr) : Bool := decide (p.x < q.x ∨ (p.x = q.x ∧ p.y < q.y))
def okCut (c : Pr) : Bool := houses c.x c.y && decide (c.x ≤ c.y)
/-- strictly ascending -/
def sorted : List Pr → Bool
 | [] => true
 | [_] => true
 | p :: q :: l => lt p q && sorted (q :: l)
def right (a : Air) : Bool := a.cs.all okCut && sorted a.cs && decide (a.ms.length ≤ 1000) && a.ms.all rightM
def none_ : Air := ⟨[], []⟩
def noM : Msg := ⟨0, 0, []⟩
/-- what prevents a call on the message i -/
def bad (a : Air) (i : Int) : Int := if right a = false then 1 else if i < 0 ∨ (a.ms.length : Int) ≤ i then 4 else 0
def with_ (a : Air) (m : Msg) : Air × Int := if 1000 ≤ a.ms.length then (none_, 6) else ({ a with ms := a.ms ++ [m] }, 0)
def send (a : Air) (m : Msg) : Air × Int := if right a = false ∨ rightM m = false then (none_, 1) else with_ a m
def msg (a : Air) (i : Int) : Msg := a.ms.getD i.toNat noM
def without (a : Air) (i : Int) : Air := { a with ms := a.ms.eraseIdx i.toNat }
def double (a : Air) (i : Int) : Air × Int := if bad a i ≠ 0 then (none_, bad a i) else with_ a (msg a i)
def lose (a : Air) (i : Int) : Air × Int := if bad a i ≠ 0 then (none_, bad a i) else (without a i, 0)
def isCut (a : Air) (x y : Int) : Bool := decide (pair x y ∈ a.cs)
def deliver (a : Air) (i : Int) : Air × Msg × Int :=
 if bad a i ≠ 0 then (none_, noM, bad a i) else if isCut a (msg a i).a (msg a i).b then (none_, noM, 7) else (without a i, msg a i, 0)
/-- the place of a pair among the cuts -/
def posC (c : Pr) (l : List Pr) : Nat := (l.takeWhile fun q => lt q c).length
def insC (c : Pr) (l : List Pr) : List Pr := l.take (posC c l) ++ c :: l.drop (posC c l)
def cut (a : Air) (x y : Int) : Air × Int :=
 if right a = false ∨ houses x y = false then (none_, 1) else if isCut a x y then (none_, 5) else ({ a with cs := insC (pair x y) a.cs }, 0)
def heal (a : Air) (x y : Int) : Air × Int :=
 if right a = false ∨ houses x y = false then (none_, 1) else if isCut a x y = false then (none_, 4) else ({ a with cs := a.cs.filter fun q => q != pair x y }, 0)
def do_ (a : Air) (e : Ev) : Air × List Msg × Int :=
 if e.k = 0 then ((send a ⟨e.a, e.b, e.t⟩).1, [], (send a ⟨e.a, e.b, e.t⟩).2)
 else if e.k = 1 then ((deliver a e.a).1, if (deliver a e.a).2.2 = 0 then [(deliver a e.a).2.1] else [], (deliver a e.a).2.2)
 else if e.k = 2 then ((lose a e.a).1, [], (lose a e.a).2)
 else if e.k = 3 then ((double a e.a).1, [], (double a e.a).2)
 else if e.k = 4 then ((cut a e.a e.b).1, [], (cut a e.a e.b).2)
 else if e.k = 5 then ((heal a e.a e.b).1, [], (heal a e.a e.b).2)
 else (none_, [], 1)
def next (a : Air) (e : Ev) : Air := if (do_ a e).2.2 = 0 then (do_ a e).1 else a
def runs (a : Air) : List Ev → Air × List Msg × List Int
 | [] => (a, [], [])
 | e :: l => ((runs (next a e) l).1, (do_ a e).2.1 ++ (runs (next a e) l).2.1, (do_ a e).2.2 :: (runs (next a e) l).2.2)
def run (a : Air) (l : List Ev) : Air × List Msg × List Int := if right a = false then (none_, [], []) else runs a l
/-! ### order -/
theorem lt_irrefl (p : Pr) : lt p p = false := by simp [lt]
theorem lt_trans {p q r : Pr} (h : lt p q = true) (k : lt q r = true) : lt p r = true := by
 simp only [lt, decide_eq_true_eq] at *
 omega
theorem lt_total {p q : Pr} (h : lt p q = false) (k : lt q p = false) : p = q := by
 obtain ⟨a, b⟩ := p
 obtain ⟨c, d⟩ := q
 simp only [lt, decide_eq_false_iff_not] at *
 have e1 : a = c := by omega
 have e2 : b = d := by omega
 rw [e1, e2]
theorem lt_asymm {p q : Pr} (h : lt p q = true) : lt q p = false := by
 simp only [lt, decide_eq_true_eq, decide_eq_false_iff_not] at *
 omega
theorem sorted_cons {p : Pr} {l : List Pr} : sorted (p :: l) = true ↔ (∀ q ∈ l, lt p q = true) ∧ sorted l = true := by
 induction l generalizing p with
 | nil => simp [sorted]
 | cons q l ih =>
  simp only [sorted, Bool.and_eq_true]
  rw [ih]
  constructor
  · rintro ⟨h1, h2, h3⟩
    refine ⟨fun r hr => ?_, h2, h3⟩
    rcases List.mem_cons.1 hr with rfl | hr
    · exact h1
    · exact lt_trans h1 (h2 r hr)
  · rintro ⟨h1, h2, h3⟩
    exact ⟨h1 q (by simp), h2, h3⟩
theorem sorted_pairwise {l : List Pr} (h : sorted l = true) : l.Pairwise (fun p q => lt p q = true) := by
 induction l with
 | nil => exact .nil
 | cons p l ih =>
  rw [sorted_cons] at h
  exact .cons h.1 (ih h.2)
theorem sorted_of_pairwise {l : List Pr} (h : l.Pairwise (fun p q => lt p q = true)) : sorted l = true := by
 induction h with
 | nil => rfl
 | cons h1 _ ih => exact sorted_cons.2 ⟨h1, ih⟩
theorem posC_le (c : Pr) (l : List Pr) : posC c l ≤ l.length := (List.takeWhile_sublist _).length_le
theorem takeWhile_take {α : Type} (p : α → Bool) : ∀ l : List α, l.take (l.takeWhile p).length = l.takeWhile p ∧ l.drop (l.takeWhile p).length = l.dropWhile p
 | [] => by simp
 | x :: l => by
  by_cases h : p x = true
  · simp [h, takeWhile_take p l]
  · simp [h]
theorem insC_eq (c : Pr) (l : List Pr) : insC c l = l.takeWhile (fun q => lt q c) ++ c :: l.dropWhile (fun q => lt q c) := by
 unfold insC posC
 rw [(takeWhile_take _ l).1, (takeWhile_take _ l).2]
theorem sorted_ins {c : Pr} {l : List Pr} (h : sorted l = true) (hc : c ∉ l) : sorted (insC c l) = true := by
 rw [insC_eq]
 induction l with
 | nil => rfl
 | cons q l ih =>
  have h' := sorted_cons.1 h
  simp only [List.mem_cons, not_or] at hc
  by_cases hq : lt q c = true
  · simp only [List.takeWhile_cons, List.dropWhile_cons, hq, if_true, List.cons_append]
    refine sorted_cons.2 ⟨fun r hr => ?_, ih h'.2 hc.2⟩
    rcases List.mem_append.1 hr with hr | hr
    · exact h'.1 r (List.takeWhile_sublist _ |>.subset hr)
    · rcases List.mem_cons.1 hr with rfl | hr
      · exact hq
      · exact h'.1 r (List.dropWhile_sublist _ |>.subset hr)
  · have hq' : lt q c = false := by simpa using hq
    simp only [List.takeWhile_cons, List.dropWhile_cons, hq', Bool.false_eq_true, if_false, List.nil_append]
    have hcq : lt c q = true := by
     cases hx : lt c q with
     | true => rfl
     | false => exact absurd (lt_total hx hq') hc.1
    refine sorted_cons.2 ⟨fun r hr => ?_, h⟩
    rcases List.mem_cons.1 hr with rfl | hr
    · exact hcq
    · exact lt_trans hcq (h'.1 r hr)
theorem mem_ins {c p : Pr} {l : List Pr} : p ∈ insC c l ↔ p = c ∨ p ∈ l := by
 unfold insC
 rw [List.mem_append, List.mem_cons]
 constructor
 · rintro (h | h | h)
   · exact .inr (List.mem_of_mem_take h)
   · exact .inl h
   · exact .inr (List.mem_of_mem_drop h)
 · rintro (h | h)
   · exact .inr (.inl h)
   · rw [← List.take_append_drop (posC c l) l, List.mem_append] at h
     rcases h with h | h
     · exact .inl h
     · exact .inr (.inr h)
/-! ### what stays right -/
theorem right_iff {a : Air} : right a = true ↔ (∀ c ∈ a.cs, okCut c = true) ∧ sorted a.cs = true ∧ a.ms.length ≤ 1000 ∧ ∀ m ∈ a.ms, rightM m = true := by
 simp [right, and_assoc]
theorem bad_zero {a : Air} {i : Int} (h : bad a i = 0) : right a = true ∧ 0 ≤ i ∧ i < a.ms.length := by
 unfold bad at h
 cases hr : right a with
 | false => rw [hr] at h; simp at h
 | true =>
  rw [hr, if_neg (by simp)] at h
  by_cases hi : i < 0 ∨ (a.ms.length : Int) ≤ i
  · rw [if_pos hi] at h; omega
  · exact ⟨rfl, by omega, by omega⟩
theorem msg_mem {a : Air} {i : Int} (h0 : 0 ≤ i) (h1 : i < a.ms.length) : msg a i ∈ a.ms := by
 unfold msg
 have : i.toNat < a.ms.length := by omega
 rw [List.getD_eq_getElem?_getD, List.getElem?_eq_getElem this]
 exact List.getElem_mem this
theorem right_with {a : Air} {m : Msg} (h : right a = true) (hm : rightM m = true) (h0 : (with_ a m).2 = 0) : right (with_ a m).1 = true := by
 unfold with_ at h0 ⊢
 split
 · rename_i hl
   rw [if_pos hl] at h0
   simp at h0
 · rename_i hl
   rw [right_iff] at h ⊢
   refine ⟨h.1, h.2.1, by simp; omega, fun x hx => ?_⟩
   rcases List.mem_append.1 hx with hx | hx
   · exact h.2.2.2 x hx
   · simp at hx
     subst hx
     exact hm
theorem right_without {a : Air} {i : Int} (h : right a = true) : right (without a i) = true := by
 rw [right_iff] at h ⊢
 refine ⟨h.1, h.2.1, ?_, fun x hx => h.2.2.2 x (List.mem_of_mem_eraseIdx hx)⟩
 have := List.length_eraseIdx_le a.ms i.toNat
 simp only [without]
 omega
theorem okCut_pair {x y : Int} (h : houses x y = true) : okCut (pair x y) = true := by
 rcases Int.le_total x y with hl | hl
 · have e : pair x y = ⟨x, y⟩ := by simp [pair, Int.min_eq_left hl, Int.max_eq_right hl]
   rw [e]
   simp only [okCut, houses, Bool.and_eq_true, decide_eq_true_eq] at *
   omega
 · have e : pair x y = ⟨y, x⟩ := by simp [pair, Int.min_eq_right hl, Int.max_eq_left hl]
   rw [e]
   simp only [okCut, houses, Bool.and_eq_true, decide_eq_true_eq] at *
   omega
theorem right_none : right none_ = true := by decide
theorem right_next {a : Air} (h : right a = true) (e : Ev) : right (next a e) = true := by
 unfold next
 split
 · rename_i h0
   unfold do_ at h0 ⊢
   split
   · rename_i hk
     rw [if_pos hk] at h0
     simp only at h0 ⊢
     unfold send at h0 ⊢
     split
     · rename_i hb
       rw [if_pos hb] at h0
       simp at h0
     · rename_i hb
       rw [if_neg hb] at h0
       have hb' : rightM ⟨e.a, e.b, e.t⟩ = true := by
        cases hx : rightM ⟨e.a, e.b, e.t⟩ with
        | true => rfl
        | false => exact absurd (.inr hx) hb
       exact right_with h hb' h0
   split
   · rename_i h1 hk
     rw [if_neg h1, if_pos hk] at h0
     simp only at h0 ⊢
     unfold deliver at h0 ⊢
     split
     · exact right_none
     split
     · exact right_none
     · exact right_without h
   split
   · unfold lose
     split
     · exact right_none
     · exact right_without h
   split
   · rename_i h1 h2 h3 hk
     rw [if_neg h1, if_neg h2, if_neg h3, if_pos hk] at h0
     simp only at h0 ⊢
     unfold double at h0 ⊢
     split
     · exact right_none
     · rename_i hb
       simp only [Classical.not_not] at hb
       rw [if_neg (by simpa using hb)] at h0
       obtain ⟨b1, b2, b3⟩ := bad_zero hb
       exact right_with h ((right_iff.1 h).2.2.2 _ (msg_mem b2 b3)) h0
   split
   · unfold cut
     split
     · exact right_none
     · rename_i hb
       split
       · exact right_none
       · rename_i hc
         have hh : houses e.a e.b = true := by
          cases hx : houses e.a e.b with
          | true => rfl
          | false => exact absurd (.inr hx) hb
         rw [right_iff] at h ⊢
         refine ⟨fun c hc' => ?_, sorted_ins h.2.1 (by simpa [isCut] using hc), h.2.2.1, h.2.2.2⟩
         rcases mem_ins.1 hc' with rfl | hc'
         · exact okCut_pair hh
         · exact h.1 c hc'
   split
   · unfold heal
     split
     · exact right_none
     split
     · exact right_none
     · rw [right_iff] at h ⊢
       refine ⟨fun c hc => h.1 c (List.mem_filter.1 hc).1, sorted_of_pairwise ((sorted_pairwise h.2.1).filter _), h.2.2.1, h.2.2.2⟩
   · exact right_none
 · exact h
theorem right_runs {l : List Ev} : ∀ {a : Air}, right a = true → right (runs a l).1 = true := by
 induction l with
 | nil => intro a h; exact h
 | cons e l ih => intro a h; exact ih (right_next h e)
theorem runs_append (l m : List Ev) : ∀ a : Air, runs a (l ++ m) = ((runs (runs a l).1 m).1, (runs a l).2.1 ++ (runs (runs a l).1 m).2.1, (runs a l).2.2 ++ (runs (runs a l).1 m).2.2) := by
 induction l with
 | nil => intro a; simp [runs]
 | cons e l ih => intro a; simp [runs, ih]
theorem runs_len (l : List Ev) : ∀ a : Air, (runs a l).2.2.length = l.length := by
 induction l with
 | nil => intro a; rfl
 | cons e l ih => intro a; simp [runs, ih]
end Lnk
end
section
open Go.RowKit
theorem info_Msg : (Tryz.prog.info? 90).map (fun i => (i.zero, i.size, i.bytes)) = some (some (.agg #[.int .i64 0, .int .i64 0, strV []]), 3, 32) := by kernel_rfl
theorem info_Pr : (Tryz.prog.info? 108).map (fun i => (i.zero, i.size, i.bytes)) = some (some (.agg #[.int .i64 0, .int .i64 0]), 2, 16) := by kernel_rfl
theorem info_Errno : (Tryz.prog.info? 72).map (fun i => (i.zero, i.size, i.bytes)) = some (some (.int .i64 0), 1, 8) := by kernel_rfl
theorem info_Ev : (Tryz.prog.info? 45).map (fun i => (i.zero, i.size, i.bytes)) = some (some (.agg #[.int .i64 0, .int .i64 0, .int .i64 0, strV []]), 4, 40) := by kernel_rfl
theorem zeroMsg (w : World) : (zeroValue 90).run Tryz.prog w = .ok (.agg #[.int .i64 0, .int .i64 0, strV []]) w := by kernel_rfl
theorem zeroPr (w : World) : (zeroValue 108).run Tryz.prog w = .ok (.agg #[.int .i64 0, .int .i64 0]) w := by kernel_rfl
def RMsg (_ : World) (cs : List Value) (m : Msg) : Prop := cs = [.int .i64 m.a, .int .i64 m.b, strV m.t] ∧ I64 m.a ∧ I64 m.b ∧ m.t.length ≤ maxLen
def RPr (_ : World) (cs : List Value) (p : Pr) : Prop := cs = [.int .i64 p.x, .int .i64 p.y] ∧ I64 p.x ∧ I64 p.y
def REv (_ : World) (cs : List Value) (e : Ev) : Prop := cs = [.int .i64 e.k, .int .i64 e.a, .int .i64 e.b, strV e.t] ∧ I64 e.k ∧ I64 e.a ∧ I64 e.b ∧ e.t.length ≤ maxLen
abbrev Msgs (w : World) (v : Value) (l : List Msg) : Prop := SliceOf AllB 3 RMsg w v l
abbrev Prs (w : World) (v : Value) (l : List Pr) : Prop := SliceOf AllB 2 RPr w v l
abbrev Evs (w : World) (v : Value) (l : List Ev) : Prop := SliceOf AllB 4 REv w v l
abbrev Errs (w : World) (v : Value) (l : List Int) : Prop := SliceOf AllB 1 RInt w v l
def AirV (w : World) (v : Value) (a : Air) : Prop := ∃ v1 v2, v = .agg #[v1, v2] ∧ Msgs w v1 a.ms ∧ Prs w v2 a.cs
abbrev msgV (m : Msg) : Value := .agg #[.int .i64 m.a, .int .i64 m.b, strV m.t]
abbrev prV (p : Pr) : Value := .agg #[.int .i64 p.x, .int .i64 p.y]
def MsgOk (m : Msg) : Prop := I64 m.a ∧ I64 m.b ∧ m.t.length ≤ maxLen
def msgCells (l : List Msg) : List Value := l.flatMap fun m => [.int .i64 m.a, .int .i64 m.b, strV m.t]
def prCells (l : List Pr) : List Value := l.flatMap fun p => [.int .i64 p.x, .int .i64 p.y]
theorem msgCells_cons (m : Msg) (l : List Msg) : msgCells (m :: l) = .int .i64 m.a :: .int .i64 m.b :: strV m.t :: msgCells l := rfl
theorem prCells_cons (p : Pr) (l : List Pr) : prCells (p :: l) = .int .i64 p.x :: .int .i64 p.y :: prCells l := rfl
theorem msgCells_append (a b : List Msg) : msgCells (a ++ b) = msgCells a ++ msgCells b := by simp [msgCells]
theorem prCells_append (a b : List Pr) : prCells (a ++ b) = prCells a ++ prCells b := by simp [prCells]
theorem length_msgCells (l : List Msg) : (msgCells l).length = l.length * 3 := by
 induction l with
 | nil => rfl
 | cons m l ih => rw [msgCells_cons]; simp [ih]; omega
theorem length_prCells (l : List Pr) : (prCells l).length = l.length * 2 := by
 induction l with
 | nil => rfl
 | cons p l ih => rw [prCells_cons]; simp [ih]; omega
theorem msgCells_one (l : List Msg) : ∀ u ∈ msgCells l, u.oneCell' = true := by
 intro u hu
 simp only [msgCells, List.mem_flatMap] at hu
 obtain ⟨m, _, hm⟩ := hu
 simp at hm
 rcases hm with rfl | rfl | rfl <;> rfl
theorem prCells_one (l : List Pr) : ∀ u ∈ prCells l, u.oneCell' = true := by
 intro u hu
 simp only [prCells, List.mem_flatMap] at hu
 obtain ⟨m, _, hm⟩ := hu
 simp at hm
 rcases hm with rfl | rfl <;> rfl
theorem msgCells_get : ∀ (l : List Msg) (i : Nat) (h : i < l.length), ((msgCells l).drop (i * 3)).take 3 = [.int .i64 l[i].a, .int .i64 l[i].b, strV l[i].t]
 | [], i, h => by simp at h
 | m :: l, 0, _ => rfl
 | m :: l, i + 1, h => by
  rw [msgCells_cons, show (i + 1) * 3 = i * 3 + 1 + 1 + 1 by omega]
  simpa using msgCells_get l i (by simpa using h)
theorem prCells_get : ∀ (l : List Pr) (i : Nat) (h : i < l.length), ((prCells l).drop (i * 2)).take 2 = [.int .i64 l[i].x, .int .i64 l[i].y]
 | [], i, h => by simp at h
 | m :: l, 0, _ => rfl
 | m :: l, i + 1, h => by
  rw [prCells_cons, show (i + 1) * 2 = i * 2 + 1 + 1 by omega]
  simpa using prCells_get l i (by simpa using h)
theorem msgCells_take (l : List Msg) : ∀ k, msgCells (l.take k) = (msgCells l).take (k * 3) := by
 induction l with
 | nil => intro k; simp [msgCells]
 | cons p q ih =>
  intro k
  cases k with
  | zero => simp [msgCells]
  | succ k => rw [List.take_succ_cons, msgCells_cons, msgCells_cons, ih, show (k + 1) * 3 = k * 3 + 1 + 1 + 1 by omega]; rfl
theorem prCells_take (l : List Pr) : ∀ k, prCells (l.take k) = (prCells l).take (k * 2) := by
 induction l with
 | nil => intro k; simp [prCells]
 | cons p q ih =>
  intro k
  cases k with
  | zero => simp [prCells]
  | succ k => rw [List.take_succ_cons, prCells_cons, prCells_cons, ih, show (k + 1) * 2 = k * 2 + 1 + 1 by omega]; rfl
theorem msgCells_drop (l : List Msg) : ∀ k, msgCells (l.drop k) = (msgCells l).drop (k * 3) := by
 induction l with
 | nil => intro k; simp [msgCells]
 | cons p q ih =>
  intro k
  cases k with
  | zero => simp
  | succ k => rw [List.drop_succ_cons, msgCells_cons, ih, show (k + 1) * 3 = k * 3 + 1 + 1 + 1 by omega]; rfl
theorem prCells_drop (l : List Pr) : ∀ k, prCells (l.drop k) = (prCells l).drop (k * 2) := by
 induction l with
 | nil => intro k; simp [prCells]
 | cons p q ih =>
  intro k
  cases k with
  | zero => simp
  | succ k => rw [List.drop_succ_cons, prCells_cons, ih, show (k + 1) * 2 = k * 2 + 1 + 1 by omega]; rfl
section
variable {w w' : World} {v : Value} {F : Nat → Prop}
theorem Msgs.keep {l : List Msg} (h : Msgs w v l) (ho : Only NoF w w') : Msgs w' v l := SliceOf.only h ho (fun _ _ h => h) fun _ _ _ h => h
theorem Prs.keep {l : List Pr} (h : Prs w v l) (ho : Only NoF w w') : Prs w' v l := SliceOf.only h ho (fun _ _ h => h) fun _ _ _ h => h
theorem AirV.keep {a : Air} (h : AirV w v a) (ho : Only NoF w w') : AirV w' v a := by
 obtain ⟨v1, v2, e, h1, h2⟩ := h
 exact ⟨v1, v2, e, Msgs.keep h1 ho, Prs.keep h2 ho⟩
theorem Msgs.oks {l : List Msg} (h : Msgs w v l) : ∀ m ∈ l, MsgOk m := by
 obtain ⟨A, cap, xs, _, _, _, _, h4⟩ := h
 intro m hm
 obtain ⟨i, hi⟩ := List.getElem?_of_mem hm
 obtain ⟨_, h⟩ := h4 i m hi
 exact h
theorem Prs.oks {l : List Pr} (h : Prs w v l) : ∀ p ∈ l, I64 p.x ∧ I64 p.y := by
 obtain ⟨A, cap, xs, _, _, _, _, h4⟩ := h
 intro m hm
 obtain ⟨i, hi⟩ := List.getElem?_of_mem hm
 obtain ⟨_, h⟩ := h4 i m hi
 exact h
/-- the slice's cells are these -/
theorem Msgs.cells {l : List Msg} (h : Msgs w v l) : ∃ A cap, v = .slice A l.length cap ∧ l.length ≤ cap ∧ cap ≤ maxLen ∧ Reads w AllB 3 A l.length (msgCells l) := by
 obtain ⟨A, cap, xs, rfl, h1, h2, h3, h4⟩ := h
 have e : xs = msgCells l := by
  apply List.ext_getElem?
  intro j
  by_cases hj : j < l.length * 3
  · have hi : j / 3 < l.length := by omega
    obtain ⟨hc, _⟩ := h4 (j / 3) _ (List.getElem?_eq_getElem hi)
    have h5 := msgCells_get l (j / 3) hi
    have e1 : ∀ ys : List Value, ys[j]? = ((ys.drop (j / 3 * 3)).take 3)[j % 3]? := fun ys => by
     rw [List.getElem?_take, if_pos (by omega), List.getElem?_drop]
     congr 1
     omega
    rw [e1 xs, e1 (msgCells l), hc, h5]
  · rw [List.getElem?_eq_none (by rw [h3.1]; omega), List.getElem?_eq_none (by rw [length_msgCells]; omega)]
 subst e
 exact ⟨A, cap, rfl, h1, h2, h3⟩
theorem Prs.cells {l : List Pr} (h : Prs w v l) : ∃ A cap, v = .slice A l.length cap ∧ l.length ≤ cap ∧ cap ≤ maxLen ∧ Reads w AllB 2 A l.length (prCells l) := by
 obtain ⟨A, cap, xs, rfl, h1, h2, h3, h4⟩ := h
 have e : xs = prCells l := by
  apply List.ext_getElem?
  intro j
  by_cases hj : j < l.length * 2
  · have hi : j / 2 < l.length := by omega
    obtain ⟨hc, _⟩ := h4 (j / 2) _ (List.getElem?_eq_getElem hi)
    have h5 := prCells_get l (j / 2) hi
    have e1 : ∀ ys : List Value, ys[j]? = ((ys.drop (j / 2 * 2)).take 2)[j % 2]? := fun ys => by
     rw [List.getElem?_take, if_pos (by omega), List.getElem?_drop]
     congr 1
     omega
    rw [e1 xs, e1 (prCells l), hc, h5]
  · rw [List.getElem?_eq_none (by rw [h3.1]; omega), List.getElem?_eq_none (by rw [length_prCells]; omega)]
 subst e
 exact ⟨A, cap, rfl, h1, h2, h3⟩
/-- an owned row of such cells reads as the list -/
theorem Msgs.own {base n : Nat} {l : List Msg} (h : w.ownsRow base 90 3 v n (msgCells l)) (hn : n = l.length) (hm : ∀ m ∈ l, MsgOk m) : Msgs w v l := by
 subst hn
 obtain ⟨A, c, e, h1, h2, h3⟩ := Reads.of_own h
 exact ⟨A, c, msgCells l, e, h1, h2, h3.sup fun _ _ => trivial, fun i x hx => ⟨by
  obtain ⟨hi, rfl⟩ := List.getElem?_eq_some_iff.1 hx
  exact msgCells_get l i hi, hm x (List.mem_of_getElem? hx)⟩⟩
theorem Prs.own {base n : Nat} {l : List Pr} (h : w.ownsRow base 108 2 v n (prCells l)) (hn : n = l.length) (hm : ∀ p ∈ l, I64 p.x ∧ I64 p.y) : Prs w v l := by
 subst hn
 obtain ⟨A, c, e, h1, h2, h3⟩ := Reads.of_own h
 exact ⟨A, c, prCells l, e, h1, h2, h3.sup fun _ _ => trivial, fun i x hx => ⟨by
  obtain ⟨hi, rfl⟩ := List.getElem?_eq_some_iff.1 hx
  exact prCells_get l i hi, hm x (List.mem_of_getElem? hx)⟩⟩
/-- element by element, the address asked for where there is one -/
theorem Msgs.form {l : List Msg} (h : Msgs w v l) : ∃ A cap, v = .slice A l.length cap ∧ l.length ≤ cap ∧ cap ≤ maxLen ∧
 ∀ i (hi : i < l.length), ∃ b off, A = some ⟨b, off, none⟩ ∧ MsgOk l[i] ∧ ∀ w', Only NoF w w' →
  w'.cell? ⟨b, off + i * 3, none⟩ = some (.int .i64 l[i].a) ∧ w'.cell? ⟨b, off + i * 3 + 1, none⟩ = some (.int .i64 l[i].b) ∧ w'.cell? ⟨b, off + i * 3 + 2, none⟩ = some (strV l[i].t) := by
 by_cases hl : 0 < l.length
 · obtain ⟨b, off, cap, e, h1, h2, _, h4, h5⟩ := SliceOf.form h (by decide) hl
   refine ⟨_, cap, e, h1, h2, fun i hi => ?_⟩
   obtain ⟨cs, ⟨rfl, a1⟩, hc⟩ := h5 i l[i] (List.getElem?_eq_getElem hi)
   refine ⟨b, off, rfl, a1, fun w' ho => ?_⟩
   have k := fun (o : Nat) => ho.cell (p := ⟨b, o, none⟩) h4 id
   exact ⟨(k _).trans (hc 0 _ rfl), (k _).trans (hc 1 _ rfl), (k _).trans (hc 2 _ rfl)⟩
 · obtain ⟨A, cap, e, h1, h2⟩ := SliceOf.shape h
   exact ⟨A, cap, e, h1, h2, fun i hi => by omega⟩
theorem Prs.form {l : List Pr} (h : Prs w v l) : ∃ A cap, v = .slice A l.length cap ∧ l.length ≤ cap ∧ cap ≤ maxLen ∧
 ∀ i (hi : i < l.length), ∃ b off, A = some ⟨b, off, none⟩ ∧ I64 l[i].x ∧ I64 l[i].y ∧ ∀ w', Only NoF w w' →
  w'.cell? ⟨b, off + i * 2, none⟩ = some (.int .i64 l[i].x) ∧ w'.cell? ⟨b, off + i * 2 + 1, none⟩ = some (.int .i64 l[i].y) := by
 by_cases hl : 0 < l.length
 · obtain ⟨b, off, cap, e, h1, h2, _, h4, h5⟩ := SliceOf.form h (by decide) hl
   refine ⟨_, cap, e, h1, h2, fun i hi => ?_⟩
   obtain ⟨cs, ⟨rfl, a1, a2⟩, hc⟩ := h5 i l[i] (List.getElem?_eq_getElem hi)
   refine ⟨b, off, rfl, a1, a2, fun w' ho => ?_⟩
   have k := fun (o : Nat) => ho.cell (p := ⟨b, o, none⟩) h4 id
   exact ⟨(k _).trans (hc 0 _ rfl), (k _).trans (hc 1 _ rfl)⟩
 · obtain ⟨A, cap, e, h1, h2⟩ := SliceOf.shape h
   exact ⟨A, cap, e, h1, h2, fun i hi => by omega⟩
theorem Evs.form {l : List Ev} (h : Evs w v l) : ∃ A cap, v = .slice A l.length cap ∧ l.length ≤ cap ∧ cap ≤ maxLen ∧
 ∀ i (hi : i < l.length), ∃ b off, A = some ⟨b, off, none⟩ ∧ I64 l[i].k ∧ I64 l[i].a ∧ I64 l[i].b ∧ l[i].t.length ≤ maxLen ∧ ∀ w', Only NoF w w' →
  w'.cell? ⟨b, off + i * 4, none⟩ = some (.int .i64 l[i].k) ∧ w'.cell? ⟨b, off + i * 4 + 1, none⟩ = some (.int .i64 l[i].a) ∧ w'.cell? ⟨b, off + i * 4 + 2, none⟩ = some (.int .i64 l[i].b) ∧ w'.cell? ⟨b, off + i * 4 + 3, none⟩ = some (strV l[i].t) := by
 by_cases hl : 0 < l.length
 · obtain ⟨b, off, cap, e, h1, h2, _, h4, h5⟩ := SliceOf.form h (by decide) hl
   refine ⟨_, cap, e, h1, h2, fun i hi => ?_⟩
   obtain ⟨cs, ⟨rfl, a1, a2, a3, a4⟩, hc⟩ := h5 i l[i] (List.getElem?_eq_getElem hi)
   refine ⟨b, off, rfl, a1, a2, a3, a4, fun w' ho => ?_⟩
   have k := fun (o : Nat) => ho.cell (p := ⟨b, o, none⟩) h4 id
   exact ⟨(k _).trans (hc 0 _ rfl), (k _).trans (hc 1 _ rfl), (k _).trans (hc 2 _ rfl), (k _).trans (hc 3 _ rfl)⟩
 · obtain ⟨A, cap, e, h1, h2⟩ := SliceOf.shape h
   exact ⟨A, cap, e, h1, h2, fun i hi => by omega⟩
end
end
section
open Go.RowKit
def KMsg : Row Msg := ⟨3, fun m => [.int .i64 m.a, .int .i64 m.b, strV m.t], MsgOk, fun _ => rfl, by decide, fun x u hu => by
 simp at hu
 rcases hu with rfl | rfl | rfl <;> rfl⟩
def KEv : Row Ev := ⟨4, fun m => [.int .i64 m.k, .int .i64 m.a, .int .i64 m.b, strV m.t], fun m => I64 m.k ∧ I64 m.a ∧ I64 m.b ∧ m.t.length ≤ maxLen, fun _ => rfl, by decide, fun x u hu => by
 simp at hu
 rcases hu with rfl | rfl | rfl | rfl <;> rfl⟩
section
variable {w : World} {A : Option Addr} {n c k : Nat}
end
theorem elemEv : ElemIs Tryz.prog 38 45 4 40 := by
 obtain ⟨i, h1, h2, h3, h4⟩ := info_parts info_Ev
 exact ⟨Tryz.underlying38, i, _, h1, h2, h3, h4, rfl⟩
end
section
open Go.RowKit
section
variable (w : World)
theorem nhouses_c (x y : Int) : Calls Tryz.prog 69 #[.int .i64 x, .int .i64 y] w fun e w' => e = .returned (.bool (Lnk.houses x y)) ∧ w = w' := by
 by_cases h1 : 0 ≤ x
 · by_cases h2 : x < 400
   · by_cases h3 : 0 ≤ y
     · by_cases h4 : y < 400
       · go_enter Tryz.func69, Tryz.ntmps69
         go_wp2
         go_ret
         refine ⟨ret_bool ?_, rfl⟩
         unfold Lnk.houses
         rw [Bool.eq_iff_iff]
         simp [h1, h2, h3, h4]
       · have e : Lnk.houses x y = false := by simp [Lnk.houses, h4]
         rw [e]
         clear e
         go_enter Tryz.func69, Tryz.ntmps69
         go_wp2
         go_ret
         exact ⟨rfl, rfl⟩
     · have e : Lnk.houses x y = false := by simp [Lnk.houses, h3]
       rw [e]
       clear e
       go_enter Tryz.func69, Tryz.ntmps69
       go_wp2
       go_ret
       exact ⟨rfl, rfl⟩
   · have e : Lnk.houses x y = false := by simp [Lnk.houses, h2]
     rw [e]
     clear e
     go_enter Tryz.func69, Tryz.ntmps69
     go_wp2
     go_ret
     exact ⟨rfl, rfl⟩
 · have e : Lnk.houses x y = false := by simp [Lnk.houses, h1]
   rw [e]
   clear e
   go_enter Tryz.func69, Tryz.ntmps69
   go_wp2
   go_ret
   exact ⟨rfl, rfl⟩
theorem isNaN_c (x : Int) : Calls Tryz.prog 97 #[.int .i64 x] w fun e w' => e = .returned (.bool false) ∧ w = w' := by
 have hb : (x != x) = false := by simp
 go_enter Tryz.func97, Tryz.ntmps97
 go_wp2
 go_ret
 exact ⟨rfl, rfl⟩
def cmpI (x y : Int) : Int := if x < y then -1 else if y < x then 1 else 0
theorem cmpCmp_c (x y : Int) : Calls Tryz.prog 62 #[.int .i64 x, .int .i64 y] w fun e w' => e = .returned (.int .i64 (cmpI x y)) ∧ w = w' := by
 by_cases h1 : x < y
 · have e : cmpI x y = -1 := by simp [cmpI, h1]
   rw [e]
   clear e
   go_enter Tryz.func62, Tryz.ntmps62
   go_wp2_with (go_at_call 97; refine (isNaN_c _ _).mono ?_; rintro e w' ⟨rfl, rfl⟩)
   go_ret
   exact ⟨rfl, rfl⟩
 · by_cases h2 : y < x
   · have e : cmpI x y = 1 := by simp [cmpI, h1, h2]
     rw [e]
     clear e
     go_enter Tryz.func62, Tryz.ntmps62
     go_wp2_with (go_at_call 97; refine (isNaN_c _ _).mono ?_; rintro e w' ⟨rfl, rfl⟩)
     go_ret
     exact ⟨rfl, rfl⟩
   · have e : cmpI x y = 0 := by simp [cmpI, h1, h2]
     rw [e]
     clear e
     go_enter Tryz.func62, Tryz.ntmps62
     go_wp2_with (go_at_call 97; refine (isNaN_c _ _).mono ?_; rintro e w' ⟨rfl, rfl⟩)
     go_ret
     exact ⟨rfl, rfl⟩
/-- cmp.Or of two numbers -/
def lorI (x y : Int) : Int := if x = 0 then y else x
def OrTo (w : World) (x y : Int) (e : Ending) (w' : World) : Prop := e = .returned (.int .i64 (lorI x y)) ∧ w = w'
theorem cmpOr_c (g : Nat) (x y : Int) (h0 : w.cell? ⟨g, 0, none⟩ = some (.int .i64 x)) (h1 : w.cell? ⟨g, 1, none⟩ = some (.int .i64 y)) : Calls Tryz.prog 91 #[.slice (some ⟨g, 0, none⟩) 2 2] w (OrTo w x y) := by
 go_enter Tryz.func91, Tryz.ntmps91
 go_wp2
 go_loopw [8] (fun i wr => ∃ k : Nat, k ≤ 2 ∧ i = .int .i64 (k : Int) ∧ (0 < k → x = 0) ∧ (1 < k → y = 0) ∧ wr = w) (fun i _ => 2 - (intOf i).toNat)
 case atStart => exact ⟨0, by omega, by go_num, by simp, by simp, rfl⟩
 case round =>
  obtain ⟨k, hk, rfl, hx, hy, rfl⟩ := hrel
  have HX := Lib.hid hx
  have HY := Lib.hid hy
  clear hx hy
  rcases (by omega : k = 0 ∨ k = 1 ∨ k = 2) with rfl | rfl | rfl
  · by_cases hb : (x != 0) = true
    · go_wp2
      go_ret
      refine ⟨ret_int ?_, rfl⟩
      unfold lorI
      rw [if_neg (by simpa using hb)]
    · have hb : (x != 0) = false := by simpa using hb
      go_wp2
      go_roundw
      case rel => exact ⟨1, by omega, by go_num, fun _ => by simpa using hb, by simp, trivial⟩
      case measure => simp [intOf]
  · by_cases hb : (y != 0) = true
    · go_wp2
      go_ret
      refine ⟨ret_int ?_, rfl⟩
      unfold lorI
      rw [if_pos (HX.out (by omega))]
    · have hb : (y != 0) = false := by simpa using hb
      go_wp2
      go_roundw
      case rel => exact ⟨2, by omega, by go_num, fun _ => HX.out (by omega), fun _ => by simpa using hb, trivial⟩
      case measure => simp [intOf]
  · go_wp2
    go_ret
    refine ⟨ret_int ?_, rfl⟩
    unfold lorI
    rw [if_pos (HX.out (by omega)), HY.out (by omega)]
def PairTo (w : World) (x y : Int) (e : Ending) (w' : World) : Prop := e = .returned (prV (Lnk.pair x y)) ∧ Only NoF w w'
theorem PairTo.of {w w' : World} {x y a b : Int} (h : min x y = a) (h2 : max x y = b) (ho : Only NoF w w') : PairTo w x y (.returned (.agg #[.int .i64 a, .int .i64 b])) w' := by
 subst h h2
 exact ⟨rfl, ho⟩
theorem npair_c (x y : Int) : Calls Tryz.prog 105 #[.int .i64 x, .int .i64 y] w (PairTo w x y) := by
 go_enter Tryz.func105, Tryz.ntmps105
 go_wp2
 all_goals
  refine bodyPost_ret (results_cell_row rfl _ _ w.heap.size 108 _ (0, 0) _ rfl (Blk.new w _ _) Tryz.underlying108 rfl (by kernel_rfl)) rfl ?_
  exact PairTo.of (by omega) (by omega) ((Only.refl _ _).alloc _)
def BoolTo (w : World) (b : Bool) (e : Ending) (w' : World) : Prop := e = .returned (.bool b) ∧ Only NoF w w'
theorem nright_c (m : Msg) : Calls Tryz.prog 73 #[msgV m] w (BoolTo w (Lnk.rightM m)) := by
 have hrt : (Lnk.houses m.a m.b && decide (m.t.length ≤ 20000)) = Lnk.rightM m := rfl
 have HR := Lib.hid hrt
 clear hrt
 cases hb : Lnk.houses m.a m.b with
 | true =>
  cases hc : decide (m.t.length ≤ 20000) with
  | true =>
   go_enter Tryz.func73, Tryz.ntmps73
   go_wp2_with (go_at_call 69; refine (nhouses_c _ _ _).mono ?_; rintro e w' ⟨rfl, rfl⟩)
   go_ret
   exact ⟨ret_bool (by rw [← HR.out, hb, hc]; first | (simp only [decide_eq_true_eq] at hc; simp; omega) | (simp only [decide_eq_false_iff_not] at hc; simp; omega)), by first | exact (Only.refl _ _).alloc _ | exact ((Only.refl _ _).alloc _).drew⟩
  | false =>
   go_enter Tryz.func73, Tryz.ntmps73
   go_wp2_with (go_at_call 69; refine (nhouses_c _ _ _).mono ?_; rintro e w' ⟨rfl, rfl⟩)
   go_ret
   exact ⟨ret_bool (by rw [← HR.out, hb, hc]; first | (simp only [decide_eq_true_eq] at hc; simp; omega) | (simp only [decide_eq_false_iff_not] at hc; simp; omega)), by first | exact (Only.refl _ _).alloc _ | exact ((Only.refl _ _).alloc _).drew⟩
 | false =>
  go_enter Tryz.func73, Tryz.ntmps73
  go_wp2_with (go_at_call 69; refine (nhouses_c _ _ _).mono ?_; rintro e w' ⟨rfl, rfl⟩)
  go_ret
  exact ⟨ret_bool (by rw [← HR.out, hb]; rfl), by first | exact (Only.refl _ _).alloc _ | exact ((Only.refl _ _).alloc _).drew⟩
theorem nRight1_c (m : Msg) : Calls Tryz.prog 72 #[msgV m] w (BoolTo w (!Lnk.rightM m)) := by
 go_enter Tryz.func72, Tryz.ntmps72
 go_wp2_with (go_at_call 73; refine (nright_c _ _).mono ?_; rintro e w' ⟨rfl, hO⟩)
 go_ret
 exact ⟨rfl, ((Only.refl _ _).alloc _).trans' hO⟩
def beforeI (p q : Pr) : Int := lorI (cmpI p.x q.x) (cmpI p.y q.y)
theorem cell3 (o1 o2 : Obj) (v1 v2 : Value) (t : TypeId) : (((w.alloc o1).alloc o2).alloc (.cells #[v1, v2] t)).drew.cell? ⟨w.heap.size + 1 + 1, 0, none⟩ = some v1 ∧ (((w.alloc o1).alloc o2).alloc (.cells #[v1, v2] t)).drew.cell? ⟨w.heap.size + 1 + 1, 1, none⟩ = some v2 := by
 have e : ((w.alloc o1).alloc o2).heap.size = w.heap.size + 1 + 1 := by simp
 have h := Blk.new ((w.alloc o1).alloc o2) t #[v1, v2]
 rw [e] at h
 exact ⟨(h.cell 0).trans rfl, (h.cell 1).trans rfl⟩
theorem nbefore_c (p q : Pr) : Calls Tryz.prog 70 #[prV p, prV q] w fun e w' => e = .returned (.int .i64 (beforeI p q)) ∧ Only NoF w w' := by
 have h3 := fun (o1 o2 : Obj) (v1 v2 : Value) (t : TypeId) => cell3 w o1 o2 v1 v2 t
 go_enter Tryz.func70, Tryz.ntmps70
 go_wp2
 go_region_held3 (fun w' => w'.cell? ⟨w.heap.size, 0, none⟩ = some (.int .i64 p.x) ∧ w'.cell? ⟨w.heap.size, 1, none⟩ = some (.int .i64 p.y) ∧ w'.cell? ⟨w.heap.size + 1, 0, none⟩ = some (.int .i64 q.x) ∧ w'.cell? ⟨w.heap.size + 1, 1, none⟩ = some (.int .i64 q.y))
  (go_keep)
  (first
   | (go_at_call 62; refine (cmpCmp_c _ _ _).mono ?_; rintro e w' ⟨rfl, rfl⟩)
   | (go_at_call 91; refine (cmpOr_c _ _ (cmpI p.x q.x) (cmpI p.y q.y) ((h3 _ _ _ _ _).1) ((h3 _ _ _ _ _).2)).mono ?_; rintro e w' ⟨rfl, rfl⟩))
 go_wp2
 go_ret
 exact ⟨rfl, ((((Only.refl _ _).alloc _).alloc _).alloc _).drew⟩
end
end
section
namespace Lnk
def cutsOk (l : List Pr) : Bool := l.all okCut && sorted l
theorem right_eq (a : Air) : right a = (cutsOk a.cs && decide (a.ms.length ≤ 1000) && a.ms.all rightM) := rfl
def OkAt (l : List Pr) (i : Nat) (h : i < l.length) : Prop := okCut l[i] = true ∧ (∀ j (hj : j < l.length), i = j + 1 → lt l[j] l[i] = true)
theorem sorted_at : ∀ {l : List Pr}, sorted l = true ↔ ∀ i (h : i + 1 < l.length), lt l[i] l[i + 1] = true
 | [] => by simp [sorted]
 | [_] => by simp [sorted]
 | p :: q :: l => by
  rw [sorted, Bool.and_eq_true, sorted_at (l := q :: l)]
  constructor
  · rintro ⟨h1, h2⟩ i hi
    cases i with
    | zero => exact h1
    | succ i => exact h2 i (by simpa using hi)
  · intro h
    exact ⟨h 0 (by simp), fun i hi => h (i + 1) (by simpa using hi)⟩
theorem cutsOk_iff {l : List Pr} : cutsOk l = true ↔ ∀ i (h : i < l.length), OkAt l i h := by
 unfold cutsOk
 rw [Bool.and_eq_true, sorted_at, List.all_eq_true]
 constructor
 · rintro ⟨h1, h2⟩ i hi
   refine ⟨h1 _ (List.getElem_mem hi), ?_⟩
   rintro j hj rfl
   exact h2 j hi
 · intro h
   refine ⟨fun c hc => ?_, fun i hi => (h (i + 1) hi).2 i (by omega) rfl⟩
   obtain ⟨i, hi, rfl⟩ := List.getElem_of_mem hc
   exact (h i hi).1
theorem cutsOk_bad {l : List Pr} {i : Nat} (h : i < l.length) (hb : ¬ OkAt l i h) : cutsOk l = false := by
 cases hc : cutsOk l with
 | false => rfl
 | true => exact absurd (cutsOk_iff.1 hc i h) hb
end Lnk
end
section
open Go.RowKit
section
variable {w : World} {v : Value}
def IdxTo (w : World) (b : Bool) (e : Ending) (w' : World) : Prop := ∃ i : Int, e = .returned (.int .i64 i) ∧ decide (0 ≤ i) = b ∧ Only NoF w w'
theorem idxFMsg_c {l : List Msg} (h : Msgs w v l) : Calls Tryz.prog 101 #[v, .func (.func 72) #[] #[]] w (IdxTo w (!(l.all Lnk.rightM))) := by
 obtain ⟨A, cap, rfl, h1, h2, hf⟩ := Msgs.form h
 have HF := Lib.hid hf
 clear hf h
 unfold maxLen at h2
 go_enter Tryz.func101, Tryz.ntmps101
 go_wp2
 go_loopw [8] (fun i wr => ∃ k : Nat, k ≤ l.length ∧ i = .int .i64 (k : Int) ∧ (∀ m ∈ l.take k, Lnk.rightM m = true) ∧ Only NoF w wr) (fun i _ => l.length - (intOf i).toNat)
 case atStart => exact ⟨0, by omega, by go_num, by simp, Only.refl _ _⟩
 case round =>
  obtain ⟨k, hk, rfl, hp, hO⟩ := hrel
  have HP := Lib.hid hp
  clear hp
  by_cases hlt : k < l.length
  · obtain ⟨b, off, rfl, _, hc⟩ := HF.out k hlt
    obtain ⟨c0, c1, c2⟩ := hc wr hO
    clear hc
    have HC := Lib.hid (nRight1_c wr l[k])
    cases hb : Lnk.rightM l[k] with
    | true =>
     rw [hb] at HC
     go_wp2_with (go_at_call 72; refine HC.out.mono ?_; rintro e w2 ⟨rfl, hO2⟩)
     go_roundw
     case rel =>
      refine ⟨k + 1, by omega, by go_num, fun p hm => ?_, hO.trans' hO2⟩
      rw [List.take_add_one, List.getElem?_eq_getElem hlt] at hm
      rcases List.mem_append.1 hm with hm | hm
      · exact HP.out p hm
      · simp at hm; rw [hm]; exact hb
     case measure => simp [intOf]; omega
    | false =>
     rw [hb] at HC
     go_wp2_with (go_at_call 72; refine HC.out.mono ?_; rintro e w2 ⟨rfl, hO2⟩)
     go_ret
     refine ⟨_, rfl, ?_, hO.trans' hO2⟩
     have e : l.all Lnk.rightM = false := by
      cases e : l.all Lnk.rightM with
      | false => rfl
      | true => rw [List.all_eq_true.1 e _ (List.getElem_mem hlt)] at hb; cases hb
     rw [e]
     simp
  · have hall := Lib.hid (show l.all Lnk.rightM = true from List.all_eq_true.2 (by have := HP.out; rwa [List.take_of_length_le (by omega)] at this))
    go_wp2
    go_ret
    exact ⟨_, rfl, by rw [hall.out]; rfl, hO⟩
theorem hasFMsg_c {l : List Msg} (h : Msgs w v l) : Calls Tryz.prog 71 #[v, .func (.func 72) #[] #[]] w (BoolTo w (!(l.all Lnk.rightM))) := by
 have H := Lib.hid (idxFMsg_c h)
 clear h
 go_enter Tryz.func71, Tryz.ntmps71
 go_wp2_with (go_at_call 101; refine H.out.mono ?_; rintro e w2 ⟨i, rfl, hi, hO2⟩)
 go_ret
 exact ⟨ret_bool (by simp), hO2⟩
theorem beforeI_lt (p q : Pr) : decide (0 ≤ beforeI p q) = !(Lnk.lt p q) := by
 rcases Int.lt_trichotomy p.x q.x with a | a | a <;> rcases Int.lt_trichotomy p.y q.y with b | b | b <;> simp [beforeI, lorI, cmpI, Lnk.lt, a, b] <;> first | omega | (intros; omega) | skip
 all_goals (repeat' split) <;> simp <;> omega
theorem quiet_left {P : Program} {f : FuncId} {args : Array Value} {w : World} {n : Nat} {v : Value}
 (h : Calls P f args (w.drewN n) fun e w' => e = .returned v ∧ w.drewN n = w') : Calls P f args (w.drewN n) fun e w'' => e = .returned v ∧ ∃ m, w'' = w.drewN m :=
 h.mono fun _ _ ⟨he, hm⟩ => ⟨he, n, hm.symm⟩
theorem quiet_add_left {P : Program} {f : FuncId} {args : Array Value} {w : World} {a n : Nat} {v : Value}
 (h : Calls P f args (w.drewN (a + n)) fun e w' => e = .returned v ∧ w.drewN (a + n) = w') :
 Calls P f args (w.drewN (a + n)) fun e w'' => e = .returned v ∧ ∃ m, w'' = w.drewN (a + m) :=
 h.mono fun _ _ ⟨he, hm⟩ => ⟨he, n, hm.symm⟩
theorem nhouses_of {x y : Int} {b : Bool} (h : Lnk.houses x y = b) (w : World) : Calls Tryz.prog 69 #[.int .i64 x, .int .i64 y] w fun e w' => e = .returned (.bool b) ∧ w = w' := by
 subst h
 exact nhouses_c w x y
theorem nRightA_c {a : Air} (h : AirV w v a) : Calls Tryz.prog 47 #[v] w (BoolTo w (Lnk.right a)) := by
 obtain ⟨v1, v2, rfl, hm, hc⟩ := h
 obtain ⟨A, cap, rfl, h1, h2, hf⟩ := Prs.form hc
 obtain ⟨Am, capm, rfl, h1m, h2m⟩ := SliceOf.shape hm
 have HF := Lib.hid hf
 have HM := Lib.hid hm
 clear hf hm hc
 unfold maxLen at h2 h2m
 go_enter Tryz.func47, Tryz.ntmps47
 go_wp2
 go_loopw [8] (fun i wr => ∃ k : Nat, k ≤ a.cs.length ∧ i = .int .i64 (k : Int) ∧ (∀ i (h : i < a.cs.length), i < k → Lnk.OkAt a.cs i h) ∧ Only NoF w wr ∧ Blk wr w.heap.size 49 #[.slice Am a.ms.length capm, .slice A a.cs.length cap]) (fun i _ => a.cs.length - (intOf i).toNat)
 case atStart => exact ⟨0, by omega, by go_num, by simp, (Only.refl _ _).alloc _, Blk.new w _ _⟩
 case round =>
  obtain ⟨k, hk, rfl, hp, hO, hK⟩ := hrel
  have HP := Lib.hid hp
  have k0 := hK.cell 0
  have k1 := hK.cell 1
  have HK := Lib.hid hK
  have hlK := hK.lt
  clear hp hK
  by_cases hlt : k < a.cs.length
  · obtain ⟨b, off, rfl, _, _, hc⟩ := HF.out k hlt
    obtain ⟨c0, c1⟩ := hc wr hO
    clear hc
    cases hb : Lnk.houses a.cs[k].x a.cs[k].y with
    | false =>
     have HH := Lib.hid (nhouses_of hb)
     go_wp2_with fail
     go_quiet ((go_at_call 69; first | with_reducible exact quiet_left (HH.out _) | with_reducible exact quiet_add_left (HH.out _)))
     go_wp2
     go_ret
     refine ⟨ret_bool ?_, (hO.alloc _).drewN _⟩
     rw [Lnk.right_eq, Lnk.cutsOk_bad hlt]
     · rfl
     · rintro ⟨h, _⟩
       simp [Lnk.okCut, hb] at h
    | true =>
     have HH := Lib.hid (nhouses_of hb)
     cases hg : decide (a.cs[k].y < a.cs[k].x) with
     | true =>
      go_wp2_with fail
      go_quiet ((go_at_call 69; first | with_reducible exact quiet_left (HH.out _) | with_reducible exact quiet_add_left (HH.out _)))
      go_wp2
      go_ret
      refine ⟨ret_bool ?_, (hO.alloc _).drewN _⟩
      rw [Lnk.right_eq, Lnk.cutsOk_bad hlt]
      · rfl
      · rintro ⟨h, _⟩
        simp only [Lnk.okCut, Bool.and_eq_true, decide_eq_true_eq] at h hg
        omega
     | false =>
      have hok : Lnk.okCut a.cs[k] = true := by
       simp only [Lnk.okCut, Bool.and_eq_true, decide_eq_true_eq, decide_eq_false_iff_not] at hg ⊢
       exact ⟨hb, by omega⟩
      have HOK := Lib.hid hok
      clear hok
      rcases Nat.eq_zero_or_pos k with rfl | hk0
      · simp only [Nat.zero_mul, Nat.add_zero] at c0 c1
        go_wp2_with fail
        go_quiet ((go_at_call 69; first | with_reducible exact quiet_left (HH.out _) | with_reducible exact quiet_add_left (HH.out _)))
        go_wp2
        go_roundw
        case rel =>
         refine ⟨1, by omega, by go_num, fun i hi h1 => ?_, (hO.alloc _).drewN _, (HK.out.alloc _).drewN _⟩
         obtain rfl : i = 0 := by omega
         exact ⟨HOK.out, fun j hj h => by omega⟩
        case measure => simp [intOf]; omega
      · obtain ⟨j, rfl⟩ : ∃ j, k = j + 1 := ⟨k - 1, by omega⟩
        obtain ⟨_, _, heq, _, _, hc⟩ := HF.out j (by omega)
        simp only [Option.some.injEq, Addr.mk.injEq, and_true] at heq
        obtain ⟨rfl, rfl⟩ := heq
        obtain ⟨e0, e1⟩ := hc wr hO
        have ks : ∀ w', Only NoF ((wr.alloc (.cells #[.int .i64 a.cs[j + 1].x, .int .i64 a.cs[j + 1].y] 108)).drew) w' → w'.cell? ⟨wr.heap.size, 0, none⟩ = some (.int .i64 a.cs[j + 1].x) ∧ w'.cell? ⟨wr.heap.size, 1, none⟩ = some (.int .i64 a.cs[j + 1].y) ∧ w'.cell? ⟨w.heap.size, 1, none⟩ = some (.slice (some ⟨b, off, none⟩) a.cs.length cap) ∧ w'.cell? ⟨b, off + j * 2, none⟩ = some (.int .i64 a.cs[j].x) ∧ w'.cell? ⟨b, off + j * 2 + 1, none⟩ = some (.int .i64 a.cs[j].y) := fun w' h => by
         have hn := (Blk.new wr 108 #[.int .i64 a.cs[j + 1].x, .int .i64 a.cs[j + 1].y]).drew.only h (fun h => h)
         have hq := ((HK.out.alloc (.cells #[.int .i64 a.cs[j + 1].x, .int .i64 a.cs[j + 1].y] 108)).drew.only h (fun h => h)).cell 1
         obtain ⟨z0, z1⟩ := hc w' ((hO.alloc (.cells #[.int .i64 a.cs[j + 1].x, .int .i64 a.cs[j + 1].y] 108)).drew.trans' h)
         exact ⟨(hn.cell 0).trans rfl, (hn.cell 1).trans rfl, hq.trans rfl, z0, z1⟩
        have KS := Lib.hid ks
        clear hc ks
        have hbf := beforeI_lt a.cs[j] a.cs[j + 1]
        have h33 : IntKind.i64.wrap (((j + 1 : Nat) : Int) - 1) = (j : Int) := by rw [IntWalk.i64_in _ (by omega)]; omega
        have h34 : IntKind.i64.wrap ((j : Int) + 1 - 1) = (j : Int) := by rw [IntWalk.i64_in _ (by omega)]; omega
        have h39 : IntKind.i64.wrap (j : Int) = (j : Int) := by rw [IntWalk.i64_in _ (by omega)]
        have h35 : (0 : Int) ≤ (j : Int) := by omega
        have h36 : (j : Int) < (a.cs.length : Int) := by omega
        have h37 : (j : Int).toNat = j := by omega
        have h38 : (0 : Int) < ((j + 1 : Nat) : Int) := by omega
        cases hl : Lnk.lt a.cs[j] a.cs[j + 1] <;> rw [hl] at hbf
        · have HL := Lib.hid hl
          clear hl
          go_wp2_with fail
          go_region_held3 (fun w' => w'.cell? ⟨wr.heap.size, 0, none⟩ = some (.int .i64 a.cs[j + 1].x) ∧ w'.cell? ⟨wr.heap.size, 1, none⟩ = some (.int .i64 a.cs[j + 1].y) ∧ w'.cell? ⟨w.heap.size, 1, none⟩ = some (.slice (some ⟨b, off, none⟩) a.cs.length cap) ∧ w'.cell? ⟨b, off + j * 2, none⟩ = some (.int .i64 a.cs[j].x) ∧ w'.cell? ⟨b, off + j * 2 + 1, none⟩ = some (.int .i64 a.cs[j].y))
           (first | go_keep | exact K2.out)
           (first
            | (go_at_call 69; refine (HH.out _).mono ?_; rintro e w' ⟨rfl, rfl⟩)
            | (go_at_call 70; refine (nbefore_c _ _ _).mono ?_; rintro e w2 ⟨rfl, hO2⟩; have K2 := Lib.hid (KS.out _ hO2)))
          go_wp2
          go_ret
          refine ⟨ret_bool ?_, (hO.alloc _).drew.trans' hO2⟩
          rw [Lnk.right_eq, Lnk.cutsOk_bad hlt]
          · rfl
          · rintro ⟨_, h⟩
            rw [h j (by omega) rfl] at HL
            exact absurd HL.out (by decide)
        · have HL := Lib.hid hl
          clear hl
          go_wp2_with fail
          go_region_held3 (fun w' => w'.cell? ⟨wr.heap.size, 0, none⟩ = some (.int .i64 a.cs[j + 1].x) ∧ w'.cell? ⟨wr.heap.size, 1, none⟩ = some (.int .i64 a.cs[j + 1].y) ∧ w'.cell? ⟨w.heap.size, 1, none⟩ = some (.slice (some ⟨b, off, none⟩) a.cs.length cap) ∧ w'.cell? ⟨b, off + j * 2, none⟩ = some (.int .i64 a.cs[j].x) ∧ w'.cell? ⟨b, off + j * 2 + 1, none⟩ = some (.int .i64 a.cs[j].y))
           (first | go_keep | exact K2.out)
           (first
            | (go_at_call 69; refine (HH.out _).mono ?_; rintro e w' ⟨rfl, rfl⟩)
            | (go_at_call 70; refine (nbefore_c _ _ _).mono ?_; rintro e w2 ⟨rfl, hO2⟩; have K2 := Lib.hid (KS.out _ hO2)))
          clear h33 h34 h39 h35 h36 h37 h38
          go_wp2
          go_roundw
          case rel =>
           refine ⟨j + 1 + 1, by omega, by go_num, fun i hi h1 => ?_, (hO.alloc _).drew.trans' hO2, ((HK.out.alloc _).drew).only hO2 fun h => h⟩
           rcases (by omega : i < j + 1 ∨ i = j + 1) with hi' | rfl
           · exact HP.out i hi hi'
           · refine ⟨HOK.out, fun j' hj h => ?_⟩
             obtain rfl : j' = j := by omega
             exact HL.out
          case measure => simp [intOf]; omega
  · obtain rfl : k = a.cs.length := by omega
    have hall := Lib.hid (show Lnk.cutsOk a.cs = true from Lnk.cutsOk_iff.2 fun i h => HP.out i h h)
    have HA := Lib.hid (hasFMsg_c (Msgs.keep HM.out hO))
    by_cases hm : (a.ms.length : Int) ≤ 1000
    · have HM2 := Lib.hid (show decide (a.ms.length ≤ 1000) = true from decide_eq_true (by omega))
      go_wp2_with (go_at_call 71; refine HA.out.mono ?_; rintro e w2 ⟨rfl, hO2⟩)
      go_ret
      exact ⟨ret_bool (by rw [Lnk.right_eq, hall.out, HM2.out]; simp), hO.trans' hO2⟩
    · have HM2 := Lib.hid (show decide (a.ms.length ≤ 1000) = false from decide_eq_false (by omega))
      go_wp2_with (go_at_call 71; refine HA.out.mono ?_; rintro e w2 ⟨rfl, hO2⟩)
      go_ret
      exact ⟨ret_bool (by rw [Lnk.right_eq, hall.out, HM2.out]; rfl), hO⟩
end
end
section
open Go.RowKit
/-- a row of its own with these cells -/
def CloneRow (t : TypeId) (size n : Nat) (xs : List Value) (W : World) (e : Ending) (w' : World) : Prop :=
 ∃ A' c', e = .returned (.slice A' n c') ∧ Only NoF W w' ∧ w'.ownsRow W.heap.size t size (.slice A' n c') n xs
theorem lcloneMsg_c (w : World) (S : Nat → Prop) (A : Option Addr) (n cap : Nat) (xs : List Value) (hr : Reads w S 3 A n xs) (h1 : ∀ u ∈ xs, u.oneCell' = true) (hn : n ≤ 100000000) :
 Calls Tryz.prog 74 #[.slice A n cap] w (CloneRow 90 3 n xs w) := by
 cases A with
 | none =>
  have he := fun W : World => Lib.run_eql_slice_nil (P := Tryz.prog) W 46 90 none n cap 0 0 Tryz.underlying46
  have h0 : n = 0 := by
   rcases Nat.eq_zero_or_pos n with h0 | h0
   · exact h0
   · obtain ⟨ad, h, _⟩ := hr.2 h0
     cases h
  subst h0
  obtain rfl : xs = [] := List.eq_nil_of_length_eq_zero (by simpa using hr.1)
  clear hr h1
  go_enter Tryz.func74, Tryz.ntmps74
  go_wp2
  go_ret
  exact ⟨_, _, rfl, Only.refl _ _, World.ownsRow_nil _ _ _ _⟩
 | some ad =>
  have he := fun W : World => Lib.run_eql_slice_nil (P := Tryz.prog) W 46 90 (some ad) n cap 0 0 Tryz.underlying46
  obtain ⟨i, hi, hz0, hz1, hz2⟩ := info_parts info_Msg
  have hr' : Reads (w.alloc (.cells #[] 90)) S 3 (some ad) n xs := hr.keep (by simp) fun p _ hp => World.cell?_alloc_lt w _ p hp
  have hown := World.ownsRow_made (base := w.heap.size) (e := 90) (size := 3) w #[] 0 (Nat.le_refl _) (Nat.zero_le _) rfl
  go_enter Tryz.func74, Tryz.ntmps74
  go_wp2_with (at_builtin; refine wpList_append_any _ rfl _ _ _ rfl w.heap.size 90 i _ 3 32 Tryz.underlying46 hi hz0 hz1 hz2 rfl (by decide) (.slice (some ⟨w.heap.size, 0, none⟩) 0 0) 0 [] rfl hown S (some ad) n cap xs rfl hr' h1 (by unfold maxLen; omega) (by omega) (by simp) ?_; intro v' w1 hown1 hgrow _)
  go_ret
  simp only [Nat.zero_add, List.nil_append] at hown1
  obtain ⟨A', c', e1, _⟩ := Reads.of_own hown1
  refine ⟨A', c', by rw [← e1]; rfl, ((Only.refl _ _).alloc _).grown hgrow fun k hk => .inr ?_, ?_⟩
  · simp [Value.ownBlock] at hk
    omega
  · rw [← e1]; exact hown1
theorem lclonePr_c (w : World) (S : Nat → Prop) (A : Option Addr) (n cap : Nat) (xs : List Value) (hr : Reads w S 2 A n xs) (h1 : ∀ u ∈ xs, u.oneCell' = true) (hn : n ≤ 100000000) :
 Calls Tryz.prog 75 #[.slice A n cap] w (CloneRow 108 2 n xs w) := by
 cases A with
 | none =>
  have he := fun W : World => Lib.run_eql_slice_nil (P := Tryz.prog) W 47 108 none n cap 0 0 Tryz.underlying47
  have h0 : n = 0 := by
   rcases Nat.eq_zero_or_pos n with h0 | h0
   · exact h0
   · obtain ⟨ad, h, _⟩ := hr.2 h0
     cases h
  subst h0
  obtain rfl : xs = [] := List.eq_nil_of_length_eq_zero (by simpa using hr.1)
  clear hr h1
  go_enter Tryz.func75, Tryz.ntmps75
  go_wp2
  go_ret
  exact ⟨_, _, rfl, Only.refl _ _, World.ownsRow_nil _ _ _ _⟩
 | some ad =>
  have he := fun W : World => Lib.run_eql_slice_nil (P := Tryz.prog) W 47 108 (some ad) n cap 0 0 Tryz.underlying47
  obtain ⟨i, hi, hz0, hz1, hz2⟩ := info_parts info_Pr
  have hr' : Reads (w.alloc (.cells #[] 108)) S 2 (some ad) n xs := hr.keep (by simp) fun p _ hp => World.cell?_alloc_lt w _ p hp
  have hown := World.ownsRow_made (base := w.heap.size) (e := 108) (size := 2) w #[] 0 (Nat.le_refl _) (Nat.zero_le _) rfl
  go_enter Tryz.func75, Tryz.ntmps75
  go_wp2_with (at_builtin; refine wpList_append_any _ rfl _ _ _ rfl w.heap.size 108 i _ 2 16 Tryz.underlying47 hi hz0 hz1 hz2 rfl (by decide) (.slice (some ⟨w.heap.size, 0, none⟩) 0 0) 0 [] rfl hown S (some ad) n cap xs rfl hr' h1 (by unfold maxLen; omega) (by omega) (by simp) ?_; intro v' w1 hown1 hgrow _)
  go_ret
  simp only [Nat.zero_add, List.nil_append] at hown1
  obtain ⟨A', c', e1, _⟩ := Reads.of_own hown1
  refine ⟨A', c', by rw [← e1]; rfl, ((Only.refl _ _).alloc _).grown hgrow fun k hk => .inr ?_, ?_⟩
  · simp [Value.ownBlock] at hk
    omega
  · rw [← e1]; exact hown1
def Few_ (a : Air) : Prop := a.ms.length ≤ 1000000 ∧ a.cs.length ≤ 1000000
/-- an Air whose rows are its own -/
def OwnAir (base : Nat) (w' : World) (v : Value) (a : Air) : Prop :=
 ∃ v1 v2, v = .agg #[v1, v2] ∧ w'.ownsRow base 90 3 v1 a.ms.length (msgCells a.ms) ∧ w'.ownsRow base 108 2 v2 a.cs.length (prCells a.cs)
def LCloneTo (w : World) (a : Air) (e : Ending) (w' : World) : Prop := ∃ v, e = .returned v ∧ OwnAir w.heap.size w' v a ∧ Only NoF w w'
theorem own_only {w w' : World} {F : Nat → Prop} {base : Nat} {e : TypeId} {size n : Nat} {v : Value} {xs : List Value} (h : w.ownsRow base e size v n xs) (ho : Only F w w') (hF : ∀ k, v.ownBlock = some k → ¬ F k) : w'.ownsRow base e size v n xs := by
 obtain ⟨h1, h2⟩ := h
 refine ⟨h1, ?_⟩
 rcases h2 with h2 | ⟨g, cap, cur, hv, hg, hh, r⟩
 · exact .inl h2
 · exact .inr ⟨g, cap, cur, hv, hg, by rw [ho.block g (heap_lt hh) (hF g (by rw [hv]; rfl))]; exact hh, r⟩
theorem own_keep {w w' : World} {base : Nat} {e : TypeId} {size n : Nat} {v : Value} {xs : List Value} (h : w.ownsRow base e size v n xs) (ho : Only NoF w w') : w'.ownsRow base e size v n xs := own_only h ho fun _ _ h => h
theorem OwnAir.keep {base : Nat} {w w' : World} {v : Value} {a : Air} (h : OwnAir base w v a) (ho : Only NoF w w') : OwnAir base w' v a := by
 obtain ⟨v1, v2, e, h1, h2⟩ := h
 exact ⟨v1, v2, e, own_keep h1 ho, own_keep h2 ho⟩
theorem OwnAir.set_ {base : Nat} {w : World} {v : Value} {a : Air} (h : OwnAir base w v a) {p : Addr} (hp : p.block < base) (u : Value) : OwnAir base (w.setCell p u) v a := by
 obtain ⟨v1, v2, e, h1, h2⟩ := h
 exact ⟨v1, v2, e, ownsRow_setCell_below h1 hp u, ownsRow_setCell_below h2 hp u⟩
theorem OwnAir.low {base base' : Nat} {w : World} {v : Value} {a : Air} (h : OwnAir base w v a) (hb : base' ≤ base) : OwnAir base' w v a := by
 obtain ⟨v1, v2, e, h1, h2⟩ := h
 exact ⟨v1, v2, e, own_base h1 hb, own_base h2 hb⟩
theorem OwnAir.air {base : Nat} {w : World} {v : Value} {a : Air} (h : OwnAir base w v a) (hm : ∀ m ∈ a.ms, MsgOk m) (hc : ∀ p ∈ a.cs, I64 p.x ∧ I64 p.y) : AirV w v a := by
 obtain ⟨v1, v2, e, h1, h2⟩ := h
 exact ⟨v1, v2, e, Msgs.own h1 rfl hm, Prs.own h2 rfl hc⟩
theorem AirV.oks {w : World} {v : Value} {a : Air} (h : AirV w v a) : (∀ m ∈ a.ms, MsgOk m) ∧ ∀ p ∈ a.cs, I64 p.x ∧ I64 p.y := by
 obtain ⟨v1, v2, e, h1, h2⟩ := h
 exact ⟨Msgs.oks h1, Prs.oks h2⟩
theorem Blk.new2 (w : World) (o : Obj) (t : TypeId) (cs : Array Value) : Blk ((w.alloc o).alloc (.cells cs t)) (w.heap.size + 1) t cs := by
 have h := Blk.new (w.alloc o) t cs
 have e : (w.alloc o).heap.size = w.heap.size + 1 := by simp
 rwa [e] at h
section
variable {w : World} {v : Value}
theorem nclone_c {a : Air} (h : AirV w v a) (hf : Few_ a) : Calls Tryz.prog 48 #[v] w (LCloneTo w a) := by
 obtain ⟨v1, v2, rfl, hm, hc⟩ := h
 obtain ⟨A1, c1, rfl, m1, m2, hr1⟩ := Msgs.cells hm
 obtain ⟨A2, c2, rfl, n1, n2, hr2⟩ := Prs.cells hc
 clear hm hc
 obtain ⟨f1, f2⟩ := hf
 have HC1 := Lib.hid (fun (W : World) (hW : Only NoF w W) => lcloneMsg_c W AllB A1 a.ms.length c1 (msgCells a.ms) (hr1.only hW fun _ _ h => h) (msgCells_one _) (by omega))
 have HC2 := Lib.hid (fun (W : World) (hW : Only NoF w W) => lclonePr_c W AllB A2 a.cs.length c2 (prCells a.cs) (hr2.only hW fun _ _ h => h) (prCells_one _) (by omega))
 clear hr1 hr2
 have hks : ∀ W, Only NoF (((w.alloc (.cells #[.slice A1 a.ms.length c1, .slice A2 a.cs.length c2] 49)).alloc (.cells #[.slice none 0 0, .slice none 0 0] 49)).drew) W → Only NoF w W ∧ W.cell? ⟨w.heap.size, 0, none⟩ = some (.slice A1 a.ms.length c1) ∧ W.cell? ⟨w.heap.size, 1, none⟩ = some (.slice A2 a.cs.length c2) := fun W h => by
  have hn := ((Blk.new w 49 #[.slice A1 a.ms.length c1, .slice A2 a.cs.length c2]).alloc (.cells #[.slice none 0 0, .slice none 0 0] 49)).drew.only h (fun h => h)
  exact ⟨((((Only.refl _ w).alloc _).alloc _).drew).trans' h, (hn.cell 0).trans rfl, (hn.cell 1).trans rfl⟩
 have hts : ∀ W, Only NoF (((w.alloc (.cells #[.slice A1 a.ms.length c1, .slice A2 a.cs.length c2] 49)).alloc (.cells #[.slice none 0 0, .slice none 0 0] 49)).drew) W → Blk W (w.heap.size + 1) 49 #[.slice none 0 0, .slice none 0 0] := fun W h =>
  (Blk.new2 w _ _ _).drew.only h fun h => h
 have HKS := Lib.hid hks
 have HTS := Lib.hid hts
 clear hks hts
 go_enter Tryz.func48, Tryz.ntmps48
 go_wp2_with fail
 go_region_held3 (fun w' => w'.cell? ⟨w.heap.size, 0, none⟩ = some (.slice A1 a.ms.length c1) ∧ w'.cell? ⟨w.heap.size, 1, none⟩ = some (.slice A2 a.cs.length c2))
  (first | go_keep | exact K2.out | exact K3.out)
  (first
   | (go_at_call 74; refine (HC1.out _ (HKS.out _ (Only.refl _ _)).1).mono ?_; rintro e w2 ⟨B1, d1, rfl, o1, r1⟩; have K2 := Lib.hid (HKS.out _ o1).2; have O1 := Lib.hid o1; have R1 := Lib.hid r1; clear o1 r1)
   | (go_at_call 75; refine (HC2.out _ (HKS.out _ O1.out).1).mono ?_; rintro e w3 ⟨B2, d2, rfl, o2, r2⟩; have K3 := Lib.hid (HKS.out _ (O1.out.trans' o2)).2; have T2 := Lib.hid (HTS.out _ (O1.out.trans' o2)); have t0 := T2.out.cell 0; have t1 := T2.out.cell 1; have z0 := T2.out.frozen 0; have z1 := T2.out.frozen 1; have O2 := Lib.hid o2; have R2 := Lib.hid r2; clear o2 r2))
 go_wp2
 refine bodyPost_ret (results_cell_row rfl _ _ (w.heap.size + 1) 49 #[.slice B1 a.ms.length d1, .slice B2 a.cs.length d2] (0, 0) _ rfl ?_ Tryz.underlying49 rfl (by kernel_rfl)) rfl ?_
 · have := (T2.out.set_ 0 (.slice B1 a.ms.length d1)).set_ 1 (.slice B2 a.cs.length d2)
   exact this
 · have hs : w.heap.size + 2 ≤ ((w.alloc (.cells #[.slice A1 a.ms.length c1, .slice A2 a.cs.length c2] 49)).alloc (.cells #[.slice none 0 0, .slice none 0 0] 49)).drew.heap.size := by
    simp [World.drew]
   have hs2 := O1.out.size
   refine ⟨_, rfl, OwnAir.low (base := w.heap.size + 2) (OwnAir.set_ (OwnAir.set_ ⟨_, _, rfl, own_base (own_keep R1.out O2.out) hs, own_base R2.out (by omega)⟩ (by simp) _) (by simp) _) (by omega), ?_⟩
   exact (((((((Only.refl NoF w).alloc _).alloc _).drew).trans' O1.out).trans' O2.out).setCell (.inr (by simp)) _).setCell (.inr (by simp)) _
end
end
section
open Go.RowKit
theorem reads_made (w : World) (t : TypeId) (size n : Nat) (cs : List Value) (hl : cs.length = n * size) : Reads (w.alloc (.cells cs.toArray t)) (fun k => k = w.heap.size) size (some ⟨w.heap.size, 0, none⟩) n cs := by
 refine ⟨hl, fun _ => ⟨_, rfl, rfl, by simp, fun j u hu => ?_⟩⟩
 rw [Addr.add_lit, (Blk.new w t cs.toArray).cell]
 simpa using hu
theorem reads_made2 (w : World) (o : Obj) (t : TypeId) (size n : Nat) (cs : List Value) (hl : cs.length = n * size) : Reads ((w.alloc o).alloc (.cells cs.toArray t)) (fun k => k = w.heap.size + 1) size (some ⟨w.heap.size + 1, 0, none⟩) n cs := by
 have h := reads_made (w.alloc o) t size n cs hl
 have e : (w.alloc o).heap.size = w.heap.size + 1 := by simp
 rwa [e] at h
theorem own_grown {w w' : World} {row : Option Nat} {base : Nat} {e : TypeId} {size n : Nat} {v : Value} {xs : List Value} (h : w.ownsRow base e size v n xs) (hg : w.grownBy w' row) (hF : ∀ k, v.ownBlock = some k → some k ≠ row) : w'.ownsRow base e size v n xs := by
 obtain ⟨h1, h2⟩ := h
 refine ⟨h1, ?_⟩
 rcases h2 with h2 | ⟨g, cap, cur, hv, hg', hh, r⟩
 · exact .inl h2
 · exact .inr ⟨g, cap, cur, hv, hg', by rw [hg.block g (heap_lt hh) (hF g (by rw [hv]; rfl))]; exact hh, r⟩
theorem own_ne {w : World} {base base' : Nat} {e e' : TypeId} {size size' n n' : Nat} {v v' : Value} {xs xs' : List Value} (h : w.ownsRow base e size v n xs) (h' : w.ownsRow base' e' size' v' n' xs') (he : e ≠ e') : ∀ k, v.ownBlock = some k → some k ≠ v'.ownBlock := by
 intro k hk hk'
 rcases h.2 with ⟨h2, _⟩ | ⟨g, cap, cur, rfl, _, hh, _⟩
 · rw [h2] at hk; cases hk
 · rcases h'.2 with ⟨h2, _⟩ | ⟨g', cap', cur', rfl, _, hh', _⟩
   · rw [h2] at hk'; cases hk'
   · obtain rfl : g = k := by simpa [Value.ownBlock] using hk
     obtain rfl : g = g' := by simpa [Value.ownBlock] using hk'
     rw [hh] at hh'
     simp at hh'
     exact he hh'.2
theorem own_blk_ne {w : World} {base g : Nat} {e t : TypeId} {size n : Nat} {v : Value} {xs : List Value} {cs : Array Value} (h : w.ownsRow base e size v n xs) (hb : Blk w g t cs) (he : e ≠ t) : v.ownBlock ≠ some g := by
 intro hk
 rcases h.2 with ⟨h2, _⟩ | ⟨g', cap, cur, rfl, _, hh, _⟩
 · rw [h2] at hk; cases hk
 · obtain rfl : g' = g := by simpa [Value.ownBlock] using hk
   have hb' := hh.symm.trans hb
   simp at hb'
   exact he hb'.2
section
variable {P : Program}
theorem results_row_tmp {fn : Func} {p u : Tmp} {ty : TypeId} (h : fn.results = #[.cell p ty, .tmp u]) (tmps : Array Value) (w : World) (g : Nat) (t : TypeId) (cs : Array Value) (fr : Nat × Nat) (d : TypeDesc)
 (hp : tmps.getD p undef = .pointer (some ⟨g, 0, none⟩)) (hg : w.heap[g]? = some (.cells cs t fr))
 (hu : P.underlying ty = some d) (hd : (match d with | .struct _ | .array _ _ => true | _ => false) = true) (hi : (P.info? ty).map (·.size) = some cs.size) :
 (results fn tmps).run P w = .ok (.tuple #[.agg cs, tmps.getD u undef]) w := by
 have hp' : tmps[p]?.getD undef = .pointer (some ⟨g, 0, none⟩) := by simpa using hp
 simp [results, h, hp', asAddr, Sem.run_bind, run_loadVar_row w g t ty cs fr d hg hu hd hi]
theorem results_row_row_tmp {fn : Func} {p q u : Tmp} {ty ty2 : TypeId} (h : fn.results = #[.cell p ty, .cell q ty2, .tmp u]) (tmps : Array Value) (w : World) (g g2 : Nat) (t t2 : TypeId) (cs cs2 : Array Value) (fr fr2 : Nat × Nat) (d d2 : TypeDesc)
 (hp : tmps.getD p undef = .pointer (some ⟨g, 0, none⟩)) (hg : w.heap[g]? = some (.cells cs t fr))
 (hu : P.underlying ty = some d) (hd : (match d with | .struct _ | .array _ _ => true | _ => false) = true) (hi : (P.info? ty).map (·.size) = some cs.size)
 (hp2 : tmps.getD q undef = .pointer (some ⟨g2, 0, none⟩)) (hg2 : w.heap[g2]? = some (.cells cs2 t2 fr2))
 (hu2 : P.underlying ty2 = some d2) (hd2 : (match d2 with | .struct _ | .array _ _ => true | _ => false) = true) (hi2 : (P.info? ty2).map (·.size) = some cs2.size) :
 (results fn tmps).run P w = .ok (.tuple #[.agg cs, .agg cs2, tmps.getD u undef]) w := by
 have hp' : tmps[p]?.getD undef = .pointer (some ⟨g, 0, none⟩) := by simpa using hp
 have hp2' : tmps[q]?.getD undef = .pointer (some ⟨g2, 0, none⟩) := by simpa using hp2
 simp [results, h, hp', hp2', asAddr, Sem.run_bind, run_loadVar_row w g t ty cs fr d hg hu hd hi, run_loadVar_row w g2 t2 ty2 cs2 fr2 d2 hg2 hu2 hd2 hi2]
theorem results_row_tmp2 {fn : Func} {p u x : Tmp} {ty : TypeId} (h : fn.results = #[.cell p ty, .tmp u, .tmp x]) (tmps : Array Value) (w : World) (g : Nat) (t : TypeId) (cs : Array Value) (fr : Nat × Nat) (d : TypeDesc)
 (hp : tmps.getD p undef = .pointer (some ⟨g, 0, none⟩)) (hg : w.heap[g]? = some (.cells cs t fr))
 (hu : P.underlying ty = some d) (hd : (match d with | .struct _ | .array _ _ => true | _ => false) = true) (hi : (P.info? ty).map (·.size) = some cs.size) :
 (results fn tmps).run P w = .ok (.tuple #[.agg cs, tmps.getD u undef, tmps.getD x undef]) w := by
 have hp' : tmps[p]?.getD undef = .pointer (some ⟨g, 0, none⟩) := by simpa using hp
 simp [results, h, hp', asAddr, Sem.run_bind, run_loadVar_row w g t ty cs fr d hg hu hd hi]
end
theorem Blk.new3 (w : World) (o o2 : Obj) (t : TypeId) (cs : Array Value) : Blk (((w.alloc o).alloc o2).alloc (.cells cs t)) (w.heap.size + 1 + 1) t cs := by
 have h := Blk.new2 (w.alloc o) o2 t cs
 have e : (w.alloc o).heap.size + 1 = w.heap.size + 1 + 1 := by simp
 rwa [e] at h
def AirOk (a : Air) : Prop := (∀ m ∈ a.ms, MsgOk m) ∧ ∀ p ∈ a.cs, I64 p.x ∧ I64 p.y
def AirTo (w : World) (r : Air × Int) (e : Ending) (w' : World) : Prop := ∃ v', e = .returned (.tuple #[v', .int .i64 r.2]) ∧ OwnAir w.heap.size w' v' r.1 ∧ AirOk r.1 ∧ Only NoF w w'
theorem ownNone (base : Nat) (w : World) : OwnAir base w (.agg #[.slice none 0 0, .slice none 0 0]) Lnk.none_ := ⟨_, _, rfl, World.ownsRow_nil _ _ _ _, World.ownsRow_nil _ _ _ _⟩
theorem okNone : AirOk Lnk.none_ := ⟨(fun m h => by cases h), (fun m h => by cases h)⟩
section
variable {w : World} {v : Value}
theorem nwith_c {a : Air} (h : AirV w v a) (hf : Few_ a) {m : Msg} (hm : MsgOk m) : Calls Tryz.prog 102 #[v, msgV m] w (AirTo w (Lnk.with_ a m)) := by
 have H := Lib.hid h
 have HO := Lib.hid (AirV.oks h)
 obtain ⟨v1, v2, rfl, hm0, hc0⟩ := h
 obtain ⟨A1, c1, rfl, m1, m2⟩ := SliceOf.shape hm0
 obtain ⟨A2, c2, rfl, n1, n2⟩ := SliceOf.shape hc0
 have HM := Lib.hid hm
 clear hm0 hc0 hm
 unfold maxLen at m2 n2
 by_cases hl : (1000 : Int) ≤ (a.ms.length : Int)
 · have e : Lnk.with_ a m = (Lnk.none_, 6) := by unfold Lnk.with_; rw [if_pos (by omega)]
   rw [e]
   clear e
   go_enter Tryz.func102, Tryz.ntmps102
   go_wp2
   refine bodyPost_ret (results_row_tmp rfl _ _ (w.heap.size + 1 + 1) 49 #[.slice none 0 0, .slice none 0 0] (0, 0) _ rfl ?_ Tryz.underlying49 rfl (by kernel_rfl)) rfl ?_
   · exact Blk.new3 w (.cells #[.slice A1 a.ms.length c1, .slice A2 a.cs.length c2] 49) (.cells #[.int .i64 m.a, .int .i64 m.b, strV m.t] 90) 49 #[.slice none 0 0, .slice none 0 0]
   · exact ⟨_, rfl, ownNone _ _, okNone, ((((Only.refl NoF w).alloc _).alloc _).alloc _)⟩
 · have e : Lnk.with_ a m = ({ a with ms := a.ms ++ [m] }, 0) := by unfold Lnk.with_; rw [if_neg (by omega)]
   rw [e]
   clear e
   have HCL := Lib.hid (fun (W : World) (hW : Only NoF w W) => nclone_c (AirV.keep H.out hW) hf)
   obtain ⟨ti, hti, hz0, hz1, hz2⟩ := info_parts info_Msg
   go_enter Tryz.func102, Tryz.ntmps102
   go_wp2_with fail
   have HW := Lib.hid (((((Only.refl NoF w).alloc (.cells #[.slice A1 a.ms.length c1, .slice A2 a.cs.length c2] 49)).alloc (.cells #[.int .i64 m.a, .int .i64 m.b, strV m.t] 90)).alloc (.cells #[.slice none 0 0, .slice none 0 0] 49)))
   refine (HCL.out _ HW.out).mono ?_
   rintro e w2 ⟨vv, rfl, ⟨b1, b2, rfl, r1, r2⟩, o1⟩
   have hs := o1.size
   simp only [World.size_alloc] at hs
   have p3 := ((((Blk.new2 w (.cells #[.slice A1 a.ms.length c1, .slice A2 a.cs.length c2] 49) 90 #[.int .i64 m.a, .int .i64 m.b, strV m.t]).alloc (.cells #[.slice none 0 0, .slice none 0 0] 49)).only o1 fun h => h))
   have p4 := (Blk.new3 w (.cells #[.slice A1 a.ms.length c1, .slice A2 a.cs.length c2] 49) (.cells #[.int .i64 m.a, .int .i64 m.b, strV m.t] 90) 49 #[.slice none 0 0, .slice none 0 0]).only o1 fun h => h
   have x0 := fun o : Obj => ((p3.alloc o).cell 0).trans rfl
   have x1 := fun o : Obj => ((p3.alloc o).cell 1).trans rfl
   have x2 := fun o : Obj => ((p3.alloc o).cell 2).trans rfl
   have P4 := Lib.hid p4
   have R1 := Lib.hid r1
   have R2 := Lib.hid r2
   have O1 := Lib.hid (HW.out.trans' o1)
   obtain ⟨B1, d1, rfl, _, _, _⟩ := Reads.of_own r1
   obtain ⟨B2, d2, rfl, _, _, _⟩ := Reads.of_own r2
   have hd := own_ne r2 r1 (by decide)
   have HD := Lib.hid hd
   clear p3 p4 r1 r2 o1 hd
   have n1' : ¬ w.heap.size + 1 = w2.heap.size := by omega
   have n2' : ¬ w.heap.size + 1 + 1 = w2.heap.size := by omega
   have HROW := Lib.hid (own_base (base' := w.heap.size + 1 + 1 + 1) R1.out (by simp only [World.size_alloc]; omega))
   have RM := Lib.hid fun o : Obj => (show Reads ((w2.alloc o).alloc (.cells #[.int .i64 m.a, .int .i64 m.b, strV m.t] 90)) (fun k => k = w2.heap.size + 1) 3 (some ⟨w2.heap.size + 1, 0, none⟩) 1 (msgCells [m]) from reads_made2 w2 o _ 3 1 (msgCells [m]) rfl)
   have HLO := Lib.hid fun k hk => HROW.out.lt k hk
   have HBS := Lib.hid fun o o' : Obj => (show w.heap.size + 1 + 1 + 1 ≤ ((w2.alloc o).alloc o').heap.size by simp only [World.size_alloc]; omega)
   go_wp2_with (at_builtin; (refine wpList_append_any _ rfl (.tmp 15) (.tmp 17) _ rfl (w.heap.size + 1 + 1 + 1) 90 ti _ 3 32 Tryz.underlying46 hti hz0 hz1 hz2 rfl (by decide) (.slice B1 a.ms.length d1) _ _ rfl (own_keep HROW.out (((Only.refl NoF w2).alloc _).alloc _)) _ _ 1 1 _ rfl (RM.out _) (msgCells_one [m]) (by unfold maxLen; omega) (by omega) (HBS.out _ _) ?_); intro v' w3 hown hgrow hat; (have HG := Lib.hid hgrow); (have HOWN := Lib.hid hown); (have t4 := (((P4.out.alloc _).alloc _).grown hgrow fun e => by have := HLO.out _ e.symm; omega)); (have t6 := (((Blk.new w2 49 #[.slice B1 a.ms.length d1, .slice B2 a.cs.length d2]).alloc _).grown hgrow fun e => by have := HLO.out _ e.symm; omega)); (have u0 := t4.cell 0); (have u1 := t4.cell 1); (have u2 := t4.frozen 0); (have u3 := t4.frozen 1); (have y0 := t6.cell 0); (have y1 := t6.cell 1); (have y2 := t6.frozen 0); (have y3 := t6.frozen 1); (have T4 := Lib.hid t4); (have T6 := Lib.hid t6); obtain ⟨E1, e1, rfl, _, _, _⟩ := Reads.of_own hown; clear hown hgrow hat t4 t6)
   refine bodyPost_ret (results_row_tmp rfl _ _ (w.heap.size + 1 + 1) 49 #[.slice E1 (a.ms.length + 1) e1, .slice B2 a.cs.length d2] (0, 0) _ rfl ?_ Tryz.underlying49 rfl (by kernel_rfl)) rfl ?_
   · exact (((T4.out.far (p := ⟨w2.heap.size, 0, none⟩) n2' _).set_ 0 (.slice E1 (a.ms.length + 1) e1)).set_ 1 (.slice B2 a.cs.length d2))
   · have R2' := own_grown (own_keep R2.out (((Only.refl NoF w2).alloc _).alloc _)) HG.out HD.out
     have q1 := own_blk_ne HOWN.out T6.out (by decide)
     have q2 := own_blk_ne HOWN.out T4.out (by decide)
     have q3 := own_blk_ne R2' T6.out (by decide)
     have q4 := own_blk_ne R2' T4.out (by decide)
     have z1 := ownsRow_setCell_other (ownsRow_setCell_other (ownsRow_setCell_other HOWN.out (a := ⟨w2.heap.size, 0, none⟩) q1 (.slice E1 (a.ms.length + 1) e1)) (a := ⟨w.heap.size + 1 + 1, 0, none⟩) q2 (.slice E1 (a.ms.length + 1) e1)) (a := ⟨w.heap.size + 1 + 1, 1, none⟩) q2 (.slice B2 a.cs.length d2)
     have z2 := ownsRow_setCell_other (ownsRow_setCell_other (ownsRow_setCell_other R2' (a := ⟨w2.heap.size, 0, none⟩) q3 (.slice E1 (a.ms.length + 1) e1)) (a := ⟨w.heap.size + 1 + 1, 0, none⟩) q4 (.slice E1 (a.ms.length + 1) e1)) (a := ⟨w.heap.size + 1 + 1, 1, none⟩) q4 (.slice B2 a.cs.length d2)
     rw [← msgCells_append] at z1
     have os := O1.out.size
     refine ⟨_, rfl, ⟨_, _, rfl, by rw [show (a.ms ++ [m]).length = a.ms.length + 1 by simp]; exact own_base z1 (by omega), own_base z2 (by simp only [World.size_alloc]; omega)⟩, ⟨fun x hx => ?_, HO.out.2⟩, ?_⟩
     · rcases List.mem_append.1 hx with hx | hx
       · exact HO.out.1 x hx
       · simp at hx; rw [hx]; exact HM.out
     · refine ((((((O1.out.alloc _).alloc _).grown HG.out fun k hk => .inr ?_).setCell (.inr ?_) _).setCell (.inr ?_) _).setCell (.inr ?_) _)
       · have := HLO.out k hk; omega
       · exact os
       · show _ ≤ w.heap.size + 1 + 1; omega
       · show _ ≤ w.heap.size + 1 + 1; omega
end
end
section
open Go.RowKit
theorem nright_of {m : Msg} {b : Bool} (h : Lnk.rightM m = b) (w : World) : Calls Tryz.prog 73 #[msgV m] w (BoolTo w b) := by
 subst h
 exact nright_c w m
theorem nRightA_of {w : World} {v : Value} {a : Air} (h : AirV w v a) {b : Bool} (hb : Lnk.right a = b) (W : World) (hW : Only NoF w W) : Calls Tryz.prog 47 #[v] W (BoolTo W b) := by
 subst hb
 exact nRightA_c (AirV.keep h hW)
def MsgTo (w : World) (m : Msg) (n : Int) (e : Ending) (w' : World) : Prop := e = .returned (.tuple #[msgV m, .int .i64 n]) ∧ Only NoF w w'
theorem Blk.keep {w w' : World} {g : Nat} {t : TypeId} {cs : Array Value} (h : Blk w g t cs) (ho : Only NoF w w') : Blk w' g t cs := h.only ho fun h => h
section
variable {w : World} {v : Value}
theorem nat_c {a : Air} (h : AirV w v a) (i : Int) : Calls Tryz.prog 103 #[v, .int .i64 i] w (MsgTo w (if Lnk.bad a i = 0 then Lnk.msg a i else Lnk.noM) (Lnk.bad a i)) := by
 have H := Lib.hid h
 obtain ⟨v1, v2, rfl, hm0, hc0⟩ := h
 obtain ⟨A1, c1, rfl, m1, m2, hfm⟩ := Msgs.form hm0
 obtain ⟨A2, c2, rfl, n1, n2⟩ := SliceOf.shape hc0
 have HFM := Lib.hid hfm
 clear hm0 hc0 hfm
 unfold maxLen at m2 n2
 cases hr : Lnk.right a with
 | false =>
  have e : Lnk.bad a i = 1 := by unfold Lnk.bad; rw [if_pos hr]
  rw [e, if_neg (by decide)]
  have HR := Lib.hid (nRightA_of H.out hr)
  clear e hr
  go_enter Tryz.func103, Tryz.ntmps103
  go_wp2_with fail
  have HW := Lib.hid (((Only.refl NoF w).alloc (.cells #[.slice A1 a.ms.length c1, .slice A2 a.cs.length c2] 49)).alloc (.cells #[.int .i64 0, .int .i64 0, strV []] 90))
  refine (HR.out _ HW.out).mono ?_
  rintro e w2 ⟨rfl, o1⟩
  have p4 := (Blk.new2 w (.cells #[.slice A1 a.ms.length c1, .slice A2 a.cs.length c2] 49) 90 #[.int .i64 0, .int .i64 0, strV []]).keep o1
  have y0 := p4.cell 0
  have y1 := p4.cell 1
  have y2 := p4.cell 2
  have z0 := p4.frozen 0
  have z1 := p4.frozen 1
  have z2 := p4.frozen 2
  have P4 := Lib.hid p4
  have O1 := Lib.hid (HW.out.trans' o1)
  have hs := O1.out.size
  clear p4 o1
  go_wp2
  refine bodyPost_ret (results_row_tmp rfl _ _ (w.heap.size + 1) 90 #[.int .i64 0, .int .i64 0, strV []] (0, 0) _ rfl ?_ Tryz.underlying90 rfl (by kernel_rfl)) rfl ?_
  · exact (((P4.out.set_ 0 (.int .i64 0)).set_ 1 (.int .i64 0)).set_ 2 (strV []))
  · exact ⟨rfl, (((O1.out.setCell (.inr (by simp)) _).setCell (.inr (by simp)) _).setCell (.inr (by simp)) _)⟩
 | true =>
  have HR := Lib.hid (nRightA_of H.out hr)
  have hbad : Lnk.bad a i = if i < 0 ∨ (a.ms.length : Int) ≤ i then 4 else 0 := by unfold Lnk.bad; rw [if_neg (by simp [hr])]
  clear hr
  by_cases hi : 0 ≤ i
  · by_cases hi2 : i < (a.ms.length : Int)
    · rw [hbad.trans (if_neg (by omega)), if_pos rfl]
      clear hbad
      have hmg : Lnk.msg a i = a.ms[i.toNat] := by
       unfold Lnk.msg
       rw [List.getD_eq_getElem?_getD, List.getElem?_eq_getElem (by omega)]
       rfl
      rw [hmg]
      obtain ⟨k, rfl⟩ : ∃ k : Nat, i = (k : Int) := ⟨i.toNat, by omega⟩
      simp only [Int.toNat_natCast]
      clear hmg
      obtain ⟨b, off, rfl, _, hc⟩ := HFM.out k (by omega)
      have HC := Lib.hid hc
      clear hc
      go_enter Tryz.func103, Tryz.ntmps103
      go_wp2_with fail
      have HW := Lib.hid (((Only.refl NoF w).alloc (.cells #[.slice (some ⟨b, off, none⟩) a.ms.length c1, .slice A2 a.cs.length c2] 49)).alloc (.cells #[.int .i64 0, .int .i64 0, strV []] 90))
      refine (HR.out _ HW.out).mono ?_
      rintro e w2 ⟨rfl, o1⟩
      have p3 := ((Blk.new w 49 #[.slice (some ⟨b, off, none⟩) a.ms.length c1, .slice A2 a.cs.length c2]).alloc (.cells #[.int .i64 0, .int .i64 0, strV []] 90)).keep o1
      have p4 := (Blk.new2 w (.cells #[.slice (some ⟨b, off, none⟩) a.ms.length c1, .slice A2 a.cs.length c2] 49) 90 #[.int .i64 0, .int .i64 0, strV []]).keep o1
      have x0 := p3.cell 0
      have y0 := p4.cell 0
      have y1 := p4.cell 1
      have y2 := p4.cell 2
      have z0 := p4.frozen 0
      have z1 := p4.frozen 1
      have z2 := p4.frozen 2
      have P4 := Lib.hid p4
      have O1 := Lib.hid (HW.out.trans' o1)
      obtain ⟨q0, q1, q2⟩ := HC.out _ O1.out
      have hs := O1.out.size
      clear p4 p3 o1
      go_wp2
      refine bodyPost_ret (results_row_tmp rfl _ _ (w.heap.size + 1) 90 #[.int .i64 a.ms[k].a, .int .i64 a.ms[k].b, strV a.ms[k].t] (0, 0) _ rfl ?_ Tryz.underlying90 rfl (by kernel_rfl)) rfl ?_
      · exact (((P4.out.set_ 0 (.int .i64 a.ms[k].a)).set_ 1 (.int .i64 a.ms[k].b)).set_ 2 (strV a.ms[k].t))
      · exact ⟨rfl, (((O1.out.setCell (.inr (by simp)) _).setCell (.inr (by simp)) _).setCell (.inr (by simp)) _)⟩
    · rw [hbad.trans (if_pos (by omega)), if_neg (by decide)]
      clear hbad
      go_enter Tryz.func103, Tryz.ntmps103
      go_wp2_with fail
      have HW := Lib.hid (((Only.refl NoF w).alloc (.cells #[.slice A1 a.ms.length c1, .slice A2 a.cs.length c2] 49)).alloc (.cells #[.int .i64 0, .int .i64 0, strV []] 90))
      refine (HR.out _ HW.out).mono ?_
      rintro e w2 ⟨rfl, o1⟩
      have p3 := ((Blk.new w 49 #[.slice A1 a.ms.length c1, .slice A2 a.cs.length c2]).alloc (.cells #[.int .i64 0, .int .i64 0, strV []] 90)).keep o1
      have p4 := (Blk.new2 w (.cells #[.slice A1 a.ms.length c1, .slice A2 a.cs.length c2] 49) 90 #[.int .i64 0, .int .i64 0, strV []]).keep o1
      have x0 := p3.cell 0
      have y0 := p4.cell 0
      have y1 := p4.cell 1
      have y2 := p4.cell 2
      have z0 := p4.frozen 0
      have z1 := p4.frozen 1
      have z2 := p4.frozen 2
      have P4 := Lib.hid p4
      have O1 := Lib.hid (HW.out.trans' o1)
      have hs := O1.out.size
      clear p4 p3 o1
      go_wp2
      refine bodyPost_ret (results_row_tmp rfl _ _ (w.heap.size + 1) 90 #[.int .i64 0, .int .i64 0, strV []] (0, 0) _ rfl ?_ Tryz.underlying90 rfl (by kernel_rfl)) rfl ?_
      · exact (((P4.out.set_ 0 (.int .i64 0)).set_ 1 (.int .i64 0)).set_ 2 (strV []))
      · exact ⟨rfl, (((O1.out.setCell (.inr (by simp)) _).setCell (.inr (by simp)) _).setCell (.inr (by simp)) _)⟩
  · rw [hbad.trans (if_pos (by omega)), if_neg (by decide)]
    clear hbad
    go_enter Tryz.func103, Tryz.ntmps103
    go_wp2_with fail
    have HW := Lib.hid (((Only.refl NoF w).alloc (.cells #[.slice A1 a.ms.length c1, .slice A2 a.cs.length c2] 49)).alloc (.cells #[.int .i64 0, .int .i64 0, strV []] 90))
    refine (HR.out _ HW.out).mono ?_
    rintro e w2 ⟨rfl, o1⟩
    have p4 := (Blk.new2 w (.cells #[.slice A1 a.ms.length c1, .slice A2 a.cs.length c2] 49) 90 #[.int .i64 0, .int .i64 0, strV []]).keep o1
    have y0 := p4.cell 0
    have y1 := p4.cell 1
    have y2 := p4.cell 2
    have z0 := p4.frozen 0
    have z1 := p4.frozen 1
    have z2 := p4.frozen 2
    have P4 := Lib.hid p4
    have O1 := Lib.hid (HW.out.trans' o1)
    have hs := O1.out.size
    clear p4 o1
    go_wp2
    refine bodyPost_ret (results_row_tmp rfl _ _ (w.heap.size + 1) 90 #[.int .i64 0, .int .i64 0, strV []] (0, 0) _ rfl ?_ Tryz.underlying90 rfl (by kernel_rfl)) rfl ?_
    · exact (((P4.out.set_ 0 (.int .i64 0)).set_ 1 (.int .i64 0)).set_ 2 (strV []))
    · exact ⟨rfl, (((O1.out.setCell (.inr (by simp)) _).setCell (.inr (by simp)) _).setCell (.inr (by simp)) _)⟩
end
end
section
open Go.RowKit
section
variable {w w' : World} {g : Nat} {t : TypeId} {v1 v2 v3 v4 : Value}
theorem Blk.two (h : Blk w g t #[v1, v2]) : w.cell? ⟨g, 0, none⟩ = some v1 ∧ w.cell? ⟨g, 1, none⟩ = some v2 ∧ w.frozen? ⟨g, 0, none⟩ = false ∧ w.frozen? ⟨g, 1, none⟩ = false :=
 ⟨(h.cell 0).trans rfl, (h.cell 1).trans rfl, h.frozen 0, h.frozen 1⟩
theorem Blk.three (h : Blk w g t #[v1, v2, v3]) : w.cell? ⟨g, 0, none⟩ = some v1 ∧ w.cell? ⟨g, 1, none⟩ = some v2 ∧ w.cell? ⟨g, 2, none⟩ = some v3 ∧ w.frozen? ⟨g, 0, none⟩ = false ∧ w.frozen? ⟨g, 1, none⟩ = false ∧ w.frozen? ⟨g, 2, none⟩ = false :=
 ⟨(h.cell 0).trans rfl, (h.cell 1).trans rfl, (h.cell 2).trans rfl, h.frozen 0, h.frozen 1, h.frozen 2⟩
theorem Blk.put2 (h : Blk w g t #[v1, v2]) (u1 u2 : Value) : Blk ((w.setCell ⟨g, 0, none⟩ u1).setCell ⟨g, 1, none⟩ u2) g t #[u1, u2] := (h.set_ 0 u1).set_ 1 u2
theorem Blk.put3 (h : Blk w g t #[v1, v2, v3]) (u1 u2 u3 : Value) : Blk (((w.setCell ⟨g, 0, none⟩ u1).setCell ⟨g, 1, none⟩ u2).setCell ⟨g, 2, none⟩ u3) g t #[u1, u2, u3] := ((h.set_ 0 u1).set_ 1 u2).set_ 2 u3
theorem Only.put2 (h : Only NoF w w') (hg : w.heap.size ≤ g) (u1 u2 : Value) : Only NoF w ((w'.setCell ⟨g, 0, none⟩ u1).setCell ⟨g, 1, none⟩ u2) := (h.setCell (.inr hg) _).setCell (.inr hg) _
theorem Only.put3 (h : Only NoF w w') (hg : w.heap.size ≤ g) (u1 u2 u3 : Value) : Only NoF w (((w'.setCell ⟨g, 0, none⟩ u1).setCell ⟨g, 1, none⟩ u2).setCell ⟨g, 2, none⟩ u3) := ((h.setCell (.inr hg) _).setCell (.inr hg) _).setCell (.inr hg) _
theorem OwnAir.put2 {base : Nat} {v : Value} {a : Air} (h : OwnAir base w v a) {base' : Nat} (hg : g < base) (hb : base' ≤ base) (u1 u2 : Value) : OwnAir base' ((w.setCell ⟨g, 0, none⟩ u1).setCell ⟨g, 1, none⟩ u2) v a := (OwnAir.set_ (OwnAir.set_ h hg _) hg _).low hb
theorem OwnAir.put3 {base : Nat} {v : Value} {a : Air} (h : OwnAir base w v a) (hg : g < base) (u1 u2 u3 : Value) : OwnAir base (((w.setCell ⟨g, 0, none⟩ u1).setCell ⟨g, 1, none⟩ u2).setCell ⟨g, 2, none⟩ u3) v a := OwnAir.set_ (OwnAir.set_ (OwnAir.set_ h hg _) hg _) hg _
end
section
variable {w : World} {v : Value}
theorem nSend_c {a : Air} (h : AirV w v a) (hf : Few_ a) {m : Msg} (hm : MsgOk m) : Calls Tryz.prog 76 #[v, msgV m] w (AirTo w (Lnk.send a m)) := by
 have H := Lib.hid h
 obtain ⟨v1, v2, rfl, hm0, hc0⟩ := h
 have HWI := Lib.hid (fun (W : World) (hW : Only NoF w W) => nwith_c (AirV.keep H.out hW) hf hm)
 clear hm0 hc0
 have HB := Lib.hid (fun (W : World) (o : Only NoF (((w.alloc (.cells #[v1, v2] 49)).alloc (.cells #[.int .i64 m.a, .int .i64 m.b, strV m.t] 90)).alloc (.cells #[.slice none 0 0, .slice none 0 0] 49)) W) =>
  (⟨((((Only.refl NoF w).alloc _).alloc _).alloc _).trans' o, (((Blk.new w 49 #[v1, v2]).alloc _).alloc _).keep o, ((Blk.new2 w _ 90 #[.int .i64 m.a, .int .i64 m.b, strV m.t]).alloc _).keep o, (Blk.new3 w _ _ 49 #[.slice none 0 0, .slice none 0 0]).keep o⟩ :
   Only NoF w W ∧ Blk W w.heap.size 49 #[v1, v2] ∧ Blk W (w.heap.size + 1) 90 #[.int .i64 m.a, .int .i64 m.b, strV m.t] ∧ Blk W (w.heap.size + 1 + 1) 49 #[.slice none 0 0, .slice none 0 0]))
 cases hr : Lnk.right a with
 | false =>
  have e : Lnk.send a m = (Lnk.none_, 1) := by unfold Lnk.send; rw [if_pos (.inl hr)]
  rw [e]
  have HR := Lib.hid (nRightA_of H.out hr)
  clear e hr
  go_enter Tryz.func76, Tryz.ntmps76
  go_wp2_with fail
  refine (HR.out _ (HB.out _ (Only.refl _ _)).1).mono ?_
  rintro e w2 ⟨rfl, o1⟩
  obtain ⟨o, p1, p2, p3⟩ := HB.out _ o1
  obtain ⟨x0, x1, x2, x3⟩ := p3.two
  have O := Lib.hid o
  have P3 := Lib.hid p3
  have hs := o.size
  clear o1 o p1 p2 p3
  go_wp2
  refine bodyPost_ret (results_row_tmp rfl _ _ (w.heap.size + 1 + 1) 49 #[.slice none 0 0, .slice none 0 0] (0, 0) _ rfl (P3.out.put2 _ _) Tryz.underlying49 rfl (by kernel_rfl)) rfl ?_
  exact ⟨_, rfl, ownNone _ _, okNone, O.out.put2 (by omega) _ _⟩
 | true =>
  have HR := Lib.hid (nRightA_of H.out hr)
  cases hrm : Lnk.rightM m with
  | false =>
   have e : Lnk.send a m = (Lnk.none_, 1) := by unfold Lnk.send; rw [if_pos (.inr hrm)]
   rw [e]
   have HRM := Lib.hid (nright_of hrm)
   clear e hr hrm
   go_enter Tryz.func76, Tryz.ntmps76
   go_wp2_with fail
   refine (HR.out _ (HB.out _ (Only.refl _ _)).1).mono ?_
   rintro e w2 ⟨rfl, o1⟩
   obtain ⟨o, p1, p2, p3⟩ := HB.out _ o1
   obtain ⟨x0, x1, x2, x3⟩ := p2.three
   have O1 := Lib.hid o1
   clear o1 o p1 p2 p3
   go_wp2_with fail
   refine (HRM.out _).mono ?_
   rintro e w3 ⟨rfl, o2⟩
   obtain ⟨o, p1, p2, p3⟩ := HB.out _ (O1.out.trans' o2)
   obtain ⟨x0, x1, x2, x3⟩ := p3.two
   have O := Lib.hid o
   have P3 := Lib.hid p3
   have hs := o.size
   clear o o2 p1 p2 p3
   go_wp2
   refine bodyPost_ret (results_row_tmp rfl _ _ (w.heap.size + 1 + 1) 49 #[.slice none 0 0, .slice none 0 0] (0, 0) _ rfl (P3.out.put2 _ _) Tryz.underlying49 rfl (by kernel_rfl)) rfl ?_
   exact ⟨_, rfl, ownNone _ _, okNone, O.out.put2 (by omega) _ _⟩
  | true =>
   have e : Lnk.send a m = Lnk.with_ a m := by unfold Lnk.send; rw [if_neg (by simp [hr, hrm])]
   rw [e]
   have HRM := Lib.hid (nright_of hrm)
   clear e hr hrm
   go_enter Tryz.func76, Tryz.ntmps76
   go_wp2_with fail
   refine (HR.out _ (HB.out _ (Only.refl _ _)).1).mono ?_
   rintro e w2 ⟨rfl, o1⟩
   obtain ⟨o, p1, p2, p3⟩ := HB.out _ o1
   obtain ⟨x0, x1, x2, x3⟩ := p2.three
   have O1 := Lib.hid o1
   clear o1 o p1 p2 p3
   go_wp2_with fail
   refine (HRM.out _).mono ?_
   rintro e w3 ⟨rfl, o2⟩
   obtain ⟨o, p1, p2, p3⟩ := HB.out _ (O1.out.trans' o2)
   obtain ⟨y0, y1, y2, y3⟩ := p1.two
   obtain ⟨x0, x1, x2, x3⟩ := p2.three
   have O := Lib.hid o
   have O2 := Lib.hid (O1.out.trans' o2)
   clear o o2 p1 p2 p3
   go_wp2_with fail
   refine (HWI.out _ O.out).mono ?_
   rintro e w4 ⟨vv, rfl, ⟨u1, u2, rfl, r1, r2⟩, ok, o3⟩
   obtain ⟨E1, e1, rfl, _, _, _⟩ := Reads.of_own r1
   obtain ⟨E2, e2, rfl, _, _, _⟩ := Reads.of_own r2
   obtain ⟨o, p1, p2, p3⟩ := HB.out _ (O2.out.trans' o3)
   obtain ⟨x0, x1, x2, x3⟩ := p3.two
   have O3 := Lib.hid o
   have P3 := Lib.hid p3
   have HA := Lib.hid (show OwnAir w3.heap.size w4 (.agg #[.slice E1 (Lnk.with_ a m).1.ms.length e1, .slice E2 (Lnk.with_ a m).1.cs.length e2]) (Lnk.with_ a m).1 from ⟨_, _, rfl, r1, r2⟩)
   have hs := o.size
   have hs3 := O2.out.size
   simp only [World.size_alloc] at hs3
   clear o p1 p2 p3 r1 r2 o3
   go_wp2
   refine bodyPost_ret (results_row_tmp rfl _ _ (w.heap.size + 1 + 1) 49 #[.slice E1 (Lnk.with_ a m).1.ms.length e1, .slice E2 (Lnk.with_ a m).1.cs.length e2] (0, 0) _ rfl (P3.out.put2 _ _) Tryz.underlying49 rfl (by kernel_rfl)) rfl ?_
   exact ⟨_, rfl, HA.out.put2 (by omega) (by omega) _ _, ok, O3.out.put2 (by omega) _ _⟩
theorem nDouble_c {a : Air} (h : AirV w v a) (hf : Few_ a) (i : Int) : Calls Tryz.prog 79 #[v, .int .i64 i] w (AirTo w (Lnk.double a i)) := by
 have H := Lib.hid h
 have HOK := Lib.hid (AirV.oks h)
 obtain ⟨v1, v2, rfl, hm0, hc0⟩ := h
 clear hm0 hc0
 have HB := Lib.hid (fun (W : World) (o : Only NoF ((w.alloc (.cells #[v1, v2] 49)).alloc (.cells #[.slice none 0 0, .slice none 0 0] 49)) W) =>
  (⟨(((Only.refl NoF w).alloc _).alloc _).trans' o, ((Blk.new w 49 #[v1, v2]).alloc _).keep o, (Blk.new2 w _ 49 #[.slice none 0 0, .slice none 0 0]).keep o⟩ :
   Only NoF w W ∧ Blk W w.heap.size 49 #[v1, v2] ∧ Blk W (w.heap.size + 1) 49 #[.slice none 0 0, .slice none 0 0]))
 have HAT := Lib.hid (fun (W : World) (o : Only NoF w W) => nat_c (AirV.keep H.out o) i)
 by_cases hb0 : Lnk.bad a i = 0
 · have e : Lnk.double a i = Lnk.with_ a (Lnk.msg a i) := by unfold Lnk.double; rw [if_neg (by simp [hb0])]
   rw [e]
   rw [hb0, if_pos rfl] at HAT
   obtain ⟨hr, hi0, hi1⟩ := Lnk.bad_zero hb0
   have HWI := Lib.hid (fun (W : World) (hW : Only NoF w W) => nwith_c (AirV.keep H.out hW) hf (HOK.out.1 _ (Lnk.msg_mem hi0 hi1)))
   generalize Lnk.msg a i = m at HAT HWI
   clear e hr hb0 hi0 hi1
   go_enter Tryz.func79, Tryz.ntmps79
   go_wp2_with fail
   refine (HAT.out _ (HB.out _ (Only.refl _ _)).1).mono ?_
   rintro e w2 ⟨rfl, o1⟩
   obtain ⟨o, p1, p2⟩ := HB.out _ o1
   have y := fun o : Obj => (p1.alloc o).two
   have hs := o.size
   have O := Lib.hid o
   have O1 := Lib.hid o1
   clear o1 o p1 p2
   go_wp2_with fail
   refine (HWI.out _ (O.out.alloc _)).mono ?_
   rintro e w4 ⟨vv, rfl, ⟨u1, u2, rfl, r1, r2⟩, ok, o3⟩
   obtain ⟨E1, e1, rfl, _, _, _⟩ := Reads.of_own r1
   obtain ⟨E2, e2, rfl, _, _, _⟩ := Reads.of_own r2
   obtain ⟨o, p1, p2⟩ := HB.out _ ((O1.out.alloc _).trans' o3)
   obtain ⟨x0, x1, x2, x3⟩ := p2.two
   have O3 := Lib.hid o
   have P3 := Lib.hid p2
   have hs3 := (O1.out.alloc (.cells #[.int .i64 m.a, .int .i64 m.b, strV m.t] 90)).size
   simp only [World.size_alloc] at hs3
   have HA := Lib.hid (show OwnAir (w.heap.size + 1 + 1) w4 (.agg #[.slice E1 (Lnk.with_ a m).1.ms.length e1, .slice E2 (Lnk.with_ a m).1.cs.length e2]) (Lnk.with_ a m).1 from ⟨_, _, rfl, own_base r1 (by simp only [World.size_alloc]; omega), own_base r2 (by simp only [World.size_alloc]; omega)⟩)
   clear o p1 p2 r1 r2 o3 y
   go_wp2
   refine bodyPost_ret (results_row_tmp rfl _ _ (w.heap.size + 1) 49 #[.slice E1 (Lnk.with_ a m).1.ms.length e1, .slice E2 (Lnk.with_ a m).1.cs.length e2] (0, 0) _ rfl (P3.out.put2 _ _) Tryz.underlying49 rfl (by kernel_rfl)) rfl ?_
   exact ⟨_, rfl, HA.out.put2 (by omega) (by omega) _ _, ok, O3.out.put2 (by omega) _ _⟩
 · have e : Lnk.double a i = (Lnk.none_, Lnk.bad a i) := by unfold Lnk.double; rw [if_pos hb0]
   rw [e]
   rw [if_neg hb0] at HAT
   have hbn : (Lnk.bad a i != 0) = true := by simpa using hb0
   generalize Lnk.noM = m at HAT
   clear e hb0
   go_enter Tryz.func79, Tryz.ntmps79
   go_wp2_with fail
   refine (HAT.out _ (HB.out _ (Only.refl _ _)).1).mono ?_
   rintro e w2 ⟨rfl, o1⟩
   obtain ⟨o, p1, p2⟩ := HB.out _ o1
   obtain ⟨x0, x1, x2, x3⟩ := (p2.alloc (.cells #[.int .i64 m.a, .int .i64 m.b, strV m.t] 90)).two
   have P2 := Lib.hid (p2.alloc (.cells #[.int .i64 m.a, .int .i64 m.b, strV m.t] 90))
   have hs := o.size
   have O := Lib.hid (o.alloc (.cells #[.int .i64 m.a, .int .i64 m.b, strV m.t] 90))
   clear o1 o p1 p2
   go_wp2
   refine bodyPost_ret (results_row_tmp rfl _ _ (w.heap.size + 1) 49 #[.slice none 0 0, .slice none 0 0] (0, 0) _ rfl (P2.out.put2 _ _) Tryz.underlying49 rfl (by kernel_rfl)) rfl ?_
   exact ⟨_, rfl, ownNone _ _, okNone, O.out.put2 (by omega) _ _⟩
end
end
section
open Go.RowKit
/-- the row with one element less -/
def DelRow (base g : Nat) (t : TypeId) (size n cap i : Nat) (xs : List Value) (w : World) (e : Ending) (w' : World) : Prop :=
 e = .returned (.slice (some ⟨g, 0, none⟩) n cap) ∧ w'.ownsRow base t size (.slice (some ⟨g, 0, none⟩) n cap) n (xs.take (i * size) ++ xs.drop ((i + 1) * size)) ∧ Only (oneF g) w w'
theorem del_take {cur xs : List Value} {a b c d : Nat} (h : cur.take d = xs) (hl : xs.length = d) (h1 : a ≤ b) (h2 : b ≤ d) (h3 : a + (d - b) = c) : (splice cur a (xs.drop b)).take c = xs.take a ++ xs.drop b := by
 have hc : d ≤ cur.length := by
  rw [← h, List.length_take] at hl
  omega
 have e : cur.take a = xs.take a := by rw [← h, List.take_take, Nat.min_eq_left (by omega)]
 unfold splice
 rw [e]
 exact List.take_left' (by simp only [List.length_append, List.length_take, List.length_drop]; omega)
theorem run_op_append {P : Program} {o : Oper} {a : Act} {w w' : World} {s x : Operand} {t : TypeId} {v1 v2 v : Value} (ho : o.op = .call { callee := .builtin .append, args := #[s, x], argTypes := #[t, t] }) (hs : a.eval s = v1) (hx : a.eval x = v2)
 (hrun : (Builtin.append_ #[t, t] o.type #[v1, v2]).run P w = .ok v w') : (execOp a.eval o).run P w = .ok (.value v) w' := by
 unfold execOp
 simp only [ho, resolve, invoke, builtin, Sem.run_bind, Sem.run_pure, Result.andThen_ok, List.map_toArray, List.map_cons, List.map_nil, hs, hx, hrun]
theorem delMsg_c {w : World} {base g n cap : Nat} {xs : List Value} (h : w.ownsRow base 90 3 (.slice (some ⟨g, 0, none⟩) (n + 1) cap) (n + 1) xs) (h1 : ∀ u ∈ xs, u.oneCell' = true) {i : Nat} (hi : i ≤ n) (hn : n ≤ 1000000) :
 Calls Tryz.prog 124 #[.slice (some ⟨g, 0, none⟩) (n + 1) cap, .int .i64 (i : Int), .int .i64 ((i + 1 : Nat) : Int)] w (DelRow base g 90 3 n cap i xs w) := by
 have hxl := h.1
 rcases h.2 with ⟨h2, _⟩ | ⟨g', cap', cur, he, hg, hh, m1, m2, q3, q4⟩
 · cases h2
 cases he
 obtain ⟨_, _, he, _, _, hr0⟩ := Reads.of_own h
 cases he
 have hrd := Reads.cut hr0 (k := i + 1) (cap := cap) (by omega) m1
 simp only [Option.map_some, Addr.add_lit, Nat.zero_add] at hrd
 rw [show n + 1 - (i + 1) = n - i by omega] at hrd
 have hb : ((i : Int) == (i : Int) + 1) = false := by simp; omega
 have hb2 : ((i : Int) == ((i + 1 : Nat) : Int)) = false := by simp; omega
 unfold maxLen at m2
 have hbk : Blk w.drew g 90 (cur.toList).toArray := by rw [Array.toArray_toList]; exact hh
 obtain ⟨ti, hti, hz0, hz1, hz2⟩ := info_parts info_Msg
 have happ := fun ty : TypeId => run_append_blk (P := Tryz.prog) (w := w.drew) (ty := ty) Tryz.underlying46 hti hz1 hbk i (n - i) cap _ (cap - (i + 1)) _ (hrd.only ((Only.refl NoF w).drew) fun _ _ h => h) (fun u hu => h1 u (List.mem_of_mem_drop hu)) (by omega) (by simp only [Array.length_toList]; omega)
 rw [show i + (n - i) = n by omega] at happ
 have hsl : (splice cur.toList (i * 3) (xs.drop ((i + 1) * 3))).length = cap * 3 := by
  rw [length_splice (by simp only [List.length_drop, Array.length_toList]; omega)]
  simpa using q3
 have hb1 := hbk.setRow_ (splice cur.toList (i * 3) (xs.drop ((i + 1) * 3))).toArray
 obtain ⟨cs', hcl, hl', ht'⟩ := run_clear_row (P := Tryz.prog) Tryz.underlying46 (fun w => zeroMsg w) (by decide) hb1 (n * 3) 1 (cap - n) (by show n * 3 + 1 * 3 ≤ _; omega) (by omega)
 have hb3 : ((i : Int) == (n : Int) + 1) = false := by simp; omega
 have hci : i ≤ cap := by omega
 have hc0 : (0 : Int) ≤ (i : Int) + 1 := by omega
 have hcn : ¬ cap = n := by omega
 have HCL := Lib.hid hcl
 have HAP := Lib.hid happ
 have HFIN := Lib.hid (And.intro hl' ht')
 have HSL := Lib.hid hsl
 have HB1 := Lib.hid hb1
 have HXL := Lib.hid hxl
 have HQ4 := Lib.hid q4
 have HQ3 := Lib.hid q3
 have HG := Lib.hid hg
 clear hcl happ hl' ht' hsl hb1 hbk hrd hr0 h hh hxl q4 q3 hg hti hz0 hz1 hz2 h1
 go_enter Tryz.func124, Tryz.ntmps124
 go_wp2_with fail
 refine wp_region_reads [0, 1, 2, 3, 4, 5] [6, 7] (fun _ _ => True) (by kernel_rfl) (by kernel_rfl) (fun _ _ _ _ _ h => h) trivial ?_
 iterate 6
  refine wpReads_cons rfl ?_ (by rfl) (fun w' k hk hS => ?_) ?_
  rotate_left
  · go_simp
    first | with_reducible rfl | (rw [if_pos hci]; with_reducible rfl) | (rw [if_pos hc0]; with_reducible rfl)
  try go_simp
 refine wpReads_nil ?_
 refine wpTail_run rfl rfl (run_op_append rfl rfl rfl (HAP.out _)) trivial ?_
 go_simp
 refine wpTail_run rfl rfl (by go_simp; first | with_reducible rfl | exact ⟨rfl, rfl⟩) trivial ?_
 go_simp
 refine wpTail_nil ?_
 have hcl := HCL.out
 go_wp2
 all_goals
  go_ret
  obtain ⟨f1, f2⟩ := HFIN.out
  have hsl := HSL.out
  have hxl := HXL.out
  refine ⟨rfl, own_of_blk (HB1.out.setRow_ cs'.toArray) HG.out ?_ (by omega) (by unfold maxLen; omega) (f1.trans (hsl.trans (by omega))) (f2.trans (del_take HQ4.out hxl (by omega) (by omega) (by omega))), ((((Only.refl (oneF g) w).drew).setRow' (.inl rfl) _).setRow' (.inl rfl) _)⟩
  simp only [List.length_append, List.length_take, List.length_drop]
  omega
theorem delPr_c {w : World} {base g n cap : Nat} {xs : List Value} (h : w.ownsRow base 108 2 (.slice (some ⟨g, 0, none⟩) (n + 1) cap) (n + 1) xs) (h1 : ∀ u ∈ xs, u.oneCell' = true) {i : Nat} (hi : i ≤ n) (hn : n ≤ 1000000) :
 Calls Tryz.prog 109 #[.slice (some ⟨g, 0, none⟩) (n + 1) cap, .int .i64 (i : Int), .int .i64 ((i + 1 : Nat) : Int)] w (DelRow base g 108 2 n cap i xs w) := by
 have hxl := h.1
 rcases h.2 with ⟨h2, _⟩ | ⟨g', cap', cur, he, hg, hh, m1, m2, q3, q4⟩
 · cases h2
 cases he
 obtain ⟨_, _, he, _, _, hr0⟩ := Reads.of_own h
 cases he
 have hrd := Reads.cut hr0 (k := i + 1) (cap := cap) (by omega) m1
 simp only [Option.map_some, Addr.add_lit, Nat.zero_add] at hrd
 rw [show n + 1 - (i + 1) = n - i by omega] at hrd
 have hb : ((i : Int) == (i : Int) + 1) = false := by simp; omega
 have hb2 : ((i : Int) == ((i + 1 : Nat) : Int)) = false := by simp; omega
 unfold maxLen at m2
 have hbk : Blk w.drew g 108 (cur.toList).toArray := by rw [Array.toArray_toList]; exact hh
 obtain ⟨ti, hti, hz0, hz1, hz2⟩ := info_parts info_Pr
 have happ := fun ty : TypeId => run_append_blk (P := Tryz.prog) (w := w.drew) (ty := ty) Tryz.underlying47 hti hz1 hbk i (n - i) cap _ (cap - (i + 1)) _ (hrd.only ((Only.refl NoF w).drew) fun _ _ h => h) (fun u hu => h1 u (List.mem_of_mem_drop hu)) (by omega) (by simp only [Array.length_toList]; omega)
 rw [show i + (n - i) = n by omega] at happ
 have hsl : (splice cur.toList (i * 2) (xs.drop ((i + 1) * 2))).length = cap * 2 := by
  rw [length_splice (by simp only [List.length_drop, Array.length_toList]; omega)]
  simpa using q3
 have hb1 := hbk.setRow_ (splice cur.toList (i * 2) (xs.drop ((i + 1) * 2))).toArray
 obtain ⟨cs', hcl, hl', ht'⟩ := run_clear_row (P := Tryz.prog) Tryz.underlying47 (fun w => zeroPr w) (by decide) hb1 (n * 2) 1 (cap - n) (by show n * 2 + 1 * 2 ≤ _; omega) (by omega)
 have hb3 : ((i : Int) == (n : Int) + 1) = false := by simp; omega
 have hci : i ≤ cap := by omega
 have hc0 : (0 : Int) ≤ (i : Int) + 1 := by omega
 have hcn : ¬ cap = n := by omega
 have HCL := Lib.hid hcl
 have HAP := Lib.hid happ
 have HFIN := Lib.hid (And.intro hl' ht')
 have HSL := Lib.hid hsl
 have HB1 := Lib.hid hb1
 have HXL := Lib.hid hxl
 have HQ4 := Lib.hid q4
 have HQ3 := Lib.hid q3
 have HG := Lib.hid hg
 clear hcl happ hl' ht' hsl hb1 hbk hrd hr0 h hh hxl q4 q3 hg hti hz0 hz1 hz2 h1
 go_enter Tryz.func109, Tryz.ntmps109
 go_wp2_with fail
 refine wp_region_reads [0, 1, 2, 3, 4, 5] [6, 7] (fun _ _ => True) (by kernel_rfl) (by kernel_rfl) (fun _ _ _ _ _ h => h) trivial ?_
 iterate 6
  refine wpReads_cons rfl ?_ (by rfl) (fun w' k hk hS => ?_) ?_
  rotate_left
  · go_simp
    first | with_reducible rfl | (rw [if_pos hci]; with_reducible rfl) | (rw [if_pos hc0]; with_reducible rfl)
  try go_simp
 refine wpReads_nil ?_
 refine wpTail_run rfl rfl (run_op_append rfl rfl rfl (HAP.out _)) trivial ?_
 go_simp
 refine wpTail_run rfl rfl (by go_simp; first | with_reducible rfl | exact ⟨rfl, rfl⟩) trivial ?_
 go_simp
 refine wpTail_nil ?_
 have hcl := HCL.out
 go_wp2
 all_goals
  go_ret
  obtain ⟨f1, f2⟩ := HFIN.out
  have hsl := HSL.out
  have hxl := HXL.out
  refine ⟨rfl, own_of_blk (HB1.out.setRow_ cs'.toArray) HG.out ?_ (by omega) (by unfold maxLen; omega) (f1.trans (hsl.trans (by omega))) (f2.trans (del_take HQ4.out hxl (by omega) (by omega) (by omega))), ((((Only.refl (oneF g) w).drew).setRow' (.inl rfl) _).setRow' (.inl rfl) _)⟩
  simp only [List.length_append, List.length_take, List.length_drop]
  omega
end
section
open Go.RowKit
theorem own_some {w : World} {base n : Nat} {t : TypeId} {size : Nat} {A : Option Addr} {c : Nat} {xs : List Value} (h : w.ownsRow base t size (.slice A (n + 1) c) (n + 1) xs) : ∃ g, A = some ⟨g, 0, none⟩ ∧ base ≤ g ∧ g < w.heap.size := by
 rcases h.2 with ⟨h2, _⟩ | ⟨g, cap, cur, he, hg, hh, _⟩
 · cases h2
 · cases he
   exact ⟨g, rfl, hg, heap_lt hh⟩
theorem without_cells {a : Air} {k : Nat} : msgCells (Lnk.without a (k : Int)).ms = (msgCells a.ms).take (k * 3) ++ (msgCells a.ms).drop ((k + 1) * 3) := by
 have e : (Lnk.without a (k : Int)).ms = a.ms.take k ++ a.ms.drop (k + 1) := by
  show a.ms.eraseIdx _ = _
  rw [Int.toNat_natCast, List.eraseIdx_eq_take_drop_succ]
 rw [e, msgCells_append, msgCells_take, msgCells_drop]
section
variable {w : World} {v : Value}
theorem nwithout_c {a : Air} (h : AirV w v a) (hf : Few_ a) {k : Nat} (hk : k < a.ms.length) : Calls Tryz.prog 106 #[v, .int .i64 (k : Int)] w (LCloneTo w (Lnk.without a k)) := by
 have H := Lib.hid h
 obtain ⟨v1, v2, rfl, hm0, hc0⟩ := h
 clear hm0 hc0
 have HB := Lib.hid (fun (W : World) (o : Only NoF ((w.alloc (.cells #[v1, v2] 49)).alloc (.cells #[.slice none 0 0, .slice none 0 0] 49)) W) =>
  (⟨(((Only.refl NoF w).alloc _).alloc _).trans' o, ((Blk.new w 49 #[v1, v2]).alloc _).keep o, (Blk.new2 w _ 49 #[.slice none 0 0, .slice none 0 0]).keep o⟩ :
   Only NoF w W ∧ Blk W w.heap.size 49 #[v1, v2] ∧ Blk W (w.heap.size + 1) 49 #[.slice none 0 0, .slice none 0 0]))
 have HCL := Lib.hid (fun (W : World) (hW : Only NoF w W) => nclone_c (AirV.keep H.out hW) hf)
 obtain ⟨n, hn⟩ : ∃ n, a.ms.length = n + 1 := ⟨a.ms.length - 1, by omega⟩
 have hfm := hf.1
 have hwi : IntKind.i64.wrap ((k : Int) + 1) = ((k + 1 : Nat) : Int) := by rw [IntWalk.i64_in _ (by omega)]; rfl
 go_enter Tryz.func106, Tryz.ntmps106
 go_wp2_with fail
 refine (HCL.out _ (HB.out _ (Only.refl _ _)).1).mono ?_
 rintro e w2 ⟨vv, rfl, ⟨u1, u2, rfl, r1, r2⟩, o1⟩
 obtain ⟨E1, e1, rfl, _, _, _⟩ := Reads.of_own r1
 obtain ⟨E2, e2, rfl, _, _, _⟩ := Reads.of_own r2
 rw [hn] at r1 ⊢
 obtain ⟨g, rfl, hg1, hg2⟩ := own_some r1
 simp only [World.size_alloc] at hg1
 obtain ⟨o, p1, p2⟩ := HB.out _ o1
 have hs := o.size
 have HNE := Lib.hid (own_ne r2 r1 (by decide))
 have R1 := Lib.hid (own_base (base' := w.heap.size + 1 + 1) r1 (by simp only [World.size_alloc]; omega))
 have R2 := Lib.hid (own_base (base' := w.heap.size + 1 + 1) r2 (by simp only [World.size_alloc]; omega))
 have O := Lib.hid o
 have P2 := Lib.hid p2
 clear o o1 p1 p2 r1 r2
 go_wp2_with fail
 refine (delMsg_c (base := w.heap.size + 1 + 1) (i := k) (own_keep R1.out ((Only.refl NoF w2).alloc _)) (msgCells_one _) (by omega) (by omega)).mono ?_
 rintro e w4 ⟨rfl, hr, o4⟩
 have q2 := ((P2.out.alloc (.cells #[.slice (some ⟨g, 0, none⟩) (n + 1) e1, .slice E2 a.cs.length e2] 49)).only o4 fun h => by have : w.heap.size + 1 = g := h; omega)
 have q5 := (Blk.new w2 49 #[.slice (some ⟨g, 0, none⟩) (n + 1) e1, .slice E2 a.cs.length e2]).only o4 fun h => by have : w2.heap.size = g := h; omega
 have R2' := Lib.hid (own_only (own_keep R2.out ((Only.refl NoF w2).alloc (.cells #[.slice (some ⟨g, 0, none⟩) (n + 1) e1, .slice E2 a.cs.length e2] 49))) o4 fun j hj h => HNE.out j hj (by have : j = g := h; rw [this]; rfl))
 have O4 := Lib.hid ((O.out.alloc (.cells #[.slice (some ⟨g, 0, none⟩) (n + 1) e1, .slice E2 a.cs.length e2] 49)).trans o4 fun j hj => .inr (by have : j = g := hj; omega))
 obtain ⟨x0, x1, x2, x3⟩ := q2.two
 obtain ⟨y0, y1, y2, y3⟩ := q5.two
 have Q2 := Lib.hid q2
 have Q5 := Lib.hid q5
 have R1' := Lib.hid hr
 have hne : ¬ w.heap.size + 1 = w2.heap.size := by omega
 have hne2 : ¬ w2.heap.size = w.heap.size + 1 := by omega
 clear q2 q5 hr o4
 go_wp2
 refine bodyPost_ret (results_cell_row rfl _ _ (w.heap.size + 1) 49 #[.slice (some ⟨g, 0, none⟩) n e1, .slice E2 a.cs.length e2] (0, 0) _ rfl ((Q2.out.far (p := ⟨w2.heap.size, 0, none⟩) hne _).put2 _ _) Tryz.underlying49 rfl (by kernel_rfl)) rfl ?_
 have z1 := own_blk_ne R1'.out Q5.out (by decide)
 have z2 := own_blk_ne R2'.out Q5.out (by decide)
 have hl : (Lnk.without a (k : Int)).ms.length = n := by
  show (a.ms.eraseIdx _).length = n
  rw [Int.toNat_natCast, List.length_eraseIdx_of_lt hk]
  omega
 have hown : OwnAir (w.heap.size + 1 + 1) (w4.setCell ⟨w2.heap.size, 0, none⟩ (.slice (some ⟨g, 0, none⟩) n e1)) (.agg #[.slice (some ⟨g, 0, none⟩) n e1, .slice E2 a.cs.length e2]) (Lnk.without a k) :=
  ⟨_, _, rfl, by rw [without_cells, hl]; exact ownsRow_setCell_other R1'.out (a := ⟨w2.heap.size, 0, none⟩) z1 _, ownsRow_setCell_other R2'.out (a := ⟨w2.heap.size, 0, none⟩) z2 _⟩
 exact ⟨_, rfl, hown.put2 (by omega) (by omega) _ _, (O4.out.setCell (.inr hs) _).put2 (by omega) _ _⟩
theorem nLose_c {a : Air} (h : AirV w v a) (hf : Few_ a) (i : Int) : Calls Tryz.prog 78 #[v, .int .i64 i] w (AirTo w (Lnk.lose a i)) := by
 have H := Lib.hid h
 have HOK := Lib.hid (AirV.oks h)
 obtain ⟨v1, v2, rfl, hm0, hc0⟩ := h
 clear hm0 hc0
 have HB := Lib.hid (fun (W : World) (o : Only NoF ((w.alloc (.cells #[v1, v2] 49)).alloc (.cells #[.slice none 0 0, .slice none 0 0] 49)) W) =>
  (⟨(((Only.refl NoF w).alloc _).alloc _).trans' o, ((Blk.new w 49 #[v1, v2]).alloc _).keep o, (Blk.new2 w _ 49 #[.slice none 0 0, .slice none 0 0]).keep o⟩ :
   Only NoF w W ∧ Blk W w.heap.size 49 #[v1, v2] ∧ Blk W (w.heap.size + 1) 49 #[.slice none 0 0, .slice none 0 0]))
 have HAT := Lib.hid (fun (W : World) (o : Only NoF w W) => nat_c (AirV.keep H.out o) i)
 by_cases hb0 : Lnk.bad a i = 0
 · have e : Lnk.lose a i = (Lnk.without a i, 0) := by unfold Lnk.lose; rw [if_neg (by simp [hb0])]
   rw [e]
   rw [hb0, if_pos rfl] at HAT
   obtain ⟨hr, hi0, hi1⟩ := Lnk.bad_zero hb0
   obtain ⟨k, rfl⟩ : ∃ k : Nat, i = (k : Int) := ⟨i.toNat, by omega⟩
   have hoks : AirOk (Lnk.without a k) := ⟨fun m hm => HOK.out.1 m (List.mem_of_mem_eraseIdx hm), HOK.out.2⟩
   have HWI := Lib.hid (fun (W : World) (hW : Only NoF w W) => nwithout_c (AirV.keep H.out hW) hf (k := k) (by omega))
   generalize Lnk.msg a k = m at HAT HWI
   clear e hr hb0 hi0 hi1
   go_enter Tryz.func78, Tryz.ntmps78
   go_wp2_with fail
   refine (HAT.out _ (HB.out _ (Only.refl _ _)).1).mono ?_
   rintro e w2 ⟨rfl, o1⟩
   obtain ⟨o, p1, p2⟩ := HB.out _ o1
   have y := fun o : Obj => (p1.alloc o).two
   have hs := o.size
   have O := Lib.hid o
   have O1 := Lib.hid o1
   clear o1 o p1 p2
   go_wp2_with fail
   refine (HWI.out _ (O.out.alloc _)).mono ?_
   rintro e w4 ⟨vv, rfl, ⟨u1, u2, rfl, r1, r2⟩, o3⟩
   obtain ⟨E1, e1, rfl, _, _, _⟩ := Reads.of_own r1
   obtain ⟨E2, e2, rfl, _, _, _⟩ := Reads.of_own r2
   obtain ⟨o, p1, p2⟩ := HB.out _ ((O1.out.alloc _).trans' o3)
   obtain ⟨x0, x1, x2, x3⟩ := p2.two
   have O3 := Lib.hid o
   have P3 := Lib.hid p2
   have hs3 := (O1.out.alloc (.cells #[.int .i64 m.a, .int .i64 m.b, strV m.t] 90)).size
   simp only [World.size_alloc] at hs3
   have HA := Lib.hid (show OwnAir (w.heap.size + 1 + 1) w4 (.agg #[.slice E1 (Lnk.without a k).ms.length e1, .slice E2 (Lnk.without a k).cs.length e2]) (Lnk.without a k) from ⟨_, _, rfl, own_base r1 (by simp only [World.size_alloc]; omega), own_base r2 (by simp only [World.size_alloc]; omega)⟩)
   clear o p1 p2 r1 r2 o3 y
   go_wp2
   refine bodyPost_ret (results_row_tmp rfl _ _ (w.heap.size + 1) 49 #[.slice E1 (Lnk.without a k).ms.length e1, .slice E2 (Lnk.without a k).cs.length e2] (0, 0) _ rfl (P3.out.put2 _ _) Tryz.underlying49 rfl (by kernel_rfl)) rfl ?_
   exact ⟨_, rfl, HA.out.put2 (by omega) (by omega) _ _, hoks, O3.out.put2 (by omega) _ _⟩
 · have e : Lnk.lose a i = (Lnk.none_, Lnk.bad a i) := by unfold Lnk.lose; rw [if_pos hb0]
   rw [e]
   rw [if_neg hb0] at HAT
   have hbn : (Lnk.bad a i != 0) = true := by simpa using hb0
   generalize Lnk.noM = m at HAT
   clear e hb0
   go_enter Tryz.func78, Tryz.ntmps78
   go_wp2_with fail
   refine (HAT.out _ (HB.out _ (Only.refl _ _)).1).mono ?_
   rintro e w2 ⟨rfl, o1⟩
   obtain ⟨o, p1, p2⟩ := HB.out _ o1
   obtain ⟨x0, x1, x2, x3⟩ := (p2.alloc (.cells #[.int .i64 m.a, .int .i64 m.b, strV m.t] 90)).two
   have P2 := Lib.hid (p2.alloc (.cells #[.int .i64 m.a, .int .i64 m.b, strV m.t] 90))
   have hs := o.size
   have O := Lib.hid (o.alloc (.cells #[.int .i64 m.a, .int .i64 m.b, strV m.t] 90))
   clear o1 o p1 p2
   go_wp2
   refine bodyPost_ret (results_row_tmp rfl _ _ (w.heap.size + 1) 49 #[.slice none 0 0, .slice none 0 0] (0, 0) _ rfl (P2.out.put2 _ _) Tryz.underlying49 rfl (by kernel_rfl)) rfl ?_
   exact ⟨_, rfl, ownNone _ _, okNone, O.out.put2 (by omega) _ _⟩
end
end
section
open Go.RowKit
theorem guardPr : Tryz.prog.eqGuardType Tryz.prog.depth 108 = false := by kernel_rfl
theorem eqPr (w : World) (k k' : Pr) : (Op.equalIn 10000 108 (prV k) (prV k')).run Tryz.prog w = .ok (decide (k = k')) w := by
 have h : (Op.equalIn (9999 + 1) 108 (prV k) (prV k')).run Tryz.prog w = .ok (decide (k = k')) w := by
  obtain ⟨a, b⟩ := k
  obtain ⟨c, d⟩ := k'
  by_cases h1 : a = c <;> by_cases h2 : b = d <;> simp [go_sem, Tryz.underlying108, Tryz.underlying3, h1, h2]
 exact h
theorem eqlPr (w : World) (k k' : Pr) : (binOp .eql 108 (prV k) (prV k')).run Tryz.prog w = .ok (.bool (decide (k = k'))) w := by
 rw [run_eql_struct, eqPr]
 rfl
section
variable {w : World} {v : Value}
theorem idxPr_c {l : List Pr} (h : Prs w v l) (p : Pr) : Calls Tryz.prog 123 #[v, prV p] w (IdxTo w (decide (p ∈ l))) := by
 obtain ⟨A, cap, rfl, h1, h2, hf⟩ := Prs.form h
 have HF := Lib.hid hf
 clear hf h
 unfold maxLen at h2
 go_enter Tryz.func123, Tryz.ntmps123
 go_wp2
 go_loopw [8] (fun i wr => ∃ k : Nat, k ≤ l.length ∧ i = .int .i64 (k : Int) ∧ (∀ m ∈ l.take k, m ≠ p) ∧ Only NoF w wr ∧ Blk wr w.heap.size 108 #[.int .i64 p.x, .int .i64 p.y]) (fun i _ => l.length - (intOf i).toNat)
 case atStart => exact ⟨0, by omega, by go_num, by simp, (Only.refl _ _).alloc _, Blk.new w _ _⟩
 case round =>
  obtain ⟨k, hk, rfl, hp, hO, hK⟩ := hrel
  have HP := Lib.hid hp
  obtain ⟨x0, x1, _, _⟩ := hK.two
  have HK := Lib.hid hK
  clear hp hK
  by_cases hlt : k < l.length
  · obtain ⟨b, off, rfl, _, _, hc⟩ := HF.out k hlt
    obtain ⟨c0, c1⟩ := hc wr hO
    clear hc
    have hgu := fun (x y : Operand) (W : World) => run_eqGuard_agg (P := Tryz.prog) W .eql 108 x y #[.int .i64 p.x, .int .i64 p.y] #[.int .i64 l[k].x, .int .i64 l[k].y] guardPr
    have heq := fun W : World => eqlPr W p l[k]
    by_cases he : p = l[k]
    · have HM := Lib.hid (show decide (p ∈ l) = true by rw [he]; exact decide_eq_true (List.getElem_mem hlt))
      rw [decide_eq_true he] at heq
      clear he
      go_wp2_with fail
      go_quiet (fail)
      go_wp2
      go_ret
      exact ⟨_, rfl, by rw [HM.out]; simp, hO.drewN _⟩
    · rw [decide_eq_false he] at heq
      have HE := Lib.hid he
      clear he
      go_wp2_with fail
      go_quiet (fail)
      go_wp2
      go_roundw
      case rel =>
       refine ⟨k + 1, by omega, by go_num, fun m hm => ?_, hO.drewN _, HK.out.drewN _⟩
       rw [List.take_add_one, List.getElem?_eq_getElem hlt] at hm
       rcases List.mem_append.1 hm with hm | hm
       · exact HP.out m hm
       · simp at hm; rw [hm]; exact fun h => HE.out h.symm
      case measure => simp [intOf]; omega
  · have HM := Lib.hid (show decide (p ∈ l) = false by
     have := HP.out
     rw [List.take_of_length_le (by omega)] at this
     exact decide_eq_false fun h => this p h rfl)
    go_wp2
    go_ret
    exact ⟨_, rfl, by rw [HM.out]; rfl, hO⟩
theorem hasPr_c {l : List Pr} (h : Prs w v l) (p : Pr) : Calls Tryz.prog 104 #[v, prV p] w (BoolTo w (decide (p ∈ l))) := by
 have H := Lib.hid h
 have HC := Lib.hid fun (W : World) (o : Only NoF w W) => idxPr_c (Prs.keep H.out o) p
 clear h
 go_enter Tryz.func104, Tryz.ntmps104
 go_wp2_with fail
 refine (HC.out _ ((Only.refl _ _).alloc _)).mono ?_
 rintro e w2 ⟨i, rfl, hi, o⟩
 have HI := Lib.hid hi
 clear hi
 go_wp2
 go_ret
 exact ⟨ret_bool (by simpa using HI.out), ((Only.refl _ _).alloc _).trans' o⟩
end
end
end Go.Proofs.YtdcbjedkddgfkaaGreatDoor
