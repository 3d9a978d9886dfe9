/-
  Gossip: joined lists and what two lists tell each other, in plain Lean. No condition.
  Gossip: houses and runs, in plain Lean. No condition.
  Gossip: what a run keeps, in plain Lean. No condition.
  Gossip: what Order, Heads and Join say, in plain Lean. No condition.
  Gossip: a list and a larger one, in plain Lean. No condition.
  Gossip: what convicts, what is missing, in plain Lean. No condition.
  Gossip: lists that are sealed in order, in plain Lean. No condition.
-/
import Derived.Test.YtdcbjedkddgfkaaDoorGo13
namespace Go.Proofs.YtdcbjedkddgfkaaDoor
set_option linter.unusedVariables false
set_option linter.unusedSimpArgs false
set_option linter.unusedSectionVars false
section
open Go.RowKit
/-! ### what two lists tell each other -/
def hasN (l : List NM) (x : NM) : Bool := decide (ns x ∈ l.map ns)
section
variable {a b l : List NM} {x : NM}
theorem less_mem : x ∈ lessN (joinN b) (joinN a) ↔ InN b x ∧ ¬ InN a x := by
 unfold lessN
 rw [List.mem_filter, mem_join, decide_eq_true_eq, mem_join]
theorem less_good : GoodN (lessN (joinN b) (joinN a)) := fun x hx => join_good b x (List.mem_filter.1 hx).1
theorem InN_good (h : GoodN l) : InN l x ↔ x ∈ l := by
 constructor
 · rintro ⟨y, hy, _, rfl⟩
   rw [(h y hy).2]; exact hy
 · intro hx
   exact ⟨x, hx, (h x hx).1, (h x hx).2⟩
theorem less_InN : InN (lessN (joinN b) (joinN a)) x ↔ InN b x ∧ ¬ InN a x := by rw [InN_good less_good, less_mem]
theorem talk_a (a b : List NM) : joinN (a ++ lessN (joinN b) (joinN a)) = joinN (a ++ b) := join_congr fun x => by
 rw [InN_app, InN_app, less_InN]
 constructor
 · rintro (h | h)
   · exact .inl h
   · exact .inr h.1
 · rintro (h | h)
   · exact .inl h
   · by_cases h2 : InN a x
     · exact .inl h2
     · exact .inr ⟨h, h2⟩
theorem less_le (J K : List NM) : (lessN J K).length ≤ J.length := List.length_filter_le _ _
theorem sorted_nodup (h : SortedN l) : l.Nodup := h.imp fun {a b} hab e => by subst e; rw [cmpN_irrefl] at hab; omega
theorem sent_len {L : List NM} (h : L.map ns = lessN (joinN b) (joinN a)) : L.length ≤ b.length := by
 have := congrArg List.length h
 rw [List.length_map] at this
 rw [this]
 exact Nat.le_trans (less_le _ _) (joinN_le b)
end
theorem join_mem {a b : List NM} (h : ∀ x, x ∈ a ↔ x ∈ b) : joinN a = joinN b := join_congr fun x => by
 unfold InN
 constructor
 · rintro ⟨y, hy, h2⟩; exact ⟨y, (h y).1 hy, h2⟩
 · rintro ⟨y, hy, h2⟩; exact ⟨y, (h y).2 hy, h2⟩
theorem join_ns2 {a b : List NM} (h : a.map ns = b.map ns) : joinN a = joinN b := by rw [← join_map, h, join_map]
end
section
open Go.RowKit
/-! ### a house's own notes -/
def ofN (l : List NM) (h : Int) : List NM := l.filter fun x => decide (x.h = h)
abbrev UpJ (J : List NM) : Prop := J.Pairwise fun x y => x.h ≤ y.h
theorem of_mem {l : List NM} {h : Int} {x : NM} : x ∈ ofN l h ↔ x ∈ l ∧ x.h = h := by unfold ofN; rw [List.mem_filter, decide_eq_true_eq]
theorem of_app (a b : List NM) (h : Int) : ofN (a ++ b) h = ofN a h ++ ofN b h := List.filter_append ..
theorem of_one_eq {x : NM} {h : Int} (e : x.h = h) : ofN [x] h = [x] := by unfold ofN; simp [e]
theorem of_one_ne {x : NM} {h : Int} (e : ¬ x.h = h) : ofN [x] h = [] := by unfold ofN; simp [e]
theorem of_map (l : List NM) (h : Int) : ofN (l.map ns) h = (ofN l h).map ns := by unfold ofN; rw [List.filter_map]; rfl
theorem run_split {a : NM} {r : List NM} (h : UpJ (a :: r)) : (a :: r).take (runLen (a :: r)) = ofN (a :: r) a.h ∧ ∀ x, x ≠ a.h → ofN ((a :: r).drop (runLen (a :: r))) x = ofN (a :: r) x := by
 have h1 := drop_gt h
 have h2 : ∀ m ∈ (a :: r).take (runLen (a :: r)), m.h = a.h := by
  have e : (a :: r).take (runLen (a :: r)) = a :: (r.takeWhile fun x => decide (x.h = a.h)) := by
   show (a :: r).take (1 + (r.takeWhile fun x => decide (x.h = a.h)).length) = _
   rw [Nat.add_comm, List.take_succ_cons]
   congr 1
   have := List.takeWhile_append_dropWhile (p := fun x : NM => decide (x.h = a.h)) (l := r)
   conv => lhs; rw [← this]
   rw [List.take_append_of_le_length (by rw [this]; exact Nat.le_refl _)]
   rw [this, List.take_length]
  rw [e]
  intro m hm
  rcases List.mem_cons.1 hm with e2 | e2
  · rw [e2]
  · have := List.all_takeWhile (p := fun x : NM => decide (x.h = a.h)) (l := r)
    exact of_decide_eq_true (List.all_eq_true.1 this m e2)
 have h3 : ∀ x, ofN (a :: r) x = ofN ((a :: r).take (runLen (a :: r))) x ++ ofN ((a :: r).drop (runLen (a :: r))) x := fun x => by
  rw [← of_app, List.take_append_drop]
 constructor
 · rw [h3, show ofN ((a :: r).drop (runLen (a :: r))) a.h = [] from List.filter_eq_nil_iff.2 fun m hm => by have := h1 m hm; simp only [decide_eq_true_eq]; omega, List.append_nil]
   unfold ofN
   rw [List.filter_eq_self.2]
   intro m hm
   exact decide_eq_true (h2 m hm)
 · intro x hx
   rw [h3, show ofN ((a :: r).take (runLen (a :: r))) x = [] from List.filter_eq_nil_iff.2 fun m hm => by have := h2 m hm; simp only [decide_eq_true_eq]; omega, List.nil_append]
def houOf (J : List NM) (h : Int) : HM := ⟨h, pastN (ofN J h), adjN (ofN J h), 0⟩
theorem houF_iff : ∀ (f : Nat) (J : List NM), J.length ≤ f → UpJ J → ∀ y, y ∈ housesF f J ↔ y = houOf J y.h ∧ ofN J y.h ≠ []
 | 0, J, hl, _, y => by
  have : J = [] := List.eq_nil_of_length_eq_zero (by omega)
  subst this
  constructor
  · intro h; unfold housesF at h; cases h
  · intro h; exact absurd rfl h.2
 | f + 1, [], _, _, y => by
  constructor
  · intro h; unfold housesF at h; cases h
  · intro h; exact absurd rfl h.2
 | f + 1, a :: r, hl, hU, y => by
  obtain ⟨h1, h2⟩ := run_split hU
  have hp := run_pos a r
  have ih := houF_iff f ((a :: r).drop (runLen (a :: r))) (by rw [List.length_drop]; simp only [List.length_cons] at hl ⊢; omega) hU.drop y
  unfold housesF
  rw [List.mem_cons, ih, h1]
  by_cases e : y.h = a.h
  · have h4 : ofN ((a :: r).drop (runLen (a :: r))) y.h = [] := List.filter_eq_nil_iff.2 fun m hm => by have := drop_gt hU m hm; simp only [decide_eq_true_eq]; omega
    constructor
    · rintro (h | h)
      · subst h
        exact ⟨rfl, List.ne_nil_of_mem (of_mem.2 ⟨List.mem_cons_self, rfl⟩)⟩
      · exact absurd h4 h.2
    · rintro ⟨h, _⟩
      left; rw [h]; unfold houOf; rw [e]
  · rw [show houOf ((a :: r).drop (runLen (a :: r))) y.h = houOf (a :: r) y.h by unfold houOf; rw [h2 _ e], h2 _ e]
    constructor
    · rintro (h | h)
      · subst h; exact absurd rfl e
      · exact h
    · exact .inr
theorem hou_iff {J : List NM} (hU : UpJ J) (y : HM) : y ∈ houN J ↔ y = houOf J y.h ∧ ofN J y.h ≠ [] := houF_iff _ _ (Nat.le_refl _) hU y
theorem hou_asc' {J : List NM} (hU : UpJ J) : (houN J).Pairwise fun x y => x.h < y.h := hou_asc _ _ hU
theorem find_asc {hs : List HM} (hA : hs.Pairwise fun x y => x.h < y.h) {y : HM} (hy : y ∈ hs) : hs.find? (fun z => decide (z.h = y.h)) = some y := by
 induction hs with
 | nil => cases hy
 | cons a r ih =>
  obtain ⟨h1, h2⟩ := List.pairwise_cons.1 hA
  rcases List.mem_cons.1 hy with e | e
  · subst e; simp
  · have := h1 y e
    rw [List.find?_cons_of_neg (by simp only [decide_eq_true_eq]; omega)]
    exact ih h2 e
theorem hou_at {J : List NM} (hU : UpJ J) {h : Int} (hn : ofN J h ≠ []) : (houN J).find? (fun z => decide (z.h = h)) = some (houOf J h) :=
 find_asc (y := houOf J h) (hou_asc' hU) ((hou_iff hU (houOf J h)).2 ⟨rfl, hn⟩)
theorem hou_non {J : List NM} (hU : UpJ J) {h : Int} (hn : ofN J h = []) : (houN J).find? (fun z => decide (z.h = h)) = none := by
 rw [List.find?_eq_none]
 intro y hy e
 have := of_decide_eq_true e
 subst this
 exact ((hou_iff hU y).1 hy).2 hn
theorem past_of {J : List NM} (hU : UpJ J) (h : Int) : pastOfN J h = pastN (ofN J h) := by
 unfold pastOfN
 by_cases hn : ofN J h = []
 · rw [hou_non hU hn, hn]; rfl
 · rw [hou_at hU hn]; rfl
theorem forks_iff {J : List NM} (hU : UpJ J) (h : Int) : h ∈ forksN J ↔ adjN (ofN J h) = true := by
 unfold forksN
 rw [List.mem_map]
 constructor
 · rintro ⟨y, hy, rfl⟩
   obtain ⟨h1, h2⟩ := List.mem_filter.1 hy
   rw [((hou_iff hU y).1 h1).1] at h2
   exact h2
 · intro h1
   refine ⟨houOf J h, List.mem_filter.2 ⟨(hou_iff hU _).2 ⟨rfl, fun e => ?_⟩, h1⟩, rfl⟩
   change ofN J h = [] at e
   rw [e] at h1; cases h1
/-! ### the past -/
theorem check_nil : check [] = 0 := rfl
theorem past_check (l : List NM) : check (pastN l) = 0 := by
 have key : ∀ n, check (l.take (dwnN l n)) = 0 := by
  intro n
  induction n with
  | zero => exact check_nil
  | succ n ih =>
   unfold dwnN
   split
   · rename_i h; exact h
   · exact ih
 exact key _
theorem past_sub {l : List NM} {x : NM} (h : x ∈ pastN l) : x ∈ l := List.mem_of_mem_take h
theorem past_at_n {l : List NM} {k : Nat} {m : NM} (h : (pastN l)[k]? = some m) : right m = true ∧ m.n = (k : Int) := by
 have h1 := check_zero (past_check l) k m h
 exact ⟨h1.1, h1.2.2.1⟩
/-! ### run -/
theorem best_no : ∀ {hs : List HM} {k : Nat}, bestN hs k = none → ∀ (q : Nat) (y : HM) (m : NM), q < k → hs[q]? = some y → nxt y = some m → readyN hs m = false
 | _, 0, _, q, _, _, h, _, _ => absurd h (Nat.not_lt_zero _)
 | hs, k + 1, h, q, y, m, hq, hy, hm => by
  have h0 : bestN hs k = none := by
   cases e : bestN hs k with
   | none => rfl
   | some q =>
    exfalso
    unfold bestN at h
    simp only [e] at h
    split at h
    · cases h
    · split at h
      · cases h
      · split at h <;> cases h
  rcases Nat.lt_or_ge q k with h1 | h1
  · exact best_no h0 q y m h1 hy hm
  · have : q = k := by omega
    subst this
    unfold bestN at h
    rw [hy] at h
    simp only [hm, h0, Bool.true_and] at h
    cases e : readyN hs m
    · rfl
    · rw [e, if_pos rfl] at h; cases h
theorem run_ind {P : List HM → List NM → Prop} (hstep : ∀ (hs : List HM) (out : List NM) (q : Nat) (y : HM) (m : NM), P hs out → hs[q]? = some y → nxt y = some m → readyN hs m = true → P (putN hs q y) (out ++ [m])) :
 ∀ (f : Nat) (hs : List HM) (out : List NM), restN hs ≤ f → P hs out → P (runF f hs out).1 (runF f hs out).2 ∧ bestN (runF f hs out).1 (runF f hs out).1.length = none
 | 0, hs, out, hf, h => by
  refine ⟨h, ?_⟩
  show bestN hs hs.length = none
  cases e : bestN hs hs.length with
  | none => rfl
  | some q =>
   obtain ⟨_, y, m, h1, h2, _⟩ := best_at e
   have := rest_put h1 (List.getElem?_eq_some_iff.1 h2).1
   omega
 | f + 1, hs, out, hf, h => by
  unfold runF
  cases e : bestN hs hs.length with
  | none => exact ⟨h, e⟩
  | some q =>
   obtain ⟨_, y, m, h1, h2, h3⟩ := best_at e
   have := rest_put h1 (List.getElem?_eq_some_iff.1 h2).1
   simp only [h1, h2]
   exact run_ind hstep f _ _ (by omega) (hstep hs out q y m h h1 h2 h3)
end
section
open Go.RowKit
/-! ### what a run keeps -/
structure RunInv (J : List NM) (hs : List HM) (out : List NM) : Prop where
 z : hs.map HM.z = houN J
 t : ∀ y ∈ hs, y.t ≤ y.p.length ∧ ofN out y.h = y.p.take y.t
 o : ∀ m ∈ out, ∃ y ∈ hs, y.h = m.h
 s : (hs.map (·.t)).sum = out.length
 pl : ∀ (i : Nat) (m : NM), out[i]? = some m → (((ofN (out.take i) m.h).length : Nat) : Int) = m.n ∧ ∀ r ∈ m.l, r.n < (((ofN (out.take i) r.h).length : Nat) : Int) ∨ (adjN (ofN J r.h) = true ∧ (((pastN (ofN J r.h)).length : Nat) : Int) ≤ r.n)
section
variable {J : List NM} {hs : List HM} {out : List NM} {y z : HM} {m : NM} {q : Nat} {r : RM}
theorem z_asc (hU : UpJ J) (h : hs.map HM.z = houN J) : hs.Pairwise fun x y => x.h < y.h := by
 have := hou_asc' hU
 rw [← h, List.pairwise_map] at this
 exact this
theorem z_of (hU : UpJ J) (h : hs.map HM.z = houN J) (hy : y ∈ hs) : y.p = pastN (ofN J y.h) ∧ y.f = adjN (ofN J y.h) ∧ ofN J y.h ≠ [] := by
 have h1 : y.z ∈ houN J := by rw [← h]; exact List.mem_map_of_mem hy
 obtain ⟨h2, h3⟩ := (hou_iff hU _).1 h1
 have e1 : y.z.p = pastN (ofN J y.z.h) := by rw [h2]; rfl
 have e2 : y.z.f = adjN (ofN J y.z.h) := by rw [h2]; rfl
 exact ⟨e1, e2, h3⟩
theorem z_has (hU : UpJ J) (h : hs.map HM.z = houN J) {x : Int} (hx : ofN J x ≠ []) : ∃ y ∈ hs, y.h = x := by
 have h1 : houOf J x ∈ hs.map HM.z := by rw [h]; exact (hou_iff hU _).2 ⟨rfl, hx⟩
 obtain ⟨y, hy, e⟩ := List.mem_map.1 h1
 exact ⟨y, hy, congrArg HM.h e⟩
theorem put_mem (hA : hs.Pairwise fun x y => x.h < y.h) (hy : hs[q]? = some y) (hz : z ∈ putN hs q y) : z = ⟨y.h, y.p, y.f, y.t + 1⟩ ∨ (z ∈ hs ∧ z.h ≠ y.h) := by
 obtain ⟨i, hi⟩ := List.getElem?_of_mem hz
 unfold putN at hi
 rw [List.getElem?_set] at hi
 split at hi
 · split at hi
   · injection hi with hi; exact .inl hi.symm
   · cases hi
 · rename_i hne
   refine .inr ⟨List.mem_of_getElem? hi, fun e => ?_⟩
   obtain ⟨h1, e1⟩ := List.getElem?_eq_some_iff.1 hi
   obtain ⟨h2, e2⟩ := List.getElem?_eq_some_iff.1 hy
   rcases Nat.lt_or_ge i q with h | h
   · have := List.pairwise_iff_getElem.1 hA i q h1 h2 h; rw [e1, e2] at this; omega
   · have := List.pairwise_iff_getElem.1 hA q i h2 h1 (by omega); rw [e1, e2] at this; omega
theorem put_has (hy : hs[q]? = some y) (hz : z ∈ hs) : ∃ z2 ∈ putN hs q y, z2.h = z.h := by
 obtain ⟨i, hi⟩ := List.getElem?_of_mem hz
 obtain ⟨h1, e1⟩ := List.getElem?_eq_some_iff.1 hi
 by_cases e : q = i
 · subst e
   rw [hy] at hi; injection hi with hi
   refine ⟨⟨y.h, y.p, y.f, y.t + 1⟩, List.mem_of_getElem? (i := q) ?_, by rw [← hi]⟩
   unfold putN
   rw [List.getElem?_set_self h1]
 · refine ⟨z, List.mem_of_getElem? (i := i) ?_, rfl⟩
   unfold putN
   rw [List.getElem?_set_ne e]; exact hi
theorem sum_set : ∀ {hs : List HM} {q : Nat} {y : HM}, hs[q]? = some y → ((putN hs q y).map (·.t)).sum = (hs.map (·.t)).sum + 1
 | [], q, y, h => by simp at h
 | a :: r, 0, y, h => by
  have : a = y := by simpa using h
  subst this
  unfold putN
  simp only [List.set_cons_zero, List.map_cons, List.sum_cons]
  omega
 | a :: r, q + 1, y, h => by
  have := sum_set (hs := r) (q := q) (y := y) (by simpa using h)
  unfold putN at this ⊢
  simp only [List.set_cons_succ, List.map_cons, List.sum_cons]
  omega
theorem okR_get (h : okR hs r = true) : ∃ z ∈ hs, z.h = r.h ∧ (r.n < (z.t : Int) ∨ (z.f = true ∧ ((z.p.length : Nat) : Int) ≤ r.n)) := by
 unfold okR at h
 split at h
 · cases h
 · rename_i z hz
   refine ⟨z, List.mem_of_find?_eq_some hz, by have := List.find?_some hz; exact of_decide_eq_true this, ?_⟩
   rw [Bool.not_eq_true', Bool.and_eq_false_iff, decide_eq_false_iff_not, Bool.not_eq_false', Bool.and_eq_true, decide_eq_true_eq] at h
   rcases h with h | h
   · exact .inl (by omega)
   · exact .inr h
theorem okR_set (hA : hs.Pairwise fun x y => x.h < y.h) (hz : z ∈ hs) (e : z.h = r.h) (h : r.n < (z.t : Int) ∨ (z.f = true ∧ ((z.p.length : Nat) : Int) ≤ r.n)) : okR hs r = true := by
 unfold okR
 rw [← e, find_asc hA hz]
 show (!(decide ((z.t : Int) ≤ r.n) && !(z.f && decide (((z.p.length : Nat) : Int) ≤ r.n)))) = true
 rw [Bool.not_eq_true', Bool.and_eq_false_iff, decide_eq_false_iff_not, Bool.not_eq_false', Bool.and_eq_true, decide_eq_true_eq]
 rcases h with h | h
 · exact .inl (by omega)
 · exact .inr h
theorem nxt_at (hU : UpJ J) (h : hs.map HM.z = houN J) (hy : y ∈ hs) (hm : nxt y = some m) : m.h = y.h ∧ m.n = (y.t : Int) ∧ right m = true ∧ m ∈ J ∧ y.t < y.p.length := by
 obtain ⟨h1, h2, h3⟩ := z_of hU h hy
 have h4 : m ∈ y.p := List.mem_of_getElem? hm
 rw [h1] at h4
 have h5 := of_mem.1 (past_sub h4)
 have h6 := past_at_n (l := ofN J y.h) (k := y.t) (m := m) (by rw [← h1]; exact hm)
 exact ⟨h5.2, h6.2, h6.1, h5.1, (List.getElem?_eq_some_iff.1 hm).1⟩
theorem run_start (J : List NM) : RunInv J (houN J) [] := by
 have h0 : ∀ y ∈ houN J, y.t = 0 := fun y hy => (hou_t _ _ y hy).1
 refine ⟨?_, fun y hy => ?_, fun m hm => absurd hm List.not_mem_nil, ?_, fun i m h => absurd h (by simp)⟩
 · conv => rhs; rw [← List.map_id (houN J)]
   refine List.map_congr_left fun y hy => ?_
   unfold HM.z
   rw [← h0 y hy]; rfl
 · rw [h0 y hy]; exact ⟨Nat.zero_le _, rfl⟩
 · rw [show (houN J).map (·.t) = (houN J).map fun _ => 0 from List.map_congr_left h0]
   show _ = 0
   clear h0
   generalize houN J = hs
   induction hs with
   | nil => rfl
   | cons a r ih => rw [List.map_cons, List.sum_cons, ih]
theorem run_step (hU : UpJ J) (h : RunInv J hs out) (hy : hs[q]? = some y) (hm : nxt y = some m) (hr : readyN hs m = true) : RunInv J (putN hs q y) (out ++ [m]) := by
 have hA := z_asc hU h.z
 have hyM := List.mem_of_getElem? hy
 obtain ⟨m1, m2, m3, m4, m5⟩ := nxt_at hU h.z hyM hm
 refine ⟨(put_z hy).trans h.z, fun z hz => ?_, fun x hx => ?_, ?_, fun i x hx => ?_⟩
 · rcases put_mem hA hy hz with e | ⟨e1, e2⟩
   · subst e
     refine ⟨m5, ?_⟩
     show ofN (out ++ [m]) y.h = y.p.take (y.t + 1)
     rw [of_app, (h.t y hyM).2, of_one_eq m1, take_succ_get hm]
   · rw [of_app, of_one_ne (by rw [m1]; exact fun e => e2 e.symm), List.append_nil]
     exact h.t z e1
 · rcases List.mem_append.1 hx with e | e
   · obtain ⟨z, hz, e1⟩ := h.o x e
     obtain ⟨z2, hz2, e2⟩ := put_has hy hz
     exact ⟨z2, hz2, e2.trans e1⟩
   · rw [List.mem_singleton.1 e, m1]
     exact put_has hy hyM
 · rw [sum_set hy, h.s, List.length_append]; rfl
 · rcases Nat.lt_or_ge i out.length with hi | hi
   · rw [List.getElem?_append_left hi] at hx
     rw [List.take_append_of_le_length (Nat.le_of_lt hi)]
     exact h.pl i x hx
   · have hl := (List.getElem?_eq_some_iff.1 hx).1
     rw [List.length_append] at hl
     have hi2 : i = out.length := by simp only [List.length_cons, List.length_nil] at hl; omega
     subst hi2
     rw [List.getElem?_concat_length] at hx
     injection hx with hx
     subst hx
     rw [List.take_append_of_le_length (Nat.le_refl _), List.take_length]
     constructor
     · rw [m1, (h.t y hyM).2, List.length_take, Nat.min_eq_left (h.t y hyM).1, m2]
     · intro r hr2
       obtain ⟨z, hz, e1, e2⟩ := okR_get (List.all_eq_true.1 hr r hr2)
       obtain ⟨z1, z2, z3⟩ := z_of hU h.z hz
       rw [← e1, (h.t z hz).2, List.length_take, Nat.min_eq_left (h.t z hz).1, ← z2, ← z1]
       exact e2
theorem run_inv (hU : UpJ J) : RunInv J (runN J).1 (orderN J) ∧ bestN (runN J).1 (runN J).1.length = none :=
 run_ind (P := RunInv J) (fun hs out q y m h hy hm hr => run_step hU h hy hm hr) _ _ _ (Nat.le_refl _) (run_start J)
theorem run_end_no (hU : UpJ J) {y : HM} {m : NM} (hy : y ∈ (runN J).1) (hm : nxt y = some m) : readyN (runN J).1 m = false := by
 obtain ⟨q, hq⟩ := List.getElem?_of_mem hy
 exact best_no (run_inv hU).2 q y m (List.getElem?_eq_some_iff.1 hq).1 hq hm
/-- what has been taken of a house in the end -/
def takenN (J : List NM) (h : Int) : Nat := (ofN (orderN J) h).length
theorem taken_at (hU : UpJ J) (hy : y ∈ (runN J).1) : takenN J y.h = y.t := by
 unfold takenN
 have := ((run_inv hU).1).t y hy
 rw [this.2, List.length_take, Nat.min_eq_left this.1]
theorem order_of (hU : UpJ J) (h : Int) : ofN (orderN J) h = (pastN (ofN J h)).take (takenN J h) := by
 have hI := (run_inv hU).1
 by_cases hn : ofN J h = []
 · have : ofN (orderN J) h = [] := by
    refine List.filter_eq_nil_iff.2 fun m hm e => ?_
    obtain ⟨y, hy, e1⟩ := hI.o m hm
    have h2 := (z_of hU hI.z hy).2.2
    rw [e1, of_decide_eq_true e] at h2
    exact h2 hn
   rw [hn, this, show pastN [] = [] from rfl, List.take_nil]
 · obtain ⟨y, hy, rfl⟩ := z_has hU hI.z hn
   rw [taken_at hU hy, (hI.t y hy).2, (z_of hU hI.z hy).1]
theorem taken_le (hU : UpJ J) (h : Int) : takenN J h ≤ (pastN (ofN J h)).length := by
 have := congrArg List.length (order_of hU h)
 rw [List.length_take] at this
 unfold takenN at *
 omega
theorem order_mem (hU : UpJ J) (hm : m ∈ orderN J) : m ∈ J := by
 have h1 : m ∈ ofN (orderN J) m.h := of_mem.2 ⟨hm, rfl⟩
 rw [order_of hU] at h1
 exact (of_mem.1 (past_sub (List.mem_of_mem_take h1))).1
theorem heads_mem (hU : UpJ J) (r : RM) : r ∈ headsN J ↔ 0 < r.n ∧ r.n = ((takenN J r.h : Nat) : Int) := by
 have hI := (run_inv hU).1
 unfold headsN
 rw [List.mem_map]
 constructor
 · rintro ⟨y, hy, rfl⟩
   obtain ⟨h1, h2⟩ := List.mem_filter.1 hy
   have := of_decide_eq_true h2
   exact ⟨by show 0 < (y.t : Int); omega, by show (y.t : Int) = _; rw [taken_at hU h1]⟩
 · rintro ⟨h1, h2⟩
   have hn : ofN J r.h ≠ [] := by
    intro e
    have := taken_le hU r.h
    rw [e] at this
    have e2 : (pastN []).length = 0 := rfl
    omega
   obtain ⟨y, hy, e⟩ := z_has hU hI.z hn
   have ht := taken_at hU hy
   rw [e] at ht
   refine ⟨y, List.mem_filter.2 ⟨hy, decide_eq_true (by omega)⟩, ?_⟩
   cases r
   simp only at *
   rw [e, h2, ht]
theorem heads_asc (hU : UpJ J) : (headsN J).Pairwise fun x y => x.h < y.h :=
 List.pairwise_map.2 ((z_asc hU (run_inv hU).1.z).filter _)
/-- how many of a house count, by what Heads says -/
def cntH (N : List RM) (h : Int) : Int := match N.find? (fun r => decide (r.h = h)) with
 | some r => r.n
 | none => 0
theorem order_len (hU : UpJ J) : (orderN J).length ≤ J.length := by
 have hI := (run_inv hU).1
 rw [← hI.s]
 have h1 : ((runN J).1.map (·.t)).sum ≤ ((runN J).1.map fun y => y.p.length).sum := by
  have := hI.t
  generalize (runN J).1 = hs at this ⊢
  induction hs with
  | nil => exact Nat.le_refl _
  | cons a r ih =>
   have h2 := (this a List.mem_cons_self).1
   have h3 := ih fun y hy => this y (List.mem_cons_of_mem _ hy)
   simp only [List.map_cons, List.sum_cons]
   omega
 have h2 : ((runN J).1.map fun y => y.p.length) = (houN J).map fun y => y.p.length := by
  rw [← hI.z, List.map_map]; rfl
 have h3 : ((houN J).map fun y => y.p.length).sum = restN (houN J) := by
  unfold restN
  rw [show ((houN J).map fun y => y.p.length - y.t) = (houN J).map fun y => y.p.length from List.map_congr_left fun y hy => by rw [(hou_t _ _ y hy).1]; rfl]
 have h4 := rest_hou J.length J
 rw [h2, h3] at h1
 exact Nat.le_trans h1 h4
end
end
section
open Go.RowKit
/-! ### what Order says: the law -/
def hasI (N : List Int) (x : Int) : Bool := decide (x ∈ N)
def placedN (b : List NM) (x : NM) (N : List RM) (F : List Int) : Bool :=
 decide ((((ofN b x.h).length : Nat) : Int) = x.n) && x.l.all fun r => !(decide ((((ofN b r.h).length : Nat) : Int) ≤ r.n) && (!hasI F r.h || decide (r.n < cntH N r.h)))
section
variable {l : List NM} {O : List NM} {m : NM} {i : Nat}
theorem of_len {A B : List NM} (h : A.map ns = B.map ns) (x : Int) : (ofN A x).length = (ofN B x).length := by
 have := congrArg List.length (of_map A x)
 rw [h, of_map, List.length_map, List.length_map] at this
 exact this.symm
theorem placed_ns {A B : List NM} (h : A.map ns = B.map ns) (N : List RM) (F : List Int) : placedN A m N F = placedN B (ns m) N F := by
 unfold placedN
 rw [of_len h, show (ns m).h = m.h from rfl, show (ns m).n = m.n from rfl, show (ns m).l = m.l from rfl]
 congr 2
 funext r
 rw [of_len h]
end
end
section
open Go.RowKit
/-! ### two lists, one in the other -/
section
variable {J K A B : List NM} {h : Int} {a b m : NM} {k n q : Nat}
theorem of_sorted (hS : SortedN J) (h : Int) : SortedN (ofN J h) := List.Pairwise.filter _ hS
theorem of_h (hm : m ∈ ofN J h) : m.h = h := (of_mem.1 hm).2
/-- notes of one house, in order: their numbers -/
def UpN (L : List NM) : Prop := L.Pairwise fun a b => a.n ≤ b.n
def AscN (L : List NM) : Prop := L.Pairwise fun a b => a.n < b.n
theorem of_up (hS : SortedN J) (h : Int) : UpN (ofN J h) := by
 have h1 := of_sorted hS h
 refine List.Pairwise.imp_of_mem (fun {a b} ha hb hab => ?_) h1
 rcases cmpN_lt.1 hab with e | ⟨_, e | e⟩
 · rw [of_h ha, of_h hb] at e; omega
 · omega
 · omega
theorem adj_false : ∀ {L : List NM}, UpN L → adjN L = false → AscN L
 | [], _, _ => List.Pairwise.nil
 | [x], _, _ => List.pairwise_singleton ..
 | x :: y :: r, hU, h => by
  unfold adjN at h
  rw [Bool.or_eq_false_iff, decide_eq_false_iff_not] at h
  have h1 := List.pairwise_cons.1 hU
  have h2 := adj_false h1.2 h.2
  refine List.pairwise_cons.2 ⟨fun z hz => ?_, h2⟩
  have h3 := h1.1 y List.mem_cons_self
  rcases List.mem_cons.1 hz with e | e
  · subst e; omega
  · have := (List.pairwise_cons.1 h2).1 z e; omega
theorem adj_true : ∀ {L : List NM}, adjN L = true → ∃ (i : Nat) (a b : NM), L[i]? = some a ∧ L[i + 1]? = some b ∧ b.n = a.n
 | [], h => by cases h
 | [x], h => by cases h
 | x :: y :: r, h => by
  unfold adjN at h
  rw [Bool.or_eq_true, decide_eq_true_eq] at h
  rcases h with h | h
  · exact ⟨0, x, y, rfl, rfl, h⟩
  · obtain ⟨i, a, b, h1, h2, h3⟩ := adj_true h
    exact ⟨i + 1, a, b, by simpa using h1, by simpa using h2, h3⟩
theorem adj_iff (hS : SortedN J) (h : Int) : adjN (ofN J h) = true ↔ ∃ a b, a ∈ J ∧ b ∈ J ∧ a.h = h ∧ b.h = h ∧ a ≠ b ∧ a.n = b.n := by
 constructor
 · intro e
   obtain ⟨i, a, b, h1, h2, h3⟩ := adj_true e
   have ha := of_mem.1 (List.mem_of_getElem? h1)
   have hb := of_mem.1 (List.mem_of_getElem? h2)
   obtain ⟨a1, a2⟩ := List.getElem?_eq_some_iff.1 h1
   obtain ⟨b1, b2⟩ := List.getElem?_eq_some_iff.1 h2
   have := List.pairwise_iff_getElem.1 (of_sorted hS h) i (i + 1) a1 b1 (by omega)
   rw [a2, b2] at this
   exact ⟨a, b, ha.1, hb.1, ha.2, hb.2, fun e2 => by rw [e2, cmpN_irrefl] at this; omega, h3.symm⟩
 · rintro ⟨a, b, ha, hb, e1, e2, hne, en⟩
   cases e : adjN (ofN J h)
   · exfalso
     have h1 := adj_false (of_up hS h) e
     obtain ⟨i, hi⟩ := List.getElem?_of_mem (of_mem.2 ⟨ha, e1⟩)
     obtain ⟨j, hj⟩ := List.getElem?_of_mem (of_mem.2 ⟨hb, e2⟩)
     obtain ⟨a1, a2⟩ := List.getElem?_eq_some_iff.1 hi
     obtain ⟨b1, b2⟩ := List.getElem?_eq_some_iff.1 hj
     rcases Nat.lt_trichotomy i j with h2 | h2 | h2
     · have := List.pairwise_iff_getElem.1 h1 i j a1 b1 h2; rw [a2, b2] at this; omega
     · subst h2; rw [hi] at hj; injection hj with hj; exact hne hj
     · have := List.pairwise_iff_getElem.1 h1 j i b1 a1 h2; rw [a2, b2] at this; omega
   · rfl
/-- numbers that ascend: a place is at most its number -/
theorem asc_ge (hB : AscN B) (h0 : ∀ x ∈ B, 0 ≤ x.n) : ∀ (i : Nat) (x : NM), B[i]? = some x → (i : Int) ≤ x.n
 | 0, x, hx => h0 x (List.mem_of_getElem? hx)
 | i + 1, x, hx => by
  obtain ⟨h1, h2⟩ := List.getElem?_eq_some_iff.1 hx
  have h3 : B[i]? = some (B[i]'(by omega)) := List.getElem?_eq_getElem (by omega)
  have h4 := asc_ge hB h0 i _ h3
  have h5 := List.pairwise_iff_getElem.1 hB i (i + 1) (by omega) h1 (by omega)
  rw [h2] at h5
  omega
/-- where the numbers up to q all stand, each stands at its own place -/
theorem asc_at (hB : AscN B) (h0 : ∀ x ∈ B, 0 ≤ x.n) : ∀ (q : Nat), (∀ p, p ≤ q → ∃ x ∈ B, x.n = (p : Int)) → ∃ x, B[q]? = some x ∧ x.n = (q : Int)
 | q, hq => by
  obtain ⟨x, hx, e⟩ := hq q (Nat.le_refl _)
  obtain ⟨i, hi⟩ := List.getElem?_of_mem hx
  have h1 := asc_ge hB h0 i x hi
  have h2 : i = q := by
   rcases Nat.lt_or_ge i q with h2 | h2
   · exfalso
     obtain ⟨j, rfl⟩ : ∃ j, q = j + 1 := ⟨q - 1, by omega⟩
     obtain ⟨y, hy, ey⟩ := asc_at hB h0 j (fun p hp => hq p (by omega))
     obtain ⟨a1, a2⟩ := List.getElem?_eq_some_iff.1 hi
     obtain ⟨b1, b2⟩ := List.getElem?_eq_some_iff.1 hy
     rcases Nat.lt_or_ge i j with h3 | h3
     · have := List.pairwise_iff_getElem.1 hB i j a1 b1 h3; rw [a2, b2] at this; omega
     · have : i = j := by omega
       subst this
       rw [hi] at hy; injection hy with hy; subst hy; omega
   · omega
  subst h2
  exact ⟨x, hi, e⟩
theorem asc_uni (hB : AscN B) (ha : a ∈ B) (hb : b ∈ B) (e : a.n = b.n) : a = b := by
 obtain ⟨i, hi⟩ := List.getElem?_of_mem ha
 obtain ⟨j, hj⟩ := List.getElem?_of_mem hb
 obtain ⟨a1, a2⟩ := List.getElem?_eq_some_iff.1 hi
 obtain ⟨b1, b2⟩ := List.getElem?_eq_some_iff.1 hj
 rcases Nat.lt_trichotomy i j with h2 | h2 | h2
 · have := List.pairwise_iff_getElem.1 hB i j a1 b1 h2; rw [a2, b2] at this; omega
 · subst h2; rw [hi] at hj; injection hj
 · have := List.pairwise_iff_getElem.1 hB j i b1 a1 h2; rw [a2, b2] at this; omega
theorem ok_asc (hB : AscN B) (hx : B[q]? = some m) (e : m.n = (q : Int)) : okAt B q = true := by
 unfold okAt
 rw [hx]
 show (decide (m.n = (q : Int)) && _) = true
 rw [Bool.and_eq_true, decide_eq_true_eq]
 refine ⟨e, ?_⟩
 split
 · rfl
 · rename_i m2 h2
   obtain ⟨a1, a2⟩ := List.getElem?_eq_some_iff.1 hx
   obtain ⟨b1, b2⟩ := List.getElem?_eq_some_iff.1 h2
   have := List.pairwise_iff_getElem.1 hB q (q + 1) a1 b1 (by omega)
   rw [a2, b2] at this
   exact decide_eq_true (by omega)
theorem dwn_max {l : List NM} (hc : check (l.take k) = 0) : ∀ {n : Nat}, k ≤ n → k ≤ dwnN l n
 | 0, h => by unfold dwnN; exact h
 | n + 1, h => by
  unfold dwnN
  split
  · exact h
  · rename_i hn
    rcases Nat.lt_or_ge k (n + 1) with h1 | h1
    · exact dwn_max hc (by omega)
    · have : k = n + 1 := by omega
      subst this; exact absurd hc hn
/-! ### Grows -/
end
end
section
open Go.RowKit
/-! ### what convicts a house -/
theorem same_ns {a b : NM} : same a b = true ↔ ns a = ns b := by
 unfold same ns
 simp only [Bool.and_eq_true, decide_eq_true_eq, NM.mk.injEq]
 constructor
 · rintro ⟨⟨⟨⟨h1, h2⟩, h3⟩, h4⟩, h5⟩; exact ⟨h1, h2, h3, trivial, h4, trivial, h5⟩
 · rintro ⟨h1, h2, h3, _, h4, _, h5⟩; exact ⟨⟨⟨⟨h1, h2⟩, h3⟩, h4⟩, h5⟩
section
variable {l : List NM} {h v : Int} {i k : Nat} {a b : NM}
end
/-! ### what is missing -/
def gR (h : Int) (a : Int) (r : RM) : Int := if r.h = h then max a r.n else a
section
variable {l J : List NM} {h x a : Int} {m : NM} {q : Nat}
theorem gR_lt : ∀ (rs : List RM) (a : Int), x ≤ rs.foldl (gR h) a ↔ x ≤ a ∨ ∃ r ∈ rs, r.h = h ∧ x ≤ r.n
 | [], a => by simp
 | r :: rs, a => by
  rw [List.foldl_cons, gR_lt rs]
  unfold gR
  constructor
  · rintro (h1 | ⟨r2, h1, h2⟩)
    · split at h1
      · rename_i e
        rcases Int.le_total a r.n with h3 | h3
        · exact .inr ⟨r, List.mem_cons_self, e, by omega⟩
        · exact .inl (by omega)
      · exact .inl h1
    · exact .inr ⟨r2, List.mem_cons_of_mem _ h1, h2⟩
  · rintro (h1 | ⟨r2, h1, h2, h3⟩)
    · left; split <;> omega
    · rcases List.mem_cons.1 h1 with e | e
      · subst e; left; rw [if_pos h2]; omega
      · exact .inr ⟨r2, e, h2, h3⟩
/-- what a note asks of a house -/
def Asks (m : NM) (h x : Int) : Prop := (m.h = h ∧ x < m.n) ∨ ∃ r ∈ m.l, r.h = h ∧ x ≤ r.n
theorem wR_lt {h : Nat} : ∀ (rs : List RM) (a : Int), x < rs.foldl (wantR h) a ↔ x < a ∨ ∃ r ∈ rs, r.h = (h : Int) ∧ x ≤ r.n
 | [], a => by simp
 | r :: rs, a => by
  rw [List.foldl_cons, wR_lt rs]
  unfold wantR
  constructor
  · rintro (h1 | ⟨r2, h1, h2⟩)
    · split at h1
      · rename_i e
        rcases Int.le_total a (r.n + 1) with h3 | h3
        · exact .inr ⟨r, List.mem_cons_self, e, by omega⟩
        · exact .inl (by omega)
      · exact .inl h1
    · exact .inr ⟨r2, List.mem_cons_of_mem _ h1, h2⟩
  · rintro (h1 | ⟨r2, h1, h2, h3⟩)
    · left; split <;> omega
    · rcases List.mem_cons.1 h1 with e | e
      · subst e; left; rw [if_pos h2]; omega
      · exact .inr ⟨r2, e, h2, h3⟩
theorem need_lt {h : Nat} (J : List NM) : x < needN J h ↔ x < 0 ∨ ∃ m ∈ J, Asks m h x := by
 unfold needN
 generalize (0 : Int) = a
 induction J generalizing a with
 | nil => simp
 | cons m l ih =>
  have h0 : x < wantS h a m ↔ x < a ∨ Asks m h x := by
   unfold wantS wantH Asks
   rw [wR_lt]
   constructor
   · rintro (h1 | h1)
     · split at h1
       · rename_i e
         rcases Int.le_total a m.n with h3 | h3
         · exact .inr (.inl ⟨e, by omega⟩)
         · exact .inl (by omega)
       · exact .inl h1
     · exact .inr (.inr h1)
   · rintro (h1 | ⟨h1, h2⟩ | h1)
     · left; split <;> omega
     · left; rw [if_pos h1]; omega
     · exact .inr h1
  rw [List.foldl_cons, ih, h0]
  constructor
  · rintro ((h1 | h1) | ⟨m2, h1, h2⟩)
    · exact .inl h1
    · exact .inr ⟨m, List.mem_cons_self, h1⟩
    · exact .inr ⟨m2, List.mem_cons_of_mem _ h1, h2⟩
  · rintro (h1 | ⟨m2, h1, h2⟩)
    · exact .inl (.inl h1)
    · rcases List.mem_cons.1 h1 with e | e
      · subst e; exact .inl (.inr h2)
      · exact .inr ⟨m2, e, h2⟩
/-- the next number is the least absent one -/
theorem next_least {h : Nat} (hS : SortedN J) : 0 ≤ nextN J h ∧ (∀ x : Int, 0 ≤ x → x < nextN J h → ∃ m ∈ J, m.h = (h : Int) ∧ m.n = x) ∧ ¬ ∃ m ∈ J, m.h = (h : Int) ∧ m.n = nextN J h := by
 have key : ∀ k, k ≤ J.length → 0 ≤ nextN (J.take k) h ∧ (∀ x : Int, 0 ≤ x → x < nextN (J.take k) h → ∃ m ∈ J.take k, m.h = (h : Int) ∧ m.n = x) ∧ ¬ ∃ m ∈ J.take k, m.h = (h : Int) ∧ m.n = nextN (J.take k) h := by
  intro k
  induction k with
  | zero =>
   intro _
   refine ⟨Int.le_refl _, fun x h1 h2 => ?_, fun ⟨m, hm, _⟩ => by rw [List.take_zero] at hm; cases hm⟩
   have : nextN (J.take 0) h = 0 := rfl
   omega
  | succ k ih =>
   intro hk
   obtain ⟨i1, i2, i3⟩ := ih (by omega)
   obtain ⟨m, hm⟩ : ∃ m, J[k]? = some m := ⟨J[k]'(by omega), List.getElem?_eq_getElem _⟩
   rw [next_step hm, take_succ_get hm]
   unfold nextS
   split
   · rename_i e
     refine ⟨by omega, fun x h1 h2 => ?_, fun ⟨m2, g1, g2, g3⟩ => ?_⟩
     · rcases Int.lt_or_le x (nextN (J.take k) h) with h3 | h3
       · obtain ⟨m2, g1, g2⟩ := i2 x h1 h3
         exact ⟨m2, List.mem_append_left _ g1, g2⟩
       · exact ⟨m, List.mem_append_right _ List.mem_cons_self, e.1, by omega⟩
     · rcases List.mem_append.1 g1 with g4 | g4
       · obtain ⟨i, hi⟩ := List.getElem?_of_mem g4
         rw [List.getElem?_take] at hi
         split at hi
         · obtain ⟨a1, a2⟩ := List.getElem?_eq_some_iff.1 hi
           obtain ⟨b1, b2⟩ := List.getElem?_eq_some_iff.1 hm
           have := List.pairwise_iff_getElem.1 hS i k a1 b1 (by omega)
           rw [a2, b2] at this
           rcases cmpN_lt.1 this with e2 | ⟨_, e2 | ⟨e2, _⟩⟩
           · omega
           · omega
           · omega
         · cases hi
       · have := List.mem_singleton.1 g4
         subst this; omega
   · rename_i e
     refine ⟨i1, fun x h1 h2 => ?_, fun ⟨m2, g1, g2, g3⟩ => ?_⟩
     · obtain ⟨m2, g1, g2⟩ := i2 x h1 h2
       exact ⟨m2, List.mem_append_left _ g1, g2⟩
     · rcases List.mem_append.1 g1 with g4 | g4
       · exact i3 ⟨m2, g4, g2, g3⟩
       · have := List.mem_singleton.1 g4
         subst this; exact e ⟨g2, g3⟩
 have := key J.length (Nat.le_refl _)
 rwa [List.take_length] at this
end
end
section
open Go.RowKit
/-! ### lists that all seal in order -/
theorem chk_ok {h0 : Int} : ∀ (l : List NM) (i : Nat) (d : Int), (∀ (k : Nat) (m : NM), l[k]? = some m → right m = true ∧ m.h = h0 ∧ m.n = ((i + k : Nat) : Int) ∧ (k = 0 → d ≤ m.d) ∧ ∀ p : NM, 0 < k → l[k - 1]? = some p → p.d ≤ m.d) → chk h0 i d l = 0
 | [], _, _, _ => rfl
 | m :: l, i, d, h => by
  obtain ⟨h1, h2, h3, h4, _⟩ := h 0 m rfl
  have h5 := h4 rfl
  unfold chk
  rw [if_neg (by rw [h1]; decide), if_neg (fun e => e h2), if_neg (by omega), if_neg (by omega), if_neg (by omega)]
  refine chk_ok l (i + 1) m.d fun k x hx => ?_
  obtain ⟨g1, g2, g3, _, g5⟩ := h (k + 1) x (by simpa using hx)
  refine ⟨g1, g2, by rw [g3]; omega, fun e => ?_, fun p h0 hp => ?_⟩
  · subst e; exact g5 m (by omega) rfl
  · refine g5 p (by omega) ?_
    rw [Nat.add_sub_cancel]
    obtain ⟨j, rfl⟩ : ∃ j, k = j + 1 := ⟨k - 1, by omega⟩
    simpa using hp
theorem check_ok {l : List NM} (hl : l.length ≤ 400) {h0 : Int} (h : ∀ (k : Nat) (m : NM), l[k]? = some m → right m = true ∧ m.h = h0 ∧ m.n = (k : Int) ∧ ∀ p : NM, 0 < k → l[k - 1]? = some p → p.d ≤ m.d) : check l = 0 := by
 cases l with
 | nil => rfl
 | cons a r =>
  unfold check
  rw [if_neg (by omega)]
  have ha := (h 0 a rfl).2.1
  refine chk_ok _ 0 0 fun k m hm => ?_
  obtain ⟨g1, g2, g3, g4⟩ := h k m hm
  refine ⟨g1, by rw [g2, ← ha]; rfl, by rw [g3]; simp, fun _ => (right_ok g1).2.2.2, g4⟩
theorem sub_len {α : Type} [DecidableEq α] : ∀ {a b : List α}, a.Nodup → (∀ x ∈ a, x ∈ b) → a.length ≤ b.length
 | [], b, _, _ => Nat.zero_le _
 | x :: a, b, hn, h => by
  obtain ⟨h1, h2⟩ := List.nodup_cons.1 hn
  have hx := h x List.mem_cons_self
  have := sub_len (b := b.erase x) h2 fun y hy => (List.mem_erase_of_ne (fun e => h1 (by rw [← e]; exact hy))).2 (h y (List.mem_cons_of_mem _ hy))
  rw [List.length_erase_of_mem hx] at this
  have := List.length_pos_of_mem hx
  simp only [List.length_cons]
  omega
/-- each note of a list: right, of one of eight houses, numbered by what came before, its day not earlier, its needs before it -/
structure Sealed (L : List NM) : Prop where
 g : GoodN L
 n : ∀ (i : Nat) (m : NM), L[i]? = some m → 0 ≤ m.h ∧ m.h < 8 ∧ m.n = (((ofN (L.take i) m.h).length : Nat) : Int) ∧ (∀ p ∈ ofN (L.take i) m.h, p.d ≤ m.d) ∧ ∀ r ∈ m.l, ∃ m2 ∈ L.take i, m2.h = r.h ∧ m2.n = r.n
/-- a part of the list that has what its notes ask for -/
structure ClosedL (L S : List NM) : Prop where
 s : ∀ x ∈ S, x ∈ L
 c : ∀ x ∈ S, ∀ y ∈ L, ((y.h = x.h ∧ y.n < x.n) ∨ ∃ r ∈ x.l, r.h = y.h ∧ y.n ≤ r.n) → y ∈ S
section
variable {L S M : List NM} {h : Int} {i j : Nat} {m x y : NM}
theorem of_take_lt {l : List NM} (hx : l[i]? = some x) (hij : i < j) (e : x.h = h) : (ofN (l.take i) h).length < (ofN (l.take j) h).length := by
 have e1 : l.take j = l.take (i + 1) ++ (l.take j).drop (i + 1) := by
  have := List.take_append_drop (i + 1) (l.take j)
  rw [List.take_take, Nat.min_eq_left (by omega)] at this
  exact this.symm
 rw [e1, of_app, take_succ_get hx, of_app, of_one_eq e, List.length_append, List.length_append]
 simp only [List.length_cons, List.length_nil]
 omega
theorem seal_lt (hL : Sealed L) (hi : L[i]? = some x) (hj : L[j]? = some y) (hij : i < j) (e : x.h = y.h) : x.n < y.n := by
 have h1 := (hL.n i x hi).2.2.1
 have h2 := (hL.n j y hj).2.2.1
 have := of_take_lt (h := y.h) hi hij e
 rw [e] at h1
 omega
theorem seal_idx (hL : Sealed L) (hi : L[i]? = some x) (hj : L[j]? = some y) (e : x.h = y.h) (hn : x.n < y.n) : i < j := by
 rcases Nat.lt_trichotomy i j with h1 | h1 | h1
 · exact h1
 · subst h1; rw [hi] at hj; injection hj with hj; subst hj; omega
 · have := seal_lt hL hj hi h1 e.symm; omega
theorem seal_uni (hL : Sealed L) (hx : x ∈ L) (hy : y ∈ L) (e : x.h = y.h) (hn : x.n = y.n) : x = y := by
 obtain ⟨i, hi⟩ := List.getElem?_of_mem hx
 obtain ⟨j, hj⟩ := List.getElem?_of_mem hy
 rcases Nat.lt_trichotomy i j with h1 | h1 | h1
 · have := seal_lt hL hi hj h1 e; omega
 · subst h1; rw [hi] at hj; injection hj
 · have := seal_lt hL hj hi h1 e.symm; omega
theorem seal_nodup (hL : Sealed L) : L.Nodup := List.pairwise_iff_getElem.2 fun i j hi hj hij e => by
 have := seal_lt hL (List.getElem?_eq_getElem hi) (List.getElem?_eq_getElem hj) hij (by rw [e])
 rw [e] at this; omega
/-- every number below a note's has its note, earlier -/
theorem seal_below (hL : Sealed L) : ∀ (i : Nat) (x : NM), L[i]? = some x → ∀ p : Nat, (p : Int) < x.n → ∃ y ∈ L, y.h = x.h ∧ y.n = (p : Int)
 | i, x, hi, p, hp => by
  have h1 := (hL.n i x hi).2.2.1
  have h2 : p < (ofN (L.take i) x.h).length := by omega
  have key : ∀ (i : Nat), i ≤ L.length → ∀ p, p < (ofN (L.take i) x.h).length → ∃ y ∈ L, y.h = x.h ∧ y.n = (p : Int) := by
   intro i
   induction i with
   | zero => intro _ p hp; rw [List.take_zero] at hp; exact absurd hp (Nat.not_lt_zero _)
   | succ i ih =>
    intro hl p hp
    have hz : L[i]? = some (L[i]'(by omega)) := List.getElem?_eq_getElem (by omega)
    generalize L[i]'(by omega) = z at hz
    rw [take_succ_get hz, of_app] at hp
    rcases Nat.lt_or_ge p (ofN (L.take i) x.h).length with h3 | h3
    · exact ih (by omega) p h3
    · by_cases e : z.h = x.h
      · rw [of_one_eq e, List.length_append] at hp
        simp only [List.length_cons, List.length_nil] at hp
        refine ⟨z, List.mem_of_getElem? hz, e, ?_⟩
        rw [(hL.n i z hz).2.2.1, e]; omega
      · rw [of_one_ne e, List.append_nil] at hp; omega
  exact key i (Nat.le_of_lt (List.getElem?_eq_some_iff.1 hi).1) p h2
/-- M: the joined list of a closed part -/
structure Part (L S M : List NM) : Prop where
 l : Sealed L
 c : ClosedL L S
 o : SortedN M
 m : ∀ x, x ∈ M ↔ x ∈ S
 len : L.length ≤ 400
theorem part_join (hL : Sealed L) (hC : ClosedL L S) (hl : L.length ≤ 400) : Part L S (joinN S) :=
 ⟨hL, hC, join_sorted S, fun x => by rw [mem_join, InN_good fun y hy => hL.g y (hC.s y hy)], hl⟩
theorem part_up (P : Part L S M) : UpJ M := by
 refine P.o.imp fun {a b} hab => ?_
 rcases cmpN_lt.1 hab with e | e
 · omega
 · omega
theorem part_in (P : Part L S M) (hx : x ∈ M) : x ∈ L := P.c.s x ((P.m x).1 hx)
theorem part_asc (P : Part L S M) (h : Int) : AscN (ofN M h) := by
 refine adj_false (of_up P.o h) ?_
 cases e : adjN (ofN M h)
 · rfl
 · obtain ⟨a, b, h1, h2, h3, h4, h5, h6⟩ := (adj_iff P.o h).1 e
   exact absurd (seal_uni P.l (part_in P h1) (part_in P h2) (h3.trans h4.symm) h6) h5
theorem part_at (P : Part L S M) (hx : (ofN M h)[i]? = some x) : x.n = (i : Int) := by
 have hB := part_asc P h
 have hm := of_mem.1 (List.mem_of_getElem? hx)
 have h0 : ∀ z ∈ ofN M h, 0 ≤ z.n := fun z hz => (right_ok (P.l.g z (part_in P (of_mem.1 hz).1)).1).2.1.2
 obtain ⟨q, hq⟩ : ∃ q : Nat, x.n = (q : Int) := ⟨x.n.toNat, by have := h0 x (List.mem_of_getElem? hx); omega⟩
 obtain ⟨y, hy, e⟩ := asc_at hB h0 q fun p hp => by
  rcases Nat.lt_or_ge p q with h1 | h1
  · obtain ⟨j, hj⟩ := List.getElem?_of_mem (part_in P hm.1)
    obtain ⟨z, hz, e1, e2⟩ := seal_below P.l j x hj p (by omega)
    have : z ∈ S := P.c.c x ((P.m x).1 hm.1) z hz (.inl ⟨e1, by omega⟩)
    exact ⟨z, of_mem.2 ⟨(P.m z).2 this, e1.trans hm.2⟩, e2⟩
  · exact ⟨x, List.mem_of_getElem? hx, by omega⟩
 have : x = y := asc_uni hB (List.mem_of_getElem? hx) (List.mem_of_getElem? hy) (by omega)
 subst this
 obtain ⟨a1, a2⟩ := List.getElem?_eq_some_iff.1 hx
 obtain ⟨b1, b2⟩ := List.getElem?_eq_some_iff.1 hy
 rcases Nat.lt_trichotomy i q with h1 | h1 | h1
 · have := List.pairwise_iff_getElem.1 hB i q a1 b1 h1; rw [a2, b2] at this; omega
 · omega
 · have := List.pairwise_iff_getElem.1 hB q i b1 a1 h1; rw [a2, b2] at this; omega
theorem part_len (P : Part L S M) (h : Int) : (ofN M h).length ≤ L.length :=
 sub_len ((sorted_nodup P.o).filter _) fun x hx => part_in P (of_mem.1 hx).1
theorem part_chain (P : Part L S M) (h : Int) : ∀ (k : Nat) (m : NM), (ofN M h)[k]? = some m → right m = true ∧ m.h = h ∧ m.n = (k : Int) ∧ ∀ p : NM, 0 < k → (ofN M h)[k - 1]? = some p → p.d ≤ m.d := by
 intro k m hm
 have h1 := of_mem.1 (List.mem_of_getElem? hm)
 refine ⟨(P.l.g m (part_in P h1.1)).1, h1.2, part_at P hm, fun p h0 hp => ?_⟩
 have h2 := of_mem.1 (List.mem_of_getElem? hp)
 have e1 := part_at P hm
 have e2 := part_at P hp
 obtain ⟨i, hi⟩ := List.getElem?_of_mem (part_in P h1.1)
 obtain ⟨j, hj⟩ := List.getElem?_of_mem (part_in P h2.1)
 have hji := seal_idx P.l hj hi (h2.2.trans h1.2.symm) (by omega)
 refine (P.l.n i m hi).2.2.2.1 p (of_mem.2 ⟨List.mem_of_getElem? (i := j) ?_, h2.2.trans h1.2.symm⟩)
 rw [List.getElem?_take, if_pos hji]; exact hj
theorem part_check (P : Part L S M) (h : Int) (k : Nat) : check ((ofN M h).take k) = 0 := by
 have hl := part_len P h
 have hl2 := P.len
 refine check_ok (h0 := h) (by rw [List.length_take]; omega) fun q m hm => ?_
 rw [List.getElem?_take] at hm
 split at hm
 · obtain ⟨g1, g2, g3, g4⟩ := part_chain P h q m hm
   refine ⟨g1, g2, g3, fun p h0 hp => g4 p h0 ?_⟩
   rw [List.getElem?_take, if_pos (by omega)] at hp; exact hp
 · cases hm
theorem part_past (P : Part L S M) (h : Int) : pastN (ofN M h) = ofN M h := by
 have hc : cntN (ofN M h) = (ofN M h).length := by
  rcases Nat.lt_or_ge (cntN (ofN M h)) (ofN M h).length with h1 | h1
  · have h2 : (ofN M h)[cntN (ofN M h)]? = some ((ofN M h)[cntN (ofN M h)]'h1) := List.getElem?_eq_getElem h1
    have := (cnt_spec (ofN M h)).2
    rw [ok_asc (part_asc P h) h2 (part_at P h2)] at this; cases this
  · have := cnt_le (ofN M h); omega
 unfold pastN
 have := dwn_max (l := ofN M h) (k := (ofN M h).length) (part_check P h _) (n := cntN (ofN M h)) (by omega)
 exact List.take_of_length_le this
theorem part_forks (P : Part L S M) : forksN M = [] := by
 cases e : forksN M with
 | nil => rfl
 | cons x r =>
  exfalso
  have h1 := (forks_iff (part_up P) x).1 (by rw [e]; exact List.mem_cons_self)
  obtain ⟨a, b, g1, g2, g3, g4, g5, g6⟩ := (adj_iff P.o x).1 h1
  exact g5 (seal_uni P.l (part_in P g1) (part_in P g2) (g3.trans g4.symm) g6)
/-- all of it counts -/
theorem part_all (P : Part L S M) (hx : x ∈ M) : x.n < ((takenN M x.h : Nat) : Int) := by
 have key : ∀ (i : Nat) (x : NM), L[i]? = some x → x ∈ M → x.n < ((takenN M x.h : Nat) : Int) := by
  intro i
  induction i using Nat.strongRecOn with
  | ind i ih =>
   intro x hi hx
   rcases Int.lt_or_le x.n ((takenN M x.h : Nat) : Int) with h1 | h1
   · exact h1
   · exfalso
     have hU := part_up P
     have h0 : 0 ≤ x.n := (right_ok (P.l.g x (part_in P hx)).1).2.1.2
     have hS := (P.m x).1 hx
     have het : ((takenN M x.h : Nat) : Int) = x.n := by
      rcases Int.lt_or_le ((takenN M x.h : Nat) : Int) x.n with h2 | h2
      · exfalso
        obtain ⟨y, hy, e1, e2⟩ := seal_below P.l i x hi (takenN M x.h) h2
        obtain ⟨j, hj⟩ := List.getElem?_of_mem hy
        have hji := seal_idx P.l hj hi e1 (by omega)
        have := ih j hji y hj ((P.m y).2 (P.c.c x hS y hy (.inl ⟨e1, by omega⟩)))
        rw [e1] at this; omega
      · omega
     have hn : ofN M x.h ≠ [] := List.ne_nil_of_mem (of_mem.2 ⟨hx, rfl⟩)
     have hI := (run_inv hU).1
     obtain ⟨z, hz, ez⟩ := z_has hU hI.z hn
     have hzt := taken_at hU hz
     have hzp := (z_of hU hI.z hz).1
     rw [ez] at hzt hzp
     rw [part_past P] at hzp
     obtain ⟨k, hk⟩ := List.getElem?_of_mem (of_mem.2 ⟨hx, rfl⟩ : x ∈ ofN M x.h)
     have hkn := part_at P hk
     have hzn : nxt z = some x := by
      show z.p[z.t]? = some x
      rw [hzp, show z.t = k by omega]; exact hk
     have hno := run_end_no hU hz hzn
     have hyes : readyN (runN M).1 x = true := List.all_eq_true.2 fun r hr => by
      obtain ⟨y, hy, e1, e2⟩ := (P.l.n i x hi).2.2.2.2 r hr
      obtain ⟨j, hj⟩ := List.getElem?_of_mem hy
      rw [List.getElem?_take] at hj
      split at hj
      · rename_i hji
        have hyL := List.mem_of_getElem? hj
        have hyM := (P.m y).2 (P.c.c x hS y hyL (.inr ⟨r, hr, e1.symm, by omega⟩))
        have ht := ih j hji y hj hyM
        obtain ⟨z2, hz2, ez2⟩ := z_has hU hI.z (List.ne_nil_of_mem (of_mem.2 ⟨hyM, rfl⟩) : ofN M y.h ≠ [])
        have hz2t := taken_at hU hz2
        rw [ez2] at hz2t
        exact okR_set (z_asc hU hI.z) hz2 (ez2.trans e1) (.inl (by omega))
      · cases hj
     rw [hyes] at hno; cases hno
 obtain ⟨i, hi⟩ := List.getElem?_of_mem (part_in P hx)
 exact key i x hi hx
theorem part_taken (P : Part L S M) (h : Int) : takenN M h = (ofN M h).length := by
 have h1 := taken_le (part_up P) h
 rw [part_past P] at h1
 rcases Nat.lt_or_ge (takenN M h) (ofN M h).length with h2 | h2
 · exfalso
   have h3 : (ofN M h)[(takenN M h)]? = some ((ofN M h)[takenN M h]'h2) := List.getElem?_eq_getElem h2
   generalize (ofN M h)[takenN M h]'h2 = x at h3
   have h4 := of_mem.1 (List.mem_of_getElem? h3)
   have h5 := part_all P h4.1
   have h6 := part_at P h3
   rw [h4.2] at h5; omega
 · omega
theorem part_order (P : Part L S M) (hx : x ∈ M) : x ∈ orderN M := by
 have : x ∈ ofN (orderN M) x.h := by
  rw [order_of (part_up P), part_past P, part_taken P, List.take_length]
  exact of_mem.2 ⟨hx, rfl⟩
 exact (of_mem.1 this).1
theorem part_olen (P : Part L S M) : (orderN M).length = M.length := by
 have h1 := order_len (part_up P)
 have h2 := sub_len (sorted_nodup P.o) (fun x hx => part_order P hx)
 omega
theorem part_placed (P : Part L S M) (hx : (orderN M)[i]? = some x) : placedN ((orderN M).take i) x [] [] = true := by
 have h1 := (run_inv (part_up P)).1.pl i x hx
 unfold placedN
 rw [Bool.and_eq_true]
 refine ⟨decide_eq_true h1.1, List.all_eq_true.2 fun r hr => ?_⟩
 rcases h1.2 r hr with h2 | ⟨h2, _⟩
 · rw [decide_eq_false (by omega)]; rfl
 · exfalso
   obtain ⟨a, b, g1, g2, g3, g4, g5, g6⟩ := (adj_iff P.o r.h).1 h2
   exact g5 (seal_uni P.l (part_in P g1) (part_in P g2) (g3.trans g4.symm) g6)
theorem part_miss (P : Part L S M) : missN M = [] := by
 unfold missN
 rw [show (List.range 400).filter (fun h => decide (nextN M h < needN M h)) = [] from List.filter_eq_nil_iff.2 fun h _ e => ?_]
 · rfl
 · have e1 := of_decide_eq_true e
   obtain ⟨h0, h1, h2⟩ := next_least (h := h) P.o
   rcases (need_lt M).1 e1 with h3 | ⟨x, hx, ha⟩
   · omega
   · obtain ⟨p, hp⟩ : ∃ p : Nat, nextN M h = (p : Int) := ⟨(nextN M h).toNat, by omega⟩
     have hxS := (P.m x).1 hx
     obtain ⟨i, hi⟩ := List.getElem?_of_mem (part_in P hx)
     rcases ha with ⟨e2, h4⟩ | ⟨r, hr, e2, h4⟩
     · obtain ⟨y, hy, g1, g2⟩ := seal_below P.l i x hi p (by omega)
       exact h2 ⟨y, (P.m y).2 (P.c.c x hxS y hy (.inl ⟨g1, by omega⟩)), g1.trans e2, by omega⟩
     · obtain ⟨y, hy, g1, g2⟩ := (P.l.n i x hi).2.2.2.2 r hr
       have hyL : y ∈ L := List.mem_of_mem_take hy
       rcases Int.lt_or_le (p : Int) y.n with h5 | h5
       · obtain ⟨j, hj⟩ := List.getElem?_of_mem hyL
         obtain ⟨z, hz, k1, k2⟩ := seal_below P.l j y hj p h5
         exact h2 ⟨z, (P.m z).2 (P.c.c x hxS z hz (.inr ⟨r, hr, by omega, by omega⟩)), by omega, by omega⟩
       · exact h2 ⟨y, (P.m y).2 (P.c.c x hxS y hyL (.inr ⟨r, hr, by omega, by omega⟩)), by omega, by omega⟩
end
end
end Go.Proofs.YtdcbjedkddgfkaaDoor
