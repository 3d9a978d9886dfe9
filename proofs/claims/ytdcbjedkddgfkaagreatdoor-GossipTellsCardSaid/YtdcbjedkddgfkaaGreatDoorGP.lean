/-
  Gossip: joined lists and what two lists tell each other, in plain Lean. No condition.
  Gossip: houses and runs, in plain Lean. No condition.
  Gossip: what a run keeps, in plain Lean. No condition.
  Gossip: what Order, Heads and Join say, in plain Lean. No condition.
  Gossip: a list and a larger one, in plain Lean. No condition.
  Gossip: what convicts, what is missing, in plain Lean. No condition.
  Gossip: lists that are sealed in order, in plain Lean. No condition.
-/
import Derived.Test.YtdcbjedkddgfkaaGreatDoorGo13
namespace Go.Proofs.YtdcbjedkddgfkaaGreatDoor
set_option linter.unusedVariables false
set_option linter.unusedSimpArgs false
set_option linter.unusedSectionVars false
section
open Go.RowKit
/-! ### what two lists tell each other -/
def hasN (l : List NM) (x : NM) : Bool := decide (ns x ∈ l.map ns)
section
variable {a b l : List NM} {x : NM}
theorem less_le (J K : List NM) : (lessN J K).length ≤ J.length := List.length_filter_le _ _
end
end
section
open Go.RowKit
/-! ### a house's own notes -/
def ofN (l : List NM) (h : Int) : List NM := l.filter fun x => decide (x.h = h)
abbrev UpJ (J : List NM) : Prop := J.Pairwise fun x y => x.h ≤ y.h
theorem of_mem {l : List NM} {h : Int} {x : NM} : x ∈ ofN l h ↔ x ∈ l ∧ x.h = h := by unfold ofN; rw [List.mem_filter, decide_eq_true_eq]
theorem of_app (a b : List NM) (h : Int) : ofN (a ++ b) h = ofN a h ++ ofN b h := List.filter_append ..
theorem of_one_eq {x : NM} {h : Int} (e : x.h = h) : ofN [x] h = [x] := by unfold ofN; simp [e]
theorem of_one_ne {x : NM} {h : Int} (e : ¬ x.h = h) : ofN [x] h = [] := by unfold ofN; simp [e]
theorem of_map (l : List NM) (h : Int) : ofN (l.map ns) h = (ofN l h).map ns := by unfold ofN; rw [List.filter_map]; rfl
theorem run_split {a : NM} {r : List NM} (h : UpJ (a :: r)) : (a :: r).take (runLen (a :: r)) = ofN (a :: r) a.h ∧ ∀ x, x ≠ a.h → ofN ((a :: r).drop (runLen (a :: r))) x = ofN (a :: r) x := by
 have h1 := drop_gt h
 have h2 : ∀ m ∈ (a :: r).take (runLen (a :: r)), m.h = a.h := by
  have e : (a :: r).take (runLen (a :: r)) = a :: (r.takeWhile fun x => decide (x.h = a.h)) := by
   show (a :: r).take (1 + (r.takeWhile fun x => decide (x.h = a.h)).length) = _
   rw [Nat.add_comm, List.take_succ_cons]
   congr 1
   have := List.takeWhile_append_dropWhile (p := fun x : NM => decide (x.h = a.h)) (l := r)
   conv => lhs; rw [← this]
   rw [List.take_append_of_le_length (by rw [this]; exact Nat.le_refl _)]
   rw [this, List.take_length]
  rw [e]
  intro m hm
  rcases List.mem_cons.1 hm with e2 | e2
  · rw [e2]
  · have := List.all_takeWhile (p := fun x : NM => decide (x.h = a.h)) (l := r)
    exact of_decide_eq_true (List.all_eq_true.1 this m e2)
 have h3 : ∀ x, ofN (a :: r) x = ofN ((a :: r).take (runLen (a :: r))) x ++ ofN ((a :: r).drop (runLen (a :: r))) x := fun x => by
  rw [← of_app, List.take_append_drop]
 constructor
 · rw [h3, show ofN ((a :: r).drop (runLen (a :: r))) a.h = [] from List.filter_eq_nil_iff.2 fun m hm => by have := h1 m hm; simp only [decide_eq_true_eq]; omega, List.append_nil]
   unfold ofN
   rw [List.filter_eq_self.2]
   intro m hm
   exact decide_eq_true (h2 m hm)
 · intro x hx
   rw [h3, show ofN ((a :: r).take (runLen (a :: r))) x = [] from List.filter_eq_nil_iff.2 fun m hm => by have := h2 m hm; simp only [decide_eq_true_eq]; omega, List.nil_append]
def houOf (J : List NM) (h : Int) : HM := ⟨h, pastN (ofN J h), adjN (ofN J h), 0⟩
theorem houF_iff : ∀ (f : Nat) (J : List NM), J.length ≤ f → UpJ J → ∀ y, y ∈ housesF f J ↔ y = houOf J y.h ∧ ofN J y.h ≠ []
 | 0, J, hl, _, y => by
  have : J = [] := List.eq_nil_of_length_eq_zero (by omega)
  subst this
  constructor
  · intro h; unfold housesF at h; cases h
  · intro h; exact absurd rfl h.2
 | f + 1, [], _, _, y => by
  constructor
  · intro h; unfold housesF at h; cases h
  · intro h; exact absurd rfl h.2
 | f + 1, a :: r, hl, hU, y => by
  obtain ⟨h1, h2⟩ := run_split hU
  have hp := run_pos a r
  have ih := houF_iff f ((a :: r).drop (runLen (a :: r))) (by rw [List.length_drop]; simp only [List.length_cons] at hl ⊢; omega) hU.drop y
  unfold housesF
  rw [List.mem_cons, ih, h1]
  by_cases e : y.h = a.h
  · have h4 : ofN ((a :: r).drop (runLen (a :: r))) y.h = [] := List.filter_eq_nil_iff.2 fun m hm => by have := drop_gt hU m hm; simp only [decide_eq_true_eq]; omega
    constructor
    · rintro (h | h)
      · subst h
        exact ⟨rfl, List.ne_nil_of_mem (of_mem.2 ⟨List.mem_cons_self, rfl⟩)⟩
      · exact absurd h4 h.2
    · rintro ⟨h, _⟩
      left; rw [h]; unfold houOf; rw [e]
  · rw [show houOf ((a :: r).drop (runLen (a :: r))) y.h = houOf (a :: r) y.h by unfold houOf; rw [h2 _ e], h2 _ e]
    constructor
    · rintro (h | h)
      · subst h; exact absurd rfl e
      · exact h
    · exact .inr
theorem hou_iff {J : List NM} (hU : UpJ J) (y : HM) : y ∈ houN J ↔ y = houOf J y.h ∧ ofN J y.h ≠ [] := houF_iff _ _ (Nat.le_refl _) hU y
theorem hou_asc' {J : List NM} (hU : UpJ J) : (houN J).Pairwise fun x y => x.h < y.h := hou_asc _ _ hU
theorem find_asc {hs : List HM} (hA : hs.Pairwise fun x y => x.h < y.h) {y : HM} (hy : y ∈ hs) : hs.find? (fun z => decide (z.h = y.h)) = some y := by
 induction hs with
 | nil => cases hy
 | cons a r ih =>
  obtain ⟨h1, h2⟩ := List.pairwise_cons.1 hA
  rcases List.mem_cons.1 hy with e | e
  · subst e; simp
  · have := h1 y e
    rw [List.find?_cons_of_neg (by simp only [decide_eq_true_eq]; omega)]
    exact ih h2 e
theorem hou_at {J : List NM} (hU : UpJ J) {h : Int} (hn : ofN J h ≠ []) : (houN J).find? (fun z => decide (z.h = h)) = some (houOf J h) :=
 find_asc (y := houOf J h) (hou_asc' hU) ((hou_iff hU (houOf J h)).2 ⟨rfl, hn⟩)
theorem hou_non {J : List NM} (hU : UpJ J) {h : Int} (hn : ofN J h = []) : (houN J).find? (fun z => decide (z.h = h)) = none := by
 rw [List.find?_eq_none]
 intro y hy e
 have := of_decide_eq_true e
 subst this
 exact ((hou_iff hU y).1 hy).2 hn
theorem past_of {J : List NM} (hU : UpJ J) (h : Int) : pastOfN J h = pastN (ofN J h) := by
 unfold pastOfN
 by_cases hn : ofN J h = []
 · rw [hou_non hU hn, hn]; rfl
 · rw [hou_at hU hn]; rfl
theorem forks_iff {J : List NM} (hU : UpJ J) (h : Int) : h ∈ forksN J ↔ adjN (ofN J h) = true := by
 unfold forksN
 rw [List.mem_map]
 constructor
 · rintro ⟨y, hy, rfl⟩
   obtain ⟨h1, h2⟩ := List.mem_filter.1 hy
   rw [((hou_iff hU y).1 h1).1] at h2
   exact h2
 · intro h1
   refine ⟨houOf J h, List.mem_filter.2 ⟨(hou_iff hU _).2 ⟨rfl, fun e => ?_⟩, h1⟩, rfl⟩
   change ofN J h = [] at e
   rw [e] at h1; cases h1
theorem forks_asc {J : List NM} (hU : UpJ J) : (forksN J).Pairwise fun x y => x < y :=
 List.pairwise_map.2 ((hou_asc' hU).filter _)
/-! ### the past -/
theorem check_nil : check [] = 0 := rfl
theorem past_check (l : List NM) : check (pastN l) = 0 := by
 have key : ∀ n, check (l.take (dwnN l n)) = 0 := by
  intro n
  induction n with
  | zero => exact check_nil
  | succ n ih =>
   unfold dwnN
   split
   · rename_i h; exact h
   · exact ih
 exact key _
theorem past_sub {l : List NM} {x : NM} (h : x ∈ pastN l) : x ∈ l := List.mem_of_mem_take h
theorem past_at_n {l : List NM} {k : Nat} {m : NM} (h : (pastN l)[k]? = some m) : right m = true ∧ m.n = (k : Int) := by
 have h1 := check_zero (past_check l) k m h
 exact ⟨h1.1, h1.2.2.1⟩
/-! ### run -/
theorem run_ind {P : List HM → List NM → Prop} (hstep : ∀ (hs : List HM) (out : List NM) (q : Nat) (y : HM) (m : NM), P hs out → hs[q]? = some y → nxt y = some m → readyN hs m = true → P (putN hs q y) (out ++ [m])) :
 ∀ (f : Nat) (hs : List HM) (out : List NM), restN hs ≤ f → P hs out → P (runF f hs out).1 (runF f hs out).2 ∧ bestN (runF f hs out).1 (runF f hs out).1.length = none
 | 0, hs, out, hf, h => by
  refine ⟨h, ?_⟩
  show bestN hs hs.length = none
  cases e : bestN hs hs.length with
  | none => rfl
  | some q =>
   obtain ⟨_, y, m, h1, h2, _⟩ := best_at e
   have := rest_put h1 (List.getElem?_eq_some_iff.1 h2).1
   omega
 | f + 1, hs, out, hf, h => by
  unfold runF
  cases e : bestN hs hs.length with
  | none => exact ⟨h, e⟩
  | some q =>
   obtain ⟨_, y, m, h1, h2, h3⟩ := best_at e
   have := rest_put h1 (List.getElem?_eq_some_iff.1 h2).1
   simp only [h1, h2]
   exact run_ind hstep f _ _ (by omega) (hstep hs out q y m h h1 h2 h3)
end
section
open Go.RowKit
/-! ### what a run keeps -/
structure RunInv (J : List NM) (hs : List HM) (out : List NM) : Prop where
 z : hs.map HM.z = houN J
 t : ∀ y ∈ hs, y.t ≤ y.p.length ∧ ofN out y.h = y.p.take y.t
 o : ∀ m ∈ out, ∃ y ∈ hs, y.h = m.h
 s : (hs.map (·.t)).sum = out.length
 pl : ∀ (i : Nat) (m : NM), out[i]? = some m → (((ofN (out.take i) m.h).length : Nat) : Int) = m.n ∧ ∀ r ∈ m.l, r.n < (((ofN (out.take i) r.h).length : Nat) : Int) ∨ (adjN (ofN J r.h) = true ∧ (((pastN (ofN J r.h)).length : Nat) : Int) ≤ r.n)
section
variable {J : List NM} {hs : List HM} {out : List NM} {y z : HM} {m : NM} {q : Nat} {r : RM}
theorem z_asc (hU : UpJ J) (h : hs.map HM.z = houN J) : hs.Pairwise fun x y => x.h < y.h := by
 have := hou_asc' hU
 rw [← h, List.pairwise_map] at this
 exact this
theorem z_of (hU : UpJ J) (h : hs.map HM.z = houN J) (hy : y ∈ hs) : y.p = pastN (ofN J y.h) ∧ y.f = adjN (ofN J y.h) ∧ ofN J y.h ≠ [] := by
 have h1 : y.z ∈ houN J := by rw [← h]; exact List.mem_map_of_mem hy
 obtain ⟨h2, h3⟩ := (hou_iff hU _).1 h1
 have e1 : y.z.p = pastN (ofN J y.z.h) := by rw [h2]; rfl
 have e2 : y.z.f = adjN (ofN J y.z.h) := by rw [h2]; rfl
 exact ⟨e1, e2, h3⟩
theorem put_mem (hA : hs.Pairwise fun x y => x.h < y.h) (hy : hs[q]? = some y) (hz : z ∈ putN hs q y) : z = ⟨y.h, y.p, y.f, y.t + 1⟩ ∨ (z ∈ hs ∧ z.h ≠ y.h) := by
 obtain ⟨i, hi⟩ := List.getElem?_of_mem hz
 unfold putN at hi
 rw [List.getElem?_set] at hi
 split at hi
 · split at hi
   · injection hi with hi; exact .inl hi.symm
   · cases hi
 · rename_i hne
   refine .inr ⟨List.mem_of_getElem? hi, fun e => ?_⟩
   obtain ⟨h1, e1⟩ := List.getElem?_eq_some_iff.1 hi
   obtain ⟨h2, e2⟩ := List.getElem?_eq_some_iff.1 hy
   rcases Nat.lt_or_ge i q with h | h
   · have := List.pairwise_iff_getElem.1 hA i q h1 h2 h; rw [e1, e2] at this; omega
   · have := List.pairwise_iff_getElem.1 hA q i h2 h1 (by omega); rw [e1, e2] at this; omega
theorem put_has (hy : hs[q]? = some y) (hz : z ∈ hs) : ∃ z2 ∈ putN hs q y, z2.h = z.h := by
 obtain ⟨i, hi⟩ := List.getElem?_of_mem hz
 obtain ⟨h1, e1⟩ := List.getElem?_eq_some_iff.1 hi
 by_cases e : q = i
 · subst e
   rw [hy] at hi; injection hi with hi
   refine ⟨⟨y.h, y.p, y.f, y.t + 1⟩, List.mem_of_getElem? (i := q) ?_, by rw [← hi]⟩
   unfold putN
   rw [List.getElem?_set_self h1]
 · refine ⟨z, List.mem_of_getElem? (i := i) ?_, rfl⟩
   unfold putN
   rw [List.getElem?_set_ne e]; exact hi
theorem sum_set : ∀ {hs : List HM} {q : Nat} {y : HM}, hs[q]? = some y → ((putN hs q y).map (·.t)).sum = (hs.map (·.t)).sum + 1
 | [], q, y, h => by simp at h
 | a :: r, 0, y, h => by
  have : a = y := by simpa using h
  subst this
  unfold putN
  simp only [List.set_cons_zero, List.map_cons, List.sum_cons]
  omega
 | a :: r, q + 1, y, h => by
  have := sum_set (hs := r) (q := q) (y := y) (by simpa using h)
  unfold putN at this ⊢
  simp only [List.set_cons_succ, List.map_cons, List.sum_cons]
  omega
theorem okR_get (h : okR hs r = true) : ∃ z ∈ hs, z.h = r.h ∧ (r.n < (z.t : Int) ∨ (z.f = true ∧ ((z.p.length : Nat) : Int) ≤ r.n)) := by
 unfold okR at h
 split at h
 · cases h
 · rename_i z hz
   refine ⟨z, List.mem_of_find?_eq_some hz, by have := List.find?_some hz; exact of_decide_eq_true this, ?_⟩
   rw [Bool.not_eq_true', Bool.and_eq_false_iff, decide_eq_false_iff_not, Bool.not_eq_false', Bool.and_eq_true, decide_eq_true_eq] at h
   rcases h with h | h
   · exact .inl (by omega)
   · exact .inr h
theorem nxt_at (hU : UpJ J) (h : hs.map HM.z = houN J) (hy : y ∈ hs) (hm : nxt y = some m) : m.h = y.h ∧ m.n = (y.t : Int) ∧ right m = true ∧ m ∈ J ∧ y.t < y.p.length := by
 obtain ⟨h1, h2, h3⟩ := z_of hU h hy
 have h4 : m ∈ y.p := List.mem_of_getElem? hm
 rw [h1] at h4
 have h5 := of_mem.1 (past_sub h4)
 have h6 := past_at_n (l := ofN J y.h) (k := y.t) (m := m) (by rw [← h1]; exact hm)
 exact ⟨h5.2, h6.2, h6.1, h5.1, (List.getElem?_eq_some_iff.1 hm).1⟩
theorem run_start (J : List NM) : RunInv J (houN J) [] := by
 have h0 : ∀ y ∈ houN J, y.t = 0 := fun y hy => (hou_t _ _ y hy).1
 refine ⟨?_, fun y hy => ?_, fun m hm => absurd hm List.not_mem_nil, ?_, fun i m h => absurd h (by simp)⟩
 · conv => rhs; rw [← List.map_id (houN J)]
   refine List.map_congr_left fun y hy => ?_
   unfold HM.z
   rw [← h0 y hy]; rfl
 · rw [h0 y hy]; exact ⟨Nat.zero_le _, rfl⟩
 · rw [show (houN J).map (·.t) = (houN J).map fun _ => 0 from List.map_congr_left h0]
   show _ = 0
   clear h0
   generalize houN J = hs
   induction hs with
   | nil => rfl
   | cons a r ih => rw [List.map_cons, List.sum_cons, ih]
theorem run_step (hU : UpJ J) (h : RunInv J hs out) (hy : hs[q]? = some y) (hm : nxt y = some m) (hr : readyN hs m = true) : RunInv J (putN hs q y) (out ++ [m]) := by
 have hA := z_asc hU h.z
 have hyM := List.mem_of_getElem? hy
 obtain ⟨m1, m2, m3, m4, m5⟩ := nxt_at hU h.z hyM hm
 refine ⟨(put_z hy).trans h.z, fun z hz => ?_, fun x hx => ?_, ?_, fun i x hx => ?_⟩
 · rcases put_mem hA hy hz with e | ⟨e1, e2⟩
   · subst e
     refine ⟨m5, ?_⟩
     show ofN (out ++ [m]) y.h = y.p.take (y.t + 1)
     rw [of_app, (h.t y hyM).2, of_one_eq m1, take_succ_get hm]
   · rw [of_app, of_one_ne (by rw [m1]; exact fun e => e2 e.symm), List.append_nil]
     exact h.t z e1
 · rcases List.mem_append.1 hx with e | e
   · obtain ⟨z, hz, e1⟩ := h.o x e
     obtain ⟨z2, hz2, e2⟩ := put_has hy hz
     exact ⟨z2, hz2, e2.trans e1⟩
   · rw [List.mem_singleton.1 e, m1]
     exact put_has hy hyM
 · rw [sum_set hy, h.s, List.length_append]; rfl
 · rcases Nat.lt_or_ge i out.length with hi | hi
   · rw [List.getElem?_append_left hi] at hx
     rw [List.take_append_of_le_length (Nat.le_of_lt hi)]
     exact h.pl i x hx
   · have hl := (List.getElem?_eq_some_iff.1 hx).1
     rw [List.length_append] at hl
     have hi2 : i = out.length := by simp only [List.length_cons, List.length_nil] at hl; omega
     subst hi2
     rw [List.getElem?_concat_length] at hx
     injection hx with hx
     subst hx
     rw [List.take_append_of_le_length (Nat.le_refl _), List.take_length]
     constructor
     · rw [m1, (h.t y hyM).2, List.length_take, Nat.min_eq_left (h.t y hyM).1, m2]
     · intro r hr2
       obtain ⟨z, hz, e1, e2⟩ := okR_get (List.all_eq_true.1 hr r hr2)
       obtain ⟨z1, z2, z3⟩ := z_of hU h.z hz
       rw [← e1, (h.t z hz).2, List.length_take, Nat.min_eq_left (h.t z hz).1, ← z2, ← z1]
       exact e2
theorem run_inv (hU : UpJ J) : RunInv J (runN J).1 (orderN J) ∧ bestN (runN J).1 (runN J).1.length = none :=
 run_ind (P := RunInv J) (fun hs out q y m h hy hm hr => run_step hU h hy hm hr) _ _ _ (Nat.le_refl _) (run_start J)
/-- what has been taken of a house in the end -/
def takenN (J : List NM) (h : Int) : Nat := (ofN (orderN J) h).length
theorem taken_at (hU : UpJ J) (hy : y ∈ (runN J).1) : takenN J y.h = y.t := by
 unfold takenN
 have := ((run_inv hU).1).t y hy
 rw [this.2, List.length_take, Nat.min_eq_left this.1]
theorem order_len (hU : UpJ J) : (orderN J).length ≤ J.length := by
 have hI := (run_inv hU).1
 rw [← hI.s]
 have h1 : ((runN J).1.map (·.t)).sum ≤ ((runN J).1.map fun y => y.p.length).sum := by
  have := hI.t
  generalize (runN J).1 = hs at this ⊢
  induction hs with
  | nil => exact Nat.le_refl _
  | cons a r ih =>
   have h2 := (this a List.mem_cons_self).1
   have h3 := ih fun y hy => this y (List.mem_cons_of_mem _ hy)
   simp only [List.map_cons, List.sum_cons]
   omega
 have h2 : ((runN J).1.map fun y => y.p.length) = (houN J).map fun y => y.p.length := by
  rw [← hI.z, List.map_map]; rfl
 have h3 : ((houN J).map fun y => y.p.length).sum = restN (houN J) := by
  unfold restN
  rw [show ((houN J).map fun y => y.p.length - y.t) = (houN J).map fun y => y.p.length from List.map_congr_left fun y hy => by rw [(hou_t _ _ y hy).1]; rfl]
 have h4 := rest_hou J.length J
 rw [h2, h3] at h1
 exact Nat.le_trans h1 h4
end
end
section
open Go.RowKit
/-! ### what Order says: the law -/
def hasI (N : List Int) (x : Int) : Bool := decide (x ∈ N)
section
variable {l : List NM} {O : List NM} {m : NM} {i : Nat}
end
end
section
open Go.RowKit
/-! ### two lists, one in the other -/
section
variable {J K A B : List NM} {h : Int} {a b m : NM} {k n q : Nat}
theorem of_sorted (hS : SortedN J) (h : Int) : SortedN (ofN J h) := List.Pairwise.filter _ hS
theorem of_h (hm : m ∈ ofN J h) : m.h = h := (of_mem.1 hm).2
/-- notes of one house, in order: their numbers -/
def UpN (L : List NM) : Prop := L.Pairwise fun a b => a.n ≤ b.n
def AscN (L : List NM) : Prop := L.Pairwise fun a b => a.n < b.n
theorem of_up (hS : SortedN J) (h : Int) : UpN (ofN J h) := by
 have h1 := of_sorted hS h
 refine List.Pairwise.imp_of_mem (fun {a b} ha hb hab => ?_) h1
 rcases cmpN_lt.1 hab with e | ⟨_, e | e⟩
 · rw [of_h ha, of_h hb] at e; omega
 · omega
 · omega
theorem adj_false : ∀ {L : List NM}, UpN L → adjN L = false → AscN L
 | [], _, _ => List.Pairwise.nil
 | [x], _, _ => List.pairwise_singleton ..
 | x :: y :: r, hU, h => by
  unfold adjN at h
  rw [Bool.or_eq_false_iff, decide_eq_false_iff_not] at h
  have h1 := List.pairwise_cons.1 hU
  have h2 := adj_false h1.2 h.2
  refine List.pairwise_cons.2 ⟨fun z hz => ?_, h2⟩
  have h3 := h1.1 y List.mem_cons_self
  rcases List.mem_cons.1 hz with e | e
  · subst e; omega
  · have := (List.pairwise_cons.1 h2).1 z e; omega
theorem adj_true : ∀ {L : List NM}, adjN L = true → ∃ (i : Nat) (a b : NM), L[i]? = some a ∧ L[i + 1]? = some b ∧ b.n = a.n
 | [], h => by cases h
 | [x], h => by cases h
 | x :: y :: r, h => by
  unfold adjN at h
  rw [Bool.or_eq_true, decide_eq_true_eq] at h
  rcases h with h | h
  · exact ⟨0, x, y, rfl, rfl, h⟩
  · obtain ⟨i, a, b, h1, h2, h3⟩ := adj_true h
    exact ⟨i + 1, a, b, by simpa using h1, by simpa using h2, h3⟩
theorem adj_iff (hS : SortedN J) (h : Int) : adjN (ofN J h) = true ↔ ∃ a b, a ∈ J ∧ b ∈ J ∧ a.h = h ∧ b.h = h ∧ a ≠ b ∧ a.n = b.n := by
 constructor
 · intro e
   obtain ⟨i, a, b, h1, h2, h3⟩ := adj_true e
   have ha := of_mem.1 (List.mem_of_getElem? h1)
   have hb := of_mem.1 (List.mem_of_getElem? h2)
   obtain ⟨a1, a2⟩ := List.getElem?_eq_some_iff.1 h1
   obtain ⟨b1, b2⟩ := List.getElem?_eq_some_iff.1 h2
   have := List.pairwise_iff_getElem.1 (of_sorted hS h) i (i + 1) a1 b1 (by omega)
   rw [a2, b2] at this
   exact ⟨a, b, ha.1, hb.1, ha.2, hb.2, fun e2 => by rw [e2, cmpN_irrefl] at this; omega, h3.symm⟩
 · rintro ⟨a, b, ha, hb, e1, e2, hne, en⟩
   cases e : adjN (ofN J h)
   · exfalso
     have h1 := adj_false (of_up hS h) e
     obtain ⟨i, hi⟩ := List.getElem?_of_mem (of_mem.2 ⟨ha, e1⟩)
     obtain ⟨j, hj⟩ := List.getElem?_of_mem (of_mem.2 ⟨hb, e2⟩)
     obtain ⟨a1, a2⟩ := List.getElem?_eq_some_iff.1 hi
     obtain ⟨b1, b2⟩ := List.getElem?_eq_some_iff.1 hj
     rcases Nat.lt_trichotomy i j with h2 | h2 | h2
     · have := List.pairwise_iff_getElem.1 h1 i j a1 b1 h2; rw [a2, b2] at this; omega
     · subst h2; rw [hi] at hj; injection hj with hj; exact hne hj
     · have := List.pairwise_iff_getElem.1 h1 j i b1 a1 h2; rw [a2, b2] at this; omega
   · rfl
/-! ### Grows -/
theorem asc_uniq : ∀ {a b : List Int}, a.Pairwise (· < ·) → b.Pairwise (· < ·) → (∀ x, x ∈ a ↔ x ∈ b) → a = b
 | [], [], _, _, _ => rfl
 | [], y :: b, _, _, h => by have := (h y).2 List.mem_cons_self; cases this
 | x :: a, [], _, _, h => by have := (h x).1 List.mem_cons_self; cases this
 | x :: a, y :: b, h1, h2, h => by
  have p1 := List.pairwise_cons.1 h1
  have p2 := List.pairwise_cons.1 h2
  have e : x = y := by
   rcases List.mem_cons.1 ((h x).1 List.mem_cons_self) with e | e
   · exact e
   · rcases List.mem_cons.1 ((h y).2 List.mem_cons_self) with e2 | e2
     · exact e2.symm
     · have := p1.1 y e2; have := p2.1 x e; omega
  subst e
  congr 1
  refine asc_uniq p1.2 p2.2 fun z => ?_
  constructor
  · intro hz
    rcases List.mem_cons.1 ((h z).1 (List.mem_cons_of_mem _ hz)) with e | e
    · subst e; have := p1.1 z hz; omega
    · exact e
  · intro hz
    rcases List.mem_cons.1 ((h z).2 (List.mem_cons_of_mem _ hz)) with e | e
    · subst e; have := p2.1 z hz; omega
    · exact e
end
end
section
open Go.RowKit
/-! ### what convicts a house -/
theorem same_ns {a b : NM} : same a b = true ↔ ns a = ns b := by
 unfold same ns
 simp only [Bool.and_eq_true, decide_eq_true_eq, NM.mk.injEq]
 constructor
 · rintro ⟨⟨⟨⟨h1, h2⟩, h3⟩, h4⟩, h5⟩; exact ⟨h1, h2, h3, trivial, h4, trivial, h5⟩
 · rintro ⟨h1, h2, h3, _, h4, _, h5⟩; exact ⟨⟨⟨⟨h1, h2⟩, h3⟩, h4⟩, h5⟩
theorem conv_iff {a b : NM} : convicts a b = true ↔ right a = true ∧ right b = true ∧ a.h = b.h ∧ a.n = b.n ∧ ns a ≠ ns b := by
 unfold convicts
 rw [Bool.and_eq_true, Bool.and_eq_true, Bool.and_eq_true, Bool.and_eq_true, decide_eq_true_eq, decide_eq_true_eq, Bool.not_eq_true', ← Bool.not_eq_true, same_ns]
 constructor
 · rintro ⟨⟨⟨⟨h1, h2⟩, h3⟩, h4⟩, h5⟩; exact ⟨h1, h2, h3, h4, h5⟩
 · rintro ⟨h1, h2, h3, h4, h5⟩; exact ⟨⟨⟨⟨h1, h2⟩, h3⟩, h4⟩, h5⟩
/-- the first number for which two notes of a list convict a house, or 400 -/
def FirstIs (l : List NM) (h v : Int) : Prop := v ≤ 400 ∧ (∀ a b, a ∈ l → b ∈ l → a.h = h → convicts a b = true → v ≤ a.n) ∧ (v < 400 → ∃ a b, a ∈ l ∧ b ∈ l ∧ a.h = h ∧ convicts a b = true ∧ a.n = v)
/-- .. where the two loops have come -/
def FirstAt (l : List NM) (h : Int) (i k : Nat) (v : Int) : Prop := v ≤ 400 ∧ (∀ (i' k' : Nat) (a b : NM), k' < i' → (i' < i ∨ (i' = i ∧ k' < k)) → l[i']? = some a → l[k']? = some b → a.h = h → convicts a b = true → v ≤ a.n) ∧ (v < 400 → ∃ a b, a ∈ l ∧ b ∈ l ∧ a.h = h ∧ convicts a b = true ∧ a.n = v)
section
variable {l : List NM} {h v : Int} {i k : Nat} {a b : NM}
theorem fi_start (l : List NM) (h : Int) : FirstAt l h 0 0 400 := ⟨Int.le_refl _, fun i' k' a b h1 h2 => by omega, fun hv => by omega⟩
theorem fi_no (ha : l[i]? = some a) (hb : l[k]? = some b) (e : (decide (a.h = h) && convicts a b) = false) (hF : FirstAt l h i k v) : FirstAt l h i (k + 1) v := by
 obtain ⟨h1, h2, h3⟩ := hF
 refine ⟨h1, fun i' k' a' b' g1 g2 ga gb gh gc => ?_, h3⟩
 by_cases e2 : i' = i ∧ k' = k
 · exfalso
   obtain ⟨rfl, rfl⟩ := e2
   rw [ha] at ga; injection ga with ga; subst ga
   rw [hb] at gb; injection gb with gb; subst gb
   rw [gc, Bool.and_true, decide_eq_false_iff_not] at e
   exact e gh
 · exact h2 i' k' a' b' g1 (by omega) ga gb gh gc
theorem fi_row (hk : k = i) (hF : FirstAt l h i k v) : FirstAt l h (i + 1) 0 v := by
 subst hk
 exact ⟨hF.1, fun i' k' a' b' g1 g2 => hF.2.1 i' k' a' b' g1 (by omega), hF.2.2⟩
theorem fi_end (hi : i = l.length) (hF : FirstAt l h i 0 v) : FirstIs l h v := by
 subst hi
 refine ⟨hF.1, fun a b ha hb hh hc => ?_, hF.2.2⟩
 obtain ⟨i, hi⟩ := List.getElem?_of_mem ha
 obtain ⟨k, hk⟩ := List.getElem?_of_mem hb
 have h1 := (List.getElem?_eq_some_iff.1 hi).1
 have h2 := (List.getElem?_eq_some_iff.1 hk).1
 obtain ⟨c1, c2, c3, c4, c5⟩ := conv_iff.1 hc
 rcases Nat.lt_trichotomy k i with e | e | e
 · exact hF.2.1 i k a b e (by omega) hi hk hh hc
 · subst e
   rw [hi] at hk; injection hk with hk; subst hk
   exact absurd rfl c5
 · have := hF.2.1 k i b a e (by omega) hk hi (by omega) (conv_iff.2 ⟨c2, c1, c3.symm, c4.symm, fun e => c5 e.symm⟩)
   omega
theorem fork_pair : adjN (ofN (joinN l) h) = true ↔ ∃ a b, a ∈ l ∧ b ∈ l ∧ a.h = h ∧ convicts a b = true := by
 rw [adj_iff (join_sorted l)]
 constructor
 · rintro ⟨a, b, ha, hb, e1, e2, hne, en⟩
   obtain ⟨a', ga, ra, rfl⟩ := mem_join.1 ha
   obtain ⟨b', gb, rb, rfl⟩ := mem_join.1 hb
   exact ⟨a', b', ga, gb, e1, conv_iff.2 ⟨ra, rb, e1.trans e2.symm, en, hne⟩⟩
 · rintro ⟨a, b, ha, hb, e, hc⟩
   obtain ⟨c1, c2, c3, c4, c5⟩ := conv_iff.1 hc
   exact ⟨ns a, ns b, mem_join.2 ⟨a, ha, c1, rfl⟩, mem_join.2 ⟨b, hb, c2, rfl⟩, e, c3.symm.trans e, c5, c4⟩
theorem first_forks (hF : FirstIs l h v) : hasI (forksN (joinN l)) h = decide (v < 400) := by
 unfold hasI
 refine decide_eq_decide.2 ((forks_iff (join_up l) h).trans (fork_pair.trans ?_))
 constructor
 · rintro ⟨a, b, ha, hb, e, hc⟩
   have := hF.2.1 a b ha hb e hc
   have := right_bnd (conv_iff.1 hc).1
   omega
 · intro h1
   obtain ⟨a, b, ha, hb, e, hc, _⟩ := hF.2.2 h1
   exact ⟨a, b, ha, hb, e, hc⟩
end
/-! ### what is missing -/
section
variable {l J : List NM} {h x a : Int} {m : NM} {q : Nat}
end
end
section
open Go.RowKit
/-! ### lists that all seal in order -/
theorem sub_len {α : Type} [DecidableEq α] : ∀ {a b : List α}, a.Nodup → (∀ x ∈ a, x ∈ b) → a.length ≤ b.length
 | [], b, _, _ => Nat.zero_le _
 | x :: a, b, hn, h => by
  obtain ⟨h1, h2⟩ := List.nodup_cons.1 hn
  have hx := h x List.mem_cons_self
  have := sub_len (b := b.erase x) h2 fun y hy => (List.mem_erase_of_ne (fun e => h1 (by rw [← e]; exact hy))).2 (h y (List.mem_cons_of_mem _ hy))
  rw [List.length_erase_of_mem hx] at this
  have := List.length_pos_of_mem hx
  simp only [List.length_cons]
  omega
section
variable {L S M : List NM} {h : Int} {i j : Nat} {m x y : NM}
end
end
end Go.Proofs.YtdcbjedkddgfkaaGreatDoor
