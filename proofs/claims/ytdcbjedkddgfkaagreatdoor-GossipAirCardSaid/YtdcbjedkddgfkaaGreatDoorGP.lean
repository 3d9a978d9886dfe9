/-
  Gossip: joined lists and what two lists tell each other, in plain Lean. No condition.
  Gossip: houses and runs, in plain Lean. No condition.
  Gossip: what a run keeps, in plain Lean. No condition.
  Gossip: what Order, Heads and Join say, in plain Lean. No condition.
  Gossip: a list and a larger one, in plain Lean. No condition.
  Gossip: what convicts, what is missing, in plain Lean. No condition.
  Gossip: lists that are sealed in order, in plain Lean. No condition.
-/
import Derived.Test.YtdcbjedkddgfkaaGreatDoorGo13
namespace Go.Proofs.YtdcbjedkddgfkaaGreatDoor
set_option linter.unusedVariables false
set_option linter.unusedSimpArgs false
set_option linter.unusedSectionVars false
section
open Go.RowKit
/-! ### what two lists tell each other -/
def hasN (l : List NM) (x : NM) : Bool := decide (ns x ∈ l.map ns)
section
variable {a b l : List NM} {x : NM}
theorem less_le (J K : List NM) : (lessN J K).length ≤ J.length := List.length_filter_le _ _
end
theorem join_mem {a b : List NM} (h : ∀ x, x ∈ a ↔ x ∈ b) : joinN a = joinN b := join_congr fun x => by
 unfold InN
 constructor
 · rintro ⟨y, hy, h2⟩; exact ⟨y, (h y).1 hy, h2⟩
 · rintro ⟨y, hy, h2⟩; exact ⟨y, (h y).2 hy, h2⟩
/-- a list, its notes as they spell -/
theorem join_ns {a b : List NM} (h : a.map ns = joinN b) : joinN a = joinN b := by rw [← join_map, h, join_join]
theorem join_ns2 {a b : List NM} (h : a.map ns = b.map ns) : joinN a = joinN b := by rw [← join_map, h, join_map]
end
section
open Go.RowKit
/-! ### a house's own notes -/
def ofN (l : List NM) (h : Int) : List NM := l.filter fun x => decide (x.h = h)
abbrev UpJ (J : List NM) : Prop := J.Pairwise fun x y => x.h ≤ y.h
theorem of_mem {l : List NM} {h : Int} {x : NM} : x ∈ ofN l h ↔ x ∈ l ∧ x.h = h := by unfold ofN; rw [List.mem_filter, decide_eq_true_eq]
theorem of_app (a b : List NM) (h : Int) : ofN (a ++ b) h = ofN a h ++ ofN b h := List.filter_append ..
theorem of_one_eq {x : NM} {h : Int} (e : x.h = h) : ofN [x] h = [x] := by unfold ofN; simp [e]
theorem of_one_ne {x : NM} {h : Int} (e : ¬ x.h = h) : ofN [x] h = [] := by unfold ofN; simp [e]
theorem run_split {a : NM} {r : List NM} (h : UpJ (a :: r)) : (a :: r).take (runLen (a :: r)) = ofN (a :: r) a.h ∧ ∀ x, x ≠ a.h → ofN ((a :: r).drop (runLen (a :: r))) x = ofN (a :: r) x := by
 have h1 := drop_gt h
 have h2 : ∀ m ∈ (a :: r).take (runLen (a :: r)), m.h = a.h := by
  have e : (a :: r).take (runLen (a :: r)) = a :: (r.takeWhile fun x => decide (x.h = a.h)) := by
   show (a :: r).take (1 + (r.takeWhile fun x => decide (x.h = a.h)).length) = _
   rw [Nat.add_comm, List.take_succ_cons]
   congr 1
   have := List.takeWhile_append_dropWhile (p := fun x : NM => decide (x.h = a.h)) (l := r)
   conv => lhs; rw [← this]
   rw [List.take_append_of_le_length (by rw [this]; exact Nat.le_refl _)]
   rw [this, List.take_length]
  rw [e]
  intro m hm
  rcases List.mem_cons.1 hm with e2 | e2
  · rw [e2]
  · have := List.all_takeWhile (p := fun x : NM => decide (x.h = a.h)) (l := r)
    exact of_decide_eq_true (List.all_eq_true.1 this m e2)
 have h3 : ∀ x, ofN (a :: r) x = ofN ((a :: r).take (runLen (a :: r))) x ++ ofN ((a :: r).drop (runLen (a :: r))) x := fun x => by
  rw [← of_app, List.take_append_drop]
 constructor
 · rw [h3, show ofN ((a :: r).drop (runLen (a :: r))) a.h = [] from List.filter_eq_nil_iff.2 fun m hm => by have := h1 m hm; simp only [decide_eq_true_eq]; omega, List.append_nil]
   unfold ofN
   rw [List.filter_eq_self.2]
   intro m hm
   exact decide_eq_true (h2 m hm)
 · intro x hx
   rw [h3, show ofN ((a :: r).take (runLen (a :: r))) x = [] from List.filter_eq_nil_iff.2 fun m hm => by have := h2 m hm; simp only [decide_eq_true_eq]; omega, List.nil_append]
def houOf (J : List NM) (h : Int) : HM := ⟨h, pastN (ofN J h), adjN (ofN J h), 0⟩
theorem houF_iff : ∀ (f : Nat) (J : List NM), J.length ≤ f → UpJ J → ∀ y, y ∈ housesF f J ↔ y = houOf J y.h ∧ ofN J y.h ≠ []
 | 0, J, hl, _, y => by
  have : J = [] := List.eq_nil_of_length_eq_zero (by omega)
  subst this
  constructor
  · intro h; unfold housesF at h; cases h
  · intro h; exact absurd rfl h.2
 | f + 1, [], _, _, y => by
  constructor
  · intro h; unfold housesF at h; cases h
  · intro h; exact absurd rfl h.2
 | f + 1, a :: r, hl, hU, y => by
  obtain ⟨h1, h2⟩ := run_split hU
  have hp := run_pos a r
  have ih := houF_iff f ((a :: r).drop (runLen (a :: r))) (by rw [List.length_drop]; simp only [List.length_cons] at hl ⊢; omega) hU.drop y
  unfold housesF
  rw [List.mem_cons, ih, h1]
  by_cases e : y.h = a.h
  · have h4 : ofN ((a :: r).drop (runLen (a :: r))) y.h = [] := List.filter_eq_nil_iff.2 fun m hm => by have := drop_gt hU m hm; simp only [decide_eq_true_eq]; omega
    constructor
    · rintro (h | h)
      · subst h
        exact ⟨rfl, List.ne_nil_of_mem (of_mem.2 ⟨List.mem_cons_self, rfl⟩)⟩
      · exact absurd h4 h.2
    · rintro ⟨h, _⟩
      left; rw [h]; unfold houOf; rw [e]
  · rw [show houOf ((a :: r).drop (runLen (a :: r))) y.h = houOf (a :: r) y.h by unfold houOf; rw [h2 _ e], h2 _ e]
    constructor
    · rintro (h | h)
      · subst h; exact absurd rfl e
      · exact h
    · exact .inr
theorem hou_iff {J : List NM} (hU : UpJ J) (y : HM) : y ∈ houN J ↔ y = houOf J y.h ∧ ofN J y.h ≠ [] := houF_iff _ _ (Nat.le_refl _) hU y
theorem hou_asc' {J : List NM} (hU : UpJ J) : (houN J).Pairwise fun x y => x.h < y.h := hou_asc _ _ hU
theorem find_asc {hs : List HM} (hA : hs.Pairwise fun x y => x.h < y.h) {y : HM} (hy : y ∈ hs) : hs.find? (fun z => decide (z.h = y.h)) = some y := by
 induction hs with
 | nil => cases hy
 | cons a r ih =>
  obtain ⟨h1, h2⟩ := List.pairwise_cons.1 hA
  rcases List.mem_cons.1 hy with e | e
  · subst e; simp
  · have := h1 y e
    rw [List.find?_cons_of_neg (by simp only [decide_eq_true_eq]; omega)]
    exact ih h2 e
theorem hou_at {J : List NM} (hU : UpJ J) {h : Int} (hn : ofN J h ≠ []) : (houN J).find? (fun z => decide (z.h = h)) = some (houOf J h) :=
 find_asc (y := houOf J h) (hou_asc' hU) ((hou_iff hU (houOf J h)).2 ⟨rfl, hn⟩)
theorem hou_non {J : List NM} (hU : UpJ J) {h : Int} (hn : ofN J h = []) : (houN J).find? (fun z => decide (z.h = h)) = none := by
 rw [List.find?_eq_none]
 intro y hy e
 have := of_decide_eq_true e
 subst this
 exact ((hou_iff hU y).1 hy).2 hn
theorem past_of {J : List NM} (hU : UpJ J) (h : Int) : pastOfN J h = pastN (ofN J h) := by
 unfold pastOfN
 by_cases hn : ofN J h = []
 · rw [hou_non hU hn, hn]; rfl
 · rw [hou_at hU hn]; rfl
/-! ### the past -/
theorem check_nil : check [] = 0 := rfl
theorem past_check (l : List NM) : check (pastN l) = 0 := by
 have key : ∀ n, check (l.take (dwnN l n)) = 0 := by
  intro n
  induction n with
  | zero => exact check_nil
  | succ n ih =>
   unfold dwnN
   split
   · rename_i h; exact h
   · exact ih
 exact key _
theorem past_sub {l : List NM} {x : NM} (h : x ∈ pastN l) : x ∈ l := List.mem_of_mem_take h
theorem past_at_n {l : List NM} {k : Nat} {m : NM} (h : (pastN l)[k]? = some m) : right m = true ∧ m.n = (k : Int) := by
 have h1 := check_zero (past_check l) k m h
 exact ⟨h1.1, h1.2.2.1⟩
/-! ### run -/
theorem run_ind {P : List HM → List NM → Prop} (hstep : ∀ (hs : List HM) (out : List NM) (q : Nat) (y : HM) (m : NM), P hs out → hs[q]? = some y → nxt y = some m → readyN hs m = true → P (putN hs q y) (out ++ [m])) :
 ∀ (f : Nat) (hs : List HM) (out : List NM), restN hs ≤ f → P hs out → P (runF f hs out).1 (runF f hs out).2 ∧ bestN (runF f hs out).1 (runF f hs out).1.length = none
 | 0, hs, out, hf, h => by
  refine ⟨h, ?_⟩
  show bestN hs hs.length = none
  cases e : bestN hs hs.length with
  | none => rfl
  | some q =>
   obtain ⟨_, y, m, h1, h2, _⟩ := best_at e
   have := rest_put h1 (List.getElem?_eq_some_iff.1 h2).1
   omega
 | f + 1, hs, out, hf, h => by
  unfold runF
  cases e : bestN hs hs.length with
  | none => exact ⟨h, e⟩
  | some q =>
   obtain ⟨_, y, m, h1, h2, h3⟩ := best_at e
   have := rest_put h1 (List.getElem?_eq_some_iff.1 h2).1
   simp only [h1, h2]
   exact run_ind hstep f _ _ (by omega) (hstep hs out q y m h h1 h2 h3)
end
section
open Go.RowKit
/-! ### what a run keeps -/
structure RunInv (J : List NM) (hs : List HM) (out : List NM) : Prop where
 z : hs.map HM.z = houN J
 t : ∀ y ∈ hs, y.t ≤ y.p.length ∧ ofN out y.h = y.p.take y.t
 o : ∀ m ∈ out, ∃ y ∈ hs, y.h = m.h
 s : (hs.map (·.t)).sum = out.length
 pl : ∀ (i : Nat) (m : NM), out[i]? = some m → (((ofN (out.take i) m.h).length : Nat) : Int) = m.n ∧ ∀ r ∈ m.l, r.n < (((ofN (out.take i) r.h).length : Nat) : Int) ∨ (adjN (ofN J r.h) = true ∧ (((pastN (ofN J r.h)).length : Nat) : Int) ≤ r.n)
section
variable {J : List NM} {hs : List HM} {out : List NM} {y z : HM} {m : NM} {q : Nat} {r : RM}
theorem z_asc (hU : UpJ J) (h : hs.map HM.z = houN J) : hs.Pairwise fun x y => x.h < y.h := by
 have := hou_asc' hU
 rw [← h, List.pairwise_map] at this
 exact this
theorem z_of (hU : UpJ J) (h : hs.map HM.z = houN J) (hy : y ∈ hs) : y.p = pastN (ofN J y.h) ∧ y.f = adjN (ofN J y.h) ∧ ofN J y.h ≠ [] := by
 have h1 : y.z ∈ houN J := by rw [← h]; exact List.mem_map_of_mem hy
 obtain ⟨h2, h3⟩ := (hou_iff hU _).1 h1
 have e1 : y.z.p = pastN (ofN J y.z.h) := by rw [h2]; rfl
 have e2 : y.z.f = adjN (ofN J y.z.h) := by rw [h2]; rfl
 exact ⟨e1, e2, h3⟩
theorem put_mem (hA : hs.Pairwise fun x y => x.h < y.h) (hy : hs[q]? = some y) (hz : z ∈ putN hs q y) : z = ⟨y.h, y.p, y.f, y.t + 1⟩ ∨ (z ∈ hs ∧ z.h ≠ y.h) := by
 obtain ⟨i, hi⟩ := List.getElem?_of_mem hz
 unfold putN at hi
 rw [List.getElem?_set] at hi
 split at hi
 · split at hi
   · injection hi with hi; exact .inl hi.symm
   · cases hi
 · rename_i hne
   refine .inr ⟨List.mem_of_getElem? hi, fun e => ?_⟩
   obtain ⟨h1, e1⟩ := List.getElem?_eq_some_iff.1 hi
   obtain ⟨h2, e2⟩ := List.getElem?_eq_some_iff.1 hy
   rcases Nat.lt_or_ge i q with h | h
   · have := List.pairwise_iff_getElem.1 hA i q h1 h2 h; rw [e1, e2] at this; omega
   · have := List.pairwise_iff_getElem.1 hA q i h2 h1 (by omega); rw [e1, e2] at this; omega
theorem put_has (hy : hs[q]? = some y) (hz : z ∈ hs) : ∃ z2 ∈ putN hs q y, z2.h = z.h := by
 obtain ⟨i, hi⟩ := List.getElem?_of_mem hz
 obtain ⟨h1, e1⟩ := List.getElem?_eq_some_iff.1 hi
 by_cases e : q = i
 · subst e
   rw [hy] at hi; injection hi with hi
   refine ⟨⟨y.h, y.p, y.f, y.t + 1⟩, List.mem_of_getElem? (i := q) ?_, by rw [← hi]⟩
   unfold putN
   rw [List.getElem?_set_self h1]
 · refine ⟨z, List.mem_of_getElem? (i := i) ?_, rfl⟩
   unfold putN
   rw [List.getElem?_set_ne e]; exact hi
theorem sum_set : ∀ {hs : List HM} {q : Nat} {y : HM}, hs[q]? = some y → ((putN hs q y).map (·.t)).sum = (hs.map (·.t)).sum + 1
 | [], q, y, h => by simp at h
 | a :: r, 0, y, h => by
  have : a = y := by simpa using h
  subst this
  unfold putN
  simp only [List.set_cons_zero, List.map_cons, List.sum_cons]
  omega
 | a :: r, q + 1, y, h => by
  have := sum_set (hs := r) (q := q) (y := y) (by simpa using h)
  unfold putN at this ⊢
  simp only [List.set_cons_succ, List.map_cons, List.sum_cons]
  omega
theorem okR_get (h : okR hs r = true) : ∃ z ∈ hs, z.h = r.h ∧ (r.n < (z.t : Int) ∨ (z.f = true ∧ ((z.p.length : Nat) : Int) ≤ r.n)) := by
 unfold okR at h
 split at h
 · cases h
 · rename_i z hz
   refine ⟨z, List.mem_of_find?_eq_some hz, by have := List.find?_some hz; exact of_decide_eq_true this, ?_⟩
   rw [Bool.not_eq_true', Bool.and_eq_false_iff, decide_eq_false_iff_not, Bool.not_eq_false', Bool.and_eq_true, decide_eq_true_eq] at h
   rcases h with h | h
   · exact .inl (by omega)
   · exact .inr h
theorem nxt_at (hU : UpJ J) (h : hs.map HM.z = houN J) (hy : y ∈ hs) (hm : nxt y = some m) : m.h = y.h ∧ m.n = (y.t : Int) ∧ right m = true ∧ m ∈ J ∧ y.t < y.p.length := by
 obtain ⟨h1, h2, h3⟩ := z_of hU h hy
 have h4 : m ∈ y.p := List.mem_of_getElem? hm
 rw [h1] at h4
 have h5 := of_mem.1 (past_sub h4)
 have h6 := past_at_n (l := ofN J y.h) (k := y.t) (m := m) (by rw [← h1]; exact hm)
 exact ⟨h5.2, h6.2, h6.1, h5.1, (List.getElem?_eq_some_iff.1 hm).1⟩
theorem run_start (J : List NM) : RunInv J (houN J) [] := by
 have h0 : ∀ y ∈ houN J, y.t = 0 := fun y hy => (hou_t _ _ y hy).1
 refine ⟨?_, fun y hy => ?_, fun m hm => absurd hm List.not_mem_nil, ?_, fun i m h => absurd h (by simp)⟩
 · conv => rhs; rw [← List.map_id (houN J)]
   refine List.map_congr_left fun y hy => ?_
   unfold HM.z
   rw [← h0 y hy]; rfl
 · rw [h0 y hy]; exact ⟨Nat.zero_le _, rfl⟩
 · rw [show (houN J).map (·.t) = (houN J).map fun _ => 0 from List.map_congr_left h0]
   show _ = 0
   clear h0
   generalize houN J = hs
   induction hs with
   | nil => rfl
   | cons a r ih => rw [List.map_cons, List.sum_cons, ih]
theorem run_step (hU : UpJ J) (h : RunInv J hs out) (hy : hs[q]? = some y) (hm : nxt y = some m) (hr : readyN hs m = true) : RunInv J (putN hs q y) (out ++ [m]) := by
 have hA := z_asc hU h.z
 have hyM := List.mem_of_getElem? hy
 obtain ⟨m1, m2, m3, m4, m5⟩ := nxt_at hU h.z hyM hm
 refine ⟨(put_z hy).trans h.z, fun z hz => ?_, fun x hx => ?_, ?_, fun i x hx => ?_⟩
 · rcases put_mem hA hy hz with e | ⟨e1, e2⟩
   · subst e
     refine ⟨m5, ?_⟩
     show ofN (out ++ [m]) y.h = y.p.take (y.t + 1)
     rw [of_app, (h.t y hyM).2, of_one_eq m1, take_succ_get hm]
   · rw [of_app, of_one_ne (by rw [m1]; exact fun e => e2 e.symm), List.append_nil]
     exact h.t z e1
 · rcases List.mem_append.1 hx with e | e
   · obtain ⟨z, hz, e1⟩ := h.o x e
     obtain ⟨z2, hz2, e2⟩ := put_has hy hz
     exact ⟨z2, hz2, e2.trans e1⟩
   · rw [List.mem_singleton.1 e, m1]
     exact put_has hy hyM
 · rw [sum_set hy, h.s, List.length_append]; rfl
 · rcases Nat.lt_or_ge i out.length with hi | hi
   · rw [List.getElem?_append_left hi] at hx
     rw [List.take_append_of_le_length (Nat.le_of_lt hi)]
     exact h.pl i x hx
   · have hl := (List.getElem?_eq_some_iff.1 hx).1
     rw [List.length_append] at hl
     have hi2 : i = out.length := by simp only [List.length_cons, List.length_nil] at hl; omega
     subst hi2
     rw [List.getElem?_concat_length] at hx
     injection hx with hx
     subst hx
     rw [List.take_append_of_le_length (Nat.le_refl _), List.take_length]
     constructor
     · rw [m1, (h.t y hyM).2, List.length_take, Nat.min_eq_left (h.t y hyM).1, m2]
     · intro r hr2
       obtain ⟨z, hz, e1, e2⟩ := okR_get (List.all_eq_true.1 hr r hr2)
       obtain ⟨z1, z2, z3⟩ := z_of hU h.z hz
       rw [← e1, (h.t z hz).2, List.length_take, Nat.min_eq_left (h.t z hz).1, ← z2, ← z1]
       exact e2
theorem run_inv (hU : UpJ J) : RunInv J (runN J).1 (orderN J) ∧ bestN (runN J).1 (runN J).1.length = none :=
 run_ind (P := RunInv J) (fun hs out q y m h hy hm hr => run_step hU h hy hm hr) _ _ _ (Nat.le_refl _) (run_start J)
theorem order_len (hU : UpJ J) : (orderN J).length ≤ J.length := by
 have hI := (run_inv hU).1
 rw [← hI.s]
 have h1 : ((runN J).1.map (·.t)).sum ≤ ((runN J).1.map fun y => y.p.length).sum := by
  have := hI.t
  generalize (runN J).1 = hs at this ⊢
  induction hs with
  | nil => exact Nat.le_refl _
  | cons a r ih =>
   have h2 := (this a List.mem_cons_self).1
   have h3 := ih fun y hy => this y (List.mem_cons_of_mem _ hy)
   simp only [List.map_cons, List.sum_cons]
   omega
 have h2 : ((runN J).1.map fun y => y.p.length) = (houN J).map fun y => y.p.length := by
  rw [← hI.z, List.map_map]; rfl
 have h3 : ((houN J).map fun y => y.p.length).sum = restN (houN J) := by
  unfold restN
  rw [show ((houN J).map fun y => y.p.length - y.t) = (houN J).map fun y => y.p.length from List.map_congr_left fun y hy => by rw [(hou_t _ _ y hy).1]; rfl]
 have h4 := rest_hou J.length J
 rw [h2, h3] at h1
 exact Nat.le_trans h1 h4
end
end
section
open Go.RowKit
/-! ### what Order says: the law -/
section
variable {l : List NM} {O : List NM} {m : NM} {i : Nat}
end
end
section
open Go.RowKit
/-! ### two lists, one in the other -/
section
variable {J K A B : List NM} {h : Int} {a b m : NM} {k n q : Nat}
/-! ### Grows -/
end
end
section
open Go.RowKit
/-! ### what convicts a house -/
theorem same_ns {a b : NM} : same a b = true ↔ ns a = ns b := by
 unfold same ns
 simp only [Bool.and_eq_true, decide_eq_true_eq, NM.mk.injEq]
 constructor
 · rintro ⟨⟨⟨⟨h1, h2⟩, h3⟩, h4⟩, h5⟩; exact ⟨h1, h2, h3, trivial, h4, trivial, h5⟩
 · rintro ⟨h1, h2, h3, _, h4, _, h5⟩; exact ⟨⟨⟨⟨h1, h2⟩, h3⟩, h4⟩, h5⟩
section
variable {l : List NM} {h v : Int} {i k : Nat} {a b : NM}
end
/-! ### what is missing -/
section
variable {l J : List NM} {h x a : Int} {m : NM} {q : Nat}
end
end
section
open Go.RowKit
/-! ### lists that all seal in order -/
section
variable {L S M : List NM} {h : Int} {i j : Nat} {m x y : NM}
end
end
end Go.Proofs.YtdcbjedkddgfkaaGreatDoor
