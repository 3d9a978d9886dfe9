/-
  Gossip: joined lists and what two lists tell each other, in plain Lean. No condition.
  Gossip: houses and runs, in plain Lean. No condition.
  Gossip: what a run keeps, in plain Lean. No condition.
  Gossip: what Order, Heads and Join say, in plain Lean. No condition.
  Gossip: a list and a larger one, in plain Lean. No condition.
  Gossip: what convicts, what is missing, in plain Lean. No condition.
  Gossip: lists that are sealed in order, in plain Lean. No condition.
-/
import Derived.Test.YtdcbjedkddgfkaaDoorGo13
namespace Go.Proofs.YtdcbjedkddgfkaaDoor
set_option linter.unusedVariables false
set_option linter.unusedSimpArgs false
set_option linter.unusedSectionVars false
section
open Go.RowKit
/-! ### what two lists tell each other -/
def hasN (l : List NM) (x : NM) : Bool := decide (ns x ∈ l.map ns)
section
variable {a b l : List NM} {x : NM}
theorem less_mem : x ∈ lessN (joinN b) (joinN a) ↔ InN b x ∧ ¬ InN a x := by
 unfold lessN
 rw [List.mem_filter, mem_join, decide_eq_true_eq, mem_join]
theorem less_good : GoodN (lessN (joinN b) (joinN a)) := fun x hx => join_good b x (List.mem_filter.1 hx).1
theorem InN_good (h : GoodN l) : InN l x ↔ x ∈ l := by
 constructor
 · rintro ⟨y, hy, _, rfl⟩
   rw [(h y hy).2]; exact hy
 · intro hx
   exact ⟨x, hx, (h x hx).1, (h x hx).2⟩
theorem less_InN : InN (lessN (joinN b) (joinN a)) x ↔ InN b x ∧ ¬ InN a x := by rw [InN_good less_good, less_mem]
theorem talk_a (a b : List NM) : joinN (a ++ lessN (joinN b) (joinN a)) = joinN (a ++ b) := join_congr fun x => by
 rw [InN_app, InN_app, less_InN]
 constructor
 · rintro (h | h)
   · exact .inl h
   · exact .inr h.1
 · rintro (h | h)
   · exact .inl h
   · by_cases h2 : InN a x
     · exact .inl h2
     · exact .inr ⟨h, h2⟩
theorem talk_b (a b : List NM) : joinN (lessN (joinN a) (joinN b) ++ b) = joinN (a ++ b) := join_congr fun x => by
 rw [InN_app, InN_app, less_InN]
 constructor
 · rintro (h | h)
   · exact .inl h.1
   · exact .inr h
 · rintro (h | h)
   · by_cases h2 : InN b x
     · exact .inr h2
     · exact .inl ⟨h, h2⟩
   · exact .inr h
theorem less_self (J : List NM) : lessN J J = [] := by
 unfold lessN
 rw [List.filter_eq_nil_iff]
 intro x hx
 simpa using hx
theorem less_le (J K : List NM) : (lessN J K).length ≤ J.length := List.length_filter_le _ _
theorem has_of (h : InN l (ns x)) : hasN l x = true := by
 obtain ⟨y, hy, _, e⟩ := h
 exact decide_eq_true (by rw [← e]; exact List.mem_map_of_mem hy)
theorem in_of_has (hr : right x = true) (h : hasN l x = true) : InN l (ns x) := by
 obtain ⟨y, hy, e⟩ := List.mem_map.1 (of_decide_eq_true h)
 exact ⟨y, hy, by rw [← right_ns, e, right_ns]; exact hr, e⟩
theorem has_not (hr : right x = true) (h : ¬ InN l (ns x)) : hasN l x = false := by
 cases e : hasN l x
 · rfl
 · exact absurd (in_of_has hr e) h
theorem sorted_nodup (h : SortedN l) : l.Nodup := h.imp fun {a b} hab e => by subst e; rw [cmpN_irrefl] at hab; omega
/-- what stands ahead in a list without repetitions is not there -/
theorem has_take {L : List NM} {i : Nat} (h : (L.map ns).Nodup) (hx : L[i]? = some x) : hasN (L.take i) x = false := by
 refine decide_eq_false fun hm => ?_
 obtain ⟨hi, e⟩ := List.getElem?_eq_some_iff.1 hx
 obtain ⟨j, hj, e2⟩ := List.mem_iff_getElem.1 hm
 rw [List.length_map, List.length_take] at hj
 rw [List.getElem_map, List.getElem_take] at e2
 have := List.pairwise_iff_getElem.1 h j i (by rw [List.length_map]; omega) (by rw [List.length_map]; exact hi) (by omega)
 rw [List.getElem_map, List.getElem_map, e, e2] at this
 exact this rfl
theorem less_nodup : (lessN (joinN b) (joinN a)).Nodup := (sorted_nodup (join_sorted b)).filter _
/-- what is sent: right, known to the sender, not to the receiver, once -/
theorem sent_ok {L : List NM} {i : Nat} (h : L.map ns = lessN (joinN b) (joinN a)) (hx : L[i]? = some x) : right x = true ∧ hasN b x = true ∧ hasN a x = false ∧ hasN (L.take i) x = false := by
 have hm : ns x ∈ lessN (joinN b) (joinN a) := by rw [← h]; exact List.mem_map_of_mem (List.mem_of_getElem? hx)
 have hr : right x = true := by rw [← right_ns]; exact (less_good _ hm).1
 exact ⟨hr, has_of (less_mem.1 hm).1, has_not hr (less_mem.1 hm).2, has_take (by rw [h]; exact less_nodup) hx⟩
theorem sent_len {L : List NM} (h : L.map ns = lessN (joinN b) (joinN a)) : L.length ≤ b.length := by
 have := congrArg List.length h
 rw [List.length_map] at this
 rw [this]
 exact Nat.le_trans (less_le _ _) (joinN_le b)
end
theorem join_comm (a b : List NM) : joinN (a ++ b) = joinN (b ++ a) := join_congr fun x => by rw [InN_app, InN_app]; exact Or.comm
theorem join_app_l (a b : List NM) : joinN (joinN a ++ b) = joinN (a ++ b) := join_congr fun x => by rw [InN_app, InN_app, InN_join]
theorem join_app_r (a b : List NM) : joinN (a ++ joinN b) = joinN (a ++ b) := join_congr fun x => by rw [InN_app, InN_app, InN_join]
theorem join_same (a : List NM) : joinN (a ++ a) = joinN a := join_congr fun x => by rw [InN_app]; exact or_self_iff
theorem join_part (a : List NM) (k : Nat) : joinN (a ++ a.take k) = joinN a := join_congr fun x => by
 rw [InN_app]
 constructor
 · rintro (h | ⟨y, hy, h⟩)
   · exact h
   · exact ⟨y, List.mem_of_mem_take hy, h⟩
 · exact .inl
theorem join_mem {a b : List NM} (h : ∀ x, x ∈ a ↔ x ∈ b) : joinN a = joinN b := join_congr fun x => by
 unfold InN
 constructor
 · rintro ⟨y, hy, h2⟩; exact ⟨y, (h y).1 hy, h2⟩
 · rintro ⟨y, hy, h2⟩; exact ⟨y, (h y).2 hy, h2⟩
/-- a list, its notes as they spell -/
theorem join_ns {a b : List NM} (h : a.map ns = joinN b) : joinN a = joinN b := by rw [← join_map, h, join_join]
theorem join_ns2 {a b : List NM} (h : a.map ns = b.map ns) : joinN a = joinN b := by rw [← join_map, h, join_map]
end
section
open Go.RowKit
/-! ### a house's own notes -/
def ofN (l : List NM) (h : Int) : List NM := l.filter fun x => decide (x.h = h)
abbrev UpJ (J : List NM) : Prop := J.Pairwise fun x y => x.h ≤ y.h
theorem of_mem {l : List NM} {h : Int} {x : NM} : x ∈ ofN l h ↔ x ∈ l ∧ x.h = h := by unfold ofN; rw [List.mem_filter, decide_eq_true_eq]
theorem of_app (a b : List NM) (h : Int) : ofN (a ++ b) h = ofN a h ++ ofN b h := List.filter_append ..
theorem of_nil (h : Int) : ofN [] h = [] := rfl
theorem of_one_eq {x : NM} {h : Int} (e : x.h = h) : ofN [x] h = [x] := by unfold ofN; simp [e]
theorem of_one_ne {x : NM} {h : Int} (e : ¬ x.h = h) : ofN [x] h = [] := by unfold ofN; simp [e]
theorem of_map (l : List NM) (h : Int) : ofN (l.map ns) h = (ofN l h).map ns := by unfold ofN; rw [List.filter_map]; rfl
theorem run_split {a : NM} {r : List NM} (h : UpJ (a :: r)) : (a :: r).take (runLen (a :: r)) = ofN (a :: r) a.h ∧ ∀ x, x ≠ a.h → ofN ((a :: r).drop (runLen (a :: r))) x = ofN (a :: r) x := by
 have h1 := drop_gt h
 have h2 : ∀ m ∈ (a :: r).take (runLen (a :: r)), m.h = a.h := by
  have e : (a :: r).take (runLen (a :: r)) = a :: (r.takeWhile fun x => decide (x.h = a.h)) := by
   show (a :: r).take (1 + (r.takeWhile fun x => decide (x.h = a.h)).length) = _
   rw [Nat.add_comm, List.take_succ_cons]
   congr 1
   have := List.takeWhile_append_dropWhile (p := fun x : NM => decide (x.h = a.h)) (l := r)
   conv => lhs; rw [← this]
   rw [List.take_append_of_le_length (by rw [this]; exact Nat.le_refl _)]
   rw [this, List.take_length]
  rw [e]
  intro m hm
  rcases List.mem_cons.1 hm with e2 | e2
  · rw [e2]
  · have := List.all_takeWhile (p := fun x : NM => decide (x.h = a.h)) (l := r)
    exact of_decide_eq_true (List.all_eq_true.1 this m e2)
 have h3 : ∀ x, ofN (a :: r) x = ofN ((a :: r).take (runLen (a :: r))) x ++ ofN ((a :: r).drop (runLen (a :: r))) x := fun x => by
  rw [← of_app, List.take_append_drop]
 constructor
 · rw [h3, show ofN ((a :: r).drop (runLen (a :: r))) a.h = [] from List.filter_eq_nil_iff.2 fun m hm => by have := h1 m hm; simp only [decide_eq_true_eq]; omega, List.append_nil]
   unfold ofN
   rw [List.filter_eq_self.2]
   intro m hm
   exact decide_eq_true (h2 m hm)
 · intro x hx
   rw [h3, show ofN ((a :: r).take (runLen (a :: r))) x = [] from List.filter_eq_nil_iff.2 fun m hm => by have := h2 m hm; simp only [decide_eq_true_eq]; omega, List.nil_append]
def houOf (J : List NM) (h : Int) : HM := ⟨h, pastN (ofN J h), adjN (ofN J h), 0⟩
theorem houF_iff : ∀ (f : Nat) (J : List NM), J.length ≤ f → UpJ J → ∀ y, y ∈ housesF f J ↔ y = houOf J y.h ∧ ofN J y.h ≠ []
 | 0, J, hl, _, y => by
  have : J = [] := List.eq_nil_of_length_eq_zero (by omega)
  subst this
  constructor
  · intro h; unfold housesF at h; cases h
  · intro h; exact absurd rfl h.2
 | f + 1, [], _, _, y => by
  constructor
  · intro h; unfold housesF at h; cases h
  · intro h; exact absurd rfl h.2
 | f + 1, a :: r, hl, hU, y => by
  obtain ⟨h1, h2⟩ := run_split hU
  have hp := run_pos a r
  have ih := houF_iff f ((a :: r).drop (runLen (a :: r))) (by rw [List.length_drop]; simp only [List.length_cons] at hl ⊢; omega) hU.drop y
  unfold housesF
  rw [List.mem_cons, ih, h1]
  by_cases e : y.h = a.h
  · have h4 : ofN ((a :: r).drop (runLen (a :: r))) y.h = [] := List.filter_eq_nil_iff.2 fun m hm => by have := drop_gt hU m hm; simp only [decide_eq_true_eq]; omega
    constructor
    · rintro (h | h)
      · subst h
        exact ⟨rfl, List.ne_nil_of_mem (of_mem.2 ⟨List.mem_cons_self, rfl⟩)⟩
      · exact absurd h4 h.2
    · rintro ⟨h, _⟩
      left; rw [h]; unfold houOf; rw [e]
  · rw [show houOf ((a :: r).drop (runLen (a :: r))) y.h = houOf (a :: r) y.h by unfold houOf; rw [h2 _ e], h2 _ e]
    constructor
    · rintro (h | h)
      · subst h; exact absurd rfl e
      · exact h
    · exact .inr
theorem hou_iff {J : List NM} (hU : UpJ J) (y : HM) : y ∈ houN J ↔ y = houOf J y.h ∧ ofN J y.h ≠ [] := houF_iff _ _ (Nat.le_refl _) hU y
theorem hou_asc' {J : List NM} (hU : UpJ J) : (houN J).Pairwise fun x y => x.h < y.h := hou_asc _ _ hU
theorem find_asc {hs : List HM} (hA : hs.Pairwise fun x y => x.h < y.h) {y : HM} (hy : y ∈ hs) : hs.find? (fun z => decide (z.h = y.h)) = some y := by
 induction hs with
 | nil => cases hy
 | cons a r ih =>
  obtain ⟨h1, h2⟩ := List.pairwise_cons.1 hA
  rcases List.mem_cons.1 hy with e | e
  · subst e; simp
  · have := h1 y e
    rw [List.find?_cons_of_neg (by simp only [decide_eq_true_eq]; omega)]
    exact ih h2 e
theorem hou_at {J : List NM} (hU : UpJ J) {h : Int} (hn : ofN J h ≠ []) : (houN J).find? (fun z => decide (z.h = h)) = some (houOf J h) :=
 find_asc (y := houOf J h) (hou_asc' hU) ((hou_iff hU (houOf J h)).2 ⟨rfl, hn⟩)
theorem hou_non {J : List NM} (hU : UpJ J) {h : Int} (hn : ofN J h = []) : (houN J).find? (fun z => decide (z.h = h)) = none := by
 rw [List.find?_eq_none]
 intro y hy e
 have := of_decide_eq_true e
 subst this
 exact ((hou_iff hU y).1 hy).2 hn
theorem past_of {J : List NM} (hU : UpJ J) (h : Int) : pastOfN J h = pastN (ofN J h) := by
 unfold pastOfN
 by_cases hn : ofN J h = []
 · rw [hou_non hU hn, hn]; rfl
 · rw [hou_at hU hn]; rfl
theorem forks_iff {J : List NM} (hU : UpJ J) (h : Int) : h ∈ forksN J ↔ adjN (ofN J h) = true := by
 unfold forksN
 rw [List.mem_map]
 constructor
 · rintro ⟨y, hy, rfl⟩
   obtain ⟨h1, h2⟩ := List.mem_filter.1 hy
   rw [((hou_iff hU y).1 h1).1] at h2
   exact h2
 · intro h1
   refine ⟨houOf J h, List.mem_filter.2 ⟨(hou_iff hU _).2 ⟨rfl, fun e => ?_⟩, h1⟩, rfl⟩
   change ofN J h = [] at e
   rw [e] at h1; cases h1
theorem forks_asc {J : List NM} (hU : UpJ J) : (forksN J).Pairwise fun x y => x < y :=
 List.pairwise_map.2 ((hou_asc' hU).filter _)
/-! ### the past -/
theorem check_nil : check [] = 0 := rfl
theorem past_check (l : List NM) : check (pastN l) = 0 := by
 have key : ∀ n, check (l.take (dwnN l n)) = 0 := by
  intro n
  induction n with
  | zero => exact check_nil
  | succ n ih =>
   unfold dwnN
   split
   · rename_i h; exact h
   · exact ih
 exact key _
theorem past_pre (l : List NM) : pastN l = l.take (pastN l).length := by
 unfold pastN
 rw [List.length_take, Nat.min_eq_left (past_le l)]
theorem past_sub {l : List NM} {x : NM} (h : x ∈ pastN l) : x ∈ l := List.mem_of_mem_take h
theorem past_at_n {l : List NM} {k : Nat} {m : NM} (h : (pastN l)[k]? = some m) : right m = true ∧ m.n = (k : Int) := by
 have h1 := check_zero (past_check l) k m h
 exact ⟨h1.1, h1.2.2.1⟩
/-! ### run -/
theorem best_no : ∀ {hs : List HM} {k : Nat}, bestN hs k = none → ∀ (q : Nat) (y : HM) (m : NM), q < k → hs[q]? = some y → nxt y = some m → readyN hs m = false
 | _, 0, _, q, _, _, h, _, _ => absurd h (Nat.not_lt_zero _)
 | hs, k + 1, h, q, y, m, hq, hy, hm => by
  have h0 : bestN hs k = none := by
   cases e : bestN hs k with
   | none => rfl
   | some q =>
    exfalso
    unfold bestN at h
    simp only [e] at h
    split at h
    · cases h
    · split at h
      · cases h
      · split at h <;> cases h
  rcases Nat.lt_or_ge q k with h1 | h1
  · exact best_no h0 q y m h1 hy hm
  · have : q = k := by omega
    subst this
    unfold bestN at h
    rw [hy] at h
    simp only [hm, h0, Bool.true_and] at h
    cases e : readyN hs m
    · rfl
    · rw [e, if_pos rfl] at h; cases h
theorem run_ind {P : List HM → List NM → Prop} (hstep : ∀ (hs : List HM) (out : List NM) (q : Nat) (y : HM) (m : NM), P hs out → hs[q]? = some y → nxt y = some m → readyN hs m = true → P (putN hs q y) (out ++ [m])) :
 ∀ (f : Nat) (hs : List HM) (out : List NM), restN hs ≤ f → P hs out → P (runF f hs out).1 (runF f hs out).2 ∧ bestN (runF f hs out).1 (runF f hs out).1.length = none
 | 0, hs, out, hf, h => by
  refine ⟨h, ?_⟩
  show bestN hs hs.length = none
  cases e : bestN hs hs.length with
  | none => rfl
  | some q =>
   obtain ⟨_, y, m, h1, h2, _⟩ := best_at e
   have := rest_put h1 (List.getElem?_eq_some_iff.1 h2).1
   omega
 | f + 1, hs, out, hf, h => by
  unfold runF
  cases e : bestN hs hs.length with
  | none => exact ⟨h, e⟩
  | some q =>
   obtain ⟨_, y, m, h1, h2, h3⟩ := best_at e
   have := rest_put h1 (List.getElem?_eq_some_iff.1 h2).1
   simp only [h1, h2]
   exact run_ind hstep f _ _ (by omega) (hstep hs out q y m h h1 h2 h3)
end
section
open Go.RowKit
/-! ### what a run keeps -/
structure RunInv (J : List NM) (hs : List HM) (out : List NM) : Prop where
 z : hs.map HM.z = houN J
 t : ∀ y ∈ hs, y.t ≤ y.p.length ∧ ofN out y.h = y.p.take y.t
 o : ∀ m ∈ out, ∃ y ∈ hs, y.h = m.h
 s : (hs.map (·.t)).sum = out.length
 pl : ∀ (i : Nat) (m : NM), out[i]? = some m → (((ofN (out.take i) m.h).length : Nat) : Int) = m.n ∧ ∀ r ∈ m.l, r.n < (((ofN (out.take i) r.h).length : Nat) : Int) ∨ (adjN (ofN J r.h) = true ∧ (((pastN (ofN J r.h)).length : Nat) : Int) ≤ r.n)
section
variable {J : List NM} {hs : List HM} {out : List NM} {y z : HM} {m : NM} {q : Nat} {r : RM}
theorem z_asc (hU : UpJ J) (h : hs.map HM.z = houN J) : hs.Pairwise fun x y => x.h < y.h := by
 have := hou_asc' hU
 rw [← h, List.pairwise_map] at this
 exact this
theorem z_of (hU : UpJ J) (h : hs.map HM.z = houN J) (hy : y ∈ hs) : y.p = pastN (ofN J y.h) ∧ y.f = adjN (ofN J y.h) ∧ ofN J y.h ≠ [] := by
 have h1 : y.z ∈ houN J := by rw [← h]; exact List.mem_map_of_mem hy
 obtain ⟨h2, h3⟩ := (hou_iff hU _).1 h1
 have e1 : y.z.p = pastN (ofN J y.z.h) := by rw [h2]; rfl
 have e2 : y.z.f = adjN (ofN J y.z.h) := by rw [h2]; rfl
 exact ⟨e1, e2, h3⟩
theorem z_has (hU : UpJ J) (h : hs.map HM.z = houN J) {x : Int} (hx : ofN J x ≠ []) : ∃ y ∈ hs, y.h = x := by
 have h1 : houOf J x ∈ hs.map HM.z := by rw [h]; exact (hou_iff hU _).2 ⟨rfl, hx⟩
 obtain ⟨y, hy, e⟩ := List.mem_map.1 h1
 exact ⟨y, hy, congrArg HM.h e⟩
theorem asc_eq (hA : hs.Pairwise fun x y => x.h < y.h) (hy : y ∈ hs) (hz : z ∈ hs) (e : y.h = z.h) : y = z := by
 have h1 := find_asc hA hy
 have h2 := find_asc hA hz
 rw [e, h2] at h1
 injection h1 with h1
 exact h1.symm
theorem put_mem (hA : hs.Pairwise fun x y => x.h < y.h) (hy : hs[q]? = some y) (hz : z ∈ putN hs q y) : z = ⟨y.h, y.p, y.f, y.t + 1⟩ ∨ (z ∈ hs ∧ z.h ≠ y.h) := by
 obtain ⟨i, hi⟩ := List.getElem?_of_mem hz
 unfold putN at hi
 rw [List.getElem?_set] at hi
 split at hi
 · split at hi
   · injection hi with hi; exact .inl hi.symm
   · cases hi
 · rename_i hne
   refine .inr ⟨List.mem_of_getElem? hi, fun e => ?_⟩
   obtain ⟨h1, e1⟩ := List.getElem?_eq_some_iff.1 hi
   obtain ⟨h2, e2⟩ := List.getElem?_eq_some_iff.1 hy
   rcases Nat.lt_or_ge i q with h | h
   · have := List.pairwise_iff_getElem.1 hA i q h1 h2 h; rw [e1, e2] at this; omega
   · have := List.pairwise_iff_getElem.1 hA q i h2 h1 (by omega); rw [e1, e2] at this; omega
theorem put_has (hy : hs[q]? = some y) (hz : z ∈ hs) : ∃ z2 ∈ putN hs q y, z2.h = z.h := by
 obtain ⟨i, hi⟩ := List.getElem?_of_mem hz
 obtain ⟨h1, e1⟩ := List.getElem?_eq_some_iff.1 hi
 by_cases e : q = i
 · subst e
   rw [hy] at hi; injection hi with hi
   refine ⟨⟨y.h, y.p, y.f, y.t + 1⟩, List.mem_of_getElem? (i := q) ?_, by rw [← hi]⟩
   unfold putN
   rw [List.getElem?_set_self h1]
 · refine ⟨z, List.mem_of_getElem? (i := i) ?_, rfl⟩
   unfold putN
   rw [List.getElem?_set_ne e]; exact hi
theorem sum_set : ∀ {hs : List HM} {q : Nat} {y : HM}, hs[q]? = some y → ((putN hs q y).map (·.t)).sum = (hs.map (·.t)).sum + 1
 | [], q, y, h => by simp at h
 | a :: r, 0, y, h => by
  have : a = y := by simpa using h
  subst this
  unfold putN
  simp only [List.set_cons_zero, List.map_cons, List.sum_cons]
  omega
 | a :: r, q + 1, y, h => by
  have := sum_set (hs := r) (q := q) (y := y) (by simpa using h)
  unfold putN at this ⊢
  simp only [List.set_cons_succ, List.map_cons, List.sum_cons]
  omega
theorem okR_get (h : okR hs r = true) : ∃ z ∈ hs, z.h = r.h ∧ (r.n < (z.t : Int) ∨ (z.f = true ∧ ((z.p.length : Nat) : Int) ≤ r.n)) := by
 unfold okR at h
 split at h
 · cases h
 · rename_i z hz
   refine ⟨z, List.mem_of_find?_eq_some hz, by have := List.find?_some hz; exact of_decide_eq_true this, ?_⟩
   rw [Bool.not_eq_true', Bool.and_eq_false_iff, decide_eq_false_iff_not, Bool.not_eq_false', Bool.and_eq_true, decide_eq_true_eq] at h
   rcases h with h | h
   · exact .inl (by omega)
   · exact .inr h
theorem okR_set (hA : hs.Pairwise fun x y => x.h < y.h) (hz : z ∈ hs) (e : z.h = r.h) (h : r.n < (z.t : Int) ∨ (z.f = true ∧ ((z.p.length : Nat) : Int) ≤ r.n)) : okR hs r = true := by
 unfold okR
 rw [← e, find_asc hA hz]
 show (!(decide ((z.t : Int) ≤ r.n) && !(z.f && decide (((z.p.length : Nat) : Int) ≤ r.n)))) = true
 rw [Bool.not_eq_true', Bool.and_eq_false_iff, decide_eq_false_iff_not, Bool.not_eq_false', Bool.and_eq_true, decide_eq_true_eq]
 rcases h with h | h
 · exact .inl (by omega)
 · exact .inr h
theorem nxt_at (hU : UpJ J) (h : hs.map HM.z = houN J) (hy : y ∈ hs) (hm : nxt y = some m) : m.h = y.h ∧ m.n = (y.t : Int) ∧ right m = true ∧ m ∈ J ∧ y.t < y.p.length := by
 obtain ⟨h1, h2, h3⟩ := z_of hU h hy
 have h4 : m ∈ y.p := List.mem_of_getElem? hm
 rw [h1] at h4
 have h5 := of_mem.1 (past_sub h4)
 have h6 := past_at_n (l := ofN J y.h) (k := y.t) (m := m) (by rw [← h1]; exact hm)
 exact ⟨h5.2, h6.2, h6.1, h5.1, (List.getElem?_eq_some_iff.1 hm).1⟩
theorem run_start (J : List NM) : RunInv J (houN J) [] := by
 have h0 : ∀ y ∈ houN J, y.t = 0 := fun y hy => (hou_t _ _ y hy).1
 refine ⟨?_, fun y hy => ?_, fun m hm => absurd hm List.not_mem_nil, ?_, fun i m h => absurd h (by simp)⟩
 · conv => rhs; rw [← List.map_id (houN J)]
   refine List.map_congr_left fun y hy => ?_
   unfold HM.z
   rw [← h0 y hy]; rfl
 · rw [h0 y hy]; exact ⟨Nat.zero_le _, rfl⟩
 · rw [show (houN J).map (·.t) = (houN J).map fun _ => 0 from List.map_congr_left h0]
   show _ = 0
   clear h0
   generalize houN J = hs
   induction hs with
   | nil => rfl
   | cons a r ih => rw [List.map_cons, List.sum_cons, ih]
theorem run_step (hU : UpJ J) (h : RunInv J hs out) (hy : hs[q]? = some y) (hm : nxt y = some m) (hr : readyN hs m = true) : RunInv J (putN hs q y) (out ++ [m]) := by
 have hA := z_asc hU h.z
 have hyM := List.mem_of_getElem? hy
 obtain ⟨m1, m2, m3, m4, m5⟩ := nxt_at hU h.z hyM hm
 refine ⟨(put_z hy).trans h.z, fun z hz => ?_, fun x hx => ?_, ?_, fun i x hx => ?_⟩
 · rcases put_mem hA hy hz with e | ⟨e1, e2⟩
   · subst e
     refine ⟨m5, ?_⟩
     show ofN (out ++ [m]) y.h = y.p.take (y.t + 1)
     rw [of_app, (h.t y hyM).2, of_one_eq m1, take_succ_get hm]
   · rw [of_app, of_one_ne (by rw [m1]; exact fun e => e2 e.symm), List.append_nil]
     exact h.t z e1
 · rcases List.mem_append.1 hx with e | e
   · obtain ⟨z, hz, e1⟩ := h.o x e
     obtain ⟨z2, hz2, e2⟩ := put_has hy hz
     exact ⟨z2, hz2, e2.trans e1⟩
   · rw [List.mem_singleton.1 e, m1]
     exact put_has hy hyM
 · rw [sum_set hy, h.s, List.length_append]; rfl
 · rcases Nat.lt_or_ge i out.length with hi | hi
   · rw [List.getElem?_append_left hi] at hx
     rw [List.take_append_of_le_length (Nat.le_of_lt hi)]
     exact h.pl i x hx
   · have hl := (List.getElem?_eq_some_iff.1 hx).1
     rw [List.length_append] at hl
     have hi2 : i = out.length := by simp only [List.length_cons, List.length_nil] at hl; omega
     subst hi2
     rw [List.getElem?_concat_length] at hx
     injection hx with hx
     subst hx
     rw [List.take_append_of_le_length (Nat.le_refl _), List.take_length]
     constructor
     · rw [m1, (h.t y hyM).2, List.length_take, Nat.min_eq_left (h.t y hyM).1, m2]
     · intro r hr2
       obtain ⟨z, hz, e1, e2⟩ := okR_get (List.all_eq_true.1 hr r hr2)
       obtain ⟨z1, z2, z3⟩ := z_of hU h.z hz
       rw [← e1, (h.t z hz).2, List.length_take, Nat.min_eq_left (h.t z hz).1, ← z2, ← z1]
       exact e2
theorem run_inv (hU : UpJ J) : RunInv J (runN J).1 (orderN J) ∧ bestN (runN J).1 (runN J).1.length = none :=
 run_ind (P := RunInv J) (fun hs out q y m h hy hm hr => run_step hU h hy hm hr) _ _ _ (Nat.le_refl _) (run_start J)
theorem run_end_no (hU : UpJ J) {y : HM} {m : NM} (hy : y ∈ (runN J).1) (hm : nxt y = some m) : readyN (runN J).1 m = false := by
 obtain ⟨q, hq⟩ := List.getElem?_of_mem hy
 exact best_no (run_inv hU).2 q y m (List.getElem?_eq_some_iff.1 hq).1 hq hm
/-- what has been taken of a house in the end -/
def takenN (J : List NM) (h : Int) : Nat := (ofN (orderN J) h).length
theorem taken_at (hU : UpJ J) (hy : y ∈ (runN J).1) : takenN J y.h = y.t := by
 unfold takenN
 have := ((run_inv hU).1).t y hy
 rw [this.2, List.length_take, Nat.min_eq_left this.1]
theorem order_of (hU : UpJ J) (h : Int) : ofN (orderN J) h = (pastN (ofN J h)).take (takenN J h) := by
 have hI := (run_inv hU).1
 by_cases hn : ofN J h = []
 · have : ofN (orderN J) h = [] := by
    refine List.filter_eq_nil_iff.2 fun m hm e => ?_
    obtain ⟨y, hy, e1⟩ := hI.o m hm
    have h2 := (z_of hU hI.z hy).2.2
    rw [e1, of_decide_eq_true e] at h2
    exact h2 hn
   rw [hn, this, show pastN [] = [] from rfl, List.take_nil]
 · obtain ⟨y, hy, rfl⟩ := z_has hU hI.z hn
   rw [taken_at hU hy, (hI.t y hy).2, (z_of hU hI.z hy).1]
theorem taken_le (hU : UpJ J) (h : Int) : takenN J h ≤ (pastN (ofN J h)).length := by
 have := congrArg List.length (order_of hU h)
 rw [List.length_take] at this
 unfold takenN at *
 omega
theorem order_mem (hU : UpJ J) (hm : m ∈ orderN J) : m ∈ J := by
 have h1 : m ∈ ofN (orderN J) m.h := of_mem.2 ⟨hm, rfl⟩
 rw [order_of hU] at h1
 exact (of_mem.1 (past_sub (List.mem_of_mem_take h1))).1
theorem heads_mem (hU : UpJ J) (r : RM) : r ∈ headsN J ↔ 0 < r.n ∧ r.n = ((takenN J r.h : Nat) : Int) := by
 have hI := (run_inv hU).1
 unfold headsN
 rw [List.mem_map]
 constructor
 · rintro ⟨y, hy, rfl⟩
   obtain ⟨h1, h2⟩ := List.mem_filter.1 hy
   have := of_decide_eq_true h2
   exact ⟨by show 0 < (y.t : Int); omega, by show (y.t : Int) = _; rw [taken_at hU h1]⟩
 · rintro ⟨h1, h2⟩
   have hn : ofN J r.h ≠ [] := by
    intro e
    have := taken_le hU r.h
    rw [e] at this
    have e2 : (pastN []).length = 0 := rfl
    omega
   obtain ⟨y, hy, e⟩ := z_has hU hI.z hn
   have ht := taken_at hU hy
   rw [e] at ht
   refine ⟨y, List.mem_filter.2 ⟨hy, decide_eq_true (by omega)⟩, ?_⟩
   cases r
   simp only at *
   rw [e, h2, ht]
theorem heads_asc (hU : UpJ J) : (headsN J).Pairwise fun x y => x.h < y.h :=
 List.pairwise_map.2 ((z_asc hU (run_inv hU).1.z).filter _)
/-- how many of a house count, by what Heads says -/
def cntH (N : List RM) (h : Int) : Int := match N.find? (fun r => decide (r.h = h)) with
 | some r => r.n
 | none => 0
theorem cnt_heads (hU : UpJ J) (h : Int) : cntH (headsN J) h = ((takenN J h : Nat) : Int) := by
 unfold cntH
 split
 · rename_i r hr
   have h1 := List.mem_of_find?_eq_some hr
   have h2 : r.h = h := by have := List.find?_some hr; exact of_decide_eq_true this
   rw [← h2]
   exact ((heads_mem hU r).1 h1).2
 · rename_i hn
   rw [List.find?_eq_none] at hn
   by_cases e : takenN J h = 0
   · rw [e]; rfl
   · exact absurd (decide_eq_true rfl) (hn ⟨h, ((takenN J h : Nat) : Int)⟩ ((heads_mem hU _).2 ⟨by show (0 : Int) < ((takenN J h : Nat) : Int); omega, rfl⟩))
theorem order_len (hU : UpJ J) : (orderN J).length ≤ J.length := by
 have hI := (run_inv hU).1
 rw [← hI.s]
 have h1 : ((runN J).1.map (·.t)).sum ≤ ((runN J).1.map fun y => y.p.length).sum := by
  have := hI.t
  generalize (runN J).1 = hs at this ⊢
  induction hs with
  | nil => exact Nat.le_refl _
  | cons a r ih =>
   have h2 := (this a List.mem_cons_self).1
   have h3 := ih fun y hy => this y (List.mem_cons_of_mem _ hy)
   simp only [List.map_cons, List.sum_cons]
   omega
 have h2 : ((runN J).1.map fun y => y.p.length) = (houN J).map fun y => y.p.length := by
  rw [← hI.z, List.map_map]; rfl
 have h3 : ((houN J).map fun y => y.p.length).sum = restN (houN J) := by
  unfold restN
  rw [show ((houN J).map fun y => y.p.length - y.t) = (houN J).map fun y => y.p.length from List.map_congr_left fun y hy => by rw [(hou_t _ _ y hy).1]; rfl]
 have h4 := rest_hou J.length J
 rw [h2, h3] at h1
 exact Nat.le_trans h1 h4
theorem heads_sum (hU : UpJ J) : ((headsN J).map (·.n)).sum = (((orderN J).length : Nat) : Int) := by
 have hI := (run_inv hU).1
 rw [← hI.s]
 unfold headsN
 generalize (runN J).1 = hs
 induction hs with
 | nil => rfl
 | cons a r ih =>
  rw [List.filter_cons]
  split
  · simp only [List.map_cons, List.sum_cons, ih]; omega
  · rename_i h
    rw [ih]
    simp only [decide_eq_true_eq] at h
    simp only [List.map_cons, List.sum_cons]
    omega
end
end
section
open Go.RowKit
/-! ### what Order says: the law -/
def hasI (N : List Int) (x : Int) : Bool := decide (x ∈ N)
def placedN (b : List NM) (x : NM) (N : List RM) (F : List Int) : Bool :=
 decide ((((ofN b x.h).length : Nat) : Int) = x.n) && x.l.all fun r => !(decide ((((ofN b r.h).length : Nat) : Int) ≤ r.n) && (!hasI F r.h || decide (r.n < cntH N r.h)))
section
variable {l : List NM} {O : List NM} {m : NM} {i : Nat}
theorem of_len {A B : List NM} (h : A.map ns = B.map ns) (x : Int) : (ofN A x).length = (ofN B x).length := by
 have := congrArg List.length (of_map A x)
 rw [h, of_map, List.length_map, List.length_map] at this
 exact this.symm
theorem placed_ns {A B : List NM} (h : A.map ns = B.map ns) (N : List RM) (F : List Int) : placedN A m N F = placedN B (ns m) N F := by
 unfold placedN
 rw [of_len h, show (ns m).h = m.h from rfl, show (ns m).n = m.n from rfl, show (ns m).l = m.l from rfl]
 congr 2
 funext r
 rw [of_len h]
theorem ord_placed {J : List NM} (hU : UpJ J) (hx : (orderN J)[i]? = some m) : placedN ((orderN J).take i) m (headsN J) (forksN J) = true := by
 have hp := (run_inv hU).1.pl i m hx
 unfold placedN
 rw [Bool.and_eq_true]
 refine ⟨decide_eq_true hp.1, List.all_eq_true.2 fun r hr => ?_⟩
 rcases hp.2 r hr with h | ⟨h1, h2⟩
 · rw [decide_eq_false (by omega)]; rfl
 · have h3 : hasI (forksN J) r.h = true := decide_eq_true ((forks_iff hU r.h).2 h1)
   have h4 := taken_le hU r.h
   rw [h3, cnt_heads hU, show decide (r.n < ((takenN J r.h : Nat) : Int)) = false from decide_eq_false (by omega)]
   simp
/-- all that the law asks of a note of the order -/
theorem ord_at (hO : O.map ns = orderN (joinN l)) (hx : O[i]? = some m) :
 right m = true ∧ hasN l m = true ∧ placedN (O.take i) m (headsN (joinN l)) (forksN (joinN l)) = true ∧
 cntH (headsN (joinN l)) m.h = (((ofN O m.h).length : Nat) : Int) ∧ (ofN O m.h).length ≤ (pastOfN (joinN l) m.h).length ∧
 (ofN O m.h).map ns = ((pastOfN (joinN l) m.h).take (min (ofN O m.h).length (pastOfN (joinN l) m.h).length)) := by
 have hU := join_up l
 have hx2 : (orderN (joinN l))[i]? = some (ns m) := by rw [← hO, List.getElem?_map, hx]; rfl
 have hJ := order_mem hU (List.mem_of_getElem? hx2)
 have hg := join_good l _ hJ
 have e1 : (ofN O m.h).map ns = ofN (orderN (joinN l)) m.h := by rw [← of_map, hO]
 have e2 : (ofN O m.h).length = takenN (joinN l) m.h := by
  have := congrArg List.length e1
  rwa [List.length_map] at this
 have h3 := taken_le hU m.h
 refine ⟨by rw [← right_ns]; exact hg.1, has_of (mem_join.1 hJ), ?_, ?_, ?_, ?_⟩
 · rw [placed_ns (A := O.take i) (B := (orderN (joinN l)).take i)]
   · exact ord_placed hU hx2
   · rw [List.map_take, hO, List.map_take, ← hO, List.map_map]
     rfl
 · rw [cnt_heads hU, e2]
 · rw [past_of hU, e2]; exact h3
 · rw [e1, e2, past_of hU, Nat.min_eq_left h3]; exact order_of hU m.h
theorem ord_check (l : List NM) (x : Int) : check (pastOfN (joinN l) x) = 0 := by rw [past_of (join_up l)]; exact past_check _
theorem ord_len (hO : O.map ns = orderN (joinN l)) : O.length ≤ l.length := by
 have := congrArg List.length hO
 rw [List.length_map] at this
 rw [this]
 exact Nat.le_trans (order_len (join_up l)) (joinN_le l)
/-- the joined list, as the law reads it -/
theorem jn_at {L : List NM} (hL : L.map ns = joinN l) (hx : L[i]? = some m) : right m = true ∧ hasN l m = true ∧ hasN (L.take i) m = false := by
 have hm : ns m ∈ joinN l := by rw [← hL]; exact List.mem_map_of_mem (List.mem_of_getElem? hx)
 exact ⟨by rw [← right_ns]; exact (join_good l _ hm).1, has_of (mem_join.1 hm), has_take (by rw [hL]; exact sorted_nodup (join_sorted l)) hx⟩
theorem jn_up {L : List NM} {p : NM} (hL : L.map ns = joinN l) (hi : 0 < i) (hp : L[i - 1]? = some p) (hx : L[i]? = some m) : p.h < m.h ∨ (p.h = m.h ∧ p.n ≤ m.n) := by
 have h1 : (joinN l)[i - 1]? = some (ns p) := by rw [← hL, List.getElem?_map, hp]; rfl
 have h2 : (joinN l)[i]? = some (ns m) := by rw [← hL, List.getElem?_map, hx]; rfl
 obtain ⟨a1, a2⟩ := List.getElem?_eq_some_iff.1 h1
 obtain ⟨b1, b2⟩ := List.getElem?_eq_some_iff.1 h2
 have := List.pairwise_iff_getElem.1 (join_sorted l) (i - 1) i a1 b1 (by omega)
 rw [a2, b2, cmpN_ns] at this
 rcases cmpN_lt.1 this with h | ⟨h, h2 | h2⟩
 · exact .inl h
 · exact .inr ⟨h, by omega⟩
 · exact .inr ⟨h, by omega⟩
theorem past_neg (l : List NM) : pastOfN (joinN l) (-1) = [] := by
 rw [past_of (join_up l), show ofN (joinN l) (-1) = [] from List.filter_eq_nil_iff.2 fun m hm => by
  have := (right_ok (join_good l m hm).1).1.2
  simp only [decide_eq_true_eq]; omega]
 rfl
end
end
section
open Go.RowKit
/-! ### two lists, one in the other -/
section
variable {J K A B : List NM} {h : Int} {a b m : NM} {k n q : Nat}
theorem of_sorted (hS : SortedN J) (h : Int) : SortedN (ofN J h) := List.Pairwise.filter _ hS
theorem of_h (hm : m ∈ ofN J h) : m.h = h := (of_mem.1 hm).2
/-- notes of one house, in order: their numbers -/
def UpN (L : List NM) : Prop := L.Pairwise fun a b => a.n ≤ b.n
def AscN (L : List NM) : Prop := L.Pairwise fun a b => a.n < b.n
theorem of_up (hS : SortedN J) (h : Int) : UpN (ofN J h) := by
 have h1 := of_sorted hS h
 refine List.Pairwise.imp_of_mem (fun {a b} ha hb hab => ?_) h1
 rcases cmpN_lt.1 hab with e | ⟨_, e | e⟩
 · rw [of_h ha, of_h hb] at e; omega
 · omega
 · omega
theorem adj_false : ∀ {L : List NM}, UpN L → adjN L = false → AscN L
 | [], _, _ => List.Pairwise.nil
 | [x], _, _ => List.pairwise_singleton ..
 | x :: y :: r, hU, h => by
  unfold adjN at h
  rw [Bool.or_eq_false_iff, decide_eq_false_iff_not] at h
  have h1 := List.pairwise_cons.1 hU
  have h2 := adj_false h1.2 h.2
  refine List.pairwise_cons.2 ⟨fun z hz => ?_, h2⟩
  have h3 := h1.1 y List.mem_cons_self
  rcases List.mem_cons.1 hz with e | e
  · subst e; omega
  · have := (List.pairwise_cons.1 h2).1 z e; omega
theorem adj_true : ∀ {L : List NM}, adjN L = true → ∃ (i : Nat) (a b : NM), L[i]? = some a ∧ L[i + 1]? = some b ∧ b.n = a.n
 | [], h => by cases h
 | [x], h => by cases h
 | x :: y :: r, h => by
  unfold adjN at h
  rw [Bool.or_eq_true, decide_eq_true_eq] at h
  rcases h with h | h
  · exact ⟨0, x, y, rfl, rfl, h⟩
  · obtain ⟨i, a, b, h1, h2, h3⟩ := adj_true h
    exact ⟨i + 1, a, b, by simpa using h1, by simpa using h2, h3⟩
theorem adj_iff (hS : SortedN J) (h : Int) : adjN (ofN J h) = true ↔ ∃ a b, a ∈ J ∧ b ∈ J ∧ a.h = h ∧ b.h = h ∧ a ≠ b ∧ a.n = b.n := by
 constructor
 · intro e
   obtain ⟨i, a, b, h1, h2, h3⟩ := adj_true e
   have ha := of_mem.1 (List.mem_of_getElem? h1)
   have hb := of_mem.1 (List.mem_of_getElem? h2)
   obtain ⟨a1, a2⟩ := List.getElem?_eq_some_iff.1 h1
   obtain ⟨b1, b2⟩ := List.getElem?_eq_some_iff.1 h2
   have := List.pairwise_iff_getElem.1 (of_sorted hS h) i (i + 1) a1 b1 (by omega)
   rw [a2, b2] at this
   exact ⟨a, b, ha.1, hb.1, ha.2, hb.2, fun e2 => by rw [e2, cmpN_irrefl] at this; omega, h3.symm⟩
 · rintro ⟨a, b, ha, hb, e1, e2, hne, en⟩
   cases e : adjN (ofN J h)
   · exfalso
     have h1 := adj_false (of_up hS h) e
     obtain ⟨i, hi⟩ := List.getElem?_of_mem (of_mem.2 ⟨ha, e1⟩)
     obtain ⟨j, hj⟩ := List.getElem?_of_mem (of_mem.2 ⟨hb, e2⟩)
     obtain ⟨a1, a2⟩ := List.getElem?_eq_some_iff.1 hi
     obtain ⟨b1, b2⟩ := List.getElem?_eq_some_iff.1 hj
     rcases Nat.lt_trichotomy i j with h2 | h2 | h2
     · have := List.pairwise_iff_getElem.1 h1 i j a1 b1 h2; rw [a2, b2] at this; omega
     · subst h2; rw [hi] at hj; injection hj with hj; exact hne hj
     · have := List.pairwise_iff_getElem.1 h1 j i b1 a1 h2; rw [a2, b2] at this; omega
   · rfl
theorem adj_mono (hJ : SortedN J) (hK : SortedN K) (hs : ∀ x ∈ J, x ∈ K) (e : adjN (ofN J h) = true) : adjN (ofN K h) = true := by
 obtain ⟨a, b, h1, h2, h3⟩ := (adj_iff hJ h).1 e
 exact (adj_iff hK h).2 ⟨a, b, hs a h1, hs b h2, h3⟩
/-- numbers that ascend: a place is at most its number -/
theorem asc_ge (hB : AscN B) (h0 : ∀ x ∈ B, 0 ≤ x.n) : ∀ (i : Nat) (x : NM), B[i]? = some x → (i : Int) ≤ x.n
 | 0, x, hx => h0 x (List.mem_of_getElem? hx)
 | i + 1, x, hx => by
  obtain ⟨h1, h2⟩ := List.getElem?_eq_some_iff.1 hx
  have h3 : B[i]? = some (B[i]'(by omega)) := List.getElem?_eq_getElem (by omega)
  have h4 := asc_ge hB h0 i _ h3
  have h5 := List.pairwise_iff_getElem.1 hB i (i + 1) (by omega) h1 (by omega)
  rw [h2] at h5
  omega
/-- where the numbers up to q all stand, each stands at its own place -/
theorem asc_at (hB : AscN B) (h0 : ∀ x ∈ B, 0 ≤ x.n) : ∀ (q : Nat), (∀ p, p ≤ q → ∃ x ∈ B, x.n = (p : Int)) → ∃ x, B[q]? = some x ∧ x.n = (q : Int)
 | q, hq => by
  obtain ⟨x, hx, e⟩ := hq q (Nat.le_refl _)
  obtain ⟨i, hi⟩ := List.getElem?_of_mem hx
  have h1 := asc_ge hB h0 i x hi
  have h2 : i = q := by
   rcases Nat.lt_or_ge i q with h2 | h2
   · exfalso
     obtain ⟨j, rfl⟩ : ∃ j, q = j + 1 := ⟨q - 1, by omega⟩
     obtain ⟨y, hy, ey⟩ := asc_at hB h0 j (fun p hp => hq p (by omega))
     obtain ⟨a1, a2⟩ := List.getElem?_eq_some_iff.1 hi
     obtain ⟨b1, b2⟩ := List.getElem?_eq_some_iff.1 hy
     rcases Nat.lt_or_ge i j with h3 | h3
     · have := List.pairwise_iff_getElem.1 hB i j a1 b1 h3; rw [a2, b2] at this; omega
     · have : i = j := by omega
       subst this
       rw [hi] at hy; injection hy with hy; subst hy; omega
   · omega
  subst h2
  exact ⟨x, hi, e⟩
theorem asc_uni (hB : AscN B) (ha : a ∈ B) (hb : b ∈ B) (e : a.n = b.n) : a = b := by
 obtain ⟨i, hi⟩ := List.getElem?_of_mem ha
 obtain ⟨j, hj⟩ := List.getElem?_of_mem hb
 obtain ⟨a1, a2⟩ := List.getElem?_eq_some_iff.1 hi
 obtain ⟨b1, b2⟩ := List.getElem?_eq_some_iff.1 hj
 rcases Nat.lt_trichotomy i j with h2 | h2 | h2
 · have := List.pairwise_iff_getElem.1 hB i j a1 b1 h2; rw [a2, b2] at this; omega
 · subst h2; rw [hi] at hj; injection hj
 · have := List.pairwise_iff_getElem.1 hB j i b1 a1 h2; rw [a2, b2] at this; omega
theorem ok_num (h : okAt A q = true) : ∃ x, A[q]? = some x ∧ x.n = (q : Int) := by
 unfold okAt at h
 split at h
 · cases h
 · rename_i x e
   rw [Bool.and_eq_true, decide_eq_true_eq] at h
   exact ⟨x, e, h.1⟩
theorem ok_asc (hB : AscN B) (hx : B[q]? = some m) (e : m.n = (q : Int)) : okAt B q = true := by
 unfold okAt
 rw [hx]
 show (decide (m.n = (q : Int)) && _) = true
 rw [Bool.and_eq_true, decide_eq_true_eq]
 refine ⟨e, ?_⟩
 split
 · rfl
 · rename_i m2 h2
   obtain ⟨a1, a2⟩ := List.getElem?_eq_some_iff.1 hx
   obtain ⟨b1, b2⟩ := List.getElem?_eq_some_iff.1 h2
   have := List.pairwise_iff_getElem.1 hB q (q + 1) a1 b1 (by omega)
   rw [a2, b2] at this
   exact decide_eq_true (by omega)
theorem dwn_max {l : List NM} (hc : check (l.take k) = 0) : ∀ {n : Nat}, k ≤ n → k ≤ dwnN l n
 | 0, h => by unfold dwnN; exact h
 | n + 1, h => by
  unfold dwnN
  split
  · exact h
  · rename_i hn
    rcases Nat.lt_or_ge k (n + 1) with h1 | h1
    · exact dwn_max hc (by omega)
    · have : k = n + 1 := by omega
      subst this; exact absurd hc hn
/-- a house that is not convicted in the larger list: its past there goes on -/
theorem past_grows (hB : AscN B) (h0 : ∀ x ∈ B, 0 ≤ x.n) (hs : ∀ x ∈ A, x ∈ B) : pastN A = (pastN B).take (pastN A).length := by
 have key : ∀ q, q < cntN A → ∃ x, A[q]? = some x ∧ B[q]? = some x ∧ x.n = (q : Int) := by
  intro q hq
  obtain ⟨x, hx, e⟩ := ok_num ((cnt_spec A).1 q hq)
  obtain ⟨y, hy, e2⟩ := asc_at hB h0 q fun p hp => by
   obtain ⟨z, hz, e3⟩ := ok_num ((cnt_spec A).1 p (by omega))
   exact ⟨z, hs z (List.mem_of_getElem? hz), e3⟩
  have : x = y := asc_uni hB (hs x (List.mem_of_getElem? hx)) (List.mem_of_getElem? hy) (by omega)
  subst this
  exact ⟨x, hx, hy, e⟩
 have htake : ∀ n, n ≤ cntN A → A.take n = B.take n := by
  intro n hn
  apply List.ext_getElem?
  intro i
  rw [List.getElem?_take, List.getElem?_take]
  split
  · obtain ⟨x, h1, h2, _⟩ := key i (by omega)
    rw [h1, h2]
  · rfl
 have hcnt : cntN A ≤ cntN B := by
  rcases Nat.lt_or_ge (cntN B) (cntN A) with h1 | h1
  · obtain ⟨x, _, h2, h3⟩ := key _ h1
    have := (cnt_spec B).2
    rw [ok_asc hB h2 h3] at this; cases this
  · exact h1
 have ha : dwnN A (cntN A) ≤ cntN A := dwn_le _ _
 have h1 : pastN A = B.take (dwnN A (cntN A)) := htake _ ha
 have h2 : dwnN A (cntN A) ≤ dwnN B (cntN B) := dwn_max (by rw [← h1]; exact past_check A) (by omega)
 have h3 : (pastN A).length = dwnN A (cntN A) := by
  unfold pastN; rw [List.length_take, Nat.min_eq_left (past_le A)]
 rw [h3]
 conv => rhs; unfold pastN
 rw [List.take_take, Nat.min_eq_left h2]
 exact h1
/-! ### Grows -/
structure Sub (J K : List NM) : Prop where
 j : SortedN J
 k : SortedN K
 g : GoodN K
 u : UpJ J
 v : UpJ K
 s : ∀ x ∈ J, x ∈ K
 f : ∀ x ∈ K, adjN (ofN K x.h) = true → x ∈ J
theorem sub_same (H : Sub J K) (e : adjN (ofN K h) = true) : ofN J h = ofN K h :=
 sorted_uniq (of_sorted H.j h) (of_sorted H.k h) fun x => by
  rw [of_mem, of_mem]
  constructor
  · rintro ⟨h1, h2⟩; exact ⟨H.s x h1, h2⟩
  · rintro ⟨h1, h2⟩; exact ⟨H.f x h1 (by rw [h2]; exact e), h2⟩
theorem sub_past (H : Sub J K) (h : Int) : pastN (ofN J h) = (pastN (ofN K h)).take (pastN (ofN J h)).length := by
 cases e : adjN (ofN K h)
 · refine past_grows (adj_false (of_up H.k h) e) (fun x hx => (right_ok (H.g x (of_mem.1 hx).1).1).2.1.2) fun x hx => ?_
   have := of_mem.1 hx
   exact of_mem.2 ⟨H.s x this.1, this.2⟩
 · rw [sub_same H e, List.take_length]
theorem sub_taken (H : Sub J K) (h : Int) : takenN J h ≤ takenN K h := by
 have key := (run_ind (P := fun hs out => RunInv J hs out ∧ ∀ y ∈ hs, y.t ≤ takenN K y.h) (fun hs out q y m hP hy hm hr => by
  obtain ⟨hI, ht⟩ := hP
  refine ⟨run_step H.u hI hy hm hr, fun z hz => ?_⟩
  have hA := z_asc H.u hI.z
  rcases put_mem hA hy hz with e | ⟨e1, _⟩
  · subst e
    show y.t + 1 ≤ takenN K y.h
    have hyM := List.mem_of_getElem? hy
    have h1 := ht y hyM
    rcases Nat.lt_or_ge y.t (takenN K y.h) with h2 | h2
    · exact h2
    · exfalso
      have he : takenN K y.h = y.t := by omega
      have hIK := (run_inv H.v).1
      obtain ⟨y1, y2, y3⟩ := z_of H.u hI.z hyM
      have hn : ∀ x, ofN J x ≠ [] → ofN K x ≠ [] := fun x hx => by
       obtain ⟨w, hw⟩ := List.exists_mem_of_ne_nil _ hx
       have := of_mem.1 hw
       exact List.ne_nil_of_mem (of_mem.2 ⟨H.s w this.1, this.2⟩)
      obtain ⟨z, hz, ez⟩ := z_has H.v hIK.z (hn _ y3)
      have hzt := taken_at H.v hz
      rw [ez, he] at hzt
      have hzp := (z_of H.v hIK.z hz).1
      rw [ez] at hzp
      have hzn : nxt z = some m := by
       have hl := (List.getElem?_eq_some_iff.1 hm).1
       have h5 : y.p[y.t]? = some m := hm
       rw [y1] at h5 hl
       rw [sub_past H y.h, List.getElem?_take, if_pos hl] at h5
       show z.p[z.t]? = some m
       rw [hzp, ← hzt]; exact h5
      have hno := run_end_no H.v hz hzn
      have hyes : readyN (runN K).1 m = true := List.all_eq_true.2 fun r hr2 => by
       obtain ⟨x, hx, ex, hx2⟩ := okR_get (List.all_eq_true.1 hr r hr2)
       obtain ⟨x1, x2, x3⟩ := z_of H.u hI.z hx
       obtain ⟨z2, hz2, ez2⟩ := z_has H.v hIK.z (hn _ x3)
       have ht2 := taken_at H.v hz2
       rw [ez2] at ht2
       obtain ⟨p1, p2, _⟩ := z_of H.v hIK.z hz2
       refine okR_set (z_asc H.v hIK.z) hz2 (ez2.trans ex) ?_
       rcases hx2 with h6 | ⟨h6, h7⟩
       · left
         have := ht x hx
         omega
       · right
         rw [x2] at h6
         have h8 := adj_mono H.j H.k H.s h6
         rw [ez2] at p1 p2
         rw [p1, p2, ← sub_same H h8, ← x1]
         exact ⟨h6, h7⟩
      rw [hyes] at hno; cases hno
  · exact ht z e1) _ _ _ (Nat.le_refl (restN (houN J))) ⟨run_start J, fun y hy => by rw [(hou_t _ _ y hy).1]; exact Nat.zero_le _⟩).1
 by_cases hn : ofN J h = []
 · have := taken_le H.u h
   rw [hn] at this
   have e2 : (pastN []).length = 0 := rfl
   omega
 · obtain ⟨y, hy, rfl⟩ := z_has H.u key.1.z hn
   rw [taken_at H.u hy]
   exact key.2 y hy
theorem sub_order (H : Sub J K) (hm : m ∈ orderN J) : m ∈ orderN K := by
 have h1 : m ∈ ofN (orderN J) m.h := of_mem.2 ⟨hm, rfl⟩
 rw [order_of H.u, sub_past H m.h, List.take_take] at h1
 have h2 : m ∈ (pastN (ofN K m.h)).take (takenN K m.h) := by
  obtain ⟨i, hi⟩ := List.getElem?_of_mem h1
  rw [List.getElem?_take] at hi
  split at hi
  · refine List.mem_of_getElem? (i := i) ?_
    have := sub_taken H m.h
    rw [List.getElem?_take, if_pos (by omega)]
    exact hi
  · cases hi
 rw [← order_of H.v] at h2
 exact (of_mem.1 h2).1
theorem asc_uniq : ∀ {a b : List Int}, a.Pairwise (· < ·) → b.Pairwise (· < ·) → (∀ x, x ∈ a ↔ x ∈ b) → a = b
 | [], [], _, _, _ => rfl
 | [], y :: b, _, _, h => by have := (h y).2 List.mem_cons_self; cases this
 | x :: a, [], _, _, h => by have := (h x).1 List.mem_cons_self; cases this
 | x :: a, y :: b, h1, h2, h => by
  have p1 := List.pairwise_cons.1 h1
  have p2 := List.pairwise_cons.1 h2
  have e : x = y := by
   rcases List.mem_cons.1 ((h x).1 List.mem_cons_self) with e | e
   · exact e
   · rcases List.mem_cons.1 ((h y).2 List.mem_cons_self) with e2 | e2
     · exact e2.symm
     · have := p1.1 y e2; have := p2.1 x e; omega
  subst e
  congr 1
  refine asc_uniq p1.2 p2.2 fun z => ?_
  constructor
  · intro hz
    rcases List.mem_cons.1 ((h z).1 (List.mem_cons_of_mem _ hz)) with e | e
    · subst e; have := p1.1 z hz; omega
    · exact e
  · intro hz
    rcases List.mem_cons.1 ((h z).2 (List.mem_cons_of_mem _ hz)) with e | e
    · subst e; have := p2.1 z hz; omega
    · exact e
theorem sub_forks (H : Sub J K) : forksN J = forksN K := asc_uniq (forks_asc H.u) (forks_asc H.v) fun x => by
 rw [forks_iff H.u, forks_iff H.v]
 exact ⟨adj_mono H.j H.k H.s, fun e => by rw [sub_same H e]; exact e⟩
theorem sub_of {l more : List NM} (hm : ∀ x ∈ more, ¬ x.h ∈ forksN (joinN (l ++ more))) : Sub (joinN l) (joinN (l ++ more)) := by
 refine ⟨join_sorted _, join_sorted _, join_good _, join_up _, join_up _, fun x hx => ?_, fun x hx e => ?_⟩
 · exact mem_join.2 (InN_app.2 (.inl (mem_join.1 hx)))
 · rcases InN_app.1 (mem_join.1 hx) with h1 | ⟨y, hy, _, e2⟩
   · exact mem_join.2 h1
   · exfalso
     refine hm y hy ((forks_iff (join_up _) _).2 ?_)
     have : y.h = x.h := by rw [← e2]; rfl
     rw [this]; exact e
end
/-- all that the law of growing asks -/
theorem grows_ok {l more O O2 : List NM} (hm : ∀ x ∈ more, ¬ x.h ∈ forksN (joinN (l ++ more))) (hO : O.map ns = orderN (joinN l)) (hO2 : O2.map ns = orderN (joinN (l ++ more))) :
 (∀ x ∈ O, hasN O2 x = true) ∧ (∀ r ∈ headsN (joinN l), r.n ≤ cntH (headsN (joinN (l ++ more))) r.h) ∧ forksN (joinN l) = forksN (joinN (l ++ more)) := by
 have H := sub_of hm
 refine ⟨fun x hx => ?_, fun r hr => ?_, sub_forks H⟩
 · refine decide_eq_true ?_
   rw [hO2]
   refine sub_order H ?_
   rw [← hO]; exact List.mem_map_of_mem hx
 · rw [cnt_heads H.v, ((heads_mem H.u r).1 hr).2]
   have := sub_taken H r.h
   omega
end
section
open Go.RowKit
/-! ### what convicts a house -/
theorem same_ns {a b : NM} : same a b = true ↔ ns a = ns b := by
 unfold same ns
 simp only [Bool.and_eq_true, decide_eq_true_eq, NM.mk.injEq]
 constructor
 · rintro ⟨⟨⟨⟨h1, h2⟩, h3⟩, h4⟩, h5⟩; exact ⟨h1, h2, h3, trivial, h4, trivial, h5⟩
 · rintro ⟨h1, h2, h3, _, h4, _, h5⟩; exact ⟨⟨⟨⟨h1, h2⟩, h3⟩, h4⟩, h5⟩
theorem conv_iff {a b : NM} : convicts a b = true ↔ right a = true ∧ right b = true ∧ a.h = b.h ∧ a.n = b.n ∧ ns a ≠ ns b := by
 unfold convicts
 rw [Bool.and_eq_true, Bool.and_eq_true, Bool.and_eq_true, Bool.and_eq_true, decide_eq_true_eq, decide_eq_true_eq, Bool.not_eq_true', ← Bool.not_eq_true, same_ns]
 constructor
 · rintro ⟨⟨⟨⟨h1, h2⟩, h3⟩, h4⟩, h5⟩; exact ⟨h1, h2, h3, h4, h5⟩
 · rintro ⟨h1, h2, h3, h4, h5⟩; exact ⟨⟨⟨⟨h1, h2⟩, h3⟩, h4⟩, h5⟩
/-- the first number for which two notes of a list convict a house, or 400 -/
def FirstIs (l : List NM) (h v : Int) : Prop := v ≤ 400 ∧ (∀ a b, a ∈ l → b ∈ l → a.h = h → convicts a b = true → v ≤ a.n) ∧ (v < 400 → ∃ a b, a ∈ l ∧ b ∈ l ∧ a.h = h ∧ convicts a b = true ∧ a.n = v)
/-- .. where the two loops have come -/
def FirstAt (l : List NM) (h : Int) (i k : Nat) (v : Int) : Prop := v ≤ 400 ∧ (∀ (i' k' : Nat) (a b : NM), k' < i' → (i' < i ∨ (i' = i ∧ k' < k)) → l[i']? = some a → l[k']? = some b → a.h = h → convicts a b = true → v ≤ a.n) ∧ (v < 400 → ∃ a b, a ∈ l ∧ b ∈ l ∧ a.h = h ∧ convicts a b = true ∧ a.n = v)
section
variable {l : List NM} {h v : Int} {i k : Nat} {a b : NM}
theorem fi_start (l : List NM) (h : Int) : FirstAt l h 0 0 400 := ⟨Int.le_refl _, fun i' k' a b h1 h2 => by omega, fun hv => by omega⟩
theorem fi_yes (ha : l[i]? = some a) (hb : l[k]? = some b) (hk : k < i) (e : (decide (a.h = h) && convicts a b) = true) (hF : FirstAt l h i k v) : FirstAt l h i (k + 1) (min v a.n) := by
 rw [Bool.and_eq_true, decide_eq_true_eq] at e
 obtain ⟨h1, h2, h3⟩ := hF
 refine ⟨by omega, fun i' k' a' b' g1 g2 ga gb gh gc => ?_, fun hv => ?_⟩
 · by_cases e2 : i' = i ∧ k' = k
   · obtain ⟨rfl, rfl⟩ := e2
     rw [ha] at ga; injection ga with ga; subst ga; omega
   · have := h2 i' k' a' b' g1 (by omega) ga gb gh gc; omega
 · rcases Int.lt_or_le a.n v with h4 | h4
   · exact ⟨a, b, List.mem_of_getElem? ha, List.mem_of_getElem? hb, e.1, e.2, by omega⟩
   · obtain ⟨a', b', g1, g2, g3, g4, g5⟩ := h3 (by omega)
     exact ⟨a', b', g1, g2, g3, g4, by omega⟩
theorem fi_no (ha : l[i]? = some a) (hb : l[k]? = some b) (e : (decide (a.h = h) && convicts a b) = false) (hF : FirstAt l h i k v) : FirstAt l h i (k + 1) v := by
 obtain ⟨h1, h2, h3⟩ := hF
 refine ⟨h1, fun i' k' a' b' g1 g2 ga gb gh gc => ?_, h3⟩
 by_cases e2 : i' = i ∧ k' = k
 · exfalso
   obtain ⟨rfl, rfl⟩ := e2
   rw [ha] at ga; injection ga with ga; subst ga
   rw [hb] at gb; injection gb with gb; subst gb
   rw [gc, Bool.and_true, decide_eq_false_iff_not] at e
   exact e gh
 · exact h2 i' k' a' b' g1 (by omega) ga gb gh gc
theorem fi_row (hk : k = i) (hF : FirstAt l h i k v) : FirstAt l h (i + 1) 0 v := by
 subst hk
 exact ⟨hF.1, fun i' k' a' b' g1 g2 => hF.2.1 i' k' a' b' g1 (by omega), hF.2.2⟩
theorem fi_end (hi : i = l.length) (hF : FirstAt l h i 0 v) : FirstIs l h v := by
 subst hi
 refine ⟨hF.1, fun a b ha hb hh hc => ?_, hF.2.2⟩
 obtain ⟨i, hi⟩ := List.getElem?_of_mem ha
 obtain ⟨k, hk⟩ := List.getElem?_of_mem hb
 have h1 := (List.getElem?_eq_some_iff.1 hi).1
 have h2 := (List.getElem?_eq_some_iff.1 hk).1
 obtain ⟨c1, c2, c3, c4, c5⟩ := conv_iff.1 hc
 rcases Nat.lt_trichotomy k i with e | e | e
 · exact hF.2.1 i k a b e (by omega) hi hk hh hc
 · subst e
   rw [hi] at hk; injection hk with hk; subst hk
   exact absurd rfl c5
 · have := hF.2.1 k i b a e (by omega) hk hi (by omega) (conv_iff.2 ⟨c2, c1, c3.symm, c4.symm, fun e => c5 e.symm⟩)
   omega
theorem fork_pair : adjN (ofN (joinN l) h) = true ↔ ∃ a b, a ∈ l ∧ b ∈ l ∧ a.h = h ∧ convicts a b = true := by
 rw [adj_iff (join_sorted l)]
 constructor
 · rintro ⟨a, b, ha, hb, e1, e2, hne, en⟩
   obtain ⟨a', ga, ra, rfl⟩ := mem_join.1 ha
   obtain ⟨b', gb, rb, rfl⟩ := mem_join.1 hb
   exact ⟨a', b', ga, gb, e1, conv_iff.2 ⟨ra, rb, e1.trans e2.symm, en, hne⟩⟩
 · rintro ⟨a, b, ha, hb, e, hc⟩
   obtain ⟨c1, c2, c3, c4, c5⟩ := conv_iff.1 hc
   exact ⟨ns a, ns b, mem_join.2 ⟨a, ha, c1, rfl⟩, mem_join.2 ⟨b, hb, c2, rfl⟩, e, c3.symm.trans e, c5, c4⟩
theorem first_forks (hF : FirstIs l h v) : hasI (forksN (joinN l)) h = decide (v < 400) := by
 unfold hasI
 refine decide_eq_decide.2 ((forks_iff (join_up l) h).trans (fork_pair.trans ?_))
 constructor
 · rintro ⟨a, b, ha, hb, e, hc⟩
   have := hF.2.1 a b ha hb e hc
   have := right_bnd (conv_iff.1 hc).1
   omega
 · intro h1
   obtain ⟨a, b, ha, hb, e, hc, _⟩ := hF.2.2 h1
   exact ⟨a, b, ha, hb, e, hc⟩
theorem ok_gt {L : List NM} {q : Nat} {x : NM} (h : okAt L q = true) (hx : L[q + 1]? = some x) : (q : Int) < x.n := by
 unfold okAt at h
 split at h
 · cases h
 · rw [Bool.and_eq_true, hx] at h
   exact of_decide_eq_true h.2
/-- where two notes have one number, the past ends at it -/
theorem past_fork {L : List NM} (hU : UpN L) (ha : a ∈ L) (hb : b ∈ L) (hne : a ≠ b) (en : a.n = b.n) (h0 : 0 ≤ a.n) : (((pastN L).length : Nat) : Int) ≤ a.n := by
 rcases Int.lt_or_le a.n (((pastN L).length : Nat) : Int) with h1 | h1
 · exfalso
   obtain ⟨n, hn⟩ : ∃ n : Nat, a.n = (n : Int) := ⟨a.n.toNat, by omega⟩
   have hP : (pastN L).length ≤ cntN L := by
    unfold pastN; rw [List.length_take]; have := dwn_le L (cntN L); omega
   have hok := (cnt_spec L).1 n (by omega)
   have key : ∀ x ∈ L, x.n = (n : Int) → L[n]? = some x := by
    intro x hx e
    obtain ⟨i, hi⟩ := List.getElem?_of_mem hx
    obtain ⟨i1, i2⟩ := List.getElem?_eq_some_iff.1 hi
    rcases Nat.lt_trichotomy i n with h2 | h2 | h2
    · obtain ⟨y, hy, ey⟩ := ok_num ((cnt_spec L).1 i (by omega))
      rw [hi] at hy; injection hy with hy; subst hy; omega
    · subst h2; exact hi
    · have h3 : L[n + 1]? = some (L[n + 1]'(by omega)) := List.getElem?_eq_getElem (by omega)
      have h4 := ok_gt hok h3
      rcases Nat.lt_or_ge (n + 1) i with h5 | h5
      · have := List.pairwise_iff_getElem.1 hU (n + 1) i (by omega) i1 h5
        rw [i2] at this; omega
      · have : i = n + 1 := by omega
        subst this
        rw [hi] at h3; injection h3 with h3
        rw [← h3] at h4; omega
   have h2 := key a ha hn
   have h3 := key b hb (by omega)
   rw [h2] at h3; injection h3 with h3
   exact hne h3
 · exact h1
theorem first_heads (hF : FirstIs l h v) : cntH (headsN (joinN l)) h ≤ v := by
 rw [cnt_heads (join_up l)]
 have h1 := taken_le (join_up l) h
 have h2 := past_400 (ofN (joinN l) h)
 rcases Int.lt_or_le v 400 with hv | hv
 · obtain ⟨a, b, ha, hb, e, hc, en⟩ := hF.2.2 hv
   obtain ⟨c1, c2, c3, c4, c5⟩ := conv_iff.1 hc
   have := past_fork (of_up (join_sorted l) h) (a := ns a) (b := ns b) (of_mem.2 ⟨mem_join.2 ⟨a, ha, c1, rfl⟩, e⟩) (of_mem.2 ⟨mem_join.2 ⟨b, hb, c2, rfl⟩, c3.symm.trans e⟩) c5 c4 (right_bnd c1).2.2.1
   have e2 : (ns a).n = a.n := rfl
   omega
 · omega
end
/-! ### what is missing -/
def foundN (N : List RM) (h : Int) : Int := match N.find? (fun r => decide (r.h = h)) with
 | some r => r.n
 | none => -1
def gR (h : Int) (a : Int) (r : RM) : Int := if r.h = h then max a r.n else a
def gH (h : Int) (a : Int) (x : NM) : Int := if x.h = h then max a (x.n - 1) else a
def gS (h : Int) (a : Int) (x : NM) : Int := if right x = true then x.l.foldl (gR h) (gH h a x) else a
def gneed (l : List NM) (h : Int) : Int := l.foldl (gS h) (-1)
def gthere (l : List NM) (h : Int) (q : Nat) : Bool := l.any fun x => right x && decide (x.h = h) && decide (x.n = (q : Int))
def gapN (l : List NM) (h : Int) : Int := match (List.range (gneed l h + 1).toNat).find? (fun q => !gthere l h q) with
 | some q => (q : Int)
 | none => -1
section
variable {l J : List NM} {h x a : Int} {m : NM} {q : Nat}
theorem gR_lt : ∀ (rs : List RM) (a : Int), x ≤ rs.foldl (gR h) a ↔ x ≤ a ∨ ∃ r ∈ rs, r.h = h ∧ x ≤ r.n
 | [], a => by simp
 | r :: rs, a => by
  rw [List.foldl_cons, gR_lt rs]
  unfold gR
  constructor
  · rintro (h1 | ⟨r2, h1, h2⟩)
    · split at h1
      · rename_i e
        rcases Int.le_total a r.n with h3 | h3
        · exact .inr ⟨r, List.mem_cons_self, e, by omega⟩
        · exact .inl (by omega)
      · exact .inl h1
    · exact .inr ⟨r2, List.mem_cons_of_mem _ h1, h2⟩
  · rintro (h1 | ⟨r2, h1, h2, h3⟩)
    · left; split <;> omega
    · rcases List.mem_cons.1 h1 with e | e
      · subst e; left; rw [if_pos h2]; omega
      · exact .inr ⟨r2, e, h2, h3⟩
/-- what a note asks of a house -/
def Asks (m : NM) (h x : Int) : Prop := (m.h = h ∧ x < m.n) ∨ ∃ r ∈ m.l, r.h = h ∧ x ≤ r.n
theorem gS_le : x ≤ gS h a m ↔ x ≤ a ∨ (right m = true ∧ Asks m h x) := by
 unfold gS
 split
 · rename_i hr
   rw [gR_lt]
   unfold gH Asks
   constructor
   · rintro (h1 | h1)
     · split at h1
       · rename_i e
         rcases Int.le_total a (m.n - 1) with h3 | h3
         · exact .inr ⟨hr, .inl ⟨e, by omega⟩⟩
         · exact .inl (by omega)
       · exact .inl h1
     · exact .inr ⟨hr, .inr h1⟩
   · rintro (h1 | ⟨_, ⟨h1, h2⟩ | h1⟩)
     · left; split <;> omega
     · left; rw [if_pos h1]; omega
     · exact .inr h1
 · rename_i hr
   constructor
   · exact .inl
   · rintro (h1 | h1)
     · exact h1
     · exact absurd h1.1 hr
theorem gneed_le (l : List NM) : x ≤ gneed l h ↔ x ≤ -1 ∨ ∃ m ∈ l, right m = true ∧ Asks m h x := by
 unfold gneed
 generalize (-1 : Int) = a
 induction l generalizing a with
 | nil => simp
 | cons m l ih =>
  rw [List.foldl_cons, ih, gS_le]
  constructor
  · rintro ((h1 | h1) | ⟨m2, h1, h2⟩)
    · exact .inl h1
    · exact .inr ⟨m, List.mem_cons_self, h1⟩
    · exact .inr ⟨m2, List.mem_cons_of_mem _ h1, h2⟩
  · rintro (h1 | ⟨m2, h1, h2⟩)
    · exact .inl (.inl h1)
    · rcases List.mem_cons.1 h1 with e | e
      · subst e; exact .inl (.inr h2)
      · exact .inr ⟨m2, e, h2⟩
theorem wR_lt {h : Nat} : ∀ (rs : List RM) (a : Int), x < rs.foldl (wantR h) a ↔ x < a ∨ ∃ r ∈ rs, r.h = (h : Int) ∧ x ≤ r.n
 | [], a => by simp
 | r :: rs, a => by
  rw [List.foldl_cons, wR_lt rs]
  unfold wantR
  constructor
  · rintro (h1 | ⟨r2, h1, h2⟩)
    · split at h1
      · rename_i e
        rcases Int.le_total a (r.n + 1) with h3 | h3
        · exact .inr ⟨r, List.mem_cons_self, e, by omega⟩
        · exact .inl (by omega)
      · exact .inl h1
    · exact .inr ⟨r2, List.mem_cons_of_mem _ h1, h2⟩
  · rintro (h1 | ⟨r2, h1, h2, h3⟩)
    · left; split <;> omega
    · rcases List.mem_cons.1 h1 with e | e
      · subst e; left; rw [if_pos h2]; omega
      · exact .inr ⟨r2, e, h2, h3⟩
theorem need_lt {h : Nat} (J : List NM) : x < needN J h ↔ x < 0 ∨ ∃ m ∈ J, Asks m h x := by
 unfold needN
 generalize (0 : Int) = a
 induction J generalizing a with
 | nil => simp
 | cons m l ih =>
  have h0 : x < wantS h a m ↔ x < a ∨ Asks m h x := by
   unfold wantS wantH Asks
   rw [wR_lt]
   constructor
   · rintro (h1 | h1)
     · split at h1
       · rename_i e
         rcases Int.le_total a m.n with h3 | h3
         · exact .inr (.inl ⟨e, by omega⟩)
         · exact .inl (by omega)
       · exact .inl h1
     · exact .inr (.inr h1)
   · rintro (h1 | ⟨h1, h2⟩ | h1)
     · left; split <;> omega
     · left; rw [if_pos h1]; omega
     · exact .inr h1
  rw [List.foldl_cons, ih, h0]
  constructor
  · rintro ((h1 | h1) | ⟨m2, h1, h2⟩)
    · exact .inl h1
    · exact .inr ⟨m, List.mem_cons_self, h1⟩
    · exact .inr ⟨m2, List.mem_cons_of_mem _ h1, h2⟩
  · rintro (h1 | ⟨m2, h1, h2⟩)
    · exact .inl (.inl h1)
    · rcases List.mem_cons.1 h1 with e | e
      · subst e; exact .inl (.inr h2)
      · exact .inr ⟨m2, e, h2⟩
theorem gneed_need (l : List NM) (h : Nat) : needN (joinN l) h = gneed l h + 1 := by
 have key : ∀ x : Int, x < needN (joinN l) h ↔ x ≤ gneed l h := by
  intro x
  rw [need_lt, gneed_le]
  constructor
  · rintro (h1 | ⟨m, h1, h2⟩)
    · exact .inl (by omega)
    · obtain ⟨y, hy, hr, rfl⟩ := mem_join.1 h1
      exact .inr ⟨y, hy, hr, h2⟩
  · rintro (h1 | ⟨m, h1, h2, h3⟩)
    · exact .inl (by omega)
    · exact .inr ⟨ns m, mem_join.2 ⟨m, h1, h2, rfl⟩, h3⟩
 have h1 := key (gneed l h)
 have h2 := key (gneed l h + 1)
 omega
theorem there_iff : gthere l h q = true ↔ ∃ m ∈ joinN l, m.h = h ∧ m.n = (q : Int) := by
 unfold gthere
 rw [List.any_eq_true]
 constructor
 · rintro ⟨m, hm, e⟩
   rw [Bool.and_eq_true, Bool.and_eq_true, decide_eq_true_eq, decide_eq_true_eq] at e
   exact ⟨ns m, mem_join.2 ⟨m, hm, e.1.1, rfl⟩, e.1.2, e.2⟩
 · rintro ⟨m, hm, e1, e2⟩
   obtain ⟨y, hy, hr, rfl⟩ := mem_join.1 hm
   refine ⟨y, hy, ?_⟩
   rw [Bool.and_eq_true, Bool.and_eq_true, decide_eq_true_eq, decide_eq_true_eq]
   exact ⟨⟨hr, e1⟩, e2⟩
/-- the next number is the least absent one -/
theorem next_least {h : Nat} (hS : SortedN J) : 0 ≤ nextN J h ∧ (∀ x : Int, 0 ≤ x → x < nextN J h → ∃ m ∈ J, m.h = (h : Int) ∧ m.n = x) ∧ ¬ ∃ m ∈ J, m.h = (h : Int) ∧ m.n = nextN J h := by
 have key : ∀ k, k ≤ J.length → 0 ≤ nextN (J.take k) h ∧ (∀ x : Int, 0 ≤ x → x < nextN (J.take k) h → ∃ m ∈ J.take k, m.h = (h : Int) ∧ m.n = x) ∧ ¬ ∃ m ∈ J.take k, m.h = (h : Int) ∧ m.n = nextN (J.take k) h := by
  intro k
  induction k with
  | zero =>
   intro _
   refine ⟨Int.le_refl _, fun x h1 h2 => ?_, fun ⟨m, hm, _⟩ => by rw [List.take_zero] at hm; cases hm⟩
   have : nextN (J.take 0) h = 0 := rfl
   omega
  | succ k ih =>
   intro hk
   obtain ⟨i1, i2, i3⟩ := ih (by omega)
   obtain ⟨m, hm⟩ : ∃ m, J[k]? = some m := ⟨J[k]'(by omega), List.getElem?_eq_getElem _⟩
   rw [next_step hm, take_succ_get hm]
   unfold nextS
   split
   · rename_i e
     refine ⟨by omega, fun x h1 h2 => ?_, fun ⟨m2, g1, g2, g3⟩ => ?_⟩
     · rcases Int.lt_or_le x (nextN (J.take k) h) with h3 | h3
       · obtain ⟨m2, g1, g2⟩ := i2 x h1 h3
         exact ⟨m2, List.mem_append_left _ g1, g2⟩
       · exact ⟨m, List.mem_append_right _ List.mem_cons_self, e.1, by omega⟩
     · rcases List.mem_append.1 g1 with g4 | g4
       · obtain ⟨i, hi⟩ := List.getElem?_of_mem g4
         rw [List.getElem?_take] at hi
         split at hi
         · obtain ⟨a1, a2⟩ := List.getElem?_eq_some_iff.1 hi
           obtain ⟨b1, b2⟩ := List.getElem?_eq_some_iff.1 hm
           have := List.pairwise_iff_getElem.1 hS i k a1 b1 (by omega)
           rw [a2, b2] at this
           rcases cmpN_lt.1 this with e2 | ⟨_, e2 | ⟨e2, _⟩⟩
           · omega
           · omega
           · omega
         · cases hi
       · have := List.mem_singleton.1 g4
         subst this; omega
   · rename_i e
     refine ⟨i1, fun x h1 h2 => ?_, fun ⟨m2, g1, g2, g3⟩ => ?_⟩
     · obtain ⟨m2, g1, g2⟩ := i2 x h1 h2
       exact ⟨m2, List.mem_append_left _ g1, g2⟩
     · rcases List.mem_append.1 g1 with g4 | g4
       · exact i3 ⟨m2, g4, g2, g3⟩
       · have := List.mem_singleton.1 g4
         subst this; exact e ⟨g2, g3⟩
 have := key J.length (Nat.le_refl _)
 rwa [List.take_length] at this
theorem miss_asc (J : List NM) : (missN J).Pairwise fun a b => a.h < b.h := by
 unfold missN
 rw [List.pairwise_map]
 refine List.Pairwise.filter _ (List.Pairwise.imp (fun {a b} hab => ?_) (List.pairwise_lt_range (n := 400)))
 show (a : Int) < (b : Int)
 omega
theorem find_r {N : List RM} {r : RM} (hA : N.Pairwise fun a b => a.h < b.h) (hr : r ∈ N) : N.find? (fun z => decide (z.h = r.h)) = some r := by
 induction N with
 | nil => cases hr
 | cons a t ih =>
  obtain ⟨h1, h2⟩ := List.pairwise_cons.1 hA
  rcases List.mem_cons.1 hr with e | e
  · subst e; simp
  · have := h1 r e
    rw [List.find?_cons_of_neg (by simp only [decide_eq_true_eq]; omega)]
    exact ih h2 e
theorem found_miss {h : Nat} (hh : h < 400) (J : List NM) : foundN (missN J) h = if nextN J h < needN J h then nextN J h else -1 := by
 unfold foundN
 by_cases e : nextN J h < needN J h
 · rw [if_pos e]
   have hm : (⟨(h : Int), nextN J h⟩ : RM) ∈ missN J := by
    unfold missN
    exact List.mem_map.2 ⟨h, List.mem_filter.2 ⟨List.mem_range.2 hh, decide_eq_true e⟩, rfl⟩
   rw [show (missN J).find? (fun r => decide (r.h = (h : Int))) = _ from find_r (miss_asc J) hm]
 · rw [if_neg e]
   rw [show (missN J).find? (fun r => decide (r.h = (h : Int))) = none from List.find?_eq_none.2 fun r hr e2 => by
    unfold missN at hr
    obtain ⟨q, hq, rfl⟩ := List.mem_map.1 hr
    have h1 := of_decide_eq_true e2
    have h2 := of_decide_eq_true (List.mem_filter.1 hq).2
    have : q = h := by simp only at h1; omega
    subst this; exact e h2]
theorem gap_found (l : List NM) {h : Nat} (hh : h < 400) : gapN l h = foundN (missN (joinN l)) h := by
 rw [found_miss hh]
 obtain ⟨h0, h1, h2⟩ := next_least (h := h) (join_sorted l)
 have hg := gneed_need l h
 unfold gapN
 split
 · rename_i q hq
   have hq1 := List.find?_some hq
   have hq2 := List.mem_range.1 (List.mem_of_find?_eq_some hq)
   have hq3 : ¬ gthere l (h : Int) q = true := by simpa using hq1
   have hle : nextN (joinN l) h ≤ (q : Int) := by
    rcases Int.lt_or_le (q : Int) (nextN (joinN l) h) with h3 | h3
    · exact absurd (there_iff.2 (h1 q (by omega) h3)) hq3
    · exact h3
   have hge : (q : Int) ≤ nextN (joinN l) h := by
    rcases Int.lt_or_le (nextN (joinN l) h) (q : Int) with h3 | h3
    · exfalso
      obtain ⟨p, hp⟩ : ∃ p : Nat, nextN (joinN l) h = (p : Int) := ⟨(nextN (joinN l) h).toNat, by omega⟩
      rw [List.find?_eq_some_iff_getElem] at hq
      obtain ⟨_, i, hi, ei, hall⟩ := hq
      rw [List.getElem_range] at ei
      have := hall p (by omega)
      rw [List.getElem_range, Bool.not_eq_true', Bool.not_eq_false'] at this
      exact h2 (by rw [hp]; exact there_iff.1 this)
    · exact h3
   rw [if_pos (by omega)]
   omega
 · rename_i hn
   rw [if_neg]
   intro hlt
   obtain ⟨p, hp⟩ : ∃ p : Nat, nextN (joinN l) h = (p : Int) := ⟨(nextN (joinN l) h).toNat, by omega⟩
   have := List.find?_eq_none.1 hn p (List.mem_range.2 (by omega))
   rw [Bool.not_eq_true, Bool.not_eq_false'] at this
   exact h2 (by rw [hp]; exact there_iff.1 this)
end
end
section
open Go.RowKit
/-! ### lists that all seal in order -/
theorem chk_ok {h0 : Int} : ∀ (l : List NM) (i : Nat) (d : Int), (∀ (k : Nat) (m : NM), l[k]? = some m → right m = true ∧ m.h = h0 ∧ m.n = ((i + k : Nat) : Int) ∧ (k = 0 → d ≤ m.d) ∧ ∀ p : NM, 0 < k → l[k - 1]? = some p → p.d ≤ m.d) → chk h0 i d l = 0
 | [], _, _, _ => rfl
 | m :: l, i, d, h => by
  obtain ⟨h1, h2, h3, h4, _⟩ := h 0 m rfl
  have h5 := h4 rfl
  unfold chk
  rw [if_neg (by rw [h1]; decide), if_neg (fun e => e h2), if_neg (by omega), if_neg (by omega), if_neg (by omega)]
  refine chk_ok l (i + 1) m.d fun k x hx => ?_
  obtain ⟨g1, g2, g3, _, g5⟩ := h (k + 1) x (by simpa using hx)
  refine ⟨g1, g2, by rw [g3]; omega, fun e => ?_, fun p h0 hp => ?_⟩
  · subst e; exact g5 m (by omega) rfl
  · refine g5 p (by omega) ?_
    rw [Nat.add_sub_cancel]
    obtain ⟨j, rfl⟩ : ∃ j, k = j + 1 := ⟨k - 1, by omega⟩
    simpa using hp
theorem check_ok {l : List NM} (hl : l.length ≤ 400) {h0 : Int} (h : ∀ (k : Nat) (m : NM), l[k]? = some m → right m = true ∧ m.h = h0 ∧ m.n = (k : Int) ∧ ∀ p : NM, 0 < k → l[k - 1]? = some p → p.d ≤ m.d) : check l = 0 := by
 cases l with
 | nil => rfl
 | cons a r =>
  unfold check
  rw [if_neg (by omega)]
  have ha := (h 0 a rfl).2.1
  refine chk_ok _ 0 0 fun k m hm => ?_
  obtain ⟨g1, g2, g3, g4⟩ := h k m hm
  refine ⟨g1, by rw [g2, ← ha]; rfl, by rw [g3]; simp, fun _ => (right_ok g1).2.2.2, g4⟩
theorem sub_len {α : Type} [DecidableEq α] : ∀ {a b : List α}, a.Nodup → (∀ x ∈ a, x ∈ b) → a.length ≤ b.length
 | [], b, _, _ => Nat.zero_le _
 | x :: a, b, hn, h => by
  obtain ⟨h1, h2⟩ := List.nodup_cons.1 hn
  have hx := h x List.mem_cons_self
  have := sub_len (b := b.erase x) h2 fun y hy => (List.mem_erase_of_ne (fun e => h1 (by rw [← e]; exact hy))).2 (h y (List.mem_cons_of_mem _ hy))
  rw [List.length_erase_of_mem hx] at this
  have := List.length_pos_of_mem hx
  simp only [List.length_cons]
  omega
/-- each note of a list: right, of one of eight houses, numbered by what came before, its day not earlier, its needs before it -/
structure Sealed (L : List NM) : Prop where
 g : GoodN L
 n : ∀ (i : Nat) (m : NM), L[i]? = some m → 0 ≤ m.h ∧ m.h < 8 ∧ m.n = (((ofN (L.take i) m.h).length : Nat) : Int) ∧ (∀ p ∈ ofN (L.take i) m.h, p.d ≤ m.d) ∧ ∀ r ∈ m.l, ∃ m2 ∈ L.take i, m2.h = r.h ∧ m2.n = r.n
/-- a part of the list that has what its notes ask for -/
structure ClosedL (L S : List NM) : Prop where
 s : ∀ x ∈ S, x ∈ L
 c : ∀ x ∈ S, ∀ y ∈ L, ((y.h = x.h ∧ y.n < x.n) ∨ ∃ r ∈ x.l, r.h = y.h ∧ y.n ≤ r.n) → y ∈ S
section
variable {L S M : List NM} {h : Int} {i j : Nat} {m x y : NM}
theorem take_mono {α : Type} {l : List α} {x : α} (hij : i ≤ j) (hx : x ∈ l.take i) : x ∈ l.take j := by
 obtain ⟨q, hq⟩ := List.getElem?_of_mem hx
 rw [List.getElem?_take] at hq
 split at hq
 · refine List.mem_of_getElem? (i := q) ?_
   rw [List.getElem?_take, if_pos (by omega)]; exact hq
 · cases hq
theorem of_take_lt {l : List NM} (hx : l[i]? = some x) (hij : i < j) (e : x.h = h) : (ofN (l.take i) h).length < (ofN (l.take j) h).length := by
 have e1 : l.take j = l.take (i + 1) ++ (l.take j).drop (i + 1) := by
  have := List.take_append_drop (i + 1) (l.take j)
  rw [List.take_take, Nat.min_eq_left (by omega)] at this
  exact this.symm
 rw [e1, of_app, take_succ_get hx, of_app, of_one_eq e, List.length_append, List.length_append]
 simp only [List.length_cons, List.length_nil]
 omega
theorem seal_lt (hL : Sealed L) (hi : L[i]? = some x) (hj : L[j]? = some y) (hij : i < j) (e : x.h = y.h) : x.n < y.n := by
 have h1 := (hL.n i x hi).2.2.1
 have h2 := (hL.n j y hj).2.2.1
 have := of_take_lt (h := y.h) hi hij e
 rw [e] at h1
 omega
theorem seal_idx (hL : Sealed L) (hi : L[i]? = some x) (hj : L[j]? = some y) (e : x.h = y.h) (hn : x.n < y.n) : i < j := by
 rcases Nat.lt_trichotomy i j with h1 | h1 | h1
 · exact h1
 · subst h1; rw [hi] at hj; injection hj with hj; subst hj; omega
 · have := seal_lt hL hj hi h1 e.symm; omega
theorem seal_uni (hL : Sealed L) (hx : x ∈ L) (hy : y ∈ L) (e : x.h = y.h) (hn : x.n = y.n) : x = y := by
 obtain ⟨i, hi⟩ := List.getElem?_of_mem hx
 obtain ⟨j, hj⟩ := List.getElem?_of_mem hy
 rcases Nat.lt_trichotomy i j with h1 | h1 | h1
 · have := seal_lt hL hi hj h1 e; omega
 · subst h1; rw [hi] at hj; injection hj
 · have := seal_lt hL hj hi h1 e.symm; omega
theorem seal_nodup (hL : Sealed L) : L.Nodup := List.pairwise_iff_getElem.2 fun i j hi hj hij e => by
 have := seal_lt hL (List.getElem?_eq_getElem hi) (List.getElem?_eq_getElem hj) hij (by rw [e])
 rw [e] at this; omega
/-- every number below a note's has its note, earlier -/
theorem seal_below (hL : Sealed L) : ∀ (i : Nat) (x : NM), L[i]? = some x → ∀ p : Nat, (p : Int) < x.n → ∃ y ∈ L, y.h = x.h ∧ y.n = (p : Int)
 | i, x, hi, p, hp => by
  have h1 := (hL.n i x hi).2.2.1
  have h2 : p < (ofN (L.take i) x.h).length := by omega
  have key : ∀ (i : Nat), i ≤ L.length → ∀ p, p < (ofN (L.take i) x.h).length → ∃ y ∈ L, y.h = x.h ∧ y.n = (p : Int) := by
   intro i
   induction i with
   | zero => intro _ p hp; rw [List.take_zero] at hp; exact absurd hp (Nat.not_lt_zero _)
   | succ i ih =>
    intro hl p hp
    have hz : L[i]? = some (L[i]'(by omega)) := List.getElem?_eq_getElem (by omega)
    generalize L[i]'(by omega) = z at hz
    rw [take_succ_get hz, of_app] at hp
    rcases Nat.lt_or_ge p (ofN (L.take i) x.h).length with h3 | h3
    · exact ih (by omega) p h3
    · by_cases e : z.h = x.h
      · rw [of_one_eq e, List.length_append] at hp
        simp only [List.length_cons, List.length_nil] at hp
        refine ⟨z, List.mem_of_getElem? hz, e, ?_⟩
        rw [(hL.n i z hz).2.2.1, e]; omega
      · rw [of_one_ne e, List.append_nil] at hp; omega
  exact key i (Nat.le_of_lt (List.getElem?_eq_some_iff.1 hi).1) p h2
/-- M: the joined list of a closed part -/
structure Part (L S M : List NM) : Prop where
 l : Sealed L
 c : ClosedL L S
 o : SortedN M
 m : ∀ x, x ∈ M ↔ x ∈ S
 len : L.length ≤ 400
theorem part_join (hL : Sealed L) (hC : ClosedL L S) (hl : L.length ≤ 400) : Part L S (joinN S) :=
 ⟨hL, hC, join_sorted S, fun x => by rw [mem_join, InN_good fun y hy => hL.g y (hC.s y hy)], hl⟩
theorem part_up (P : Part L S M) : UpJ M := by
 refine P.o.imp fun {a b} hab => ?_
 rcases cmpN_lt.1 hab with e | e
 · omega
 · omega
theorem part_in (P : Part L S M) (hx : x ∈ M) : x ∈ L := P.c.s x ((P.m x).1 hx)
theorem part_asc (P : Part L S M) (h : Int) : AscN (ofN M h) := by
 refine adj_false (of_up P.o h) ?_
 cases e : adjN (ofN M h)
 · rfl
 · obtain ⟨a, b, h1, h2, h3, h4, h5, h6⟩ := (adj_iff P.o h).1 e
   exact absurd (seal_uni P.l (part_in P h1) (part_in P h2) (h3.trans h4.symm) h6) h5
theorem part_at (P : Part L S M) (hx : (ofN M h)[i]? = some x) : x.n = (i : Int) := by
 have hB := part_asc P h
 have hm := of_mem.1 (List.mem_of_getElem? hx)
 have h0 : ∀ z ∈ ofN M h, 0 ≤ z.n := fun z hz => (right_ok (P.l.g z (part_in P (of_mem.1 hz).1)).1).2.1.2
 obtain ⟨q, hq⟩ : ∃ q : Nat, x.n = (q : Int) := ⟨x.n.toNat, by have := h0 x (List.mem_of_getElem? hx); omega⟩
 obtain ⟨y, hy, e⟩ := asc_at hB h0 q fun p hp => by
  rcases Nat.lt_or_ge p q with h1 | h1
  · obtain ⟨j, hj⟩ := List.getElem?_of_mem (part_in P hm.1)
    obtain ⟨z, hz, e1, e2⟩ := seal_below P.l j x hj p (by omega)
    have : z ∈ S := P.c.c x ((P.m x).1 hm.1) z hz (.inl ⟨e1, by omega⟩)
    exact ⟨z, of_mem.2 ⟨(P.m z).2 this, e1.trans hm.2⟩, e2⟩
  · exact ⟨x, List.mem_of_getElem? hx, by omega⟩
 have : x = y := asc_uni hB (List.mem_of_getElem? hx) (List.mem_of_getElem? hy) (by omega)
 subst this
 obtain ⟨a1, a2⟩ := List.getElem?_eq_some_iff.1 hx
 obtain ⟨b1, b2⟩ := List.getElem?_eq_some_iff.1 hy
 rcases Nat.lt_trichotomy i q with h1 | h1 | h1
 · have := List.pairwise_iff_getElem.1 hB i q a1 b1 h1; rw [a2, b2] at this; omega
 · omega
 · have := List.pairwise_iff_getElem.1 hB q i b1 a1 h1; rw [a2, b2] at this; omega
theorem part_len (P : Part L S M) (h : Int) : (ofN M h).length ≤ L.length :=
 sub_len ((sorted_nodup P.o).filter _) fun x hx => part_in P (of_mem.1 hx).1
theorem part_chain (P : Part L S M) (h : Int) : ∀ (k : Nat) (m : NM), (ofN M h)[k]? = some m → right m = true ∧ m.h = h ∧ m.n = (k : Int) ∧ ∀ p : NM, 0 < k → (ofN M h)[k - 1]? = some p → p.d ≤ m.d := by
 intro k m hm
 have h1 := of_mem.1 (List.mem_of_getElem? hm)
 refine ⟨(P.l.g m (part_in P h1.1)).1, h1.2, part_at P hm, fun p h0 hp => ?_⟩
 have h2 := of_mem.1 (List.mem_of_getElem? hp)
 have e1 := part_at P hm
 have e2 := part_at P hp
 obtain ⟨i, hi⟩ := List.getElem?_of_mem (part_in P h1.1)
 obtain ⟨j, hj⟩ := List.getElem?_of_mem (part_in P h2.1)
 have hji := seal_idx P.l hj hi (h2.2.trans h1.2.symm) (by omega)
 refine (P.l.n i m hi).2.2.2.1 p (of_mem.2 ⟨List.mem_of_getElem? (i := j) ?_, h2.2.trans h1.2.symm⟩)
 rw [List.getElem?_take, if_pos hji]; exact hj
theorem part_check (P : Part L S M) (h : Int) (k : Nat) : check ((ofN M h).take k) = 0 := by
 have hl := part_len P h
 have hl2 := P.len
 refine check_ok (h0 := h) (by rw [List.length_take]; omega) fun q m hm => ?_
 rw [List.getElem?_take] at hm
 split at hm
 · obtain ⟨g1, g2, g3, g4⟩ := part_chain P h q m hm
   refine ⟨g1, g2, g3, fun p h0 hp => g4 p h0 ?_⟩
   rw [List.getElem?_take, if_pos (by omega)] at hp; exact hp
 · cases hm
theorem part_past (P : Part L S M) (h : Int) : pastN (ofN M h) = ofN M h := by
 have hc : cntN (ofN M h) = (ofN M h).length := by
  rcases Nat.lt_or_ge (cntN (ofN M h)) (ofN M h).length with h1 | h1
  · have h2 : (ofN M h)[cntN (ofN M h)]? = some ((ofN M h)[cntN (ofN M h)]'h1) := List.getElem?_eq_getElem h1
    have := (cnt_spec (ofN M h)).2
    rw [ok_asc (part_asc P h) h2 (part_at P h2)] at this; cases this
  · have := cnt_le (ofN M h); omega
 unfold pastN
 have := dwn_max (l := ofN M h) (k := (ofN M h).length) (part_check P h _) (n := cntN (ofN M h)) (by omega)
 exact List.take_of_length_le this
theorem part_forks (P : Part L S M) : forksN M = [] := by
 cases e : forksN M with
 | nil => rfl
 | cons x r =>
  exfalso
  have h1 := (forks_iff (part_up P) x).1 (by rw [e]; exact List.mem_cons_self)
  obtain ⟨a, b, g1, g2, g3, g4, g5, g6⟩ := (adj_iff P.o x).1 h1
  exact g5 (seal_uni P.l (part_in P g1) (part_in P g2) (g3.trans g4.symm) g6)
/-- all of it counts -/
theorem part_all (P : Part L S M) (hx : x ∈ M) : x.n < ((takenN M x.h : Nat) : Int) := by
 have key : ∀ (i : Nat) (x : NM), L[i]? = some x → x ∈ M → x.n < ((takenN M x.h : Nat) : Int) := by
  intro i
  induction i using Nat.strongRecOn with
  | ind i ih =>
   intro x hi hx
   rcases Int.lt_or_le x.n ((takenN M x.h : Nat) : Int) with h1 | h1
   · exact h1
   · exfalso
     have hU := part_up P
     have h0 : 0 ≤ x.n := (right_ok (P.l.g x (part_in P hx)).1).2.1.2
     have hS := (P.m x).1 hx
     have het : ((takenN M x.h : Nat) : Int) = x.n := by
      rcases Int.lt_or_le ((takenN M x.h : Nat) : Int) x.n with h2 | h2
      · exfalso
        obtain ⟨y, hy, e1, e2⟩ := seal_below P.l i x hi (takenN M x.h) h2
        obtain ⟨j, hj⟩ := List.getElem?_of_mem hy
        have hji := seal_idx P.l hj hi e1 (by omega)
        have := ih j hji y hj ((P.m y).2 (P.c.c x hS y hy (.inl ⟨e1, by omega⟩)))
        rw [e1] at this; omega
      · omega
     have hn : ofN M x.h ≠ [] := List.ne_nil_of_mem (of_mem.2 ⟨hx, rfl⟩)
     have hI := (run_inv hU).1
     obtain ⟨z, hz, ez⟩ := z_has hU hI.z hn
     have hzt := taken_at hU hz
     have hzp := (z_of hU hI.z hz).1
     rw [ez] at hzt hzp
     rw [part_past P] at hzp
     obtain ⟨k, hk⟩ := List.getElem?_of_mem (of_mem.2 ⟨hx, rfl⟩ : x ∈ ofN M x.h)
     have hkn := part_at P hk
     have hzn : nxt z = some x := by
      show z.p[z.t]? = some x
      rw [hzp, show z.t = k by omega]; exact hk
     have hno := run_end_no hU hz hzn
     have hyes : readyN (runN M).1 x = true := List.all_eq_true.2 fun r hr => by
      obtain ⟨y, hy, e1, e2⟩ := (P.l.n i x hi).2.2.2.2 r hr
      obtain ⟨j, hj⟩ := List.getElem?_of_mem hy
      rw [List.getElem?_take] at hj
      split at hj
      · rename_i hji
        have hyL := List.mem_of_getElem? hj
        have hyM := (P.m y).2 (P.c.c x hS y hyL (.inr ⟨r, hr, e1.symm, by omega⟩))
        have ht := ih j hji y hj hyM
        obtain ⟨z2, hz2, ez2⟩ := z_has hU hI.z (List.ne_nil_of_mem (of_mem.2 ⟨hyM, rfl⟩) : ofN M y.h ≠ [])
        have hz2t := taken_at hU hz2
        rw [ez2] at hz2t
        exact okR_set (z_asc hU hI.z) hz2 (ez2.trans e1) (.inl (by omega))
      · cases hj
     rw [hyes] at hno; cases hno
 obtain ⟨i, hi⟩ := List.getElem?_of_mem (part_in P hx)
 exact key i x hi hx
theorem part_taken (P : Part L S M) (h : Int) : takenN M h = (ofN M h).length := by
 have h1 := taken_le (part_up P) h
 rw [part_past P] at h1
 rcases Nat.lt_or_ge (takenN M h) (ofN M h).length with h2 | h2
 · exfalso
   have h3 : (ofN M h)[(takenN M h)]? = some ((ofN M h)[takenN M h]'h2) := List.getElem?_eq_getElem h2
   generalize (ofN M h)[takenN M h]'h2 = x at h3
   have h4 := of_mem.1 (List.mem_of_getElem? h3)
   have h5 := part_all P h4.1
   have h6 := part_at P h3
   rw [h4.2] at h5; omega
 · omega
theorem part_order (P : Part L S M) (hx : x ∈ M) : x ∈ orderN M := by
 have : x ∈ ofN (orderN M) x.h := by
  rw [order_of (part_up P), part_past P, part_taken P, List.take_length]
  exact of_mem.2 ⟨hx, rfl⟩
 exact (of_mem.1 this).1
theorem part_olen (P : Part L S M) : (orderN M).length = M.length := by
 have h1 := order_len (part_up P)
 have h2 := sub_len (sorted_nodup P.o) (fun x hx => part_order P hx)
 omega
theorem part_placed (P : Part L S M) (hx : (orderN M)[i]? = some x) : placedN ((orderN M).take i) x [] [] = true := by
 have h1 := (run_inv (part_up P)).1.pl i x hx
 unfold placedN
 rw [Bool.and_eq_true]
 refine ⟨decide_eq_true h1.1, List.all_eq_true.2 fun r hr => ?_⟩
 rcases h1.2 r hr with h2 | ⟨h2, _⟩
 · rw [decide_eq_false (by omega)]; rfl
 · exfalso
   obtain ⟨a, b, g1, g2, g3, g4, g5, g6⟩ := (adj_iff P.o r.h).1 h2
   exact g5 (seal_uni P.l (part_in P g1) (part_in P g2) (g3.trans g4.symm) g6)
theorem part_miss (P : Part L S M) : missN M = [] := by
 unfold missN
 rw [show (List.range 400).filter (fun h => decide (nextN M h < needN M h)) = [] from List.filter_eq_nil_iff.2 fun h _ e => ?_]
 · rfl
 · have e1 := of_decide_eq_true e
   obtain ⟨h0, h1, h2⟩ := next_least (h := h) P.o
   rcases (need_lt M).1 e1 with h3 | ⟨x, hx, ha⟩
   · omega
   · obtain ⟨p, hp⟩ : ∃ p : Nat, nextN M h = (p : Int) := ⟨(nextN M h).toNat, by omega⟩
     have hxS := (P.m x).1 hx
     obtain ⟨i, hi⟩ := List.getElem?_of_mem (part_in P hx)
     rcases ha with ⟨e2, h4⟩ | ⟨r, hr, e2, h4⟩
     · obtain ⟨y, hy, g1, g2⟩ := seal_below P.l i x hi p (by omega)
       exact h2 ⟨y, (P.m y).2 (P.c.c x hxS y hy (.inl ⟨g1, by omega⟩)), g1.trans e2, by omega⟩
     · obtain ⟨y, hy, g1, g2⟩ := (P.l.n i x hi).2.2.2.2 r hr
       have hyL : y ∈ L := List.mem_of_mem_take hy
       rcases Int.lt_or_le (p : Int) y.n with h5 | h5
       · obtain ⟨j, hj⟩ := List.getElem?_of_mem hyL
         obtain ⟨z, hz, k1, k2⟩ := seal_below P.l j y hj p h5
         exact h2 ⟨z, (P.m z).2 (P.c.c x hxS z hz (.inr ⟨r, hr, by omega, by omega⟩)), by omega, by omega⟩
       · exact h2 ⟨y, (P.m y).2 (P.c.c x hxS y hyL (.inr ⟨r, hr, by omega, by omega⟩)), by omega, by omega⟩
end
end
end Go.Proofs.YtdcbjedkddgfkaaDoor
