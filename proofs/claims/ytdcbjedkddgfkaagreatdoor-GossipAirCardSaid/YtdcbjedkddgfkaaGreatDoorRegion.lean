/-
  A region that draws its order: its reads are taken first, each under a condition on the world that holds as long as the read may still be outstanding; what is left is forced, and is walked in the text's order. No condition: a law.
-/
import Derived.OrdersHeld
import Derived.RegionTactic
namespace Go.Proofs.YtdcbjedkddgfkaaGreatDoor
set_option linter.unusedVariables false
set_option linter.unusedSimpArgs false
set_option linter.unusedSectionVars false
section
variable {P : Program} {ops : Array Oper} {Q : Exit → Act → World → Prop} {S : Array Bool → World → Prop}
/-- whatever has come up, so has all that it waits for -/
def Closed (ops : Array Oper) (listed : Array Bool) : Prop :=
 ∀ j o, ops[j]? = some o → listed.getD j false = true → ∀ e ∈ o.after, Region.binds .any e = true → listed.getD e.on false = true
theorem closed_start : Closed ops (Array.replicate ops.size false) := by
 intro j o ho hl
 have hj := (Array.getElem?_eq_some_iff.1 ho).1
 simp [hj] at hl
theorem closed_step {listed : Array Bool} {i : Nat} (h : Closed ops listed) (hi : i ∈ Region.ready .any ops listed) : Closed ops (listed.setIfInBounds i true) := by
 intro j o ho hl e he hb
 by_cases hij : i = j
 · subst hij
   obtain ⟨_, o', ho', hall⟩ := mem_ready.1 hi
   rw [ho] at ho'
   obtain rfl := Option.some.inj ho'
   exact getD_set_true (hall e he hb)
 · rw [getD_set_ne false hij] at hl
   exact getD_set_true (h j o ho hl e he hb)
def wpAnyG (P : Program) (ops : Array Oper) (Q : Exit → Act → World → Prop) (S : Array Bool → World → Prop) : Nat → Array Bool → Act → World → Prop
 | 0, listed, a, w => Region.ready .any ops listed = [] ∧ Q .normal a w
 | fuel + 1, listed, a, w =>
  (Region.ready .any ops listed = [] → Q .normal a w) ∧
  ∀ i ∈ Region.ready .any ops listed, wpOp P ops Q i (fun a' w' => S (listed.setIfInBounds i true) w' ∧ wpAnyG P ops Q S fuel (listed.setIfInBounds i true) a' w') a w
theorem wpAny_of_G : ∀ (fuel : Nat) (listed : Array Bool) (a : Act) (w : World), wpAnyG P ops Q S fuel listed a w → wpAny P .any ops Q fuel listed a w
 | 0, _, _, _, h => h
 | fuel + 1, _, _, _, h => ⟨h.1, fun i hi => wpOp_mono (fun a' w' h' => wpAny_of_G fuel _ a' w' h'.2) (h.2 i hi)⟩
/-- the worlds in which operation i may still come up -/
def SReady (ops : Array Oper) (S : Array Bool → World → Prop) (i : Nat) (w : World) : Prop := ∃ listed, Closed ops listed ∧ i ∈ Region.ready .any ops listed ∧ S listed w
theorem wpAnyG_first {i : Nat} {oi : Oper} {v : Value} (hi : ops[i]? = some oi) (hsel : ∀ (j : Nat) (o : Oper) cs b, ops[j]? = some o → o.op ≠ .select cs b)
 (hQ : ∀ c a w, Q (.panic c) (a.put oi.dst v) w → Q (.panic c) a w) (hSi : ∀ listed w, S (listed.setIfInBounds i true) w → S listed w) :
 ∀ (fuel : Nat) (listed : Array Bool) (a : Act) (w : World),
  (∀ j oj, ops[j]? = some oj → j ≠ i → listed.getD j true = false → (∀ e ∈ oj.after, Region.binds .any e = true → e.on ≠ i) → oi.apart ops oj = true) →
  Closed ops listed → i ∈ Region.ready .any ops listed → YieldsIf P ops (SReady ops S i) oi v a → S listed w →
  S (listed.setIfInBounds i true) w → wpAnyG P ops Q S fuel (listed.setIfInBounds i true) (a.put oi.dst v) w → wpAnyG P ops Q S (fuel + 1) listed a w := by
 intro fuel
 induction fuel with
 | zero =>
  intro listed a w _ hc hr hy hS hS2 H
  refine ⟨fun h => (by rw [h] at hr; cases hr), fun j hj => ?_⟩
  by_cases hji : j = i
  · subst hji; exact hy.wpOp hi ⟨listed, hc, hr, hS⟩ ⟨hS2, H⟩
  · have := ready_mono hj hji
    rw [H.1] at this
    cases this
 | succ fuel ih =>
  intro listed a w hfree hc hr hy hS hS2 H
  refine ⟨fun h => (by rw [h] at hr; cases hr), fun j hj => ?_⟩
  by_cases hji : j = i
  · subst hji; exact hy.wpOp hi ⟨listed, hc, hr, hS⟩ ⟨hS2, H⟩
  · have h1 := H.2 j (ready_mono hj hji)
    obtain ⟨hjun, oj, hoj, hall⟩ := mem_ready.1 hj
    have hnot : ∀ e ∈ oj.after, Region.binds .any e = true → e.on ≠ i := fun e he hb heq => by
     have h1 := hall e he hb
     have h0 := (mem_ready.1 hr).1
     rw [heq] at h1
     rcases Nat.lt_or_ge i listed.size with h' | h'
     · simp [h'] at h0 h1; rw [h0] at h1; cases h1
     · simp [Array.getElem?_eq_none h'] at h1
    have h2 := wpOp_putIf hoj (hfree j oj hoj hji hjun hnot) (fun cs b => hsel i oi cs b hi) (fun cs b => hsel j oj cs b hoj) hQ hy h1
    have hfree' : ∀ k ok, ops[k]? = some ok → k ≠ i → (listed.setIfInBounds j true).getD k true = false →
     (∀ e ∈ ok.after, Region.binds .any e = true → e.on ≠ i) → oi.apart ops ok = true := fun k ok hk hki hun hno => by
     refine hfree k ok hk hki ?_ hno
     by_cases hjk : j = k
     · subst hjk; exact hjun
     · rw [getD_set_ne true hjk] at hun; exact hun
    refine wpOp_mono (fun a' w' h3 => ?_) h2
    obtain ⟨hy', hS', hG⟩ := h3
    rw [Array.setIfInBounds_comm _ _ (Ne.symm hji)] at hS' hG
    exact ⟨hSi _ _ hS', ih (listed.setIfInBounds j true) a' w' hfree' (closed_step hc hj) (ready_mono hr (Ne.symm hji)) hy' (hSi _ _ hS') hS' hG⟩
/-! ### The reads, then what is left -/
/-- operation t waits for operation i -/
def edgeTo (ops : Array Oper) (t i : Nat) : Bool := match ops[t]? with | some o => o.after.any (fun e => Region.binds .any e && e.on == i) | none => false
/-- so many of T may come up before i -/
def kmax (ops : Array Oper) (T : List Nat) (i : Nat) : Nat := (T.takeWhile fun t => !edgeTo ops t i).length
/-- so many of T have come up -/
def posT (T : List Nat) (listed : Array Bool) : Nat := (T.takeWhile fun t => listed.getD t false).length
def marks (listed : Array Bool) (l : List Nat) : Array Bool := l.foldl (fun L i => L.setIfInBounds i true) listed
/-- the check of the reads: each may come up when those ahead of it have, is apart from the others, and is none of T -/
def readsB (ops : Array Oper) (T : List Nat) : Array Bool → List Nat → Bool
 | _, [] => true
 | listed, i :: R => (Region.ready .any ops listed).contains i && Region.free .any ops listed i && !T.contains i && readsB ops T (listed.setIfInBounds i true) R
/-- the check of the rest: one after the other -/
def tailB (ops : Array Oper) (T : List Nat) : Nat → Array Bool → List Nat → Bool
 | _, listed, [] => (Region.ready .any ops listed).isEmpty
 | k, listed, t :: r => Region.ready .any ops listed == [t] && posT T (listed.setIfInBounds t true) == k + 1 && tailB ops T (k + 1) (listed.setIfInBounds t true) r
variable {S' : Nat → World → Prop}
/-- each read yields its value in every world in which it may come up -/
def wpReads (P : Program) (ops : Array Oper) (S' : Nat → World → Prop) (T : List Nat) (Qa : Act → Prop) : List Nat → Act → Prop
 | [], a => Qa a
 | i :: R, a => ∃ o, ops[i]? = some o ∧ ∃ v, YieldsIf P ops (fun w => ∃ k, k ≤ kmax ops T i ∧ S' k w) o v a ∧ wpReads P ops S' T Qa R (a.put o.dst v)
/-- what is left, in its order; behind each the condition anew -/
def wpTail (P : Program) (ops : Array Oper) (Q : Exit → Act → World → Prop) (S' : Nat → World → Prop) : Nat → List Nat → Act → World → Prop
 | _, [], a, w => Q .normal a w
 | k, t :: T, a, w => wpOp P ops Q t (fun a' w' => S' (k + 1) w' ∧ wpTail P ops Q S' (k + 1) T a' w') a w
theorem takeWhile_le {α : Type} (p q : α → Bool) : ∀ (l : List α), (∀ x ∈ l, p x = true → q x = true) → (l.takeWhile p).length ≤ (l.takeWhile q).length
 | [], _ => Nat.le_refl _
 | x :: l, h => by
  simp only [List.takeWhile_cons]
  by_cases hp : p x = true
  · rw [if_pos hp, if_pos (h x (by simp) hp)]
    simp only [List.length_cons]
    have := takeWhile_le p q l fun y hy => h y (by simp [hy])
    omega
  · rw [if_neg hp]
    exact Nat.zero_le _
theorem posT_set {T : List Nat} {i : Nat} (hi : T.contains i = false) (listed : Array Bool) : posT T (listed.setIfInBounds i true) = posT T listed := by
 unfold posT
 congr 1
 have : ∀ t ∈ T, (listed.setIfInBounds i true).getD t false = listed.getD t false := fun t ht => by
  have hne : i ≠ t := by rintro rfl; simp at hi; exact hi ht
  exact getD_set_ne false hne
 clear hi
 induction T with
 | nil => rfl
 | cons t T ih =>
  simp only [List.takeWhile_cons, this t (by simp)]
  rw [ih fun y hy => this y (by simp [hy])]
theorem ready_pos {T : List Nat} {i : Nat} {listed : Array Bool} (hc : Closed ops listed) (hr : i ∈ Region.ready .any ops listed) : posT T listed ≤ kmax ops T i := by
 unfold posT kmax
 refine takeWhile_le _ _ T fun t _ ht => ?_
 cases he : edgeTo ops t i with
 | false => rfl
 | true =>
  exfalso
  unfold edgeTo at he
  cases ho : ops[t]? with
  | none => rw [ho] at he; cases he
  | some o =>
   rw [ho] at he
   simp only [Array.any_eq_true', Bool.and_eq_true, beq_iff_eq] at he
   obtain ⟨e, hm, hb, rfl⟩ := he
   have h1 := hc t o ho ht e hm hb
   have h0 := (mem_ready.1 hr).1
   rcases Nat.lt_or_ge e.on listed.size with h' | h'
   · simp [h'] at h0 h1; rw [h0] at h1; cases h1
   · simp [Array.getElem?_eq_none h'] at h1
theorem wpAnyG_tail {T : List Nat} : ∀ (l : List Nat) (k : Nat) (listed : Array Bool) (a : Act) (w : World), tailB ops T k listed l = true → wpTail P ops Q S' k l a w →
 wpAnyG P ops Q (fun L w => S' (posT T L) w) l.length listed a w
 | [], _, listed, _, _, hB, h => ⟨by simpa [tailB] using hB, h⟩
 | t :: l, k, listed, a, w, hB, h => by
  simp only [tailB, Bool.and_eq_true, beq_iff_eq] at hB
  obtain ⟨⟨h1, h2⟩, h3⟩ := hB
  refine ⟨fun h0 => (by rw [h0] at h1; cases h1), fun i hi => ?_⟩
  rw [h1] at hi
  simp at hi
  subst hi
  refine wpOp_mono (fun a' w' h' => ⟨by show S' (posT T _) w'; rw [h2]; exact h'.1, wpAnyG_tail l (k + 1) _ a' w' h3 h'.2⟩) h
theorem wpAnyG_reads {T : List Nat} (hs : Region.noSelect ops = true) (hQ : ∀ c (a : Act) (d : Nat) v w, Q (.panic c) (a.put (some d) v) w → Q (.panic c) a w) (fuel : Nat) :
 ∀ (R : List Nat) (listed : Array Bool) (a : Act) (w : World), readsB ops T listed R = true → Closed ops listed → S' (posT T listed) w →
  wpReads P ops S' T (fun a' => Closed ops (marks listed R) → wpAnyG P ops Q (fun L w => S' (posT T L) w) fuel (marks listed R) a' w) R a → wpAnyG P ops Q (fun L w => S' (posT T L) w) (R.length + fuel) listed a w
 | [], listed, a, w, _, hc, _, h => by
  rw [List.length_nil, Nat.zero_add]
  exact h hc
 | i :: R, listed, a, w, hB, hc, hS, h => by
  simp only [readsB, Bool.and_eq_true, Bool.not_eq_true'] at hB
  obtain ⟨⟨⟨h1, h2⟩, h3⟩, h4⟩ := hB
  obtain ⟨o, ho, v, hy, hR⟩ := h
  have hr : i ∈ Region.ready .any ops listed := by simpa using h1
  have hpos : ∀ L, posT T (L.setIfInBounds i true) = posT T L := posT_set h3
  have ih := wpAnyG_reads hs hQ fuel R (listed.setIfInBounds i true) (a.put o.dst v) w h4 (closed_step hc hr) (by rw [hpos]; exact hS) hR
  have hl : (i :: R).length + fuel = (R.length + fuel) + 1 := by simp; omega
  rw [hl]
  refine wpAnyG_first (S := fun L w => S' (posT T L) w) ho (Region.noSelect_spec hs) (fun c a w hp => by cases hd : o.dst with | none => rw [hd] at hp; exact hp | some d => rw [hd] at hp; exact hQ c a d v w hp) (fun L w hL => by rw [hpos] at hL; exact hL) _ listed a w (Region.free_spec ho h2) hc hr ?_ hS (by rw [hpos]; exact hS) ih
  refine hy.imp (fun hh => ⟨hh.1, fun w' hw' => hh.2 w' ?_⟩) id
  obtain ⟨L, hcL, hrL, hSL⟩ := hw'
  exact ⟨_, ready_pos hcL hrL, hSL⟩
/-- **THE LAW**: the reads R first, each under the condition; then T. -/
theorem wp_region_reads {id : Nat} {l : List Oper} {a : Act} {w : World} (R T : List Nat) (S' : Nat → World → Prop) (hm : P.follows .mixedOrders = true)
 (hB : (Region.noSelect l.toArray && readsB l.toArray T (Array.replicate l.toArray.size false) R && tailB l.toArray T 0 (marks (Array.replicate l.toArray.size false) R) T && (R.length + T.length == l.toArray.size) && (posT T (Array.replicate l.toArray.size false) == 0)) = true)
 (hQ : ∀ c (a : Act) (d : Nat) v w, Q (.panic c) (a.put (some d) v) w → Q (.panic c) a w) (hS : S' 0 w.drew)
 (h : wpReads P l.toArray S' T (fun a' => wpTail P l.toArray Q S' 0 T a' w.drew) R a) : (Code.region id l.toArray true).wp P Q a w := by
 simp only [Bool.and_eq_true, beq_iff_eq] at hB
 obtain ⟨⟨⟨⟨h1, h2⟩, h3⟩, h4⟩, h5⟩ := hB
 refine wp_region_any hm (wpAny_of_G (S := fun L w => S' (posT T L) w) _ _ _ _ ?_)
 have hst : S' (posT T (Array.replicate l.toArray.size false)) w.drew := by rw [h5]; exact hS
 have key := wpAnyG_reads (P := P) (ops := l.toArray) (Q := Q) (S' := S') (T := T) h1 hQ T.length R (Array.replicate l.toArray.size false) a w.drew h2 closed_start hst
 rw [h4] at key
 refine key ?_
 clear key h2 h4 h5 hst
 generalize marks (Array.replicate l.toArray.size false) R = L0 at h3 ⊢
 have step : ∀ (R : List Nat) (a : Act), wpReads P l.toArray S' T (fun a' => wpTail P l.toArray Q S' 0 T a' w.drew) R a →
  wpReads P l.toArray S' T (fun a' => Closed l.toArray L0 → wpAnyG P l.toArray Q (fun L w => S' (posT T L) w) T.length L0 a' w.drew) R a := by
  intro R
  induction R with
  | nil => intro a h _; exact wpAnyG_tail T 0 _ a _ h3 h
  | cons i R ih =>
   intro a h
   obtain ⟨o, ho, v, hy, hR⟩ := h
   exact ⟨o, ho, v, hy, ih _ hR⟩
 exact step R a h
theorem wpReads_cons {T : List Nat} {Qa : Act → Prop} {i : Nat} {R : List Nat} {a : Act} {o : Oper} (ho : ops[i]? = some o) (v : Value) (hw : Region.wanted o (yielded ops a.tmps) = true)
 (hy : ∀ w' k, k ≤ kmax ops T i → S' k w' → (execOp a.eval o).run P w' = .ok (.value v) w') (h : wpReads P ops S' T Qa R (a.put o.dst v)) : wpReads P ops S' T Qa (i :: R) a :=
 ⟨o, ho, v, .inl ⟨hw, fun w' ⟨k, hk, hS⟩ => hy w' k hk hS⟩, h⟩
theorem wpReads_nil {T : List Nat} {Qa : Act → Prop} {a : Act} (h : Qa a) : wpReads P ops S' T Qa [] a := h
theorem wpTail_cons {k t : Nat} {T : List Nat} {a : Act} {w : World} {o : Oper} (ho : ops[t]? = some o) (hg : o.guard = none) (h : o.wp P a w (fun a' w' => S' (k + 1) w' ∧ wpTail P ops Q S' (k + 1) T a' w') Q) : wpTail P ops Q S' k (t :: T) a w := by
 simp only [wpTail, wpOp, ho]
 rw [if_pos (by simp [Region.wanted, hg])]
 exact .inl h
theorem wpTail_nil {k : Nat} {a : Act} {w : World} (h : Q .normal a w) : wpTail P ops Q S' k [] a w := h
theorem wpTail_run {k t : Nat} {T : List Nat} {a : Act} {w w' : World} {o : Oper} {v : Value} (ho : ops[t]? = some o) (hg : o.guard = none) (hr : (execOp a.eval o).run P w = .ok (.value v) w') (hS : S' (k + 1) w') (h : wpTail P ops Q S' (k + 1) T (a.put o.dst v) w') : wpTail P ops Q S' k (t :: T) a w := by
 refine wpTail_cons ho hg ?_
 simp only [Oper.wp, hr]
 exact ⟨hS, h⟩
end
end Go.Proofs.YtdcbjedkddgfkaaGreatDoor
