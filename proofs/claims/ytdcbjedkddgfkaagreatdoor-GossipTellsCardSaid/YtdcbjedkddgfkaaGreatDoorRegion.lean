/-
  A region that draws its order: its reads are taken first, each under a condition on the world that holds as long as the read may still be outstanding; what is left is forced, and is walked in the text's order. No condition: a law.
-/
import Derived.OrdersHeld
import Derived.RegionTactic
namespace Go.Proofs.YtdcbjedkddgfkaaGreatDoor
set_option linter.unusedVariables false
set_option linter.unusedSimpArgs false
set_option linter.unusedSectionVars false
section
variable {P : Program} {ops : Array Oper} {Q : Exit → Act → World → Prop} {S : Array Bool → World → Prop}
/-- whatever has come up, so has all that it waits for -/
def Closed (ops : Array Oper) (listed : Array Bool) : Prop :=
 ∀ j o, ops[j]? = some o → listed.getD j false = true → ∀ e ∈ o.after, Region.binds .any e = true → listed.getD e.on false = true
theorem closed_start : Closed ops (Array.replicate ops.size false) := by
 intro j o ho hl
 have hj := (Array.getElem?_eq_some_iff.1 ho).1
 simp [hj] at hl
theorem closed_step {listed : Array Bool} {i : Nat} (h : Closed ops listed) (hi : i ∈ Region.ready .any ops listed) : Closed ops (listed.setIfInBounds i true) := by
 intro j o ho hl e he hb
 by_cases hij : i = j
 · subst hij
   obtain ⟨_, o', ho', hall⟩ := mem_ready.1 hi
   rw [ho] at ho'
   obtain rfl := Option.some.inj ho'
   exact getD_set_true (hall e he hb)
 · rw [getD_set_ne false hij] at hl
   exact getD_set_true (h j o ho hl e he hb)
def wpAnyG (P : Program) (ops : Array Oper) (Q : Exit → Act → World → Prop) (S : Array Bool → World → Prop) : Nat → Array Bool → Act → World → Prop
 | 0, listed, a, w => Region.ready .any ops listed = [] ∧ Q .normal a w
 | fuel + 1, listed, a, w =>
  (Region.ready .any ops listed = [] → Q .normal a w) ∧
  ∀ i ∈ Region.ready .any ops listed, wpOp P ops Q i (fun a' w' => S (listed.setIfInBounds i true) w' ∧ wpAnyG P ops Q S fuel (listed.setIfInBounds i true) a' w') a w
theorem wpAny_of_G : ∀ (fuel : Nat) (listed : Array Bool) (a : Act) (w : World), wpAnyG P ops Q S fuel listed a w → wpAny P .any ops Q fuel listed a w
 | 0, _, _, _, h => h
 | fuel + 1, _, _, _, h => ⟨h.1, fun i hi => wpOp_mono (fun a' w' h' => wpAny_of_G fuel _ a' w' h'.2) (h.2 i hi)⟩
/-- the worlds in which operation i may still come up -/
def SReady (ops : Array Oper) (S : Array Bool → World → Prop) (i : Nat) (w : World) : Prop := ∃ listed, Closed ops listed ∧ i ∈ Region.ready .any ops listed ∧ S listed w
theorem wpAnyG_first {i : Nat} {oi : Oper} {v : Value} (hi : ops[i]? = some oi) (hsel : ∀ (j : Nat) (o : Oper) cs b, ops[j]? = some o → o.op ≠ .select cs b)
 (hQ : ∀ c a w, Q (.panic c) (a.put oi.dst v) w → Q (.panic c) a w) (hSi : ∀ listed w, S (listed.setIfInBounds i true) w → S listed w) :
 ∀ (fuel : Nat) (listed : Array Bool) (a : Act) (w : World),
  (∀ j oj, ops[j]? = some oj → j ≠ i → listed.getD j true = false → (∀ e ∈ oj.after, Region.binds .any e = true → e.on ≠ i) → oi.apart ops oj = true) →
  Closed ops listed → i ∈ Region.ready .any ops listed → YieldsIf P ops (SReady ops S i) oi v a → S listed w →
  S (listed.setIfInBounds i true) w → wpAnyG P ops Q S fuel (listed.setIfInBounds i true) (a.put oi.dst v) w → wpAnyG P ops Q S (fuel + 1) listed a w := by
 intro fuel
 induction fuel with
 | zero =>
  intro listed a w _ hc hr hy hS hS2 H
  refine ⟨fun h => (by rw [h] at hr; cases hr), fun j hj => ?_⟩
  by_cases hji : j = i
  · subst hji; exact hy.wpOp hi ⟨listed, hc, hr, hS⟩ ⟨hS2, H⟩
  · have := ready_mono hj hji
    rw [H.1] at this
    cases this
 | succ fuel ih =>
  intro listed a w hfree hc hr hy hS hS2 H
  refine ⟨fun h => (by rw [h] at hr; cases hr), fun j hj => ?_⟩
  by_cases hji : j = i
  · subst hji; exact hy.wpOp hi ⟨listed, hc, hr, hS⟩ ⟨hS2, H⟩
  · have h1 := H.2 j (ready_mono hj hji)
    obtain ⟨hjun, oj, hoj, hall⟩ := mem_ready.1 hj
    have hnot : ∀ e ∈ oj.after, Region.binds .any e = true → e.on ≠ i := fun e he hb heq => by
     have h1 := hall e he hb
     have h0 := (mem_ready.1 hr).1
     rw [heq] at h1
     rcases Nat.lt_or_ge i listed.size with h' | h'
     · simp [h'] at h0 h1; rw [h0] at h1; cases h1
     · simp [Array.getElem?_eq_none h'] at h1
    have h2 := wpOp_putIf hoj (hfree j oj hoj hji hjun hnot) (fun cs b => hsel i oi cs b hi) (fun cs b => hsel j oj cs b hoj) hQ hy h1
    have hfree' : ∀ k ok, ops[k]? = some ok → k ≠ i → (listed.setIfInBounds j true).getD k true = false →
     (∀ e ∈ ok.after, Region.binds .any e = true → e.on ≠ i) → oi.apart ops ok = true := fun k ok hk hki hun hno => by
     refine hfree k ok hk hki ?_ hno
     by_cases hjk : j = k
     · subst hjk; exact hjun
     · rw [getD_set_ne true hjk] at hun; exact hun
    refine wpOp_mono (fun a' w' h3 => ?_) h2
    obtain ⟨hy', hS', hG⟩ := h3
    rw [Array.setIfInBounds_comm _ _ (Ne.symm hji)] at hS' hG
    exact ⟨hSi _ _ hS', ih (listed.setIfInBounds j true) a' w' hfree' (closed_step hc hj) (ready_mono hr (Ne.symm hji)) hy' (hSi _ _ hS') hS' hG⟩
/-! ### The reads, then what is left -/
/-- operation t waits for operation i -/
def edgeTo (ops : Array Oper) (t i : Nat) : Bool := match ops[t]? with | some o => o.after.any (fun e => Region.binds .any e && e.on == i) | none => false
/-- so many of T may come up before i -/
def kmax (ops : Array Oper) (T : List Nat) (i : Nat) : Nat := (T.takeWhile fun t => !edgeTo ops t i).length
/-- so many of T have come up -/
def posT (T : List Nat) (listed : Array Bool) : Nat := (T.takeWhile fun t => listed.getD t false).length
variable {S' : Nat → World → Prop}
theorem takeWhile_le {α : Type} (p q : α → Bool) : ∀ (l : List α), (∀ x ∈ l, p x = true → q x = true) → (l.takeWhile p).length ≤ (l.takeWhile q).length
 | [], _ => Nat.le_refl _
 | x :: l, h => by
  simp only [List.takeWhile_cons]
  by_cases hp : p x = true
  · rw [if_pos hp, if_pos (h x (by simp) hp)]
    simp only [List.length_cons]
    have := takeWhile_le p q l fun y hy => h y (by simp [hy])
    omega
  · rw [if_neg hp]
    exact Nat.zero_le _
theorem posT_set {T : List Nat} {i : Nat} (hi : T.contains i = false) (listed : Array Bool) : posT T (listed.setIfInBounds i true) = posT T listed := by
 unfold posT
 congr 1
 have : ∀ t ∈ T, (listed.setIfInBounds i true).getD t false = listed.getD t false := fun t ht => by
  have hne : i ≠ t := by rintro rfl; simp at hi; exact hi ht
  exact getD_set_ne false hne
 clear hi
 induction T with
 | nil => rfl
 | cons t T ih =>
  simp only [List.takeWhile_cons, this t (by simp)]
  rw [ih fun y hy => this y (by simp [hy])]
theorem ready_pos {T : List Nat} {i : Nat} {listed : Array Bool} (hc : Closed ops listed) (hr : i ∈ Region.ready .any ops listed) : posT T listed ≤ kmax ops T i := by
 unfold posT kmax
 refine takeWhile_le _ _ T fun t _ ht => ?_
 cases he : edgeTo ops t i with
 | false => rfl
 | true =>
  exfalso
  unfold edgeTo at he
  cases ho : ops[t]? with
  | none => rw [ho] at he; cases he
  | some o =>
   rw [ho] at he
   simp only [Array.any_eq_true', Bool.and_eq_true, beq_iff_eq] at he
   obtain ⟨e, hm, hb, rfl⟩ := he
   have h1 := hc t o ho ht e hm hb
   have h0 := (mem_ready.1 hr).1
   rcases Nat.lt_or_ge e.on listed.size with h' | h'
   · simp [h'] at h0 h1; rw [h0] at h1; cases h1
   · simp [Array.getElem?_eq_none h'] at h1
end
end Go.Proofs.YtdcbjedkddgfkaaGreatDoor
