/-
  LinkOthers, the plain law: own of a row of messages. No condition.
-/
import Derived.Test.YtocbfobakmieoaaLkV1
namespace Go.Proofs.Ytocbfobakmieoaa
set_option linter.unusedVariables false
set_option linter.unusedSimpArgs false
set_option linter.unusedSectionVars false
open Go.RowKit

namespace Lnk
def betw (x y : Int) (m : Msg) : Bool := (decide (m.a = x) && decide (m.b = y)) || (decide (m.a = y) && decide (m.b = x))
theorem own_erase_out {α : Type} (p : α → Bool) : ∀ (l : List α) (i : Nat) (h : i < l.length), p l[i] = false → (l.eraseIdx i).filter p = l.filter p
  | x :: l, 0, h, hp => by simp only [List.getElem_cons_zero] at hp; simp [List.filter_cons, hp]
  | x :: l, i + 1, h, hp => by
    simp only [List.getElem_cons_succ] at hp
    simp only [List.eraseIdx_cons_succ, List.filter_cons, own_erase_out p l i (by simpa using h) hp]
theorem own_erase_in {α : Type} (p : α → Bool) : ∀ (l : List α) (i : Nat) (h : i < l.length), p l[i] = true → (l.eraseIdx i).filter p = (l.filter p).eraseIdx ((l.take i).filter p).length
  | x :: l, 0, h, hp => by simp only [List.getElem_cons_zero] at hp; simp [List.filter_cons, hp]
  | x :: l, i + 1, h, hp => by
    simp only [List.getElem_cons_succ] at hp
    have ih := own_erase_in p l i (by simpa using h) hp
    cases hx : p x <;> simp [List.filter_cons, hx, ih]
theorem own_get {α : Type} (p : α → Bool) : ∀ (l : List α) (i : Nat) (h : i < l.length), p l[i] = true → (l.filter p)[((l.take i).filter p).length]? = some l[i]
  | x :: l, 0, h, hp => by simp only [List.getElem_cons_zero] at hp; simp [List.filter_cons, hp]
  | x :: l, i + 1, h, hp => by
    simp only [List.getElem_cons_succ] at hp
    have ih := own_get p l i (by simpa using h) hp
    cases hx : p x <;> simp [List.filter_cons, hx, ih]
/-- the pair's share of an air -/
def Sim (x y : Int) (n a : Air) : Prop :=
  n.ms.filter (betw x y) = a.ms ∧ isCut n x y = isCut a x y ∧ right n = true ∧ right a = true
theorem sim_without {x y : Int} {n a : Air} {i : Nat} (h : i < n.ms.length) (hs : n.ms.filter (betw x y) = a.ms) (hp : betw x y n.ms[i] = true) :
    (n.ms.eraseIdx i).filter (betw x y) = a.ms.eraseIdx ((n.ms.take i).filter (betw x y)).length := by
  rw [own_erase_in _ _ _ h hp, hs]
theorem sim_msg {x y : Int} {n a : Air} {i : Nat} (h : i < n.ms.length) (hs : n.ms.filter (betw x y) = a.ms) (hp : betw x y n.ms[i] = true) :
    a.ms[((n.ms.take i).filter (betw x y)).length]? = some n.ms[i] := by
  rw [← hs]; exact own_get _ _ _ h hp
theorem betw_pair {x y : Int} {m : Msg} (h : betw x y m = true) : pair m.a m.b = pair x y := by
  simp only [betw, Bool.or_eq_true, Bool.and_eq_true, decide_eq_true_eq] at h
  rcases h with ⟨h1, h2⟩ | ⟨h1, h2⟩
  · rw [h1, h2]
  · rw [h1, h2, pair_comm]
theorem sim_snoc_in {x y : Int} {n a : Air} {m : Msg} (hs : n.ms.filter (betw x y) = a.ms) (hp : betw x y m = true) : (n.ms ++ [m]).filter (betw x y) = a.ms ++ [m] := by
  rw [List.filter_append, hs]; simp [hp]
theorem sim_snoc_out {x y : Int} {n a : Air} {m : Msg} (hs : n.ms.filter (betw x y) = a.ms) (hp : betw x y m = false) : (n.ms ++ [m]).filter (betw x y) = a.ms := by
  rw [List.filter_append, hs]; simp [hp]
theorem isCut_ins {a : Air} {u v x y : Int} : isCut { a with cs := insC (pair u v) a.cs } x y = (decide (pair x y = pair u v) || isCut a x y) := by
  simp only [isCut, mem_ins, Bool.decide_or]
theorem isCut_heal {a : Air} {u v x y : Int} : isCut { a with cs := a.cs.filter fun q => q != pair u v } x y = (decide (pair x y ≠ pair u v) && isCut a x y) := by
  simp only [isCut, List.mem_filter, bne_iff_ne, ne_eq, Bool.and_comm, Bool.decide_and]
theorem isCut_betw {a : Air} {x y : Int} {m : Msg} (h : betw x y m = true) : isCut a m.a m.b = isCut a x y := by
  simp only [isCut, betw_pair h]
theorem sim_bad {x y : Int} {n a : Air} {i : Nat} (h : i < n.ms.length) (hs : Sim x y n a) (hp : betw x y n.ms[i] = true) :
    bad a ((n.ms.take i).filter (betw x y)).length = 0 ∧ bad n (i : Int) = 0 := by
  have h1 := sim_msg h hs.1 hp
  obtain ⟨h2, -⟩ := List.getElem?_eq_some_iff.1 h1
  constructor
  · simp only [bad, hs.2.2.2]
    rw [if_neg (by decide), if_neg (by omega)]
  · simp only [bad, hs.2.2.1]
    rw [if_neg (by decide), if_neg (by omega)]
theorem msg_getD {a : Air} {i : Nat} {m : Msg} (h : a.ms[i]? = some m) : msg a (i : Int) = m := by
  simp only [msg, Int.toNat_natCast, List.getD_eq_getElem?_getD, h, Option.getD_some]
/-- a delivery of a message of the pair -/
theorem sim_deliver {x y : Int} {n a : Air} {i : Nat} (h : i < n.ms.length) (hs : Sim x y n a) (hp : betw x y n.ms[i] = true) :
    (deliver n (i : Int)).2.2 = (deliver a ((n.ms.take i).filter (betw x y)).length).2.2 ∧ (deliver n (i : Int)).2.1 = (deliver a ((n.ms.take i).filter (betw x y)).length).2.1 ∧
    ((deliver n (i : Int)).2.2 = 0 → Sim x y (deliver n (i : Int)).1 (deliver a ((n.ms.take i).filter (betw x y)).length).1) := by
  obtain ⟨hb, hb'⟩ := sim_bad h hs hp
  have h1 := sim_msg h hs.1 hp
  have e1 := msg_getD h1
  have e2 : msg n (i : Int) = n.ms[i] := msg_getD (List.getElem?_eq_getElem h)
  simp only [deliver, hb, hb', ne_eq, not_true, if_false, e1, e2, isCut_betw hp, hs.2.1]
  cases hc : isCut a x y
  · refine ⟨rfl, rfl, fun _ => ⟨?_, ?_, right_without hs.2.2.1, right_without hs.2.2.2⟩⟩
    · simp only [Bool.false_eq_true, if_false, without, Int.toNat_natCast]
      exact sim_without h hs.1 hp
    · simpa only [Bool.false_eq_true, if_false, without, isCut] using hs.2.1
  · exact ⟨rfl, rfl, fun h => absurd h (by simp)⟩
theorem sim_lose {x y : Int} {n a : Air} {i : Nat} (h : i < n.ms.length) (hs : Sim x y n a) (hp : betw x y n.ms[i] = true) :
    (lose n (i : Int)).2 = (lose a ((n.ms.take i).filter (betw x y)).length).2 ∧ Sim x y (lose n (i : Int)).1 (lose a ((n.ms.take i).filter (betw x y)).length).1 := by
  obtain ⟨hb, hb'⟩ := sim_bad h hs hp
  simp only [lose, hb, hb', ne_eq, not_true, if_false]
  refine ⟨trivial, ?_, ?_, right_without hs.2.2.1, right_without hs.2.2.2⟩
  · simp only [without, Int.toNat_natCast]
    exact sim_without h hs.1 hp
  · exact hs.2.1
theorem sim_with {x y : Int} {n a : Air} {m : Msg} (hs : Sim x y n a) (hp : betw x y m = true) (hm : rightM m = true) (hn : n.ms.length < 1000) :
    (with_ n m).2 = (with_ a m).2 ∧ Sim x y (with_ n m).1 (with_ a m).1 := by
  have hl : a.ms.length < 1000 := by
    rw [← hs.1]; exact Nat.lt_of_le_of_lt (List.length_filter_le _ _) hn
  have r1 : right (with_ n m).1 = true := right_with hs.2.2.1 hm (by simp only [with_, if_neg (Nat.not_le.2 hn)])
  have r2 : right (with_ a m).1 = true := right_with hs.2.2.2 hm (by simp only [with_, if_neg (Nat.not_le.2 hl)])
  refine ⟨by simp only [with_, if_neg (Nat.not_le.2 hn), if_neg (Nat.not_le.2 hl)], ?_, ?_, r1, r2⟩
  · simp only [with_, if_neg (Nat.not_le.2 hn), if_neg (Nat.not_le.2 hl)]
    exact sim_snoc_in hs.1 hp
  · simp only [with_, if_neg (Nat.not_le.2 hn), if_neg (Nat.not_le.2 hl)]
    exact hs.2.1
theorem sim_double {x y : Int} {n a : Air} {i : Nat} (h : i < n.ms.length) (hs : Sim x y n a) (hp : betw x y n.ms[i] = true) (hn : n.ms.length < 1000) :
    (double n (i : Int)).2 = (double a ((n.ms.take i).filter (betw x y)).length).2 ∧ Sim x y (double n (i : Int)).1 (double a ((n.ms.take i).filter (betw x y)).length).1 := by
  obtain ⟨hb, hb'⟩ := sim_bad h hs hp
  have e1 := msg_getD (sim_msg h hs.1 hp)
  have e2 : msg n (i : Int) = n.ms[i] := msg_getD (List.getElem?_eq_getElem h)
  simp only [double, hb, hb', ne_eq, not_true, if_false, e1, e2]
  exact sim_with hs hp ((right_iff.1 hs.2.2.1).2.2.2 _ (List.getElem_mem h)) hn
/-! ### one event -/
/-- the event with its message's place among the pair's own -/
def inn (n : Air) (i : Int) : Prop := 0 ≤ i ∧ i < (n.ms.length : Int)
theorem betw_iff_pair {x y u v : Int} {t : Str} : betw x y ⟨u, v, t⟩ = true ↔ pair u v = pair x y := by
  constructor
  · exact fun h => betw_pair h
  · intro h
    simp only [pair, Pr.mk.injEq] at h
    simp only [betw, Bool.or_eq_true, Bool.and_eq_true, decide_eq_true_eq]
    omega
theorem sim_cut {x y u v : Int} {n a : Air} (hs : Sim x y n a) (hp : pair u v = pair x y) : (cut n u v).2 = (cut a u v).2 ∧ ((cut n u v).2 = 0 → Sim x y (cut n u v).1 (cut a u v).1) := by
  obtain ⟨h1, h2, h3, h4⟩ := hs
  have hc : isCut n u v = isCut a u v := by simpa only [isCut, hp] using h2
  have g1 := right_next h3 ⟨4, u, v, []⟩
  have g2 := right_next h4 ⟨4, u, v, []⟩
  simp only [next, do_] at g1 g2
  simp only [cut, h3, h4, hc, Bool.true_eq_false, false_or] at g1 g2 ⊢
  cases hh : houses u v <;> simp only [hh, if_true, if_false, Bool.true_eq_false] at g1 g2 ⊢
  · exact ⟨trivial, fun h => absurd h (by decide)⟩
  · cases hk : isCut a u v <;> simp only [hk, if_true, if_false, Bool.false_eq_true] at g1 g2 ⊢
    · refine ⟨trivial, fun _ => ⟨h1, ?_, ?_, ?_⟩⟩
      · rw [isCut_ins, isCut_ins, h2]
      · simpa using g1
      · simpa using g2
    · exact ⟨trivial, fun h => absurd h (by decide)⟩
theorem sim_heal {x y u v : Int} {n a : Air} (hs : Sim x y n a) (hp : pair u v = pair x y) : (heal n u v).2 = (heal a u v).2 ∧ ((heal n u v).2 = 0 → Sim x y (heal n u v).1 (heal a u v).1) := by
  obtain ⟨h1, h2, h3, h4⟩ := hs
  have hc : isCut n u v = isCut a u v := by simpa only [isCut, hp] using h2
  have g1 := right_next h3 ⟨5, u, v, []⟩
  have g2 := right_next h4 ⟨5, u, v, []⟩
  simp only [next, do_] at g1 g2
  simp only [heal, h3, h4, hc, Bool.true_eq_false, false_or] at g1 g2 ⊢
  cases hh : houses u v <;> simp only [hh, if_true, if_false, Bool.true_eq_false] at g1 g2 ⊢
  · exact ⟨trivial, fun h => absurd h (by decide)⟩
  · cases hk : isCut a u v <;> simp only [hk, if_true, if_false, Bool.true_eq_false] at g1 g2 ⊢
    · exact ⟨trivial, fun h => absurd h (by decide)⟩
    · refine ⟨trivial, fun _ => ⟨h1, ?_, ?_, ?_⟩⟩
      · rw [isCut_heal, isCut_heal, h2]
      · simpa using g1
      · simpa using g2
theorem sim_send {x y : Int} {n a : Air} {m : Msg} (hs : Sim x y n a) (hp : betw x y m = true) (hn : n.ms.length < 1000) : (send n m).2 = (send a m).2 ∧ ((send n m).2 = 0 → Sim x y (send n m).1 (send a m).1) := by
  simp only [send, hs.2.2.1, hs.2.2.2, Bool.true_eq_false, false_or]
  cases hm : rightM m <;> simp only [if_true, if_false, Bool.true_eq_false]
  · exact ⟨trivial, fun h => absurd h (by decide)⟩
  · obtain ⟨h1, h2⟩ := sim_with hs hp hm hn
    exact ⟨h1, fun _ => h2⟩
/-- the place of a message among the pair's own -/
def plc (x y : Int) (n : Air) (i : Int) : Int := ((n.ms.take i.toNat).filter (betw x y)).length
/-- the event is about the pair; e' is what is asked of the pair alone -/
inductive Mine (x y : Int) (n : Air) (e : Ev) : Ev → Prop
  | pair (h : e.k = 0 ∨ e.k = 4 ∨ e.k = 5) (hp : betw x y ⟨e.a, e.b, []⟩ = true) : Mine x y n e e
  | msg (h : e.k = 1 ∨ e.k = 2 ∨ e.k = 3) (i : Nat) (m : Msg) (hi : e.a = (i : Int)) (hm : n.ms[i]? = some m) (hp : betw x y m = true) : Mine x y n e ⟨e.k, ((n.ms.take i).filter (betw x y)).length, e.b, e.t⟩
/-- the event is not about the pair -/
inductive Not (x y : Int) (n : Air) (e : Ev) : Prop
  | pair (h : e.k = 0 ∨ e.k = 4 ∨ e.k = 5) (hp : betw x y ⟨e.a, e.b, []⟩ = false)
  | msg (h : e.k = 1 ∨ e.k = 2 ∨ e.k = 3) (i : Nat) (m : Msg) (hi : e.a = (i : Int)) (hm : n.ms[i]? = some m) (hp : betw x y m = false)
  | far (h : e.k = 1 ∨ e.k = 2 ∨ e.k = 3) (hi : ¬ (0 ≤ e.a ∧ e.a < n.ms.length))
  | other (h : ¬ (e.k = 0 ∨ e.k = 4 ∨ e.k = 5)) (h2 : ¬ (e.k = 1 ∨ e.k = 2 ∨ e.k = 3))
theorem sim_in {x y : Int} {n a : Air} {e e' : Ev} (hm : Mine x y n e e') (hs : Sim x y n a) (hn : n.ms.length < 1000) :
    (do_ n e).2.2 = (do_ a e').2.2 ∧ (do_ n e).2.1.filter (betw x y) = (do_ a e').2.1 ∧ Sim x y (next n e) (next a e') := by
  cases hm with
  | pair h hp =>
    have hp' : betw x y ⟨e.a, e.b, e.t⟩ = true := hp
    have hq := betw_iff_pair.1 hp
    rcases h with h | h | h
    · obtain ⟨h1, h2⟩ := sim_send hs hp' hn
      simp only [next, do_, h, if_true]
      refine ⟨h1, rfl, ?_⟩
      by_cases h0 : (send n ⟨e.a, e.b, e.t⟩).2 = 0
      · rw [if_pos h0, if_pos (by rw [← h1]; exact h0)]; exact h2 h0
      · rw [if_neg h0, if_neg (by rw [← h1]; exact h0)]; exact hs
    · obtain ⟨h1, h2⟩ := sim_cut hs hq
      have d : ∀ a, do_ a e = ((cut a e.a e.b).1, [], (cut a e.a e.b).2) := fun a => by simp [do_, h]
      simp only [next, d]
      refine ⟨h1, rfl, ?_⟩
      by_cases h0 : (cut n e.a e.b).2 = 0
      · rw [if_pos h0, if_pos (h1 ▸ h0)]; exact h2 h0
      · rw [if_neg h0, if_neg (by rw [← h1]; exact h0)]; exact hs
    · obtain ⟨h1, h2⟩ := sim_heal hs hq
      have d : ∀ a, do_ a e = ((heal a e.a e.b).1, [], (heal a e.a e.b).2) := fun a => by simp [do_, h]
      simp only [next, d]
      refine ⟨h1, rfl, ?_⟩
      by_cases h0 : (heal n e.a e.b).2 = 0
      · rw [if_pos h0, if_pos (h1 ▸ h0)]; exact h2 h0
      · rw [if_neg h0, if_neg (by rw [← h1]; exact h0)]; exact hs
  | msg h i m hi hm hp =>
    obtain ⟨hl, rfl⟩ := List.getElem?_eq_some_iff.1 hm
    rcases h with h | h | h
    · obtain ⟨h1, h2, h3⟩ := sim_deliver hl hs hp
      simp only [next, do_, h, hi, ← h1, ← h2]
      by_cases h0 : (deliver n (i : Int)).2.2 = 0
      · refine ⟨rfl, ?_, ?_⟩
        · simp only [h0, if_true, reduceIte]
          have hq : betw x y (deliver n (i : Int)).2.1 = true := by
            have : (deliver n (i : Int)).2.1 = n.ms[i] := by
              obtain ⟨_, hb'⟩ := sim_bad hl hs hp
              have e2 : Lnk.msg n (i : Int) = n.ms[i] := msg_getD (List.getElem?_eq_getElem hl)
              unfold deliver at h0 ⊢
              rw [if_neg (by simpa using hb')] at h0 ⊢
              split
              · rename_i hc; rw [if_pos hc] at h0; exact absurd h0 (by decide)
              · exact e2
            rw [this]; exact hp
          simp [hq]
        · simpa [h0] using h3 h0
      · refine ⟨rfl, by simp [h0], by simpa [h0] using hs⟩
    · obtain ⟨h1, h2⟩ := sim_lose hl hs hp
      simp only [next, do_, h, hi, ← h1]
      refine ⟨rfl, rfl, ?_⟩
      by_cases h0 : (lose n (i : Int)).2 = 0
      · simpa [h0] using h2
      · simpa [h0] using hs
    · obtain ⟨h1, h2⟩ := sim_double hl hs hp hn
      simp only [next, do_, h, hi, ← h1]
      refine ⟨rfl, rfl, ?_⟩
      by_cases h0 : (double n (i : Int)).2 = 0
      · simpa [h0] using h2
      · simpa [h0] using hs
theorem bad_far {n : Air} {i : Int} (hr : right n = true) (hi : ¬ (0 ≤ i ∧ i < n.ms.length)) : bad n i = 4 := by
  unfold bad
  rw [if_neg (by simp [hr]), if_pos (by omega)]
theorem bad_near {n : Air} {i : Nat} (hr : right n = true) (hi : i < n.ms.length) : bad n (i : Int) = 0 := by
  unfold bad
  rw [if_neg (by simp [hr]), if_neg (by omega)]
theorem sim_out {x y : Int} {n a : Air} {e : Ev} (hm : Not x y n e) (hs : Sim x y n a) (hn : n.ms.length < 1000) :
    (do_ n e).2.1.filter (betw x y) = [] ∧ Sim x y (next n e) a := by
  have hr := right_next hs.2.2.1 e
  have hl1000 : ¬ 1000 ≤ n.ms.length := by omega
  suffices h : (do_ n e).2.1.filter (betw x y) = [] ∧ (next n e).ms.filter (betw x y) = n.ms.filter (betw x y) ∧ isCut (next n e) x y = isCut n x y from
    ⟨h.1, h.2.1.trans hs.1, h.2.2.trans hs.2.1, hr, hs.2.2.2⟩
  have hR := hs.2.2.1
  clear hr hs
  cases hm with
  | pair h hp =>
    have hp' : betw x y ⟨e.a, e.b, e.t⟩ = false := hp
    have hq : pair x y ≠ pair e.a e.b := fun h => by
      rw [betw_iff_pair.2 h.symm] at hp; cases hp
    rcases h with h | h | h
    · simp only [next, do_, h, if_true, send, with_, hl1000, hR, Bool.true_eq_false, false_or, if_false]
      refine ⟨rfl, ?_, ?_⟩
      · cases hm : rightM ⟨e.a, e.b, e.t⟩ <;> simp [hp']
      · cases hm : rightM ⟨e.a, e.b, e.t⟩ <;> simp [isCut]
    · simp only [next, do_, h, cut, hR, Bool.true_eq_false, false_or]
      refine ⟨rfl, ?_, ?_⟩
      · cases hh : houses e.a e.b <;> cases hk : isCut n e.a e.b <;> simp
      · cases hh : houses e.a e.b <;> cases hk : isCut n e.a e.b <;> simp [isCut_ins, hq]
    · simp only [next, do_, h, heal, hR, Bool.true_eq_false, false_or]
      refine ⟨rfl, ?_, ?_⟩
      · cases hh : houses e.a e.b <;> cases hk : isCut n e.a e.b <;> simp
      · cases hh : houses e.a e.b <;> cases hk : isCut n e.a e.b <;> simp [isCut_heal, hq]
  | msg h i m hi hm hp =>
    obtain ⟨hl, rfl⟩ := List.getElem?_eq_some_iff.1 hm
    have e2 : Lnk.msg n (i : Int) = n.ms[i] := msg_getD (List.getElem?_eq_getElem hl)
    have hb := bad_near hR hl
    rcases h with h | h | h
    · simp only [next, do_, h, hi, deliver, hb, e2]
      refine ⟨?_, ?_, ?_⟩
      · cases hk : isCut n n.ms[i].a n.ms[i].b <;> simp [hp]
      · cases hk : isCut n n.ms[i].a n.ms[i].b <;> simp [without, own_erase_out _ _ _ hl hp]
      · cases hk : isCut n n.ms[i].a n.ms[i].b <;> simp [without, isCut]
    · simp only [next, do_, h, hi, lose, hb]
      exact ⟨rfl, by simp [without, own_erase_out _ _ _ hl hp], by simp [without, isCut]⟩
    · simp only [next, do_, h, hi, double, hb, e2, with_, hl1000]
      exact ⟨rfl, by simp [hp], by simp [isCut]⟩
  | far h hi =>
    have hb := bad_far hR hi
    rcases h with h | h | h
    · simp [next, do_, h, deliver, hb]
    · simp [next, do_, h, lose, hb]
    · simp [next, do_, h, double, hb]
  | other h h2 =>
    have g0 : ¬ e.k = 0 := by omega
    have g1 : ¬ e.k = 1 := by omega
    have g2 : ¬ e.k = 2 := by omega
    have g3 : ¬ e.k = 3 := by omega
    have g4 : ¬ e.k = 4 := by omega
    have g5 : ¬ e.k = 5 := by omega
    simp [next, do_, g0, g1, g2, g3, g4, g5]
theorem next_len {n : Air} {e : Ev} : (next n e).ms.length ≤ n.ms.length + 1 := by
  unfold next do_ send deliver lose double with_ without cut heal
  have := List.length_eraseIdx_le n.ms e.a.toNat
  grind [none_]
end Lnk
end Go.Proofs.Ytocbfobakmieoaa
