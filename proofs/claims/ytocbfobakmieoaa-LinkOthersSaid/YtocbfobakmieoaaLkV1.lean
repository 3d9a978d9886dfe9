/-
  The link's Run and the plain laws of LinkConserves' rounds, in the words of the calculus of small steps. No condition.
-/
import Derived.Test.YtocbfobakmieoaaLv
import Derived.Test.YtocbfobakmieoaaLkC1
import Derived.Test.YtocbfobakmieoaaLkW9
namespace Go.Proofs.Ytocbfobakmieoaa
set_option linter.unusedVariables false
set_option linter.unusedSimpArgs false
set_option linter.unusedSectionVars false
open Go.RowKit

theorem zeroAir (w : World) : (zeroValue 25).run Try.prog w = .ok (.agg #[.slice none 0 0, .slice none 0 0]) w := by kernel_rfl
theorem zeroEv (w : World) : (zeroValue 48).run Try.prog w = .ok (.agg #[.int .i64 0, .int .i64 0, .int .i64 0, strV []]) w := by kernel_rfl
/-- what a Run gives: a fresh Air, what came, the errors -/
def RunV (w : World) (r : Air × List Msg × List Int) (e : Ending) (w' : World) : Prop :=
  ∃ A1 c1 A2 c2 A3 c3 A4 c4, e = .returned (.tuple #[.agg #[.slice A1 r.1.ms.length c1, .slice A2 r.1.cs.length c2], .slice A3 r.2.1.length c3, .slice A4 r.2.2.length c4]) ∧
    SliceOf (geB w.heap.size) 3 RMsg w' (.slice A1 r.1.ms.length c1) r.1.ms ∧ SliceOf (geB w.heap.size) 2 RPr w' (.slice A2 r.1.cs.length c2) r.1.cs ∧ SliceOf (geB w.heap.size) 3 RMsg w' (.slice A3 r.2.1.length c3) r.2.1 ∧ SliceOf (geB w.heap.size) 1 RInt w' (.slice A4 r.2.2.length c4) r.2.2 ∧ Only NoF w w'
section
variable {w : World} {v1 v2 : Value} {a : Air} {l : List Ev}
theorem Run_v (h1 : AirV w v1 a) (h2 : Evs w v2 l) (hr : Lnk.right a = true) (hc : a.cs.length + l.length ≤ 1000000) : Calls Try.prog 24 #[v1, v2] w (RunV w (Lnk.runs a l)) := by
  refine (nRun_c h1 h2 hc).mono ?_
  have e : Lnk.run a l = Lnk.runs a l := by unfold Lnk.run; rw [if_neg (by simp [hr])]
  rw [e]
  rintro e w' ⟨v', m', es, rfl, ⟨hA', hk⟩, h3, h4, o'⟩
  obtain ⟨v1, v2, rfl, h1, h2⟩ := hA'.airS hk
  obtain ⟨A1, c1, rfl, _⟩ := SliceOf.shape h1
  obtain ⟨A2, c2, rfl, _⟩ := SliceOf.shape h2
  obtain ⟨A3, c3, rfl, _⟩ := SliceOf.shape h3
  obtain ⟨A4, c4, rfl, _⟩ := SliceOf.shape h4
  exact ⟨A1, c1, A2, c2, A3, c3, A4, c4, rfl, h1, h2, h3, h4, o'⟩
theorem Run_v0 (h1 : AirV w v1 a) (h2 : Evs w v2 l) (hc : a.cs.length + l.length ≤ 1000000) : Calls Try.prog 24 #[v1, v2] w (RunV w (Lnk.run a l)) := by
  refine (nRun_c h1 h2 hc).mono ?_
  rintro e w' ⟨v', m', es, rfl, ⟨hA', hk⟩, h3, h4, o'⟩
  obtain ⟨v1, v2, rfl, h1, h2⟩ := hA'.airS hk
  obtain ⟨A1, c1, rfl, _⟩ := SliceOf.shape h1
  obtain ⟨A2, c2, rfl, _⟩ := SliceOf.shape h2
  obtain ⟨A3, c3, rfl, _⟩ := SliceOf.shape h3
  obtain ⟨A4, c4, rfl, _⟩ := SliceOf.shape h4
  exact ⟨A1, c1, A2, c2, A3, c3, A4, c4, rfl, h1, h2, h3, h4, o'⟩
theorem Run_v1 {x : Ev} (h1 : AirV w v1 a) (h2 : Evs w v2 [x]) (hr : Lnk.right a = true) (hc : a.cs.length ≤ 1000) : Calls Try.prog 24 #[v1, v2] w (RunV w (Lnk.next a x, (Lnk.do_ a x).2.1, [(Lnk.do_ a x).2.2])) := by
  have := Run_v h1 h2 hr (by simp; omega)
  have e : Lnk.runs a [x] = (Lnk.next a x, (Lnk.do_ a x).2.1, [(Lnk.do_ a x).2.2]) := by simp [Lnk.runs]
  rwa [e] at this
end
theorem kSame_eq {w : World} {v1 v2 : Value} {a b : Air} (h1 : AirV w v1 a) (h2 : AirV w v2 b) (e : a = b) : Calls Try.prog 13 #[v1, v2] w (BoolTo w true) := by
  subst e; exact kSame_same h1 h2
theorem kSameM_eq {w : World} {v1 v2 : Value} {a b : List Msg} (h1 : Msgs w v1 a) (h2 : Msgs w v2 b) (e : a = b) : Calls Try.prog 26 #[v1, v2] w (BoolTo w true) := by
  subst e; exact kSameM_same h1 h2
theorem kSameE_eq {w : World} {v1 v2 : Value} {a b : List Int} (h1 : Errs w v1 a) (h2 : Errs w v2 b) (e : a = b) : Calls Try.prog 27 #[v1, v2] w (BoolTo w true) := by
  subst e; exact kSameE_same h1 h2
namespace Lnk
theorem mores_st {a : Air} {l : List Ev} {k : Nat} {x : Ev} (h : l[k]? = some x) (m : Msg) : mores a (l.take (k + 1)) m = mores a (l.take k) m + more (runs a (l.take k)).1 x m := by
  obtain ⟨hk, rfl⟩ := List.getElem?_eq_some_iff.1 h
  exact mores_step a l m hk
theorem gones_st {a : Air} {l : List Ev} {k : Nat} {x : Ev} (h : l[k]? = some x) (m : Msg) : gones a (l.take (k + 1)) m = gones a (l.take k) m + gone (runs a (l.take k)).1 x m := by
  obtain ⟨hk, rfl⟩ := List.getElem?_eq_some_iff.1 h
  exact gones_step a l m hk
theorem err_st {a : Air} {l : List Ev} {k : Nat} {x : Ev} (h : l[k]? = some x) {n : Int} (hn : (runs a l).2.2[k]? = some n) : n = (do_ (runs a (l.take k)).1 x).2.2 := by
  obtain ⟨hk, rfl⟩ := List.getElem?_eq_some_iff.1 h
  obtain ⟨hk', rfl⟩ := List.getElem?_eq_some_iff.1 hn
  exact (runs_err a l hk).2
theorem runs_st {a : Air} {l : List Ev} {k : Nat} {x : Ev} (h : l[k]? = some x) : (runs a (l.take (k + 1))).1 = next (runs a (l.take k)).1 x := by
  obtain ⟨hk, rfl⟩ := List.getElem?_eq_some_iff.1 h
  rw [runs_step a l k hk]
theorem cuts_st (a : Air) (l : List Ev) {k : Nat} (hk : k ≤ l.length) : (runs a (l.take k)).1.cs.length ≤ a.cs.length + k := by
  have := runs_cuts a (l.take k)
  rw [List.length_take, Nat.min_eq_left hk] at this
  exact this
theorem msg_of {C : Air} {x : Ev} {y : Msg} {n : Nat} (h : C.ms[n]? = some y) (hn : x.a = (n : Int)) : y = msg C x.a := by
  obtain ⟨hk, rfl⟩ := List.getElem?_eq_some_iff.1 h
  rw [hn]
  simp [msg, List.getD_eq_getElem?_getD, hk]
theorem leaf_more {C : Air} {x : Ev} {m y : Msg} {en mo mo1 : Int} (b3 b6 : Bool) (hd : en = (do_ C x).2.2) (h3 : (decide (en = 0) && (decide (x.k = 2) || decide (x.k = 3))) = b3)
    (h6 : b3 = true → y = msg C x.a ∧ (decide (y = m) && decide (x.k = 3)) = b6) (h : mo1 = mo + if b3 && b6 then 1 else 0) :
    mo1 + (if (do_ C x).2.2 = 0 ∧ x.k = 0 ∧ (⟨x.a, x.b, x.t⟩ : Msg) = m then 1 else 0) = mo + (more C x m : Nat) := by
  unfold more
  rw [← hd]
  subst h
  cases b3 <;> cases b6 <;> grind
theorem leaf_gone {C : Air} {x : Ev} {m y : Msg} {en go go1 : Int} (b3 b5 : Bool) (hd : en = (do_ C x).2.2) (h3 : (decide (en = 0) && (decide (x.k = 2) || decide (x.k = 3))) = b3)
    (h5 : b3 = true → y = msg C x.a ∧ (decide (y = m) && decide (x.k = 2)) = b5) (h : go1 = go + if b3 && b5 then 1 else 0) : go1 = go + (gone C x m : Nat) := by
  unfold gone
  rw [← hd]
  subst h
  cases b3 <;> cases b5 <;> grind
theorem leaf_send {C : Air} {x : Ev} {m : Msg} {en : Int} (b7 : Bool) (hd : en = (do_ C x).2.2) (h7 : ((((decide (en = 0) && decide (x.k = 0)) && decide (x.a = m.a)) && decide (x.b = m.b)) && decide (x.t = m.t)) = b7) :
    (if (do_ C x).2.2 = 0 ∧ x.k = 0 ∧ (⟨x.a, x.b, x.t⟩ : Msg) = m then (1 : Int) else 0) = if b7 then 1 else 0 := by
  rw [← hd]
  cases m
  cases b7 <;> grind
end Lnk
end Go.Proofs.Ytocbfobakmieoaa
