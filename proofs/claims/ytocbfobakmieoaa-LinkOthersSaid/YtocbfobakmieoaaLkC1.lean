/-
  LinkConserves: plain laws of its rounds. No condition.
-/
import Derived.Test.YtocbfobakmieoaaLkS1
import Derived.Test.YtocbfobakmieoaaMix
import Derived.Test.YtocbfobakmieoaaLnkP
namespace Go.Proofs.Ytocbfobakmieoaa
set_option linter.unusedVariables false
set_option linter.unusedSimpArgs false
set_option linter.unusedSectionVars false
open Go.RowKit

namespace Lnk
theorem mores_snoc (m : Msg) (e : Ev) (l : List Ev) : ∀ a : Air, mores a (l ++ [e]) m = mores a l m + more (runs a l).1 e m := by
  induction l with
  | nil => intro a; simp [mores, runs]
  | cons x l ih => intro a; simp only [List.cons_append, mores, runs, ih]; omega
theorem gones_snoc (m : Msg) (e : Ev) (l : List Ev) : ∀ a : Air, gones a (l ++ [e]) m = gones a l m + gone (runs a l).1 e m := by
  induction l with
  | nil => intro a; simp [gones, runs]
  | cons x l ih => intro a; simp only [List.cons_append, gones, runs, ih]; omega
theorem more_le (a : Air) (e : Ev) (m : Msg) : more a e m ≤ 1 := by
  unfold more
  repeat' split
  all_goals omega
theorem gone_le (a : Air) (e : Ev) (m : Msg) : gone a e m ≤ 1 := by
  unfold gone
  repeat' split
  all_goals omega
theorem mores_le (m : Msg) (l : List Ev) : ∀ a : Air, mores a l m ≤ l.length := by
  induction l with
  | nil => intro a; simp [mores]
  | cons x l ih => intro a; have := ih (next a x); have := more_le a x m; simp only [mores, List.length_cons]; omega
theorem gones_le (m : Msg) (l : List Ev) : ∀ a : Air, gones a l m ≤ l.length := by
  induction l with
  | nil => intro a; simp [gones]
  | cons x l ih => intro a; have := ih (next a x); have := gone_le a x m; simp only [gones, List.length_cons]; omega
theorem mores_step (a : Air) (l : List Ev) (m : Msg) {k : Nat} (h : k < l.length) : mores a (l.take (k + 1)) m = mores a (l.take k) m + more (runs a (l.take k)).1 l[k] m := by
  rw [List.take_succ_eq_append_getElem h, mores_snoc]
theorem gones_step (a : Air) (l : List Ev) (m : Msg) {k : Nat} (h : k < l.length) : gones a (l.take (k + 1)) m = gones a (l.take k) m + gone (runs a (l.take k)).1 l[k] m := by
  rw [List.take_succ_eq_append_getElem h, gones_snoc]
/-- the k-th error of a run -/
theorem runs_err (a : Air) (l : List Ev) {k : Nat} (h : k < l.length) : ∃ h' : k < (runs a l).2.2.length, (runs a l).2.2[k] = (do_ (runs a (l.take k)).1 l[k]).2.2 := by
  have e : l = l.take k ++ l[k] :: l.drop (k + 1) := by rw [← List.drop_eq_getElem_cons h, List.take_append_drop]
  refine ⟨by rw [runs_len]; exact h, ?_⟩
  have e2 : (runs a l).2.2 = (runs a (l.take k)).2.2 ++ (runs (runs a (l.take k)).1 (l[k] :: l.drop (k + 1))).2.2 := by
    conv => lhs; rw [e, runs_append]
  have hl : (runs a (l.take k)).2.2.length = k := by rw [runs_len, List.length_take]; omega
  simp only [e2]
  rw [List.getElem_append_right (by omega)]
  simp [hl, runs]
end Lnk

theorem slice_mid {P : Program} {T e : TypeId} {i : TypeInfo} (ht : P.underlying T = some (.slice e)) (hi : P.info? e = some i) {size : Nat} (hs : i.size = size) (g o n c k : Nat) (hk : k < c) (w : World) :
    (Instr.slice T (.slice (some ⟨g, o, none⟩) n c) (some (.int .i64 (k : Int))) (some (.int .i64 ((k + 1 : Nat) : Int))) none).run P w = .ok (.slice (some ⟨g, o + k * size, none⟩) 1 (c - k)) w := by
  have h1 : (k : Int) ≤ (k : Int) + 1 := by omega
  have h2 : ((k : Int) + 1) ≤ (c : Int) := by omega
  have h3 : (0 : Int) ≤ (k : Int) + 1 := by omega
  have h4 : ¬ c = k := by omega
  have h5 : ((k : Int) + 1).toNat = k + 1 := by omega
  simp [Instr.slice, Instr.sliceBounds, Instr.sliceBound, run_underlying ht, asIntOf, sizeOf, typeInfo, hi, hs, h1, h2, h3, h4, h5, Addr.add_lit]
theorem Evs.mid {w : World} {b off cap : Nat} {l : List Ev} (h : Evs w (.slice (some ⟨b, off, none⟩) l.length cap) l) {k : Nat} (hk : k < l.length) : Evs w (.slice (some ⟨b, off + k * 4, none⟩) 1 (cap - k)) [l[k]] := by
  obtain ⟨A, cap', xs, e, h1, h2, h3, h4⟩ := h
  cases e
  have h5 := h3.cut (k := k) (cap := cap) (by omega) h1
  rw [if_neg (by omega), Option.map_some, Addr.add_lit] at h5
  have h6 := h5.take_ (k := 1) (by omega)
  refine ⟨_, _, _, rfl, by simp; omega, by omega, h6, fun i x hx => ?_⟩
  obtain ⟨hi, rfl⟩ := List.getElem?_eq_some_iff.1 hx
  have : i = 0 := by simp at hi; omega
  subst this
  have := h4 k l[k] (List.getElem?_eq_getElem hk)
  simpa [List.take_take] using this
theorem run_one (a : Air) (e : Ev) (h : Lnk.right a = true) : Lnk.run a [e] = (Lnk.next a e, (Lnk.do_ a e).2.1, [(Lnk.do_ a e).2.2]) := by
  unfold Lnk.run
  rw [if_neg (by simp [h])]
  simp [Lnk.runs]
/-- an Air that reads in blocks of S -/
def AirS (S : Nat → Prop) (w : World) (v : Value) (a : Air) : Prop := ∃ v1 v2, v = .agg #[v1, v2] ∧ SliceOf S 3 RMsg w v1 a.ms ∧ SliceOf S 2 RPr w v2 a.cs
section
variable {w w' : World} {v : Value} {a : Air} {S S' F : Nat → Prop}
theorem SliceOf.lt_ {α : Type} {size : Nat} {R : World → List Value → α → Prop} {l : List α} (h : SliceOf S size R w v l) : SliceOf (fun k => k < w.heap.size) size R w v l := by
  obtain ⟨A, cap, xs, e, h1, h2, h3, h4⟩ := h
  refine ⟨A, cap, xs, e, h1, h2, ⟨h3.1, fun hn => ?_⟩, h4⟩
  obtain ⟨ad, e, _, hlt, hc⟩ := h3.2 hn
  exact ⟨ad, e, hlt, hlt, hc⟩
theorem AirV.lt_ (h : AirV w v a) : AirS (fun k => k < w.heap.size) w v a := by
  obtain ⟨v1, v2, e, h1, h2⟩ := h
  exact ⟨v1, v2, e, h1.lt_, h2.lt_⟩
theorem AirS.sup (h : AirS S w v a) (hS : ∀ k, S k → S' k) : AirS S' w v a := by
  obtain ⟨v1, v2, e, h1, h2⟩ := h
  exact ⟨v1, v2, e, h1.sup hS, h2.sup hS⟩
theorem AirS.air (h : AirS S w v a) : AirV w v a := h.sup fun _ _ => trivial
theorem AirS.only (h : AirS S w v a) (ho : Only F w w') (hF : ∀ k, S k → ¬ F k) : AirS S w' v a := by
  obtain ⟨v1, v2, e, h1, h2⟩ := h
  exact ⟨v1, v2, e, SliceOf.only h1 ho hF fun _ _ _ h => h, SliceOf.only h2 ho hF fun _ _ _ h => h⟩
theorem OwnAir.airS {base : Nat} (h : OwnAir base w v a) (hk : AirOk a) : AirS (fun k => base ≤ k) w v a := by
  obtain ⟨v1, v2, e, h1, h2⟩ := h
  refine ⟨v1, v2, e, ?_, ?_⟩
  · exact (SliceOf.of_own (R := RMsg) h1 fun i x hx => by
      obtain ⟨hi, rfl⟩ := List.getElem?_eq_some_iff.1 hx
      exact ⟨msgCells_get a.ms i hi, hk.1 _ (List.getElem_mem hi)⟩).sup fun k hk => (h1.lt k hk).1
  · exact (SliceOf.of_own (R := RPr) h2 fun i x hx => by
      obtain ⟨hi, rfl⟩ := List.getElem?_eq_some_iff.1 hx
      exact ⟨prCells_get a.cs i hi, hk.2 _ (List.getElem_mem hi)⟩).sup fun k hk => (h2.lt k hk).1
end
/-- one event more, of the Air that block n holds -/
def StepTo (wr : World) (n : Nat) (C : Air) (e : Ending) (w' : World) : Prop :=
  ∃ G1 p1 G2 p2 m es, e = .returned (.tuple #[.agg #[.slice G1 C.ms.length p1, .slice G2 C.cs.length p2], m, es]) ∧ AirS (fun j => j ≠ n) w' (.agg #[.slice G1 C.ms.length p1, .slice G2 C.cs.length p2]) C ∧ Only NoF wr w'
theorem step_call {wr W : World} {C : Air} {v : Value} (hA : AirV wr v C) (hr : Lnk.right C = true) (hc : C.cs.length ≤ 1000) {A : Option Addr} {cp : Nat} {e : Ev} (he : Evs wr (.slice A 1 cp) [e]) {n : Nat} (hn : n < wr.heap.size) (o : Only NoF wr W) :
    Calls Try.prog 24 #[v, .slice A 1 cp] W (StepTo wr n (Lnk.next C e)) := by
  refine (nRun_c (AirV.keep hA o) (Evs.keep he o) (by simp; omega)).mono ?_
  rw [run_one C e hr]
  rintro e w' ⟨v', m', es, rfl, ⟨hA', hk⟩, _, _, o'⟩
  have h := (hA'.airS hk).sup (S' := fun j => j ≠ n) fun j hj => by have := o.size; omega
  obtain ⟨v1, v2, rfl, h1, h2⟩ := h
  obtain ⟨G1, p1, rfl, _⟩ := SliceOf.shape h1
  obtain ⟨G2, p2, rfl, _⟩ := SliceOf.shape h2
  exact ⟨G1, p1, G2, p2, m', es, rfl, ⟨_, _, rfl, h1, h2⟩, o.trans' o'⟩
theorem only_put2 {w : World} {n : Nat} (v1 v2 : Value) : Only (oneF n) w ((w.setCell ⟨n, 0, none⟩ v1).setCell ⟨n, 1, none⟩ v2) :=
  ((Only.refl (oneF n) w).setCell (.inl (by show _ = _; rfl)) _).setCell (.inl (by show _ = _; rfl)) _
theorem run_op_slice2 {P : Program} {o : Oper} {a : Act} {w : World} {T : TypeId} {x lo hi : Operand} {v v1 v2 v3 : Value} (ho : o.op = .slice T x (some lo) (some hi) none) (h1 : a.eval x = v1) (h2 : a.eval lo = v2) (h3 : a.eval hi = v3) (ht : P.underlying T = some (.slice (P.elem T))) (hr : (Instr.slice T v1 (some v2) (some v3) none).run P w = .ok v w) : (execOp a.eval o).run P w = .ok (.value v) w := by
  unfold execOp
  simp only [ho, Option.map_some, Option.map_none, h1, h2, h3]
  simp [run_sliceAt_slice _ T _ _ _ _ ht, hr]
end Go.Proofs.Ytocbfobakmieoaa
