/-
  The link's single calls in the words of the calculus of small steps, and the plain laws of LinkCuts. No condition.
-/
import Derived.Test.YtocbfobakmieoaaLkV1
import Derived.Test.YtocbfobakmieoaaLnkP
namespace Go.Proofs.Ytocbfobakmieoaa
set_option linter.unusedVariables false
set_option linter.unusedSimpArgs false
set_option linter.unusedSectionVars false
open Go.RowKit

/-- an Air of fresh blocks and an errno -/
def AirT (w : World) (r : Air × Int) (e : Ending) (w' : World) : Prop :=
  ∃ A1 c1 A2 c2, e = .returned (.tuple #[.agg #[.slice A1 r.1.ms.length c1, .slice A2 r.1.cs.length c2], .int .i64 r.2]) ∧
    SliceOf (geB w.heap.size) 3 RMsg w' (.slice A1 r.1.ms.length c1) r.1.ms ∧ SliceOf (geB w.heap.size) 2 RPr w' (.slice A2 r.1.cs.length c2) r.1.cs ∧ Only NoF w w'
theorem AirTo.v {w w' : World} {r : Air × Int} {e : Ending} (h : AirTo w r e w') : AirT w r e w' := by
  obtain ⟨v', rfl, hA, hk, o⟩ := h
  obtain ⟨v1, v2, rfl, h1, h2⟩ := hA.airS hk
  obtain ⟨A1, c1, rfl, _⟩ := SliceOf.shape h1
  obtain ⟨A2, c2, rfl, _⟩ := SliceOf.shape h2
  exact ⟨A1, c1, A2, c2, rfl, h1, h2, o⟩
def DelivT (w : World) (r : Air × Msg × Int) (e : Ending) (w' : World) : Prop :=
  ∃ A1 c1 A2 c2, e = .returned (.tuple #[.agg #[.slice A1 r.1.ms.length c1, .slice A2 r.1.cs.length c2], .agg #[.int .i64 r.2.1.a, .int .i64 r.2.1.b, strV r.2.1.t], .int .i64 r.2.2]) ∧
    SliceOf (geB w.heap.size) 3 RMsg w' (.slice A1 r.1.ms.length c1) r.1.ms ∧ SliceOf (geB w.heap.size) 2 RPr w' (.slice A2 r.1.cs.length c2) r.1.cs ∧ Only NoF w w'
theorem DelivTo.v {w w' : World} {r : Air × Msg × Int} {e : Ending} (h : DelivTo w r e w') : DelivT w r e w' := by
  obtain ⟨v', rfl, hA, hk, o⟩ := h
  obtain ⟨v1, v2, rfl, h1, h2⟩ := hA.airS hk
  obtain ⟨A1, c1, rfl, _⟩ := SliceOf.shape h1
  obtain ⟨A2, c2, rfl, _⟩ := SliceOf.shape h2
  exact ⟨A1, c1, A2, c2, rfl, h1, h2, o⟩
section
variable {w : World} {v : Value} {a : Air}
theorem Cut_v (h : AirV w v a) (hf : Few_ a) (x y : Int) : Calls Try.prog 18 #[v, .int .i64 x, .int .i64 y] w (AirT w (Lnk.cut a x y)) := (nCut_c h hf x y).mono fun _ _ h => h.v
theorem Heal_v (h : AirV w v a) (hf : Few_ a) (x y : Int) : Calls Try.prog 20 #[v, .int .i64 x, .int .i64 y] w (AirT w (Lnk.heal a x y)) := (nHeal_c h hf x y).mono fun _ _ h => h.v
theorem Send_v (h : AirV w v a) (hf : Few_ a) {m : Msg} (hm : MsgOk m) : Calls Try.prog 11 #[v, .agg #[.int .i64 m.a, .int .i64 m.b, strV m.t]] w (AirT w (Lnk.send a m)) := (nSend_c h hf hm).mono fun _ _ h => h.v
theorem Double_v (h : AirV w v a) (hf : Few_ a) (i : Int) : Calls Try.prog 14 #[v, .int .i64 i] w (AirT w (Lnk.double a i)) := (nDouble_c h hf i).mono fun _ _ h => h.v
theorem Lose_v (h : AirV w v a) (hf : Few_ a) (i : Int) : Calls Try.prog 16 #[v, .int .i64 i] w (AirT w (Lnk.lose a i)) := (nLose_c h hf i).mono fun _ _ h => h.v
theorem Deliver_v (h : AirV w v a) (hf : Few_ a) (i : Int) : Calls Try.prog 22 #[v, .int .i64 i] w (DelivT w (Lnk.deliver a i)) := (nDeliver_c h hf i).mono fun _ _ h => h.v
end
namespace Lnk
theorem cut_cases {a : Air} {x y : Int} (hr : right a = true) : (cut a x y).2 = 1 ∨ ((cut a x y).2 = 5 ∧ houses x y = true ∧ isCut a x y = true) ∨
    ((cut a x y).2 = 0 ∧ houses x y = true ∧ isCut (cut a x y).1 x y = true ∧ right (cut a x y).1 = true ∧ (cut a x y).1.cs.length ≤ a.cs.length + 1) := by
  by_cases hh : houses x y = true
  · by_cases hc : isCut a x y = true
    · refine .inr (.inl ⟨?_, hh, hc⟩)
      unfold cut; rw [if_neg (by simp [hr, hh]), if_pos hc]
    · have e : cut a x y = ({ a with cs := insC (pair x y) a.cs }, 0) := by unfold cut; rw [if_neg (by simp [hr, hh]), if_neg hc]
      have hn := right_next hr ⟨4, x, y, []⟩
      have e2 : next a ⟨4, x, y, []⟩ = (cut a x y).1 := by unfold next do_; simp [e]
      rw [e2] at hn
      refine .inr (.inr ⟨by rw [e], hh, ?_, hn, ?_⟩)
      · rw [e]; unfold isCut; exact decide_eq_true (mem_ins.2 (.inl rfl))
      · rw [e]; simp only [insC_len]; omega
  · left
    unfold cut; rw [if_pos (by simp [hr, hh])]
theorem cut_S {a S : Air} {x y : Int} (hr : right a = true) (h : ((cut a x y).2 = 5 ∧ S = a) ∨ ((cut a x y).2 ≠ 5 ∧ S = (cut a x y).1)) (h2 : (cut a x y).2 ≠ 1) : houses x y = true ∧ isCut S x y = true ∧ right S = true ∧ S.cs.length ≤ a.cs.length + 1 := by
  rcases h with ⟨h5, rfl⟩ | ⟨h5, rfl⟩
  · rcases cut_cases (x := x) (y := y) hr with h | ⟨_, h3, h4⟩ | ⟨h, _⟩
    · exact absurd h h2
    · exact ⟨h3, h4, hr, by omega⟩
    · omega
  · rcases cut_cases (x := x) (y := y) hr with h | ⟨h, _⟩ | ⟨_, h3, h4, h5, h6⟩
    · exact absurd h h2
    · exact absurd h h5
    · exact ⟨h3, h4, h5, h6⟩
theorem heal_step {l : List Ev} {k : Nat} {x : Ev} {u v : Int} (hm : l[k]? = some x) (h : ∀ e ∈ l.take k, ¬ (e.k = 5 ∧ pair e.a e.b = pair u v))
    (hc : (decide (x.k = 5) && ((decide (x.a = u) && decide (x.b = v)) || (decide (x.a = v) && decide (x.b = u)))) = false) : ∀ e ∈ l.take (k + 1), ¬ (e.k = 5 ∧ pair e.a e.b = pair u v) := by
  intro e he
  obtain ⟨hk, rfl⟩ := List.getElem?_eq_some_iff.1 hm
  rw [List.take_succ_eq_append_getElem hk] at he
  rcases List.mem_append.1 he with he | he
  · exact h e he
  · obtain rfl := List.mem_singleton.1 he
    rintro ⟨h1, h2⟩
    rcases pair_eq h2 with ⟨h3, h4⟩ | ⟨h3, h4⟩ <;> simp [h1, h3, h4] at hc
theorem pair_of {a b x y : Int} (h : ((decide (a = x) && decide (b = y)) || (decide (a = y) && decide (b = x))) = true) : pair a b = pair x y := by
  rcases or_t h with h | h
  · obtain ⟨h1, h2⟩ := and_t h
    rw [of_decide_eq_true h1, of_decide_eq_true h2]
  · obtain ⟨h1, h2⟩ := and_t h
    rw [of_decide_eq_true h1, of_decide_eq_true h2, pair_comm]
theorem heal_ok {b : Air} {x y : Int} (hr : right b = true) (hh : houses x y = true) (hc : isCut b x y = true) : (heal b x y).2 = 0 ∧ (heal b x y).1.ms = b.ms ∧ right (heal b x y).1 = true ∧ isCut (heal b x y).1 x y = false ∧ (heal b x y).1.cs.length ≤ b.cs.length := by
  have e : heal b x y = ({ b with cs := b.cs.filter fun q => q != pair x y }, 0) := by unfold heal; rw [if_neg (by simp [hr, hh]), if_neg (by simp [hc])]
  have hn := right_next hr ⟨5, x, y, []⟩
  have e2 : next b ⟨5, x, y, []⟩ = (heal b x y).1 := by unfold next do_; simp [e]
  rw [e2] at hn
  refine ⟨by rw [e], by rw [e], hn, ?_, ?_⟩
  · rw [e]; unfold isCut; simp
  · rw [e]; exact List.length_filter_le _ _
theorem cuts_final {b : Air} {x y : Int} {i : Nat} {m : Msg} (hr : right b = true) (hh : houses x y = true) (hc : isCut b x y = true) (hm : (heal b x y).1.ms[i]? = some m)
    (h : ((decide (m.a = x) || decide (m.a = y)) && (decide (m.b = x) || decide (m.b = y))) = true) :
    (deliver (heal b x y).1 i).2.2 = 0 ∧ (deliver (heal b x y).1 i).2.1 = m ∧ ((deliver (heal b x y).1 i).1.ms.length : Int) = ((heal b x y).1.ms.length : Int) - 1 ∧ (deliver b i).2.2 = 7 := by
  obtain ⟨_, h2, h3, h4, _⟩ := heal_ok hr hh hc
  obtain ⟨hk, rfl⟩ := List.getElem?_eq_some_iff.1 hm
  have hb1 : bad (heal b x y).1 i = 0 := by unfold bad; rw [if_neg (by simp [h3]), if_neg (by omega)]
  have hb2 : bad b i = 0 := by unfold bad; rw [if_neg (by simp [hr]), if_neg (by rw [h2] at hk; omega)]
  have hmsg : msg (heal b x y).1 i = (heal b x y).1.ms[i] := by unfold msg; simp [List.getD_eq_getElem?_getD, hk]
  have hmsg2 : msg b i = (heal b x y).1.ms[i] := by unfold msg; simp only [h2]; rw [h2] at hk; simp [List.getD_eq_getElem?_getD, hk]
  have hne : houses (heal b x y).1.ms[i].a (heal b x y).1.ms[i].b = true := by
    have := (right_iff.1 h3).2.2.2 _ (List.getElem_mem hk)
    unfold rightM at this
    exact (and_t this).1
  have hne2 : (heal b x y).1.ms[i].a ≠ (heal b x y).1.ms[i].b := by unfold houses at hne; have := of_decide_eq_true hne; omega
  have hp : pair (heal b x y).1.ms[i].a (heal b x y).1.ms[i].b = pair x y := by
    obtain ⟨g1, g2⟩ := and_t h
    rcases or_t g1 with g1 | g1 <;> rcases or_t g2 with g2 | g2 <;> (have g1 := of_decide_eq_true g1; have g2 := of_decide_eq_true g2)
    · exact absurd (g1.trans g2.symm) hne2
    · rw [g1, g2]
    · rw [g1, g2, pair_comm]
    · exact absurd (g1.trans g2.symm) hne2
  have hn1 : isCut (heal b x y).1 (msg (heal b x y).1 i).a (msg (heal b x y).1 i).b = false := by rw [hmsg]; unfold isCut at h4 ⊢; rw [hp]; exact h4
  have hn2 : isCut b (msg b i).a (msg b i).b = true := by rw [hmsg2]; unfold isCut at hc ⊢; rw [hp]; exact hc
  have e1 : deliver (heal b x y).1 i = (without (heal b x y).1 i, msg (heal b x y).1 i, 0) := by unfold deliver; rw [if_neg (by simp [hb1]), if_neg (by simp [hn1])]
  have e2 : deliver b i = (none_, noM, 7) := by unfold deliver; rw [if_neg (by simp [hb2]), if_pos hn2]
  refine ⟨by rw [e1], by rw [e1]; exact hmsg, ?_, by rw [e2]⟩
  rw [e1]
  simp only [without, Int.toNat_natCast, List.length_eraseIdx, if_pos hk]
  omega
theorem right_few_ {a : Air} (h : right a = true) (hc : a.cs.length ≤ 1000000) : Few_ a := right_few h hc
end Lnk
end Go.Proofs.Ytocbfobakmieoaa
