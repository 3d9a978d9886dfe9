/-
  The reference's comparisons, walked: SameMessages, SameErrors. No condition.
  The reference's FewEvents, walked. No condition.
  The law side's count, walked. No condition.
  The law side's event and between, walked. No condition.
  The reference's Same, walked. No condition.
  The law side's sane, walked: it returns true. No condition.
  The plain laws of LinkConserves, LinkCuts and LinkParts. No condition.
  LinkConserves: plain laws of its rounds. No condition.
  The link's Run and the plain laws of LinkConserves' rounds, in the words of the calculus of small steps. No condition.
-/
import Derived.Test.YtdcbjedkddgfkaaGreatDoorLA
import Derived.Test.YtdcbjedkddgfkaaGreatDoorLB
import Derived.Test.YtdcbjedkddgfkaaGreatDoorMix
namespace Go.Proofs.YtdcbjedkddgfkaaGreatDoor
set_option linter.unusedVariables false
set_option linter.unusedSimpArgs false
set_option linter.unusedSectionVars false
set_option maxRecDepth 20000
section
open Go.RowKit
section
variable {w : World} {v1 v2 : Value}
end
end
section
open Go.RowKit
section
variable {w : World} {v : Value}
/-- true only where p holds -/
def OnlyIf (w : World) (p : Prop) (e : Ending) (w' : World) : Prop := ∃ b, e = .returned (.bool b) ∧ (b = true → p) ∧ Only NoF w w'
def FewEv (l : List Ev) (most : Nat) : Prop := l.length ≤ most ∧ ∀ e ∈ l, e.t.length ≤ 100
set_option maxRecDepth 100000 in
set_option maxHeartbeats 1000000 in
theorem kFewE_c {l : List Ev} (h : Evs w v l) (most : Nat) (hm : most ≤ 1000) : Calls Tryz.prog 24 #[v, .int .i64 (most : Int)] w (OnlyIf w (FewEv l most)) := by
 obtain ⟨A, cap, rfl, m1, m2, hf⟩ := Evs.form h
 have HF := Lib.hid hf
 clear h hf
 unfold maxLen at m2
 go_enter Tryz.func24, Tryz.ntmps24
 go_wp2
 go_loopw [5] (fun i wr => ∃ k : Nat, k ≤ l.length ∧ i = .int .i64 (k : Int) ∧ (∀ e ∈ l.take k, e.t.length ≤ 100) ∧ Only NoF w wr) (fun i _ => l.length - (intOf i).toNat)
 case atStart => exact ⟨0, by omega, by go_num, by simp, Only.refl _ _⟩
 case round =>
  obtain ⟨k, hk, rfl, hp, hO⟩ := hrel
  have HP := Lib.hid hp
  clear hp
  by_cases hlt : (k : Int) < (l.length : Int)
  · by_cases hlm : (k : Int) < (most : Int)
    · obtain ⟨b, off, rfl, _, _, _, ht, hc⟩ := HF.out k (by omega)
      obtain ⟨x0, x1, x2, x3⟩ := hc wr hO
      clear hc
      unfold maxLen at ht
      have hkl : k < l.length := by omega
      by_cases h100 : (100 : Int) < (l[k].t.length : Int)
      · go_wp2
        go_ret
        exact ⟨_, rfl, (fun h => by cases h), hO⟩
      · have HL := Lib.hid (show l[k].t.length ≤ 100 by omega)
        go_wp2
        go_roundw
        case rel =>
         refine ⟨k + 1, by omega, by go_num, fun e he => ?_, hO⟩
         rw [List.take_add_one, List.getElem?_eq_getElem hkl] at he
         rcases List.mem_append.1 he with he | he
         · exact HP.out e he
         · simp at he; rw [he]; exact HL.out
        case measure => simp [intOf]; omega
    · go_wp2
      go_ret
      refine ⟨_, rfl, fun hb => ?_, hO⟩
      exact absurd (of_decide_eq_true hb) (by omega)
  · have HE := Lib.hid (show ∀ e ∈ l, e.t.length ≤ 100 by have := HP.out; rwa [List.take_of_length_le (by omega)] at this)
    go_wp2
    go_ret
    refine ⟨_, rfl, fun hb => ⟨?_, HE.out⟩, hO⟩
    have := of_decide_eq_true hb
    omega
end
end
section
open Go.RowKit
section
variable {w : World} {v : Value}
end
end
section
open Go.RowKit
section
variable (w : World)
end
end
section
open Go.RowKit
section
variable {w : World} {v1 v2 : Value}
end
end
section
open Go.RowKit
def evCells (l : List Ev) : List Value := l.flatMap fun e => [.int .i64 e.k, .int .i64 e.a, .int .i64 e.b, strV e.t]
theorem evCells_cons (e : Ev) (l : List Ev) : evCells (e :: l) = .int .i64 e.k :: .int .i64 e.a :: .int .i64 e.b :: strV e.t :: evCells l := rfl
theorem evCells_get : ∀ (l : List Ev) (i : Nat) (h : i < l.length), ((evCells l).drop (i * 4)).take 4 = [.int .i64 l[i].k, .int .i64 l[i].a, .int .i64 l[i].b, strV l[i].t]
 | [], i, h => by simp at h
 | m :: l, 0, _ => rfl
 | m :: l, i + 1, h => by
  rw [evCells_cons, show (i + 1) * 4 = i * 4 + 1 + 1 + 1 + 1 by omega]
  simpa using evCells_get l i (by simpa using h)
theorem Evs.of_reads {w : World} {S : Nat → Prop} {A : Option Addr} {cap : Nat} {l : List Ev} (h : Reads w S 4 A l.length (evCells l)) (h1 : l.length ≤ cap) (h2 : cap ≤ maxLen) (hm : ∀ e ∈ l, EvOk e) : Evs w (.slice A l.length cap) l :=
 ⟨A, cap, evCells l, rfl, h1, h2, h.sup fun _ _ => trivial, fun i x hx => by
  obtain ⟨hi, rfl⟩ := List.getElem?_eq_some_iff.1 hx
  exact ⟨evCells_get l i hi, hm _ (List.getElem_mem hi)⟩⟩
theorem Evs.own {w : World} {v : Value} {base n : Nat} {l : List Ev} (h : w.ownsRow base 45 4 v n (evCells l)) (hn : n = l.length) (hm : ∀ e ∈ l, EvOk e) : Evs w v l := by
 subst hn
 obtain ⟨A, c, rfl, h1, h2, h3⟩ := Reads.of_own h
 exact Evs.of_reads h3 h1 h2 hm
theorem Msgs.of_reads {w : World} {S : Nat → Prop} {A : Option Addr} {cap : Nat} {l : List Msg} (h : Reads w S 3 A l.length (msgCells l)) (h1 : l.length ≤ cap) (h2 : cap ≤ maxLen) (hm : ∀ e ∈ l, MsgOk e) : Msgs w (.slice A l.length cap) l :=
 ⟨A, cap, msgCells l, rfl, h1, h2, h.sup fun _ _ => trivial, fun i x hx => by
  obtain ⟨hi, rfl⟩ := List.getElem?_eq_some_iff.1 hx
  exact ⟨msgCells_get l i hi, hm _ (List.getElem_mem hi)⟩⟩
theorem Errs.of_reads {w : World} {S : Nat → Prop} {A : Option Addr} {cap : Nat} {l : List Int} (h : Reads w S 1 A l.length (errCells l)) (h1 : l.length ≤ cap) (h2 : cap ≤ maxLen) (hm : ∀ e ∈ l, I64 e) : Errs w (.slice A l.length cap) l :=
 ⟨A, cap, errCells l, rfl, h1, h2, h.sup fun _ _ => trivial, fun i x hx => by
  refine ⟨?_, hm x (List.mem_of_getElem? hx)⟩
  obtain ⟨hi, rfl⟩ := List.getElem?_eq_some_iff.1 hx
  rw [errCells, Nat.mul_one, List.drop_eq_getElem_cons (by simpa using hi)]
  simp⟩
section
variable {w : World}
end
end
section
namespace Lnk
/-! ### one event -/
theorem do_bad {a : Air} {e : Ev} (h : (do_ a e).2.2 ≠ 0) : (do_ a e).2.1 = [] := by
 unfold do_ at h ⊢
 split
 · rfl
 split
 · rename_i h1 h2
   rw [if_neg h1, if_pos h2] at h
   simp only at h ⊢
   rw [if_neg h]
 split
 · rfl
 split
 · rfl
 split
 · rfl
 split
 · rfl
 · rfl
/-- copies that an event adds, and takes away -/
def more (a : Air) (e : Ev) (m : Msg) : Nat :=
 if (do_ a e).2.2 = 0 then (if e.k = 3 ∧ msg a e.a = m then 1 else 0) + (if e.k = 0 ∧ (⟨e.a, e.b, e.t⟩ : Msg) = m then 1 else 0) else 0
def gone (a : Air) (e : Ev) (m : Msg) : Nat := if (do_ a e).2.2 = 0 then (if e.k = 2 ∧ msg a e.a = m then 1 else 0) else 0
theorem count_erase {l : List Msg} {i : Nat} (h : i < l.length) (m : Msg) : (l.eraseIdx i).count m + (if l[i] = m then 1 else 0) = l.count m := by
 induction l generalizing i with
 | nil => simp at h
 | cons x l ih =>
  cases i with
  | zero =>
   simp only [List.eraseIdx_cons_zero, List.getElem_cons_zero, List.count_cons, beq_iff_eq]
  | succ i =>
   simp only [List.eraseIdx_cons_succ, List.getElem_cons_succ, List.count_cons]
   have := ih (i := i) (by simpa using h)
   omega
theorem msg_get {a : Air} {i : Int} (h0 : 0 ≤ i) (h1 : i < a.ms.length) : ∃ h : i.toNat < a.ms.length, msg a i = a.ms[i.toNat] := by
 have : i.toNat < a.ms.length := by omega
 exact ⟨this, by simp [msg, List.getD_eq_getElem?_getD, List.getElem?_eq_getElem this]⟩
theorem count_without {a : Air} {i : Int} (h0 : 0 ≤ i) (h1 : i < a.ms.length) (m : Msg) : (without a i).ms.count m + (if msg a i = m then 1 else 0) = a.ms.count m := by
 obtain ⟨h, e⟩ := msg_get h0 h1
 rw [e]
 exact count_erase h m
theorem with_zero {a : Air} {m : Msg} (h : (with_ a m).2 = 0) : (with_ a m).1 = { a with ms := a.ms ++ [m] } := by
 unfold with_ at h ⊢
 split
 · rename_i hl; rw [if_pos hl] at h; simp at h
 · rfl
theorem conserve1 (a : Air) (e : Ev) (m : Msg) : (next a e).ms.count m + (do_ a e).2.1.count m + gone a e m = a.ms.count m + more a e m := by
 by_cases h0 : (do_ a e).2.2 = 0
 · have hn : next a e = (do_ a e).1 := by unfold next; rw [if_pos h0]
   rw [hn]
   unfold gone more
   rw [if_pos h0, if_pos h0]
   unfold do_ at h0 ⊢
   by_cases k0 : e.k = 0
   · rw [if_pos k0] at h0 ⊢
     simp only at h0 ⊢
     unfold send at h0 ⊢
     split
     · rename_i hb; rw [if_pos hb] at h0; simp at h0
     · rename_i hb
       rw [if_neg hb] at h0
       rw [with_zero h0]
       simp only [k0, List.count_append, List.count_nil, List.count_cons, beq_iff_eq]
       simp
   rw [if_neg k0] at h0 ⊢
   by_cases k1 : e.k = 1
   · rw [if_pos k1] at h0 ⊢
     simp only at h0 ⊢
     unfold deliver at h0 ⊢
     split
     · rename_i hb; rw [if_pos hb] at h0; exact absurd h0 hb
     · rename_i hb
       rw [if_neg hb] at h0
       split
       · rename_i hc; rw [if_pos hc] at h0; simp at h0
       · simp only [Classical.not_not] at hb
         obtain ⟨_, b2, b3⟩ := bad_zero hb
         have := count_without b2 b3 m
         simp only [if_true, k1, List.count_cons, List.count_nil, beq_iff_eq]
         simp
         omega
   rw [if_neg k1] at h0 ⊢
   by_cases k2 : e.k = 2
   · rw [if_pos k2] at h0 ⊢
     simp only at h0 ⊢
     unfold lose at h0 ⊢
     split
     · rename_i hb; rw [if_pos hb] at h0; exact absurd h0 hb
     · rename_i hb
       simp only [Classical.not_not] at hb
       obtain ⟨_, b2, b3⟩ := bad_zero hb
       have := count_without b2 b3 m
       simp only [k2, List.count_nil]
       simp
       omega
   rw [if_neg k2] at h0 ⊢
   by_cases k3 : e.k = 3
   · rw [if_pos k3] at h0 ⊢
     simp only at h0 ⊢
     unfold double at h0 ⊢
     split
     · rename_i hb; rw [if_pos hb] at h0; exact absurd h0 hb
     · rename_i hb
       rw [if_neg hb] at h0
       rw [with_zero h0]
       simp only [k3, List.count_append, List.count_nil, List.count_cons, beq_iff_eq]
       simp
   rw [if_neg k3] at h0 ⊢
   by_cases k4 : e.k = 4
   · rw [if_pos k4] at h0 ⊢
     simp only at h0 ⊢
     unfold cut at h0 ⊢
     split
     · rename_i hb; rw [if_pos hb] at h0; simp at h0
     · rename_i hb
       rw [if_neg hb] at h0
       split
       · rename_i hc; rw [if_pos hc] at h0; simp at h0
       · simp [k4]
   rw [if_neg k4] at h0 ⊢
   by_cases k5 : e.k = 5
   · rw [if_pos k5] at h0 ⊢
     simp only at h0 ⊢
     unfold heal at h0 ⊢
     split
     · rename_i hb; rw [if_pos hb] at h0; simp at h0
     · rename_i hb
       rw [if_neg hb] at h0
       split
       · rename_i hc; rw [if_pos hc] at h0; simp at h0
       · simp [k5]
   rw [if_neg k5] at h0
   simp at h0
 · have hn : next a e = a := by unfold next; rw [if_neg h0]
   unfold gone more
   rw [hn, do_bad h0, if_neg h0, if_neg h0]
   simp
def mores (a : Air) : List Ev → Msg → Nat
 | [], _ => 0
 | e :: l, m => more a e m + mores (next a e) l m
def gones (a : Air) : List Ev → Msg → Nat
 | [], _ => 0
 | e :: l, m => gone a e m + gones (next a e) l m
theorem conserve (m : Msg) (l : List Ev) : ∀ a : Air, (runs a l).1.ms.count m + (runs a l).2.1.count m + gones a l m = a.ms.count m + mores a l m := by
 induction l with
 | nil => intro a; simp [runs, gones, mores]
 | cons e l ih =>
  intro a
  have h1 := conserve1 a e m
  have h2 := ih (next a e)
  simp only [runs, gones, mores, List.count_append]
  omega
/-- where an event that loses or doubles is OK, its message is there -/
theorem ok_index {a : Air} {e : Ev} (h : (do_ a e).2.2 = 0) (hk : e.k = 2 ∨ e.k = 3 ∨ e.k = 1) : 0 ≤ e.a ∧ e.a < a.ms.length := by
 have hb : bad a e.a = 0 := by
  unfold do_ at h
  rcases hk with k | k | k
  · rw [if_neg (by omega), if_neg (by omega), if_pos k] at h
    simp only [lose] at h
    by_cases hb : bad a e.a = 0
    · exact hb
    · rw [if_pos hb] at h; exact h
  · rw [if_neg (by omega), if_neg (by omega), if_neg (by omega), if_pos k] at h
    simp only [double] at h
    by_cases hb : bad a e.a = 0
    · exact hb
    · rw [if_pos hb] at h; exact h
  · rw [if_neg (by omega), if_pos k] at h
    simp only [deliver] at h
    by_cases hb : bad a e.a = 0
    · exact hb
    · rw [if_pos hb] at h; exact h
 exact (bad_zero hb).2
/-! ### LinkParts -/
/-- where a message that arrives comes from -/
theorem came_from (m : Msg) (l : List Ev) : ∀ a : Air, m ∈ (runs a l).2.1 → m ∈ a.ms ∨ ∃ e ∈ l, e.k = 0 ∧ (⟨e.a, e.b, e.t⟩ : Msg) = m := by
 intro a hm
 have h1 := conserve m l a
 have h2 : 0 < (runs a l).2.1.count m := List.count_pos_iff.2 hm
 by_cases h3 : 0 < a.ms.count m
 · exact .inl (List.count_pos_iff.1 h3)
 ·
  clear h1 h2
  induction l generalizing a with
  | nil => simp [runs] at hm
  | cons e l ih =>
   simp only [runs, List.mem_append] at hm
   have h0 : m ∉ a.ms := fun hc => h3 (List.count_pos_iff.2 hc)
   have hc1 := conserve1 a e m
   have hmore : more a e m = (if (do_ a e).2.2 = 0 ∧ e.k = 0 ∧ (⟨e.a, e.b, e.t⟩ : Msg) = m then 1 else 0) := by
    unfold more
    by_cases hz : (do_ a e).2.2 = 0
    · rw [if_pos hz]
      have : ¬ (e.k = 3 ∧ msg a e.a = m) := by
       rintro ⟨k, hmm⟩
       obtain ⟨i0, i1⟩ := ok_index hz (.inr (.inl k))
       exact h0 (hmm ▸ msg_mem i0 i1)
      simp [this, hz]
    · simp [hz]
   by_cases hs : e.k = 0 ∧ (⟨e.a, e.b, e.t⟩ : Msg) = m
   · exact .inr ⟨e, by simp, hs⟩
   · have hz : more a e m = 0 := by rw [hmore, if_neg fun hc => hs hc.2]
     have hnc : a.ms.count m = 0 := by omega
     rcases hm with hm | hm
     · have := List.count_pos_iff.2 hm
       omega
     · have hn : ¬ 0 < (next a e).ms.count m := by omega
       rcases ih (next a e) hm hn with hx | ⟨f, hf, hx⟩
       · exact absurd (List.count_pos_iff.2 hx) hn
       · exact .inr ⟨f, by simp [hf], hx⟩
/-! ### LinkCuts -/
end Lnk
end
section
open Go.RowKit
namespace Lnk
end Lnk
/-- an Air that reads in blocks of S -/
def AirS (S : Nat → Prop) (w : World) (v : Value) (a : Air) : Prop := ∃ v1 v2, v = .agg #[v1, v2] ∧ SliceOf S 3 RMsg w v1 a.ms ∧ SliceOf S 2 RPr w v2 a.cs
section
variable {w w' : World} {v : Value} {a : Air} {S S' F : Nat → Prop}
theorem AirS.sup (h : AirS S w v a) (hS : ∀ k, S k → S' k) : AirS S' w v a := by
 obtain ⟨v1, v2, e, h1, h2⟩ := h
 exact ⟨v1, v2, e, h1.sup hS, h2.sup hS⟩
theorem AirS.only (h : AirS S w v a) (ho : Only F w w') (hF : ∀ k, S k → ¬ F k) : AirS S w' v a := by
 obtain ⟨v1, v2, e, h1, h2⟩ := h
 exact ⟨v1, v2, e, SliceOf.only h1 ho hF fun _ _ _ h => h, SliceOf.only h2 ho hF fun _ _ _ h => h⟩
theorem OwnAir.airS {base : Nat} (h : OwnAir base w v a) (hk : AirOk a) : AirS (fun k => base ≤ k) w v a := by
 obtain ⟨v1, v2, e, h1, h2⟩ := h
 refine ⟨v1, v2, e, ?_, ?_⟩
 · exact (SliceOf.of_own (R := RMsg) h1 fun i x hx => by
    obtain ⟨hi, rfl⟩ := List.getElem?_eq_some_iff.1 hx
    exact ⟨msgCells_get a.ms i hi, hk.1 _ (List.getElem_mem hi)⟩).sup fun k hk => (h1.lt k hk).1
 · exact (SliceOf.of_own (R := RPr) h2 fun i x hx => by
    obtain ⟨hi, rfl⟩ := List.getElem?_eq_some_iff.1 hx
    exact ⟨prCells_get a.cs i hi, hk.2 _ (List.getElem_mem hi)⟩).sup fun k hk => (h2.lt k hk).1
end
end
section
open Go.RowKit
/-- what a Run gives: a fresh Air, what came, the errors -/
def RunV (w : World) (r : Air × List Msg × List Int) (e : Ending) (w' : World) : Prop :=
 ∃ A1 c1 A2 c2 A3 c3 A4 c4, e = .returned (.tuple #[.agg #[.slice A1 r.1.ms.length c1, .slice A2 r.1.cs.length c2], .slice A3 r.2.1.length c3, .slice A4 r.2.2.length c4]) ∧
  SliceOf (geB w.heap.size) 3 RMsg w' (.slice A1 r.1.ms.length c1) r.1.ms ∧ SliceOf (geB w.heap.size) 2 RPr w' (.slice A2 r.1.cs.length c2) r.1.cs ∧ SliceOf (geB w.heap.size) 3 RMsg w' (.slice A3 r.2.1.length c3) r.2.1 ∧ SliceOf (geB w.heap.size) 1 RInt w' (.slice A4 r.2.2.length c4) r.2.2 ∧ Only NoF w w'
section
variable {w : World} {v1 v2 : Value} {a : Air} {l : List Ev}
theorem Run_v0 (h1 : AirV w v1 a) (h2 : Evs w v2 l) (hc : a.cs.length + l.length ≤ 1000000) : Calls Tryz.prog 26 #[v1, v2] w (RunV w (Lnk.run a l)) := by
 refine (nRun_c h1 h2 hc).mono ?_
 rintro e w' ⟨v', m', es, rfl, ⟨hA', hk⟩, h3, h4, o'⟩
 obtain ⟨v1, v2, rfl, h1, h2⟩ := hA'.airS hk
 obtain ⟨A1, c1, rfl, _⟩ := SliceOf.shape h1
 obtain ⟨A2, c2, rfl, _⟩ := SliceOf.shape h2
 obtain ⟨A3, c3, rfl, _⟩ := SliceOf.shape h3
 obtain ⟨A4, c4, rfl, _⟩ := SliceOf.shape h4
 exact ⟨A1, c1, A2, c2, A3, c3, A4, c4, rfl, h1, h2, h3, h4, o'⟩
end
namespace Lnk
end Lnk
end
end Go.Proofs.YtdcbjedkddgfkaaGreatDoor
