/-
  The law side's sane, walked: it returns true. No condition.
-/
import Derived.Test.YtocbfobakmieoaaLkW18
import Derived.Test.YtocbfobakmieoaaLkR5
namespace Go.Proofs.Ytocbfobakmieoaa
set_option linter.unusedVariables false
set_option linter.unusedSimpArgs false
set_option linter.unusedSectionVars false
open Go.RowKit

def evCells (l : List Ev) : List Value := l.flatMap fun e => [.int .i64 e.k, .int .i64 e.a, .int .i64 e.b, strV e.t]
theorem evCells_cons (e : Ev) (l : List Ev) : evCells (e :: l) = .int .i64 e.k :: .int .i64 e.a :: .int .i64 e.b :: strV e.t :: evCells l := rfl
theorem evCells_append (a b : List Ev) : evCells (a ++ b) = evCells a ++ evCells b := by simp [evCells]
theorem length_evCells (l : List Ev) : (evCells l).length = l.length * 4 := by
  induction l with
  | nil => rfl
  | cons m l ih => rw [evCells_cons]; simp [ih]; omega
theorem evCells_one (l : List Ev) : ∀ u ∈ evCells l, u.oneCell' = true := by
  intro u hu
  simp only [evCells, List.mem_flatMap] at hu
  obtain ⟨m, _, hm⟩ := hu
  simp at hm
  rcases hm with rfl | rfl | rfl | rfl <;> rfl
theorem evCells_get : ∀ (l : List Ev) (i : Nat) (h : i < l.length), ((evCells l).drop (i * 4)).take 4 = [.int .i64 l[i].k, .int .i64 l[i].a, .int .i64 l[i].b, strV l[i].t]
  | [], i, h => by simp at h
  | m :: l, 0, _ => rfl
  | m :: l, i + 1, h => by
    rw [evCells_cons, show (i + 1) * 4 = i * 4 + 1 + 1 + 1 + 1 by omega]
    simpa using evCells_get l i (by simpa using h)
theorem Evs.of_reads {w : World} {S : Nat → Prop} {A : Option Addr} {cap : Nat} {l : List Ev} (h : Reads w S 4 A l.length (evCells l)) (h1 : l.length ≤ cap) (h2 : cap ≤ maxLen) (hm : ∀ e ∈ l, EvOk e) : Evs w (.slice A l.length cap) l :=
  ⟨A, cap, evCells l, rfl, h1, h2, h.sup fun _ _ => trivial, fun i x hx => by
    obtain ⟨hi, rfl⟩ := List.getElem?_eq_some_iff.1 hx
    exact ⟨evCells_get l i hi, hm _ (List.getElem_mem hi)⟩⟩
theorem Evs.own {w : World} {v : Value} {base n : Nat} {l : List Ev} (h : w.ownsRow base 48 4 v n (evCells l)) (hn : n = l.length) (hm : ∀ e ∈ l, EvOk e) : Evs w v l := by
  subst hn
  obtain ⟨A, c, rfl, h1, h2, h3⟩ := Reads.of_own h
  exact Evs.of_reads h3 h1 h2 hm
theorem Msgs.of_reads {w : World} {S : Nat → Prop} {A : Option Addr} {cap : Nat} {l : List Msg} (h : Reads w S 3 A l.length (msgCells l)) (h1 : l.length ≤ cap) (h2 : cap ≤ maxLen) (hm : ∀ e ∈ l, MsgOk e) : Msgs w (.slice A l.length cap) l :=
  ⟨A, cap, msgCells l, rfl, h1, h2, h.sup fun _ _ => trivial, fun i x hx => by
    obtain ⟨hi, rfl⟩ := List.getElem?_eq_some_iff.1 hx
    exact ⟨msgCells_get l i hi, hm _ (List.getElem_mem hi)⟩⟩
theorem Errs.of_reads {w : World} {S : Nat → Prop} {A : Option Addr} {cap : Nat} {l : List Int} (h : Reads w S 1 A l.length (errCells l)) (h1 : l.length ≤ cap) (h2 : cap ≤ maxLen) (hm : ∀ e ∈ l, I64 e) : Errs w (.slice A l.length cap) l :=
  ⟨A, cap, errCells l, rfl, h1, h2, h.sup fun _ _ => trivial, fun i x hx => by
    refine ⟨?_, hm x (List.mem_of_getElem? hx)⟩
    obtain ⟨hi, rfl⟩ := List.getElem?_eq_some_iff.1 hx
    rw [errCells, Nat.mul_one, List.drop_eq_getElem_cons (by simpa using hi)]
    simp⟩

theorem kSame_same {w : World} {v1 v2 : Value} {a : Air} (h1 : AirV w v1 a) (h2 : AirV w v2 a) : Calls Try.prog 13 #[v1, v2] w (BoolTo w true) := by
  have := kSame_c h1 h2
  rwa [decide_eq_true rfl] at this
theorem kSameE_same {w : World} {v1 v2 : Value} {a : List Int} (h1 : Errs w v1 a) (h2 : Errs w v2 a) : Calls Try.prog 27 #[v1, v2] w (BoolTo w true) := by
  have := kSameE_c h1 h2
  rwa [decide_eq_true rfl] at this
theorem kSameM_same {w : World} {v1 v2 : Value} {a : List Msg} (h1 : Msgs w v1 a) (h2 : Msgs w v2 a) : Calls Try.prog 26 #[v1, v2] w (BoolTo w true) := by
  have := kSameM_c h1 h2
  rwa [decide_eq_true rfl] at this
def sane1 : List Ev := [⟨0, 1, 2, [120]⟩, ⟨3, 0, 0, []⟩, ⟨1, 1, 0, []⟩, ⟨4, 2, 1, []⟩, ⟨1, 0, 0, []⟩]
def sane2 : List Ev := [⟨0, 2, 1, [121]⟩, ⟨5, 1, 2, []⟩, ⟨1, 1, 0, []⟩, ⟨2, 0, 0, []⟩, ⟨2, 0, 0, []⟩]
theorem sane_run : Lnk.run Lnk.none_ (sane1 ++ sane2) = (Lnk.none_, [⟨1, 2, [120]⟩, ⟨2, 1, [121]⟩], [0, 0, 0, 0, 7, 0, 0, 0, 0, 4]) := by decide +kernel
theorem sane_ok : ∀ e ∈ sane1 ++ sane2, EvOk e := by
  intro e h
  simp only [sane1, sane2, List.cons_append, List.nil_append, List.mem_cons, List.not_mem_nil, or_false] at h
  rcases h with rfl | rfl | rfl | rfl | rfl | rfl | rfl | rfl | rfl | rfl <;> (unfold EvOk I64 maxLen; simp)
theorem saneM_ok : ∀ m ∈ ([⟨1, 2, [120]⟩, ⟨2, 1, [121]⟩] : List Msg), MsgOk m := by
  intro e h
  simp only [List.mem_cons, List.not_mem_nil, or_false] at h
  rcases h with rfl | rfl <;> (unfold MsgOk I64 maxLen; simp)
theorem saneE_ok : ∀ n ∈ ([0, 0, 0, 0, 7, 0, 0, 0, 0, 4] : List Int), I64 n := by
  intro e h
  simp only [List.mem_cons, List.not_mem_nil, or_false] at h
  unfold I64
  omega

section
variable {w : World}
set_option maxRecDepth 100000 in
set_option maxHeartbeats 2000000 in
theorem l38sane_c : Calls Try.prog 8 #[] w (BoolTo w true) := by
  obtain ⟨ti, hti, hz0, hz1, hz2⟩ := info_parts info_Ev
  go_enter Try.func8, Try.ntmps8
  have HO := Lib.hid (Only.refl NoF w)
  go_wp2_with fail
  refine (l38event_c _ _ _ _ _).mono ?_
  rintro e w1 ⟨rfl, o1⟩
  have HO := Lib.hid (HO.out.trans' o1)
  clear o1
  go_wp2_with fail
  refine (l38event_c _ _ _ _ _).mono ?_
  rintro e w2 ⟨rfl, o2⟩
  have HO := Lib.hid (HO.out.trans' o2)
  clear o2
  go_wp2_with fail
  refine (l38event_c _ _ _ _ _).mono ?_
  rintro e w3 ⟨rfl, o3⟩
  have HO := Lib.hid (HO.out.trans' o3)
  clear o3
  go_wp2_with fail
  refine (l38event_c _ _ _ _ _).mono ?_
  rintro e w4 ⟨rfl, o4⟩
  have HO := Lib.hid (HO.out.trans' o4)
  clear o4
  go_wp2_with fail
  refine (l38event_c _ _ _ _ _).mono ?_
  rintro e w5 ⟨rfl, o5⟩
  have HO := Lib.hid (HO.out.trans' o5)
  clear o5
  have B5 := Lib.hid (Blk.new w5 48 (evCells sane1).toArray)
  have P5 := Lib.hid (HO.out.alloc (.cells (evCells sane1).toArray 48))
  have hs5 := HO.out.size
  have HO := Lib.hid (Only.refl NoF (w5.alloc (.cells (evCells sane1).toArray 48)))
  go_wp2_with fail
  refine (l38event_c _ _ _ _ _).mono ?_
  rintro e w6 ⟨rfl, o6⟩
  have HO := Lib.hid (HO.out.trans' o6)
  clear o6
  go_wp2_with fail
  refine (l38event_c _ _ _ _ _).mono ?_
  rintro e w7 ⟨rfl, o7⟩
  have HO := Lib.hid (HO.out.trans' o7)
  clear o7
  go_wp2_with fail
  refine (l38event_c _ _ _ _ _).mono ?_
  rintro e w8 ⟨rfl, o8⟩
  have HO := Lib.hid (HO.out.trans' o8)
  clear o8
  go_wp2_with fail
  refine (l38event_c _ _ _ _ _).mono ?_
  rintro e w9 ⟨rfl, o9⟩
  have HO := Lib.hid (HO.out.trans' o9)
  clear o9
  go_wp2_with fail
  refine (l38event_c _ _ _ _ _).mono ?_
  rintro e w10 ⟨rfl, o10⟩
  have HO := Lib.hid (HO.out.trans' o10)
  clear o10
  have R10 := Lib.hid (own_of_blk (xs := evCells sane1) (n := 5) (cap := 5) ((B5.out.keep HO.out).alloc (.cells (evCells sane2).toArray 48)) hs5 (length_evCells _) (Nat.le_refl _) (by unfold maxLen; omega) (length_evCells _) (List.take_of_length_le (by rw [length_evCells]; exact Nat.le_refl _)))
  have HSZ := Lib.hid (show w.heap.size ≤ (w10.alloc (.cells (evCells sane2).toArray 48)).heap.size from Nat.le_trans hs5 (by have := HO.out.size; simp only [World.size_alloc] at this ⊢; omega))
  go_wp2_with (at_builtin; (refine wpList_append_any _ rfl (.tmp 13) (.tmp 19) _ rfl w.heap.size 48 ti _ 4 40 Try.underlying28 hti hz0 hz1 hz2 rfl (by decide) (.slice (some ⟨w5.heap.size, 0, none⟩) 5 5) 5 (evCells sane1) rfl R10.out _ _ 5 5 (evCells sane2) rfl (reads_made w10 48 4 5 (evCells sane2) rfl) (evCells_one _) (by unfold maxLen; omega) (by omega) HSZ.out ?_); intro v11 w11 c11 g11 a11)
  have p11 := HO.out.alloc (.cells (evCells sane2).toArray 48)
  have HW11 := Lib.hid (show Only NoF w w11 from (P5.out.trans' p11).trans (grown_only (v := .slice (some ⟨w5.heap.size, 0, none⟩) 5 5) g11) fun k hk => .inr (by have hk' : w5.heap.size = k := Option.some.inj hk; omega))
  have HC := Lib.hid (nRun_c (airNone w11) (l := sane1 ++ sane2) (Evs.own (by rw [evCells_append]; exact c11) rfl sane_ok) (by decide))
  rw [sane_run] at HC
  clear p11 g11 a11 c11
  go_wp2_with fail
  refine HC.out.mono ?_
  rintro e w12 ⟨v12, m12, e12, rfl, ⟨ra, rk⟩, rm, re, o12⟩
  have ra := ra.air rk.1 rk.2
  have RM := Lib.hid (show Msgs w12 m12 _ from rm.sup fun _ _ => trivial)
  have RE := Lib.hid (show Errs w12 e12 _ from re.sup fun _ _ => trivial)
  have RA := Lib.hid ra
  obtain ⟨z1, z2, rfl, q1, q2⟩ := ra
  obtain ⟨E1, e1, rfl, _⟩ := SliceOf.shape q1
  obtain ⟨E2, e2, rfl, _⟩ := SliceOf.shape q2
  obtain ⟨E3, e3, rfl, _⟩ := SliceOf.shape rm
  obtain ⟨E4, e4, rfl, _⟩ := SliceOf.shape re
  have HW12 := Lib.hid (HW11.out.trans' o12)
  clear rm re q1 q2 o12
  have HOA := Lib.hid (fun (o o' : Obj) => ((Only.refl NoF w12).alloc o).alloc o')
  have HSA := Lib.hid (fun (o o' : Obj) => kSame_same (AirV.keep RA.out (HOA.out o o')) (airNone ((w12.alloc o).alloc o')))
  go_wp2_with fail
  refine (HSA.out _ _).mono ?_
  rintro e w13 ⟨rfl, o13⟩
  have W13 := Lib.hid (show Only NoF w12 w13 from (HOA.out _ _).trans' o13)
  have HE := Lib.hid (Errs.of_reads (l := [0, 0, 0, 0, 7, 0, 0, 0, 0, 4]) (cap := 10) ((reads_made2 w12 (.cells #[.slice E1 Lnk.none_.ms.length e1, .slice E2 Lnk.none_.cs.length e2] 25) 32 1 10 (errCells [0, 0, 0, 0, 7, 0, 0, 0, 0, 4]) rfl).only o13 fun _ _ h => h) (Nat.le_refl _) (by unfold maxLen; decide) saneE_ok)
  clear o13
  go_wp2_with fail
  refine (kSameE_same (Errs.keep RE.out W13.out) HE.out).mono ?_
  rintro e w14 ⟨rfl, o14⟩
  have W14 := Lib.hid (W13.out.trans' o14)
  clear o14
  go_wp2_with fail
  refine (kSameM_same (Msgs.keep RM.out (W14.out.alloc _)) (Msgs.of_reads (l := [⟨1, 2, [120]⟩, ⟨2, 1, [121]⟩]) (reads_made w14 27 3 2 (msgCells [⟨1, 2, [120]⟩, ⟨2, 1, [121]⟩]) rfl) (Nat.le_refl _) (by unfold maxLen; decide) saneM_ok)).mono ?_
  rintro e w15 ⟨rfl, o15⟩
  have W15 := Lib.hid ((W14.out.alloc _).trans' o15)
  clear o15
  go_wp2
  go_ret
  exact ⟨rfl, HW12.out.trans' W15.out⟩
end
end Go.Proofs.Ytocbfobakmieoaa
