/-
  The link's Send and Double, walked. Condition: at most 1,000,000 elements.
-/
import Derived.Test.YtocbfobakmieoaaLkW5
namespace Go.Proofs.Ytocbfobakmieoaa
set_option linter.unusedVariables false
set_option linter.unusedSimpArgs false
set_option linter.unusedSectionVars false
open Go.RowKit

section
variable {w w' : World} {g : Nat} {t : TypeId} {v1 v2 v3 v4 : Value}
theorem Blk.two (h : Blk w g t #[v1, v2]) : w.cell? ⟨g, 0, none⟩ = some v1 ∧ w.cell? ⟨g, 1, none⟩ = some v2 ∧ w.frozen? ⟨g, 0, none⟩ = false ∧ w.frozen? ⟨g, 1, none⟩ = false :=
  ⟨(h.cell 0).trans rfl, (h.cell 1).trans rfl, h.frozen 0, h.frozen 1⟩
theorem Blk.three (h : Blk w g t #[v1, v2, v3]) : w.cell? ⟨g, 0, none⟩ = some v1 ∧ w.cell? ⟨g, 1, none⟩ = some v2 ∧ w.cell? ⟨g, 2, none⟩ = some v3 ∧ w.frozen? ⟨g, 0, none⟩ = false ∧ w.frozen? ⟨g, 1, none⟩ = false ∧ w.frozen? ⟨g, 2, none⟩ = false :=
  ⟨(h.cell 0).trans rfl, (h.cell 1).trans rfl, (h.cell 2).trans rfl, h.frozen 0, h.frozen 1, h.frozen 2⟩
theorem Blk.four (h : Blk w g t #[v1, v2, v3, v4]) : w.cell? ⟨g, 0, none⟩ = some v1 ∧ w.cell? ⟨g, 1, none⟩ = some v2 ∧ w.cell? ⟨g, 2, none⟩ = some v3 ∧ w.cell? ⟨g, 3, none⟩ = some v4 :=
  ⟨(h.cell 0).trans rfl, (h.cell 1).trans rfl, (h.cell 2).trans rfl, (h.cell 3).trans rfl⟩
theorem Blk.put2 (h : Blk w g t #[v1, v2]) (u1 u2 : Value) : Blk ((w.setCell ⟨g, 0, none⟩ u1).setCell ⟨g, 1, none⟩ u2) g t #[u1, u2] := (h.set_ 0 u1).set_ 1 u2
theorem Blk.put3 (h : Blk w g t #[v1, v2, v3]) (u1 u2 u3 : Value) : Blk (((w.setCell ⟨g, 0, none⟩ u1).setCell ⟨g, 1, none⟩ u2).setCell ⟨g, 2, none⟩ u3) g t #[u1, u2, u3] := ((h.set_ 0 u1).set_ 1 u2).set_ 2 u3
theorem Only.put2 (h : Only NoF w w') (hg : w.heap.size ≤ g) (u1 u2 : Value) : Only NoF w ((w'.setCell ⟨g, 0, none⟩ u1).setCell ⟨g, 1, none⟩ u2) := (h.setCell (.inr hg) _).setCell (.inr hg) _
theorem Only.put3 (h : Only NoF w w') (hg : w.heap.size ≤ g) (u1 u2 u3 : Value) : Only NoF w (((w'.setCell ⟨g, 0, none⟩ u1).setCell ⟨g, 1, none⟩ u2).setCell ⟨g, 2, none⟩ u3) := ((h.setCell (.inr hg) _).setCell (.inr hg) _).setCell (.inr hg) _
theorem OwnAir.put2 {base : Nat} {v : Value} {a : Air} (h : OwnAir base w v a) {base' : Nat} (hg : g < base) (hb : base' ≤ base) (u1 u2 : Value) : OwnAir base' ((w.setCell ⟨g, 0, none⟩ u1).setCell ⟨g, 1, none⟩ u2) v a := (OwnAir.set_ (OwnAir.set_ h hg _) hg _).low hb
theorem OwnAir.put3 {base : Nat} {v : Value} {a : Air} (h : OwnAir base w v a) (hg : g < base) (u1 u2 u3 : Value) : OwnAir base (((w.setCell ⟨g, 0, none⟩ u1).setCell ⟨g, 1, none⟩ u2).setCell ⟨g, 2, none⟩ u3) v a := OwnAir.set_ (OwnAir.set_ (OwnAir.set_ h hg _) hg _) hg _
end

section
variable {w : World} {v : Value}
set_option maxRecDepth 100000 in
set_option maxHeartbeats 1000000 in
theorem nSend_c {a : Air} (h : AirV w v a) (hf : Few_ a) {m : Msg} (hm : MsgOk m) : Calls Try.prog 11 #[v, msgV m] w (AirTo w (Lnk.send a m)) := by
  have H := Lib.hid h
  obtain ⟨v1, v2, rfl, hm0, hc0⟩ := h
  have HWI := Lib.hid (fun (W : World) (hW : Only NoF w W) => nwith_c (AirV.keep H.out hW) hf hm)
  clear hm0 hc0
  have HB := Lib.hid (fun (W : World) (o : Only NoF (((w.alloc (.cells #[v1, v2] 25)).alloc (.cells #[.int .i64 m.a, .int .i64 m.b, strV m.t] 27)).alloc (.cells #[.slice none 0 0, .slice none 0 0] 25)) W) =>
    (⟨((((Only.refl NoF w).alloc _).alloc _).alloc _).trans' o, (((Blk.new w 25 #[v1, v2]).alloc _).alloc _).keep o, ((Blk.new2 w _ 27 #[.int .i64 m.a, .int .i64 m.b, strV m.t]).alloc _).keep o, (Blk.new3 w _ _ 25 #[.slice none 0 0, .slice none 0 0]).keep o⟩ :
      Only NoF w W ∧ Blk W w.heap.size 25 #[v1, v2] ∧ Blk W (w.heap.size + 1) 27 #[.int .i64 m.a, .int .i64 m.b, strV m.t] ∧ Blk W (w.heap.size + 1 + 1) 25 #[.slice none 0 0, .slice none 0 0]))
  cases hr : Lnk.right a with
  | false =>
    have e : Lnk.send a m = (Lnk.none_, 1) := by unfold Lnk.send; rw [if_pos (.inl hr)]
    rw [e]
    have HR := Lib.hid (nRightA_of H.out hr)
    clear e hr
    go_enter Try.func11, Try.ntmps11
    go_wp2_with fail
    refine (HR.out _ (HB.out _ (Only.refl _ _)).1).mono ?_
    rintro e w2 ⟨rfl, o1⟩
    obtain ⟨o, p1, p2, p3⟩ := HB.out _ o1
    obtain ⟨x0, x1, x2, x3⟩ := p3.two
    have O := Lib.hid o
    have P3 := Lib.hid p3
    have hs := o.size
    clear o1 o p1 p2 p3
    go_wp2
    refine bodyPost_ret (results_row_tmp rfl _ _ (w.heap.size + 1 + 1) 25 #[.slice none 0 0, .slice none 0 0] (0, 0) _ rfl (P3.out.put2 _ _) Try.underlying25 rfl (by kernel_rfl)) rfl ?_
    exact ⟨_, rfl, ownNone _ _, okNone, O.out.put2 (by omega) _ _⟩
  | true =>
    have HR := Lib.hid (nRightA_of H.out hr)
    cases hrm : Lnk.rightM m with
    | false =>
      have e : Lnk.send a m = (Lnk.none_, 1) := by unfold Lnk.send; rw [if_pos (.inr hrm)]
      rw [e]
      have HRM := Lib.hid (nright_of hrm)
      clear e hr hrm
      go_enter Try.func11, Try.ntmps11
      go_wp2_with fail
      refine (HR.out _ (HB.out _ (Only.refl _ _)).1).mono ?_
      rintro e w2 ⟨rfl, o1⟩
      obtain ⟨o, p1, p2, p3⟩ := HB.out _ o1
      obtain ⟨x0, x1, x2, x3⟩ := p2.three
      have O1 := Lib.hid o1
      clear o1 o p1 p2 p3
      go_wp2_with fail
      refine (HRM.out _).mono ?_
      rintro e w3 ⟨rfl, o2⟩
      obtain ⟨o, p1, p2, p3⟩ := HB.out _ (O1.out.trans' o2)
      obtain ⟨x0, x1, x2, x3⟩ := p3.two
      have O := Lib.hid o
      have P3 := Lib.hid p3
      have hs := o.size
      clear o o2 p1 p2 p3
      go_wp2
      refine bodyPost_ret (results_row_tmp rfl _ _ (w.heap.size + 1 + 1) 25 #[.slice none 0 0, .slice none 0 0] (0, 0) _ rfl (P3.out.put2 _ _) Try.underlying25 rfl (by kernel_rfl)) rfl ?_
      exact ⟨_, rfl, ownNone _ _, okNone, O.out.put2 (by omega) _ _⟩
    | true =>
      have e : Lnk.send a m = Lnk.with_ a m := by unfold Lnk.send; rw [if_neg (by simp [hr, hrm])]
      rw [e]
      have HRM := Lib.hid (nright_of hrm)
      clear e hr hrm
      go_enter Try.func11, Try.ntmps11
      go_wp2_with fail
      refine (HR.out _ (HB.out _ (Only.refl _ _)).1).mono ?_
      rintro e w2 ⟨rfl, o1⟩
      obtain ⟨o, p1, p2, p3⟩ := HB.out _ o1
      obtain ⟨x0, x1, x2, x3⟩ := p2.three
      have O1 := Lib.hid o1
      clear o1 o p1 p2 p3
      go_wp2_with fail
      refine (HRM.out _).mono ?_
      rintro e w3 ⟨rfl, o2⟩
      obtain ⟨o, p1, p2, p3⟩ := HB.out _ (O1.out.trans' o2)
      obtain ⟨y0, y1, y2, y3⟩ := p1.two
      obtain ⟨x0, x1, x2, x3⟩ := p2.three
      have O := Lib.hid o
      have O2 := Lib.hid (O1.out.trans' o2)
      clear o o2 p1 p2 p3
      go_wp2_with fail
      refine (HWI.out _ O.out).mono ?_
      rintro e w4 ⟨vv, rfl, ⟨u1, u2, rfl, r1, r2⟩, ok, o3⟩
      obtain ⟨E1, e1, rfl, _, _, _⟩ := Reads.of_own r1
      obtain ⟨E2, e2, rfl, _, _, _⟩ := Reads.of_own r2
      obtain ⟨o, p1, p2, p3⟩ := HB.out _ (O2.out.trans' o3)
      obtain ⟨x0, x1, x2, x3⟩ := p3.two
      have O3 := Lib.hid o
      have P3 := Lib.hid p3
      have HA := Lib.hid (show OwnAir w3.heap.size w4 (.agg #[.slice E1 (Lnk.with_ a m).1.ms.length e1, .slice E2 (Lnk.with_ a m).1.cs.length e2]) (Lnk.with_ a m).1 from ⟨_, _, rfl, r1, r2⟩)
      have hs := o.size
      have hs3 := O2.out.size
      simp only [World.size_alloc] at hs3
      clear o p1 p2 p3 r1 r2 o3
      go_wp2
      refine bodyPost_ret (results_row_tmp rfl _ _ (w.heap.size + 1 + 1) 25 #[.slice E1 (Lnk.with_ a m).1.ms.length e1, .slice E2 (Lnk.with_ a m).1.cs.length e2] (0, 0) _ rfl (P3.out.put2 _ _) Try.underlying25 rfl (by kernel_rfl)) rfl ?_
      exact ⟨_, rfl, HA.out.put2 (by omega) (by omega) _ _, ok, O3.out.put2 (by omega) _ _⟩

set_option maxRecDepth 100000 in
set_option maxHeartbeats 1000000 in
theorem nDouble_c {a : Air} (h : AirV w v a) (hf : Few_ a) (i : Int) : Calls Try.prog 14 #[v, .int .i64 i] w (AirTo w (Lnk.double a i)) := by
  have H := Lib.hid h
  have HOK := Lib.hid (AirV.oks h)
  obtain ⟨v1, v2, rfl, hm0, hc0⟩ := h
  clear hm0 hc0
  have HB := Lib.hid (fun (W : World) (o : Only NoF ((w.alloc (.cells #[v1, v2] 25)).alloc (.cells #[.slice none 0 0, .slice none 0 0] 25)) W) =>
    (⟨(((Only.refl NoF w).alloc _).alloc _).trans' o, ((Blk.new w 25 #[v1, v2]).alloc _).keep o, (Blk.new2 w _ 25 #[.slice none 0 0, .slice none 0 0]).keep o⟩ :
      Only NoF w W ∧ Blk W w.heap.size 25 #[v1, v2] ∧ Blk W (w.heap.size + 1) 25 #[.slice none 0 0, .slice none 0 0]))
  have HAT := Lib.hid (fun (W : World) (o : Only NoF w W) => nat_c (AirV.keep H.out o) i)
  by_cases hb0 : Lnk.bad a i = 0
  · have e : Lnk.double a i = Lnk.with_ a (Lnk.msg a i) := by unfold Lnk.double; rw [if_neg (by simp [hb0])]
    rw [e]
    rw [hb0, if_pos rfl] at HAT
    obtain ⟨hr, hi0, hi1⟩ := Lnk.bad_zero hb0
    have HWI := Lib.hid (fun (W : World) (hW : Only NoF w W) => nwith_c (AirV.keep H.out hW) hf (HOK.out.1 _ (Lnk.msg_mem hi0 hi1)))
    generalize Lnk.msg a i = m at HAT HWI
    clear e hr hb0 hi0 hi1
    go_enter Try.func14, Try.ntmps14
    go_wp2_with fail
    refine (HAT.out _ (HB.out _ (Only.refl _ _)).1).mono ?_
    rintro e w2 ⟨rfl, o1⟩
    obtain ⟨o, p1, p2⟩ := HB.out _ o1
    have y := fun o : Obj => (p1.alloc o).two
    have hs := o.size
    have O := Lib.hid o
    have O1 := Lib.hid o1
    clear o1 o p1 p2
    go_wp2_with fail
    refine (HWI.out _ (O.out.alloc _)).mono ?_
    rintro e w4 ⟨vv, rfl, ⟨u1, u2, rfl, r1, r2⟩, ok, o3⟩
    obtain ⟨E1, e1, rfl, _, _, _⟩ := Reads.of_own r1
    obtain ⟨E2, e2, rfl, _, _, _⟩ := Reads.of_own r2
    obtain ⟨o, p1, p2⟩ := HB.out _ ((O1.out.alloc _).trans' o3)
    obtain ⟨x0, x1, x2, x3⟩ := p2.two
    have O3 := Lib.hid o
    have P3 := Lib.hid p2
    have hs3 := (O1.out.alloc (.cells #[.int .i64 m.a, .int .i64 m.b, strV m.t] 27)).size
    simp only [World.size_alloc] at hs3
    have HA := Lib.hid (show OwnAir (w.heap.size + 1 + 1) w4 (.agg #[.slice E1 (Lnk.with_ a m).1.ms.length e1, .slice E2 (Lnk.with_ a m).1.cs.length e2]) (Lnk.with_ a m).1 from ⟨_, _, rfl, own_base r1 (by simp only [World.size_alloc]; omega), own_base r2 (by simp only [World.size_alloc]; omega)⟩)
    clear o p1 p2 r1 r2 o3 y
    go_wp2
    refine bodyPost_ret (results_row_tmp rfl _ _ (w.heap.size + 1) 25 #[.slice E1 (Lnk.with_ a m).1.ms.length e1, .slice E2 (Lnk.with_ a m).1.cs.length e2] (0, 0) _ rfl (P3.out.put2 _ _) Try.underlying25 rfl (by kernel_rfl)) rfl ?_
    exact ⟨_, rfl, HA.out.put2 (by omega) (by omega) _ _, ok, O3.out.put2 (by omega) _ _⟩
  · have e : Lnk.double a i = (Lnk.none_, Lnk.bad a i) := by unfold Lnk.double; rw [if_pos hb0]
    rw [e]
    rw [if_neg hb0] at HAT
    have hbn : (Lnk.bad a i != 0) = true := by simpa using hb0
    generalize Lnk.noM = m at HAT
    clear e hb0
    go_enter Try.func14, Try.ntmps14
    go_wp2_with fail
    refine (HAT.out _ (HB.out _ (Only.refl _ _)).1).mono ?_
    rintro e w2 ⟨rfl, o1⟩
    obtain ⟨o, p1, p2⟩ := HB.out _ o1
    obtain ⟨x0, x1, x2, x3⟩ := (p2.alloc (.cells #[.int .i64 m.a, .int .i64 m.b, strV m.t] 27)).two
    have P2 := Lib.hid (p2.alloc (.cells #[.int .i64 m.a, .int .i64 m.b, strV m.t] 27))
    have hs := o.size
    have O := Lib.hid (o.alloc (.cells #[.int .i64 m.a, .int .i64 m.b, strV m.t] 27))
    clear o1 o p1 p2
    go_wp2
    refine bodyPost_ret (results_row_tmp rfl _ _ (w.heap.size + 1) 25 #[.slice none 0 0, .slice none 0 0] (0, 0) _ rfl (P2.out.put2 _ _) Try.underlying25 rfl (by kernel_rfl)) rfl ?_
    exact ⟨_, rfl, ownNone _ _, okNone, O.out.put2 (by omega) _ _⟩
end
end Go.Proofs.Ytocbfobakmieoaa
