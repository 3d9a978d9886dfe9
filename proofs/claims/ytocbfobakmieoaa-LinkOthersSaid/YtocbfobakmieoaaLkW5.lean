/-
  The link's at, Send and Double, walked. Condition: at most 1,000,000 elements.
-/
import Derived.Test.YtocbfobakmieoaaLkW4
namespace Go.Proofs.Ytocbfobakmieoaa
set_option linter.unusedVariables false
set_option linter.unusedSimpArgs false
set_option linter.unusedSectionVars false
open Go.RowKit

theorem nright_of {m : Msg} {b : Bool} (h : Lnk.rightM m = b) (w : World) : Calls Try.prog 35 #[msgV m] w (BoolTo w b) := by
  subst h
  exact nright_c w m
theorem nRightA_of {w : World} {v : Value} {a : Air} (h : AirV w v a) {b : Bool} (hb : Lnk.right a = b) (W : World) (hW : Only NoF w W) : Calls Try.prog 28 #[v] W (BoolTo W b) := by
  subst hb
  exact nRightA_c (AirV.keep h hW)
def MsgTo (w : World) (m : Msg) (n : Int) (e : Ending) (w' : World) : Prop := e = .returned (.tuple #[msgV m, .int .i64 n]) ∧ Only NoF w w'
theorem Blk.keep {w w' : World} {g : Nat} {t : TypeId} {cs : Array Value} (h : Blk w g t cs) (ho : Only NoF w w') : Blk w' g t cs := h.only ho fun h => h

section
variable {w : World} {v : Value}
set_option maxRecDepth 100000 in
set_option maxHeartbeats 1000000 in
theorem nat_c {a : Air} (h : AirV w v a) (i : Int) : Calls Try.prog 39 #[v, .int .i64 i] w (MsgTo w (if Lnk.bad a i = 0 then Lnk.msg a i else Lnk.noM) (Lnk.bad a i)) := by
  have H := Lib.hid h
  obtain ⟨v1, v2, rfl, hm0, hc0⟩ := h
  obtain ⟨A1, c1, rfl, m1, m2, hfm⟩ := Msgs.form hm0
  obtain ⟨A2, c2, rfl, n1, n2⟩ := SliceOf.shape hc0
  have HFM := Lib.hid hfm
  clear hm0 hc0 hfm
  unfold maxLen at m2 n2
  cases hr : Lnk.right a with
  | false =>
    have e : Lnk.bad a i = 1 := by unfold Lnk.bad; rw [if_pos hr]
    rw [e, if_neg (by decide)]
    have HR := Lib.hid (nRightA_of H.out hr)
    clear e hr
    go_enter Try.func39, Try.ntmps39
    go_wp2_with fail
    have HW := Lib.hid (((Only.refl NoF w).alloc (.cells #[.slice A1 a.ms.length c1, .slice A2 a.cs.length c2] 25)).alloc (.cells #[.int .i64 0, .int .i64 0, strV []] 27))
    refine (HR.out _ HW.out).mono ?_
    rintro e w2 ⟨rfl, o1⟩
    have p4 := (Blk.new2 w (.cells #[.slice A1 a.ms.length c1, .slice A2 a.cs.length c2] 25) 27 #[.int .i64 0, .int .i64 0, strV []]).keep o1
    have y0 := p4.cell 0
    have y1 := p4.cell 1
    have y2 := p4.cell 2
    have z0 := p4.frozen 0
    have z1 := p4.frozen 1
    have z2 := p4.frozen 2
    have P4 := Lib.hid p4
    have O1 := Lib.hid (HW.out.trans' o1)
    have hs := O1.out.size
    clear p4 o1
    go_wp2
    refine bodyPost_ret (results_row_tmp rfl _ _ (w.heap.size + 1) 27 #[.int .i64 0, .int .i64 0, strV []] (0, 0) _ rfl ?_ Try.underlying27 rfl (by kernel_rfl)) rfl ?_
    · exact (((P4.out.set_ 0 (.int .i64 0)).set_ 1 (.int .i64 0)).set_ 2 (strV []))
    · exact ⟨rfl, (((O1.out.setCell (.inr (by simp)) _).setCell (.inr (by simp)) _).setCell (.inr (by simp)) _)⟩
  | true =>
    have HR := Lib.hid (nRightA_of H.out hr)
    have hbad : Lnk.bad a i = if i < 0 ∨ (a.ms.length : Int) ≤ i then 4 else 0 := by unfold Lnk.bad; rw [if_neg (by simp [hr])]
    clear hr
    by_cases hi : 0 ≤ i
    · by_cases hi2 : i < (a.ms.length : Int)
      · rw [hbad.trans (if_neg (by omega)), if_pos rfl]
        clear hbad
        have hmg : Lnk.msg a i = a.ms[i.toNat] := by
          unfold Lnk.msg
          rw [List.getD_eq_getElem?_getD, List.getElem?_eq_getElem (by omega)]
          rfl
        rw [hmg]
        obtain ⟨k, rfl⟩ : ∃ k : Nat, i = (k : Int) := ⟨i.toNat, by omega⟩
        simp only [Int.toNat_natCast]
        clear hmg
        obtain ⟨b, off, rfl, _, hc⟩ := HFM.out k (by omega)
        have HC := Lib.hid hc
        clear hc
        go_enter Try.func39, Try.ntmps39
        go_wp2_with fail
        have HW := Lib.hid (((Only.refl NoF w).alloc (.cells #[.slice (some ⟨b, off, none⟩) a.ms.length c1, .slice A2 a.cs.length c2] 25)).alloc (.cells #[.int .i64 0, .int .i64 0, strV []] 27))
        refine (HR.out _ HW.out).mono ?_
        rintro e w2 ⟨rfl, o1⟩
        have p3 := ((Blk.new w 25 #[.slice (some ⟨b, off, none⟩) a.ms.length c1, .slice A2 a.cs.length c2]).alloc (.cells #[.int .i64 0, .int .i64 0, strV []] 27)).keep o1
        have p4 := (Blk.new2 w (.cells #[.slice (some ⟨b, off, none⟩) a.ms.length c1, .slice A2 a.cs.length c2] 25) 27 #[.int .i64 0, .int .i64 0, strV []]).keep o1
        have x0 := p3.cell 0
        have y0 := p4.cell 0
        have y1 := p4.cell 1
        have y2 := p4.cell 2
        have z0 := p4.frozen 0
        have z1 := p4.frozen 1
        have z2 := p4.frozen 2
        have P4 := Lib.hid p4
        have O1 := Lib.hid (HW.out.trans' o1)
        obtain ⟨q0, q1, q2⟩ := HC.out _ O1.out
        have hs := O1.out.size
        clear p4 p3 o1
        go_wp2
        refine bodyPost_ret (results_row_tmp rfl _ _ (w.heap.size + 1) 27 #[.int .i64 a.ms[k].a, .int .i64 a.ms[k].b, strV a.ms[k].t] (0, 0) _ rfl ?_ Try.underlying27 rfl (by kernel_rfl)) rfl ?_
        · exact (((P4.out.set_ 0 (.int .i64 a.ms[k].a)).set_ 1 (.int .i64 a.ms[k].b)).set_ 2 (strV a.ms[k].t))
        · exact ⟨rfl, (((O1.out.setCell (.inr (by simp)) _).setCell (.inr (by simp)) _).setCell (.inr (by simp)) _)⟩
      · rw [hbad.trans (if_pos (by omega)), if_neg (by decide)]
        clear hbad
        go_enter Try.func39, Try.ntmps39
        go_wp2_with fail
        have HW := Lib.hid (((Only.refl NoF w).alloc (.cells #[.slice A1 a.ms.length c1, .slice A2 a.cs.length c2] 25)).alloc (.cells #[.int .i64 0, .int .i64 0, strV []] 27))
        refine (HR.out _ HW.out).mono ?_
        rintro e w2 ⟨rfl, o1⟩
        have p3 := ((Blk.new w 25 #[.slice A1 a.ms.length c1, .slice A2 a.cs.length c2]).alloc (.cells #[.int .i64 0, .int .i64 0, strV []] 27)).keep o1
        have p4 := (Blk.new2 w (.cells #[.slice A1 a.ms.length c1, .slice A2 a.cs.length c2] 25) 27 #[.int .i64 0, .int .i64 0, strV []]).keep o1
        have x0 := p3.cell 0
        have y0 := p4.cell 0
        have y1 := p4.cell 1
        have y2 := p4.cell 2
        have z0 := p4.frozen 0
        have z1 := p4.frozen 1
        have z2 := p4.frozen 2
        have P4 := Lib.hid p4
        have O1 := Lib.hid (HW.out.trans' o1)
        have hs := O1.out.size
        clear p4 p3 o1
        go_wp2
        refine bodyPost_ret (results_row_tmp rfl _ _ (w.heap.size + 1) 27 #[.int .i64 0, .int .i64 0, strV []] (0, 0) _ rfl ?_ Try.underlying27 rfl (by kernel_rfl)) rfl ?_
        · exact (((P4.out.set_ 0 (.int .i64 0)).set_ 1 (.int .i64 0)).set_ 2 (strV []))
        · exact ⟨rfl, (((O1.out.setCell (.inr (by simp)) _).setCell (.inr (by simp)) _).setCell (.inr (by simp)) _)⟩
    · rw [hbad.trans (if_pos (by omega)), if_neg (by decide)]
      clear hbad
      go_enter Try.func39, Try.ntmps39
      go_wp2_with fail
      have HW := Lib.hid (((Only.refl NoF w).alloc (.cells #[.slice A1 a.ms.length c1, .slice A2 a.cs.length c2] 25)).alloc (.cells #[.int .i64 0, .int .i64 0, strV []] 27))
      refine (HR.out _ HW.out).mono ?_
      rintro e w2 ⟨rfl, o1⟩
      have p4 := (Blk.new2 w (.cells #[.slice A1 a.ms.length c1, .slice A2 a.cs.length c2] 25) 27 #[.int .i64 0, .int .i64 0, strV []]).keep o1
      have y0 := p4.cell 0
      have y1 := p4.cell 1
      have y2 := p4.cell 2
      have z0 := p4.frozen 0
      have z1 := p4.frozen 1
      have z2 := p4.frozen 2
      have P4 := Lib.hid p4
      have O1 := Lib.hid (HW.out.trans' o1)
      have hs := O1.out.size
      clear p4 o1
      go_wp2
      refine bodyPost_ret (results_row_tmp rfl _ _ (w.heap.size + 1) 27 #[.int .i64 0, .int .i64 0, strV []] (0, 0) _ rfl ?_ Try.underlying27 rfl (by kernel_rfl)) rfl ?_
      · exact (((P4.out.set_ 0 (.int .i64 0)).set_ 1 (.int .i64 0)).set_ 2 (strV []))
      · exact ⟨rfl, (((O1.out.setCell (.inr (by simp)) _).setCell (.inr (by simp)) _).setCell (.inr (by simp)) _)⟩
end
end Go.Proofs.Ytocbfobakmieoaa
