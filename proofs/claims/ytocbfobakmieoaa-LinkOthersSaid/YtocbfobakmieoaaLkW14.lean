/-
  The link's Cut, walked. Condition: at most 1,000,000 elements.
-/
import Derived.Test.YtocbfobakmieoaaLkW13
namespace Go.Proofs.Ytocbfobakmieoaa
set_option linter.unusedVariables false
set_option linter.unusedSimpArgs false
set_option linter.unusedSectionVars false
open Go.RowKit

theorem pair_I64 {x y : Int} (h : Lnk.houses x y = true) : I64 (Lnk.pair x y).x ∧ I64 (Lnk.pair x y).y := by
  simp only [Lnk.houses, decide_eq_true_eq] at h
  simp only [Lnk.pair, I64]
  omega
theorem own_blk_none {w w' : World} {base n : Nat} {t : TypeId} {size : Nat} {v : Value} {xs : List Value} (h : w.ownsRow base t size v n xs) (ho : Only NoF w w') : v.ownBlock ≠ some w'.heap.size := fun e => by
  have := h.lt _ e
  have := ho.size
  omega
section
variable {w : World} {v : Value}
set_option maxRecDepth 100000 in
set_option maxHeartbeats 1000000 in
theorem nCut_c {a : Air} (h : AirV w v a) (hf : Few_ a) (x y : Int) : Calls Try.prog 18 #[v, .int .i64 x, .int .i64 y] w (AirTo w (Lnk.cut a x y)) := by
  have H := Lib.hid h
  have HOK := Lib.hid (AirV.oks h)
  obtain ⟨v1, v2, rfl, hm0, hc0⟩ := h
  clear hm0 hc0
  have HB := Lib.hid (fun (W : World) (o : Only NoF ((w.alloc (.cells #[v1, v2] 25)).alloc (.cells #[.slice none 0 0, .slice none 0 0] 25)) W) =>
    (⟨(((Only.refl NoF w).alloc _).alloc _).trans' o, ((Blk.new w 25 #[v1, v2]).alloc _).keep o, (Blk.new2 w _ 25 #[.slice none 0 0, .slice none 0 0]).keep o⟩ :
      Only NoF w W ∧ Blk W w.heap.size 25 #[v1, v2] ∧ Blk W (w.heap.size + 1) 25 #[.slice none 0 0, .slice none 0 0]))
  cases hr : Lnk.right a with
  | false =>
    have e : Lnk.cut a x y = (Lnk.none_, 1) := by unfold Lnk.cut; rw [if_pos (.inl hr)]
    rw [e]
    have HR := Lib.hid (nRightA_of H.out hr)
    clear e hr
    go_enter Try.func18, Try.ntmps18
    go_wp2_with fail
    refine (HR.out _ (HB.out _ (Only.refl _ _)).1).mono ?_
    rintro e w2 ⟨rfl, o1⟩
    obtain ⟨o, p1, p2⟩ := HB.out _ o1
    obtain ⟨x0, x1, x2, x3⟩ := p2.two
    have O := Lib.hid o
    have P2 := Lib.hid p2
    have hs := o.size
    clear o1 o p1 p2
    go_wp2
    refine bodyPost_ret (results_row_tmp rfl _ _ (w.heap.size + 1) 25 #[.slice none 0 0, .slice none 0 0] (0, 0) _ rfl (P2.out.put2 _ _) Try.underlying25 rfl (by kernel_rfl)) rfl ?_
    exact ⟨_, rfl, ownNone _ _, okNone, O.out.put2 (by omega) _ _⟩
  | true =>
    have HR := Lib.hid (nRightA_of H.out hr)
    cases hh : Lnk.houses x y with
    | false =>
      have e : Lnk.cut a x y = (Lnk.none_, 1) := by unfold Lnk.cut; rw [if_pos (.inr hh)]
      rw [e]
      have HH := Lib.hid (nhouses_of hh)
      clear e hr hh
      go_enter Try.func18, Try.ntmps18
      go_wp2_with fail
      refine (HR.out _ (HB.out _ (Only.refl _ _)).1).mono ?_
      rintro e w2 ⟨rfl, o1⟩
      go_wp2_with fail
      refine (HH.out _).mono ?_
      rintro e w3 ⟨rfl, rfl⟩
      obtain ⟨o, p1, p2⟩ := HB.out _ o1
      obtain ⟨x0, x1, x2, x3⟩ := p2.two
      have O := Lib.hid o
      have P2 := Lib.hid p2
      have hs := o.size
      clear o1 o p1 p2
      go_wp2
      refine bodyPost_ret (results_row_tmp rfl _ _ (w.heap.size + 1) 25 #[.slice none 0 0, .slice none 0 0] (0, 0) _ rfl (P2.out.put2 _ _) Try.underlying25 rfl (by kernel_rfl)) rfl ?_
      exact ⟨_, rfl, ownNone _ _, okNone, O.out.put2 (by omega) _ _⟩
    | true =>
      have HH := Lib.hid (nhouses_of hh)
      have hsrt := (Lnk.right_iff.1 hr).2.1
      have HFD := Lib.hid (fun (W : World) (o : Only NoF w W) => nfind_c (AirV.keep H.out o) hsrt hf x y)
      cases hc : Lnk.isCut a x y with
      | true =>
        have e : Lnk.cut a x y = (Lnk.none_, 5) := by unfold Lnk.cut; rw [if_neg (by simp [hr, hh]), if_pos hc]
        rw [e]
        rw [show decide (Lnk.pair x y ∈ a.cs) = true from hc] at HFD
        clear e hr hh hc hsrt
        go_enter Try.func18, Try.ntmps18
        go_wp2_with fail
        refine (HR.out _ (HB.out _ (Only.refl _ _)).1).mono ?_
        rintro e w2 ⟨rfl, o1⟩
        go_wp2_with fail
        refine (HH.out _).mono ?_
        rintro e w3 ⟨rfl, rfl⟩
        obtain ⟨o, p1, p2⟩ := HB.out _ o1
        obtain ⟨x0, x1, _, _⟩ := p1.two
        have O1 := Lib.hid o1
        clear o1 o p1 p2
        go_wp2_with fail
        refine (HFD.out _ (HB.out _ O1.out).1).mono ?_
        rintro e w4 ⟨rfl, o2⟩
        obtain ⟨o, p1, p2⟩ := HB.out _ (O1.out.trans' o2)
        obtain ⟨x0, x1, x2, x3⟩ := p2.two
        have O := Lib.hid o
        have P2 := Lib.hid p2
        have hs := o.size
        clear o2 o p1 p2
        go_wp2
        refine bodyPost_ret (results_row_tmp rfl _ _ (w.heap.size + 1) 25 #[.slice none 0 0, .slice none 0 0] (0, 0) _ rfl (P2.out.put2 _ _) Try.underlying25 rfl (by kernel_rfl)) rfl ?_
        exact ⟨_, rfl, ownNone _ _, okNone, O.out.put2 (by omega) _ _⟩
      | false =>
        have e : Lnk.cut a x y = ({ a with cs := Lnk.insC (Lnk.pair x y) a.cs }, 0) := by unfold Lnk.cut; rw [if_neg (by simp [hr, hh]), if_neg (by simp [hc])]
        rw [e]
        rw [show decide (Lnk.pair x y ∈ a.cs) = false from hc] at HFD
        have hk := Lnk.posC_le (Lnk.pair x y) a.cs
        have hfl : Lnk.insC (Lnk.pair x y) a.cs = a.cs.take (Lnk.posC (Lnk.pair x y) a.cs) ++ Lnk.pair x y :: a.cs.drop (Lnk.posC (Lnk.pair x y) a.cs) := rfl
        have HPI := Lib.hid (pair_I64 hh)
        generalize Lnk.posC (Lnk.pair x y) a.cs = k at HFD hk hfl
        have HCL := Lib.hid (fun (W : World) (hW : Only NoF w W) => nclone_c (AirV.keep H.out hW) hf)
        have hfm := hf.2
        have HFL := Lib.hid hfl
        have HOKF := Lib.hid (show AirOk { a with cs := Lnk.insC (Lnk.pair x y) a.cs } from ⟨HOK.out.1, fun p hp => (Lnk.mem_ins.1 hp).elim (fun h => by rw [h]; exact HPI.out) (HOK.out.2 p)⟩)
        clear e hr hh hc hsrt hfl
        go_enter Try.func18, Try.ntmps18
        go_wp2_with fail
        refine (HR.out _ (HB.out _ (Only.refl _ _)).1).mono ?_
        rintro e w2 ⟨rfl, o1⟩
        go_wp2_with fail
        refine (HH.out _).mono ?_
        rintro e w3 ⟨rfl, rfl⟩
        obtain ⟨o, p1, p2⟩ := HB.out _ o1
        obtain ⟨x0, x1, _, _⟩ := p1.two
        have O1 := Lib.hid o1
        clear o1 o p1 p2
        go_wp2_with fail
        refine (HFD.out _ (HB.out _ O1.out).1).mono ?_
        rintro e w4 ⟨rfl, o2⟩
        obtain ⟨o, p1, p2⟩ := HB.out _ (O1.out.trans' o2)
        obtain ⟨x0, x1, _, _⟩ := p1.two
        have O2 := Lib.hid (O1.out.trans' o2)
        clear o2 o p1 p2
        go_wp2_with fail
        refine (HCL.out _ (HB.out _ O2.out).1).mono ?_
        rintro e w5 ⟨vv, rfl, ⟨u1, u2, rfl, r1, r2⟩, o3⟩
        obtain ⟨E1, e1, rfl, _, _, _⟩ := Reads.of_own r1
        obtain ⟨E2, e2, rfl, _, _, _⟩ := Reads.of_own r2
        have hs4 := O2.out.size
        simp only [World.size_alloc] at hs4
        obtain ⟨o, p1, p2⟩ := HB.out _ (O2.out.trans' o3)
        have hs := o.size
        have HNE := Lib.hid (own_ne r1 r2 (by decide))
        have R1 := Lib.hid (own_base (base' := w.heap.size + 1 + 1) r1 (by omega))
        have R2 := Lib.hid (own_base (base' := w.heap.size + 1 + 1) r2 (by omega))
        have O := Lib.hid o
        have P2 := Lib.hid p2
        clear o o3 p1 p2 r1 r2
        have hA5 := Only.alloc (Only.refl NoF w5) (.cells #[.slice E1 a.ms.length e1, .slice E2 a.cs.length e2] 25)
        have hB5 := Blk.new w5 25 #[.slice E1 a.ms.length e1, .slice E2 a.cs.length e2]
        obtain ⟨y0, y1, y2, y3⟩ := hB5.two
        have HA5 := Lib.hid hA5
        have HB5 := Lib.hid hB5
        clear hA5 hB5
        go_wp2_with fail
        refine wp_region_reads [0, 1, 2, 3, 4] [5, 6, 7, 8, 9] (fun k W => k ≤ 2 → W.cell? ⟨w5.heap.size, 1, none⟩ = some (.slice E2 a.cs.length e2)) (by kernel_rfl) (by kernel_rfl) (fun _ _ _ _ _ h => h) (fun _ => HB5.out.drew.two.2.1) ?_
        refine wpReads_cons rfl (.pointer (some ⟨w5.heap.size, 1, none⟩)) (by rfl) (fun w' k hk hS => by go_simp) ?_
        go_simp
        refine wpReads_cons rfl (.slice E2 a.cs.length e2) (by rfl) (fun w' k hk hS => by have h1 := hS (Nat.le_trans hk (of_decide_eq_true (by kernel_rfl))); clear hk hS; go_simp) ?_
        go_simp
        iterate 3
          refine wpReads_plain _ rfl rfl (fun _ => run_op_move rfl) ?_
          go_simp
        refine wpReads_nil ?_
        refine wpTail_cons rfl rfl ?_
        go_simp
        refine (npair_c _ x y).mono ?_
        rintro e w6 ⟨rfl, o6⟩
        have O6 := Lib.hid (HA5.out.drew.trans' o6)
        have Q5 := Lib.hid (HB5.out.drew.keep o6)
        clear o6 y0 y1 y2 y3
        refine ⟨Q5.out.two.2.1, ?_⟩
        refine wpTail_cons rfl rfl ?_
        go_simp
        refine ⟨(Q5.out.alloc _).two.2.1, ?_⟩
        refine wpTail_cons rfl rfl ?_
        go_simp
        refine (insPr_c (base := w.heap.size + 1 + 1) (own_keep R2.out (O6.out.alloc _)) (prCells_one _) hk hf.2 (by simp only [World.size_alloc]; have := O6.out.size; have := P2.out.lt; omega) (gv := w6.heap.size) (news := prCells [Lnk.pair x y]) (Blk.new w6 _ _) (own_blk_none R2.out O6.out) rfl (prCells_one _)).mono ?_
        rintro e w7 ⟨v7, rfl, r7, o7⟩
        obtain ⟨E7, e7, rfl, _, _, _⟩ := Reads.of_own r7
        have q5 := (Q5.out.alloc _).only o7 fun h => own_blk_none R2.out (Only.refl NoF w5) h
        have q2 := ((P2.out.only O6.out id).alloc _).only o7 fun h => by have := R2.out.lt _ h; omega
        have R1' := Lib.hid (own_only (own_keep R1.out (O6.out.alloc _)) o7 fun j hj h => HNE.out j hj h.symm)
        have O7 := Lib.hid ((O.out.trans' (O6.out.alloc _)).trans o7 fun j hj => .inr (by have := R2.out.lt _ hj; omega))
        obtain ⟨u0, u1, u2, u3⟩ := q5.two
        obtain ⟨x0, x1, x2, x3⟩ := q2.two
        have Q7 := Lib.hid q5
        have Q2 := Lib.hid q2
        have R7 := Lib.hid r7
        have hne : ¬ w.heap.size + 1 = w5.heap.size := by have := P2.out.lt; omega
        have hne2 : ¬ w5.heap.size = w.heap.size + 1 := by omega
        clear q5 q2 r7 o7
        refine wpTail_cons rfl rfl ?_
        go_simp
        refine wpTail_cons rfl rfl ?_
        go_simp
        refine wpTail_nil ?_
        go_wp2
        refine bodyPost_ret (results_row_tmp rfl _ _ (w.heap.size + 1) 25 #[.slice E1 a.ms.length e1, .slice E7 (a.cs.length + 1) e7] (0, 0) _ rfl ((Q2.out.far (p := ⟨w5.heap.size, 1, none⟩) hne _).put2 _ _) Try.underlying25 rfl (by kernel_rfl)) rfl ?_
        have z1 := own_blk_ne R1'.out Q7.out (by decide)
        have z2 := own_blk_ne R7.out Q7.out (by decide)
        have hl : (Lnk.insC (Lnk.pair x y) a.cs).length = a.cs.length + 1 := by
          rw [HFL.out, List.length_append, List.length_cons, List.length_take, List.length_drop]
          omega
        have hown : OwnAir (w.heap.size + 1 + 1) (w7.setCell ⟨w5.heap.size, 1, none⟩ (.slice E7 (a.cs.length + 1) e7)) (.agg #[.slice E1 a.ms.length e1, .slice E7 (a.cs.length + 1) e7]) { a with cs := Lnk.insC (Lnk.pair x y) a.cs } :=
          ⟨_, _, rfl, ownsRow_setCell_other R1'.out (a := ⟨w5.heap.size, 1, none⟩) z1 _, by
            show World.ownsRow _ _ _ _ _ (Lnk.insC (Lnk.pair x y) a.cs).length (prCells (Lnk.insC (Lnk.pair x y) a.cs))
            rw [hl, HFL.out, prCells_append, prCells_cons, prCells_take, prCells_drop]
            have := ownsRow_setCell_other R7.out (a := ⟨w5.heap.size, 1, none⟩) z2 (.slice E7 (a.cs.length + 1) e7)
            simpa [prCells] using this⟩
        exact ⟨_, rfl, hown.put2 (by omega) (by omega) _ _, HOKF.out, (O7.out.setCell (.inr hs) _).put2 (by omega) _ _⟩
end
end Go.Proofs.Ytocbfobakmieoaa
