/-
  The link's without and Lose, walked. Condition: at most 1,000,000 elements.
-/
import Derived.Test.YtocbfobakmieoaaLkW7
namespace Go.Proofs.Ytocbfobakmieoaa
set_option linter.unusedVariables false
set_option linter.unusedSimpArgs false
set_option linter.unusedSectionVars false
open Go.RowKit

theorem own_some {w : World} {base n : Nat} {t : TypeId} {size : Nat} {A : Option Addr} {c : Nat} {xs : List Value} (h : w.ownsRow base t size (.slice A (n + 1) c) (n + 1) xs) : ∃ g, A = some ⟨g, 0, none⟩ ∧ base ≤ g ∧ g < w.heap.size := by
  rcases h.2 with ⟨h2, _⟩ | ⟨g, cap, cur, he, hg, hh, _⟩
  · cases h2
  · cases he
    exact ⟨g, rfl, hg, heap_lt hh⟩
theorem without_cells {a : Air} {k : Nat} : msgCells (Lnk.without a (k : Int)).ms = (msgCells a.ms).take (k * 3) ++ (msgCells a.ms).drop ((k + 1) * 3) := by
  have e : (Lnk.without a (k : Int)).ms = a.ms.take k ++ a.ms.drop (k + 1) := by
    show a.ms.eraseIdx _ = _
    rw [Int.toNat_natCast, List.eraseIdx_eq_take_drop_succ]
  rw [e, msgCells_append, msgCells_take, msgCells_drop]

section
variable {w : World} {v : Value}
set_option maxRecDepth 100000 in
set_option maxHeartbeats 1000000 in
theorem nwithout_c {a : Air} (h : AirV w v a) (hf : Few_ a) {k : Nat} (hk : k < a.ms.length) : Calls Try.prog 41 #[v, .int .i64 (k : Int)] w (CloneTo w (Lnk.without a k)) := by
  have H := Lib.hid h
  obtain ⟨v1, v2, rfl, hm0, hc0⟩ := h
  clear hm0 hc0
  have HB := Lib.hid (fun (W : World) (o : Only NoF ((w.alloc (.cells #[v1, v2] 25)).alloc (.cells #[.slice none 0 0, .slice none 0 0] 25)) W) =>
    (⟨(((Only.refl NoF w).alloc _).alloc _).trans' o, ((Blk.new w 25 #[v1, v2]).alloc _).keep o, (Blk.new2 w _ 25 #[.slice none 0 0, .slice none 0 0]).keep o⟩ :
      Only NoF w W ∧ Blk W w.heap.size 25 #[v1, v2] ∧ Blk W (w.heap.size + 1) 25 #[.slice none 0 0, .slice none 0 0]))
  have HCL := Lib.hid (fun (W : World) (hW : Only NoF w W) => nclone_c (AirV.keep H.out hW) hf)
  obtain ⟨n, hn⟩ : ∃ n, a.ms.length = n + 1 := ⟨a.ms.length - 1, by omega⟩
  have hfm := hf.1
  have hwi : IntKind.i64.wrap ((k : Int) + 1) = ((k + 1 : Nat) : Int) := by rw [IntWalk.i64_in _ (by omega)]; rfl
  go_enter Try.func41, Try.ntmps41
  go_wp2_with fail
  refine (HCL.out _ (HB.out _ (Only.refl _ _)).1).mono ?_
  rintro e w2 ⟨vv, rfl, ⟨u1, u2, rfl, r1, r2⟩, o1⟩
  obtain ⟨E1, e1, rfl, _, _, _⟩ := Reads.of_own r1
  obtain ⟨E2, e2, rfl, _, _, _⟩ := Reads.of_own r2
  rw [hn] at r1 ⊢
  obtain ⟨g, rfl, hg1, hg2⟩ := own_some r1
  simp only [World.size_alloc] at hg1
  obtain ⟨o, p1, p2⟩ := HB.out _ o1
  have hs := o.size
  have HNE := Lib.hid (own_ne r2 r1 (by decide))
  have R1 := Lib.hid (own_base (base' := w.heap.size + 1 + 1) r1 (by simp only [World.size_alloc]; omega))
  have R2 := Lib.hid (own_base (base' := w.heap.size + 1 + 1) r2 (by simp only [World.size_alloc]; omega))
  have O := Lib.hid o
  have P2 := Lib.hid p2
  clear o o1 p1 p2 r1 r2
  go_wp2_with fail
  refine (delMsg_c (base := w.heap.size + 1 + 1) (i := k) (own_keep R1.out ((Only.refl NoF w2).alloc _)) (msgCells_one _) (by omega) (by omega)).mono ?_
  rintro e w4 ⟨rfl, hr, o4⟩
  have q2 := ((P2.out.alloc (.cells #[.slice (some ⟨g, 0, none⟩) (n + 1) e1, .slice E2 a.cs.length e2] 25)).only o4 fun h => by have : w.heap.size + 1 = g := h; omega)
  have q5 := (Blk.new w2 25 #[.slice (some ⟨g, 0, none⟩) (n + 1) e1, .slice E2 a.cs.length e2]).only o4 fun h => by have : w2.heap.size = g := h; omega
  have R2' := Lib.hid (own_only (own_keep R2.out ((Only.refl NoF w2).alloc (.cells #[.slice (some ⟨g, 0, none⟩) (n + 1) e1, .slice E2 a.cs.length e2] 25))) o4 fun j hj h => HNE.out j hj (by have : j = g := h; rw [this]; rfl))
  have O4 := Lib.hid ((O.out.alloc (.cells #[.slice (some ⟨g, 0, none⟩) (n + 1) e1, .slice E2 a.cs.length e2] 25)).trans o4 fun j hj => .inr (by have : j = g := hj; omega))
  obtain ⟨x0, x1, x2, x3⟩ := q2.two
  obtain ⟨y0, y1, y2, y3⟩ := q5.two
  have Q2 := Lib.hid q2
  have Q5 := Lib.hid q5
  have R1' := Lib.hid hr
  have hne : ¬ w.heap.size + 1 = w2.heap.size := by omega
  have hne2 : ¬ w2.heap.size = w.heap.size + 1 := by omega
  clear q2 q5 hr o4
  go_wp2
  refine bodyPost_ret (results_cell_row rfl _ _ (w.heap.size + 1) 25 #[.slice (some ⟨g, 0, none⟩) n e1, .slice E2 a.cs.length e2] (0, 0) _ rfl ((Q2.out.far (p := ⟨w2.heap.size, 0, none⟩) hne _).put2 _ _) Try.underlying25 rfl (by kernel_rfl)) rfl ?_
  have z1 := own_blk_ne R1'.out Q5.out (by decide)
  have z2 := own_blk_ne R2'.out Q5.out (by decide)
  have hl : (Lnk.without a (k : Int)).ms.length = n := by
    show (a.ms.eraseIdx _).length = n
    rw [Int.toNat_natCast, List.length_eraseIdx_of_lt hk]
    omega
  have hown : OwnAir (w.heap.size + 1 + 1) (w4.setCell ⟨w2.heap.size, 0, none⟩ (.slice (some ⟨g, 0, none⟩) n e1)) (.agg #[.slice (some ⟨g, 0, none⟩) n e1, .slice E2 a.cs.length e2]) (Lnk.without a k) :=
    ⟨_, _, rfl, by rw [without_cells, hl]; exact ownsRow_setCell_other R1'.out (a := ⟨w2.heap.size, 0, none⟩) z1 _, ownsRow_setCell_other R2'.out (a := ⟨w2.heap.size, 0, none⟩) z2 _⟩
  exact ⟨_, rfl, hown.put2 (by omega) (by omega) _ _, (O4.out.setCell (.inr hs) _).put2 (by omega) _ _⟩

set_option maxRecDepth 100000 in
set_option maxHeartbeats 1000000 in
theorem nLose_c {a : Air} (h : AirV w v a) (hf : Few_ a) (i : Int) : Calls Try.prog 16 #[v, .int .i64 i] w (AirTo w (Lnk.lose a i)) := by
  have H := Lib.hid h
  have HOK := Lib.hid (AirV.oks h)
  obtain ⟨v1, v2, rfl, hm0, hc0⟩ := h
  clear hm0 hc0
  have HB := Lib.hid (fun (W : World) (o : Only NoF ((w.alloc (.cells #[v1, v2] 25)).alloc (.cells #[.slice none 0 0, .slice none 0 0] 25)) W) =>
    (⟨(((Only.refl NoF w).alloc _).alloc _).trans' o, ((Blk.new w 25 #[v1, v2]).alloc _).keep o, (Blk.new2 w _ 25 #[.slice none 0 0, .slice none 0 0]).keep o⟩ :
      Only NoF w W ∧ Blk W w.heap.size 25 #[v1, v2] ∧ Blk W (w.heap.size + 1) 25 #[.slice none 0 0, .slice none 0 0]))
  have HAT := Lib.hid (fun (W : World) (o : Only NoF w W) => nat_c (AirV.keep H.out o) i)
  by_cases hb0 : Lnk.bad a i = 0
  · have e : Lnk.lose a i = (Lnk.without a i, 0) := by unfold Lnk.lose; rw [if_neg (by simp [hb0])]
    rw [e]
    rw [hb0, if_pos rfl] at HAT
    obtain ⟨hr, hi0, hi1⟩ := Lnk.bad_zero hb0
    obtain ⟨k, rfl⟩ : ∃ k : Nat, i = (k : Int) := ⟨i.toNat, by omega⟩
    have hoks : AirOk (Lnk.without a k) := ⟨fun m hm => HOK.out.1 m (List.mem_of_mem_eraseIdx hm), HOK.out.2⟩
    have HWI := Lib.hid (fun (W : World) (hW : Only NoF w W) => nwithout_c (AirV.keep H.out hW) hf (k := k) (by omega))
    generalize Lnk.msg a k = m at HAT HWI
    clear e hr hb0 hi0 hi1
    go_enter Try.func16, Try.ntmps16
    go_wp2_with fail
    refine (HAT.out _ (HB.out _ (Only.refl _ _)).1).mono ?_
    rintro e w2 ⟨rfl, o1⟩
    obtain ⟨o, p1, p2⟩ := HB.out _ o1
    have y := fun o : Obj => (p1.alloc o).two
    have hs := o.size
    have O := Lib.hid o
    have O1 := Lib.hid o1
    clear o1 o p1 p2
    go_wp2_with fail
    refine (HWI.out _ (O.out.alloc _)).mono ?_
    rintro e w4 ⟨vv, rfl, ⟨u1, u2, rfl, r1, r2⟩, o3⟩
    obtain ⟨E1, e1, rfl, _, _, _⟩ := Reads.of_own r1
    obtain ⟨E2, e2, rfl, _, _, _⟩ := Reads.of_own r2
    obtain ⟨o, p1, p2⟩ := HB.out _ ((O1.out.alloc _).trans' o3)
    obtain ⟨x0, x1, x2, x3⟩ := p2.two
    have O3 := Lib.hid o
    have P3 := Lib.hid p2
    have hs3 := (O1.out.alloc (.cells #[.int .i64 m.a, .int .i64 m.b, strV m.t] 27)).size
    simp only [World.size_alloc] at hs3
    have HA := Lib.hid (show OwnAir (w.heap.size + 1 + 1) w4 (.agg #[.slice E1 (Lnk.without a k).ms.length e1, .slice E2 (Lnk.without a k).cs.length e2]) (Lnk.without a k) from ⟨_, _, rfl, own_base r1 (by simp only [World.size_alloc]; omega), own_base r2 (by simp only [World.size_alloc]; omega)⟩)
    clear o p1 p2 r1 r2 o3 y
    go_wp2
    refine bodyPost_ret (results_row_tmp rfl _ _ (w.heap.size + 1) 25 #[.slice E1 (Lnk.without a k).ms.length e1, .slice E2 (Lnk.without a k).cs.length e2] (0, 0) _ rfl (P3.out.put2 _ _) Try.underlying25 rfl (by kernel_rfl)) rfl ?_
    exact ⟨_, rfl, HA.out.put2 (by omega) (by omega) _ _, hoks, O3.out.put2 (by omega) _ _⟩
  · have e : Lnk.lose a i = (Lnk.none_, Lnk.bad a i) := by unfold Lnk.lose; rw [if_pos hb0]
    rw [e]
    rw [if_neg hb0] at HAT
    have hbn : (Lnk.bad a i != 0) = true := by simpa using hb0
    generalize Lnk.noM = m at HAT
    clear e hb0
    go_enter Try.func16, Try.ntmps16
    go_wp2_with fail
    refine (HAT.out _ (HB.out _ (Only.refl _ _)).1).mono ?_
    rintro e w2 ⟨rfl, o1⟩
    obtain ⟨o, p1, p2⟩ := HB.out _ o1
    obtain ⟨x0, x1, x2, x3⟩ := (p2.alloc (.cells #[.int .i64 m.a, .int .i64 m.b, strV m.t] 27)).two
    have P2 := Lib.hid (p2.alloc (.cells #[.int .i64 m.a, .int .i64 m.b, strV m.t] 27))
    have hs := o.size
    have O := Lib.hid (o.alloc (.cells #[.int .i64 m.a, .int .i64 m.b, strV m.t] 27))
    clear o1 o p1 p2
    go_wp2
    refine bodyPost_ret (results_row_tmp rfl _ _ (w.heap.size + 1) 25 #[.slice none 0 0, .slice none 0 0] (0, 0) _ rfl (P2.out.put2 _ _) Try.underlying25 rfl (by kernel_rfl)) rfl ?_
    exact ⟨_, rfl, ownNone _ _, okNone, O.out.put2 (by omega) _ _⟩
end
end Go.Proofs.Ytocbfobakmieoaa
