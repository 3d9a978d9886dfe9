/-
  The link's Deliver, walked. Condition: at most 1,000,000 elements.
-/
import Derived.Test.YtocbfobakmieoaaLkW9
import Derived.Deep.RegionHeld3
namespace Go.Proofs.Ytocbfobakmieoaa
set_option linter.unusedVariables false
set_option linter.unusedSimpArgs false
set_option linter.unusedSectionVars false
open Go.RowKit

def DelivTo (w : World) (r : Air × Msg × Int) (e : Ending) (w' : World) : Prop := ∃ v', e = .returned (.tuple #[v', msgV r.2.1, .int .i64 r.2.2]) ∧ OwnAir w.heap.size w' v' r.1 ∧ AirOk r.1 ∧ Only NoF w w'

theorem Blk.far2 {w : World} {g k : Nat} {t : TypeId} {cs : Array Value} (h : Blk w g t cs) (hk : g ≠ k) (u1 u2 : Value) : Blk ((w.setCell ⟨k, 0, none⟩ u1).setCell ⟨k, 1, none⟩ u2) g t cs := (h.far (p := ⟨k, 0, none⟩) hk _).far (p := ⟨k, 1, none⟩) hk _
theorem Blk.far3 {w : World} {g k : Nat} {t : TypeId} {cs : Array Value} (h : Blk w g t cs) (hk : g ≠ k) (u1 u2 u3 : Value) : Blk (((w.setCell ⟨k, 0, none⟩ u1).setCell ⟨k, 1, none⟩ u2).setCell ⟨k, 2, none⟩ u3) g t cs := (h.far2 hk _ _).far (p := ⟨k, 2, none⟩) hk _
section
variable {w : World} {v : Value}
set_option maxRecDepth 100000 in
set_option maxHeartbeats 1000000 in
theorem nDeliver_c {a : Air} (h : AirV w v a) (hf : Few_ a) (i : Int) : Calls Try.prog 22 #[v, .int .i64 i] w (DelivTo w (Lnk.deliver a i)) := by
  have H := Lib.hid h
  have HOK := Lib.hid (AirV.oks h)
  obtain ⟨v1, v2, rfl, hm0, hc0⟩ := h
  have HPR := Lib.hid hc0
  clear hm0 hc0
  have HB := Lib.hid (fun (W : World) (o : Only NoF (((w.alloc (.cells #[v1, v2] 25)).alloc (.cells #[.slice none 0 0, .slice none 0 0] 25)).alloc (.cells #[.int .i64 0, .int .i64 0, strV []] 27)) W) =>
    (⟨((((Only.refl NoF w).alloc _).alloc _).alloc _).trans' o, (((Blk.new w 25 #[v1, v2]).alloc _).alloc _).keep o, ((Blk.new2 w _ 25 #[.slice none 0 0, .slice none 0 0]).alloc _).keep o, (Blk.new3 w _ _ 27 #[.int .i64 0, .int .i64 0, strV []]).keep o⟩ :
      Only NoF w W ∧ Blk W w.heap.size 25 #[v1, v2] ∧ Blk W (w.heap.size + 1) 25 #[.slice none 0 0, .slice none 0 0] ∧ Blk W (w.heap.size + 1 + 1) 27 #[.int .i64 0, .int .i64 0, strV []]))
  have HAT := Lib.hid (fun (W : World) (o : Only NoF w W) => nat_c (AirV.keep H.out o) i)
  by_cases hb0 : Lnk.bad a i = 0
  · rw [hb0, if_pos rfl] at HAT
    obtain ⟨hr, hi0, hi1⟩ := Lnk.bad_zero hb0
    obtain ⟨k, rfl⟩ : ∃ k : Nat, i = (k : Int) := ⟨i.toNat, by omega⟩
    have hoks : AirOk (Lnk.without a k) := ⟨fun m hm => HOK.out.1 m (List.mem_of_mem_eraseIdx hm), HOK.out.2⟩
    have HOKS := Lib.hid hoks
    have HWI := Lib.hid (fun (W : World) (hW : Only NoF w W) => nwithout_c (AirV.keep H.out hW) hf (k := k) (by omega))
    obtain ⟨m, hm⟩ : ∃ m, Lnk.msg a k = m := ⟨_, rfl⟩
    rw [hm] at HAT
    have HHAS := Lib.hid (fun (W : World) (o : Only NoF w W) => hasPr_c (Prs.keep HPR.out o) (Lnk.pair m.a m.b))
    cases hcut : Lnk.isCut a m.a m.b with
    | true =>
      have e : Lnk.deliver a k = (Lnk.none_, Lnk.noM, 7) := by unfold Lnk.deliver; rw [if_neg (by simp [hb0]), hm, if_pos hcut]
      rw [e]
      rw [show decide (Lnk.pair m.a m.b ∈ a.cs) = true from hcut] at HHAS
      clear e hr hb0 hi0 hi1 hm hcut hoks
      go_enter Try.func22, Try.ntmps22
      go_wp2_with fail
      refine (HAT.out _ (HB.out _ (Only.refl _ _)).1).mono ?_
      rintro e w2 ⟨rfl, o1⟩
      have hs := o1.size
      simp only [World.size_alloc] at hs
      have hks : ∀ W, Only NoF (w2.alloc (.cells #[.int .i64 m.a, .int .i64 m.b, strV m.t] 27)) W → (Only NoF w W ∧ Blk W w.heap.size 25 #[v1, v2] ∧ Blk W (w.heap.size + 1) 25 #[.slice none 0 0, .slice none 0 0] ∧ Blk W (w.heap.size + 1 + 1) 27 #[.int .i64 0, .int .i64 0, strV []]) ∧ W.cell? ⟨w.heap.size, 1, none⟩ = some v2 ∧ W.cell? ⟨w2.heap.size, 0, none⟩ = some (.int .i64 m.a) ∧ W.cell? ⟨w2.heap.size, 1, none⟩ = some (.int .i64 m.b) := fun W o =>
        have q := HB.out _ ((o1.alloc _).trans' o)
        have r := (Blk.new w2 27 #[.int .i64 m.a, .int .i64 m.b, strV m.t]).keep o
        ⟨q, q.2.1.two.2.1, r.three.1, r.three.2.1⟩
      have HKS := Lib.hid hks
      obtain ⟨_, z0, z1, z2⟩ := hks _ (Only.refl _ _)
      clear o1 hks
      go_wp2_with fail
      go_region_held3 (fun W => W.cell? ⟨w.heap.size, 1, none⟩ = some v2 ∧ W.cell? ⟨w2.heap.size, 0, none⟩ = some (.int .i64 m.a) ∧ W.cell? ⟨w2.heap.size, 1, none⟩ = some (.int .i64 m.b))
        (first | go_keep | exact K2.out | exact K3.out)
        (first
          | (go_at_call 46; refine (npair_c _ _ _).mono ?_; rintro e w3 ⟨rfl, o2⟩; have O2 := Lib.hid (((Only.refl NoF _).drew).trans' o2); have K2 := Lib.hid (HKS.out _ O2.out).2; clear o2)
          | (go_at_call 50; refine (HHAS.out _ (HKS.out _ O2.out).1.1).mono ?_; rintro e w4 ⟨rfl, o3⟩; have O3 := Lib.hid (O2.out.trans' o3); have K3 := Lib.hid (HKS.out _ O3.out).2; clear o3))
      obtain ⟨⟨o, p1, p2, p3⟩, _⟩ := HKS.out _ O3.out
      obtain ⟨x0, x1, x2, x3⟩ := p2.two
      obtain ⟨y0, y1, y2, y3, y4, y5⟩ := p3.three
      have P2 := Lib.hid p2
      have P3 := Lib.hid p3
      have O := Lib.hid o
      clear o p1 p2 p3 z0 z1 z2
      go_wp2
      refine bodyPost_ret (results_row_row_tmp rfl _ _ (w.heap.size + 1) (w.heap.size + 1 + 1) 25 27 #[.slice none 0 0, .slice none 0 0] #[.int .i64 0, .int .i64 0, strV []] (0, 0) (0, 0) _ _ rfl ((P2.out.put2 _ _).far3 (by omega) _ _ _) Try.underlying25 rfl (by kernel_rfl) rfl ((P3.out.far2 (by omega) _ _).put3 _ _ _) Try.underlying27 rfl (by kernel_rfl)) rfl ?_
      exact ⟨_, rfl, ownNone _ _, okNone, (O.out.put2 (by omega) _ _).put3 (by omega) _ _ _⟩
    | false =>
      have e : Lnk.deliver a k = (Lnk.without a k, m, 0) := by unfold Lnk.deliver; rw [if_neg (by simp [hb0]), hm, if_neg (by simp [hcut])]
      rw [e]
      rw [show decide (Lnk.pair m.a m.b ∈ a.cs) = false from hcut] at HHAS
      clear e hr hb0 hi0 hi1 hm hcut hoks
      go_enter Try.func22, Try.ntmps22
      go_wp2_with fail
      refine (HAT.out _ (HB.out _ (Only.refl _ _)).1).mono ?_
      rintro e w2 ⟨rfl, o1⟩
      have hs := o1.size
      simp only [World.size_alloc] at hs
      have hks : ∀ W, Only NoF (w2.alloc (.cells #[.int .i64 m.a, .int .i64 m.b, strV m.t] 27)) W → (Only NoF w W ∧ Blk W w.heap.size 25 #[v1, v2] ∧ Blk W (w.heap.size + 1) 25 #[.slice none 0 0, .slice none 0 0] ∧ Blk W (w.heap.size + 1 + 1) 27 #[.int .i64 0, .int .i64 0, strV []]) ∧ W.cell? ⟨w.heap.size, 1, none⟩ = some v2 ∧ W.cell? ⟨w2.heap.size, 0, none⟩ = some (.int .i64 m.a) ∧ W.cell? ⟨w2.heap.size, 1, none⟩ = some (.int .i64 m.b) := fun W o =>
        have q := HB.out _ ((o1.alloc _).trans' o)
        have r := (Blk.new w2 27 #[.int .i64 m.a, .int .i64 m.b, strV m.t]).keep o
        ⟨q, q.2.1.two.2.1, r.three.1, r.three.2.1⟩
      have HKS := Lib.hid hks
      obtain ⟨_, z0, z1, z2⟩ := hks _ (Only.refl _ _)
      clear o1 hks
      go_wp2_with fail
      go_region_held3 (fun W => W.cell? ⟨w.heap.size, 1, none⟩ = some v2 ∧ W.cell? ⟨w2.heap.size, 0, none⟩ = some (.int .i64 m.a) ∧ W.cell? ⟨w2.heap.size, 1, none⟩ = some (.int .i64 m.b))
        (first | go_keep | exact K2.out | exact K3.out)
        (first
          | (go_at_call 46; refine (npair_c _ _ _).mono ?_; rintro e w3 ⟨rfl, o2⟩; have O2 := Lib.hid (((Only.refl NoF _).drew).trans' o2); have K2 := Lib.hid (HKS.out _ O2.out).2; clear o2)
          | (go_at_call 50; refine (HHAS.out _ (HKS.out _ O2.out).1.1).mono ?_; rintro e w4 ⟨rfl, o3⟩; have O3 := Lib.hid (O2.out.trans' o3); have K3 := Lib.hid (HKS.out _ O3.out).2; clear o3))
      have hq := HKS.out _ O3.out
      obtain ⟨⟨o, p1, p2, p3⟩, _⟩ := hq
      obtain ⟨x0, x1, _, _⟩ := p1.two
      have q7 := (Blk.new w2 27 #[.int .i64 m.a, .int .i64 m.b, strV m.t]).keep O3.out
      obtain ⟨y0, y1, y2, _, _, _⟩ := q7.three
      have hs4 := O3.out.size
      simp only [World.size_alloc] at hs4
      have hn1 : ¬ w2.heap.size = w.heap.size + 1 := by omega
      have hn2 : ¬ w2.heap.size = w.heap.size + 1 + 1 := by omega
      have hn3 : ¬ w.heap.size + 1 = w2.heap.size := by omega
      have hn5 : ¬ w.heap.size = w.heap.size + 1 + 1 := by omega
      have hn6 : ¬ w.heap.size + 1 + 1 = w.heap.size := by omega
      have hn4 : ¬ w.heap.size + 1 + 1 = w2.heap.size := by omega
      have Q7 := Lib.hid q7
      clear o p1 p2 p3 z0 z1 z2 q7
      go_wp2_with fail
      go_region_held3 (fun W => W.cell? ⟨w.heap.size, 0, none⟩ = some v1 ∧ W.cell? ⟨w.heap.size, 1, none⟩ = some v2 ∧ W.cell? ⟨w2.heap.size, 0, none⟩ = some (.int .i64 m.a) ∧ W.cell? ⟨w2.heap.size, 1, none⟩ = some (.int .i64 m.b) ∧ W.cell? ⟨w2.heap.size, 2, none⟩ = some (strV m.t))
        (first | go_keep | exact K5.out)
        (first
          | (go_at_call 41; refine (HWI.out _ (HKS.out _ O3.out.drew).1.1).mono ?_; rintro e w5 ⟨vv, rfl, ⟨u1, u2, rfl, r1, r2⟩, o5⟩; obtain ⟨E1, e1, rfl, _, _, _⟩ := Reads.of_own r1; obtain ⟨E2, e2, rfl, _, _, _⟩ := Reads.of_own r2; have O5 := Lib.hid (O3.out.drew.trans' o5); obtain ⟨o, p1, p2, p3⟩ := (HKS.out _ O5.out).1; have q7 := (Q7.out.drew.keep o5).three; have K5 := Lib.hid (And.intro p1.two.1 (And.intro p1.two.2.1 (And.intro q7.1 (And.intro q7.2.1 q7.2.2.1)))); obtain ⟨x0, x1, x2, x3⟩ := p2.two; obtain ⟨y0, y1, y2, y3, y4, y5⟩ := p3.three; have P2 := Lib.hid p2; have P3 := Lib.hid p3; have O := Lib.hid o; have R1 := Lib.hid r1; have R2 := Lib.hid r2; clear o p1 p2 p3 r1 r2 q7 o5))
      have HA := Lib.hid (show OwnAir (w.heap.size + 1 + 1 + 1) w5 (.agg #[.slice E1 (Lnk.without a k).ms.length e1, .slice E2 (Lnk.without a k).cs.length e2]) (Lnk.without a k) from ⟨_, _, rfl, own_base R1.out (by show _ ≤ w4.heap.size; omega), own_base R2.out (by show _ ≤ w4.heap.size; omega)⟩)
      go_wp2
      refine bodyPost_ret (results_row_row_tmp rfl _ _ (w.heap.size + 1) (w.heap.size + 1 + 1) 25 27 #[.slice E1 (Lnk.without a k).ms.length e1, .slice E2 (Lnk.without a k).cs.length e2] #[.int .i64 m.a, .int .i64 m.b, strV m.t] (0, 0) (0, 0) _ _ rfl ((P2.out.put2 _ _).far3 (by omega) _ _ _) Try.underlying25 rfl (by kernel_rfl) rfl ((P3.out.far2 (by omega) _ _).put3 _ _ _) Try.underlying27 rfl (by kernel_rfl)) rfl ?_
      exact ⟨_, rfl, ((HA.out.put2 (by omega) (Nat.le_refl _) _ _).put3 (by omega) _ _ _).low (by omega), HOKS.out, (O.out.put2 (by omega) _ _).put3 (by omega) _ _ _⟩
  · have e : Lnk.deliver a i = (Lnk.none_, Lnk.noM, Lnk.bad a i) := by unfold Lnk.deliver; rw [if_pos hb0]
    rw [e]
    rw [if_neg hb0] at HAT
    have hbn : (Lnk.bad a i != 0) = true := by simpa using hb0
    have hbe : (Lnk.bad a i == 0) = false := by simpa using hb0
    obtain ⟨m, hm⟩ : ∃ m, Lnk.noM = m := ⟨_, rfl⟩
    have hmv : msgV m = .agg #[.int .i64 0, .int .i64 0, strV []] := by rw [← hm]; rfl
    rw [hm] at HAT
    rw [hm]
    have HMV := Lib.hid hmv
    clear e hb0 hm hmv
    go_enter Try.func22, Try.ntmps22
    go_wp2_with fail
    refine (HAT.out _ (HB.out _ (Only.refl _ _)).1).mono ?_
    rintro e w2 ⟨rfl, o1⟩
    have hs := o1.size
    simp only [World.size_alloc] at hs
    go_wp2_with fail
    go_quiet (fail)
    obtain ⟨o, p1, p2, p3⟩ := HB.out _ o1
    have p2 := (p2.alloc (.cells #[.int .i64 m.a, .int .i64 m.b, strV m.t] 27)).drewN nq
    have p3 := (p3.alloc (.cells #[.int .i64 m.a, .int .i64 m.b, strV m.t] 27)).drewN nq
    have O := Lib.hid ((o.alloc (.cells #[.int .i64 m.a, .int .i64 m.b, strV m.t] 27)).drewN nq)
    obtain ⟨x0, x1, x2, x3⟩ := p2.two
    obtain ⟨y0, y1, y2, y3, y4, y5⟩ := p3.three
    have P2 := Lib.hid p2
    have P3 := Lib.hid p3
    clear o p1 p2 p3 o1
    go_wp2
    refine bodyPost_ret (results_row_row_tmp rfl _ _ (w.heap.size + 1) (w.heap.size + 1 + 1) 25 27 #[.slice none 0 0, .slice none 0 0] #[.int .i64 0, .int .i64 0, strV []] (0, 0) (0, 0) _ _ rfl ((P2.out.put2 _ _).far3 (by omega) _ _ _) Try.underlying25 rfl (by kernel_rfl) rfl ((P3.out.far2 (by omega) _ _).put3 _ _ _) Try.underlying27 rfl (by kernel_rfl)) rfl ?_
    refine ⟨_, ?_, ownNone _ _, okNone, (O.out.put2 (by omega) _ _).put3 (by omega) _ _ _⟩
    rw [HMV.out]
    rfl
end
end Go.Proofs.Ytocbfobakmieoaa
