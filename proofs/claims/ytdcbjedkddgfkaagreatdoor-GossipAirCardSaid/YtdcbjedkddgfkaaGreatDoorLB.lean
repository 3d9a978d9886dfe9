/-
  The link's Deliver, walked. Condition: at most 1,000,000 elements.
  slices.BinarySearchFunc of pairs and the link's find, walked. Condition: the row ascends.
  The link's Heal, walked. Condition: at most 1,000,000 elements.
  slices.Insert of one element, walked. Condition: at most 1,000,000 elements.
  The link's Cut, walked. Condition: at most 1,000,000 elements.
  The link's do, walked. Condition: at most 1,000,000 elements.
  The link's do, walked: what is left. Condition: at most 1,000,000 elements.
  The link's Run, walked: what its rounds keep. Condition: at most 1,000,000 elements.
  The link's Run, walked. Condition: at most 1,000,000 elements.
-/
import Derived.Test.YtdcbjedkddgfkaaGreatDoorLA
import Derived.Deep.RegionHeld3
import Derived.Lib.AppendZeros
import Derived.Lib.Overlaps
import Derived.Deep.AppendSrc
namespace Go.Proofs.YtdcbjedkddgfkaaGreatDoor
set_option maxHeartbeats 2000000
set_option maxRecDepth 100000
set_option linter.unusedVariables false
set_option linter.unusedSimpArgs false
set_option linter.unusedSectionVars false
set_option maxRecDepth 20000
section
open Go.RowKit
def DelivTo (w : World) (r : Air × Msg × Int) (e : Ending) (w' : World) : Prop := ∃ v', e = .returned (.tuple #[v', msgV r.2.1, .int .i64 r.2.2]) ∧ OwnAir w.heap.size w' v' r.1 ∧ AirOk r.1 ∧ Only NoF w w'
theorem Blk.far2 {w : World} {g k : Nat} {t : TypeId} {cs : Array Value} (h : Blk w g t cs) (hk : g ≠ k) (u1 u2 : Value) : Blk ((w.setCell ⟨k, 0, none⟩ u1).setCell ⟨k, 1, none⟩ u2) g t cs := (h.far (p := ⟨k, 0, none⟩) hk _).far (p := ⟨k, 1, none⟩) hk _
theorem Blk.far3 {w : World} {g k : Nat} {t : TypeId} {cs : Array Value} (h : Blk w g t cs) (hk : g ≠ k) (u1 u2 u3 : Value) : Blk (((w.setCell ⟨k, 0, none⟩ u1).setCell ⟨k, 1, none⟩ u2).setCell ⟨k, 2, none⟩ u3) g t cs := (h.far2 hk _ _).far (p := ⟨k, 2, none⟩) hk _
section
variable {w : World} {v : Value}
theorem nDeliver_c {a : Air} (h : AirV w v a) (hf : Few_ a) (i : Int) : Calls Tryz.prog 77 #[v, .int .i64 i] w (DelivTo w (Lnk.deliver a i)) := by
 have H := Lib.hid h
 have HOK := Lib.hid (AirV.oks h)
 obtain ⟨v1, v2, rfl, hm0, hc0⟩ := h
 have HPR := Lib.hid hc0
 clear hm0 hc0
 have HB := Lib.hid (fun (W : World) (o : Only NoF (((w.alloc (.cells #[v1, v2] 49)).alloc (.cells #[.slice none 0 0, .slice none 0 0] 49)).alloc (.cells #[.int .i64 0, .int .i64 0, strV []] 90)) W) =>
  (⟨((((Only.refl NoF w).alloc _).alloc _).alloc _).trans' o, (((Blk.new w 49 #[v1, v2]).alloc _).alloc _).keep o, ((Blk.new2 w _ 49 #[.slice none 0 0, .slice none 0 0]).alloc _).keep o, (Blk.new3 w _ _ 90 #[.int .i64 0, .int .i64 0, strV []]).keep o⟩ :
   Only NoF w W ∧ Blk W w.heap.size 49 #[v1, v2] ∧ Blk W (w.heap.size + 1) 49 #[.slice none 0 0, .slice none 0 0] ∧ Blk W (w.heap.size + 1 + 1) 90 #[.int .i64 0, .int .i64 0, strV []]))
 have HAT := Lib.hid (fun (W : World) (o : Only NoF w W) => nat_c (AirV.keep H.out o) i)
 by_cases hb0 : Lnk.bad a i = 0
 · rw [hb0, if_pos rfl] at HAT
   obtain ⟨hr, hi0, hi1⟩ := Lnk.bad_zero hb0
   obtain ⟨k, rfl⟩ : ∃ k : Nat, i = (k : Int) := ⟨i.toNat, by omega⟩
   have hoks : AirOk (Lnk.without a k) := ⟨fun m hm => HOK.out.1 m (List.mem_of_mem_eraseIdx hm), HOK.out.2⟩
   have HOKS := Lib.hid hoks
   have HWI := Lib.hid (fun (W : World) (hW : Only NoF w W) => nwithout_c (AirV.keep H.out hW) hf (k := k) (by omega))
   obtain ⟨m, hm⟩ : ∃ m, Lnk.msg a k = m := ⟨_, rfl⟩
   rw [hm] at HAT
   have HHAS := Lib.hid (fun (W : World) (o : Only NoF w W) => hasPr_c (Prs.keep HPR.out o) (Lnk.pair m.a m.b))
   cases hcut : Lnk.isCut a m.a m.b with
   | true =>
    have e : Lnk.deliver a k = (Lnk.none_, Lnk.noM, 7) := by unfold Lnk.deliver; rw [if_neg (by simp [hb0]), hm, if_pos hcut]
    rw [e]
    rw [show decide (Lnk.pair m.a m.b ∈ a.cs) = true from hcut] at HHAS
    clear e hr hb0 hi0 hi1 hm hcut hoks
    go_enter Tryz.func77, Tryz.ntmps77
    go_wp2_with fail
    refine (HAT.out _ (HB.out _ (Only.refl _ _)).1).mono ?_
    rintro e w2 ⟨rfl, o1⟩
    have hs := o1.size
    simp only [World.size_alloc] at hs
    have hks : ∀ W, Only NoF (w2.alloc (.cells #[.int .i64 m.a, .int .i64 m.b, strV m.t] 90)) W → (Only NoF w W ∧ Blk W w.heap.size 49 #[v1, v2] ∧ Blk W (w.heap.size + 1) 49 #[.slice none 0 0, .slice none 0 0] ∧ Blk W (w.heap.size + 1 + 1) 90 #[.int .i64 0, .int .i64 0, strV []]) ∧ W.cell? ⟨w.heap.size, 1, none⟩ = some v2 ∧ W.cell? ⟨w2.heap.size, 0, none⟩ = some (.int .i64 m.a) ∧ W.cell? ⟨w2.heap.size, 1, none⟩ = some (.int .i64 m.b) := fun W o =>
     have q := HB.out _ ((o1.alloc _).trans' o)
     have r := (Blk.new w2 90 #[.int .i64 m.a, .int .i64 m.b, strV m.t]).keep o
     ⟨q, q.2.1.two.2.1, r.three.1, r.three.2.1⟩
    have HKS := Lib.hid hks
    obtain ⟨_, z0, z1, z2⟩ := hks _ (Only.refl _ _)
    clear o1 hks
    go_wp2_with fail
    go_region_held3 (fun W => W.cell? ⟨w.heap.size, 1, none⟩ = some v2 ∧ W.cell? ⟨w2.heap.size, 0, none⟩ = some (.int .i64 m.a) ∧ W.cell? ⟨w2.heap.size, 1, none⟩ = some (.int .i64 m.b))
     (first | go_keep | exact K2.out | exact K3.out)
     (first
      | (go_at_call 105; refine (npair_c _ _ _).mono ?_; rintro e w3 ⟨rfl, o2⟩; have O2 := Lib.hid (((Only.refl NoF _).drew).trans' o2); have K2 := Lib.hid (HKS.out _ O2.out).2; clear o2)
      | (go_at_call 104; refine (HHAS.out _ (HKS.out _ O2.out).1.1).mono ?_; rintro e w4 ⟨rfl, o3⟩; have O3 := Lib.hid (O2.out.trans' o3); have K3 := Lib.hid (HKS.out _ O3.out).2; clear o3))
    obtain ⟨⟨o, p1, p2, p3⟩, _⟩ := HKS.out _ O3.out
    obtain ⟨x0, x1, x2, x3⟩ := p2.two
    obtain ⟨y0, y1, y2, y3, y4, y5⟩ := p3.three
    have P2 := Lib.hid p2
    have P3 := Lib.hid p3
    have O := Lib.hid o
    clear o p1 p2 p3 z0 z1 z2
    go_wp2
    refine bodyPost_ret (results_row_row_tmp rfl _ _ (w.heap.size + 1) (w.heap.size + 1 + 1) 49 90 #[.slice none 0 0, .slice none 0 0] #[.int .i64 0, .int .i64 0, strV []] (0, 0) (0, 0) _ _ rfl ((P2.out.put2 _ _).far3 (by omega) _ _ _) Tryz.underlying49 rfl (by kernel_rfl) rfl ((P3.out.far2 (by omega) _ _).put3 _ _ _) Tryz.underlying90 rfl (by kernel_rfl)) rfl ?_
    exact ⟨_, rfl, ownNone _ _, okNone, (O.out.put2 (by omega) _ _).put3 (by omega) _ _ _⟩
   | false =>
    have e : Lnk.deliver a k = (Lnk.without a k, m, 0) := by unfold Lnk.deliver; rw [if_neg (by simp [hb0]), hm, if_neg (by simp [hcut])]
    rw [e]
    rw [show decide (Lnk.pair m.a m.b ∈ a.cs) = false from hcut] at HHAS
    clear e hr hb0 hi0 hi1 hm hcut hoks
    go_enter Tryz.func77, Tryz.ntmps77
    go_wp2_with fail
    refine (HAT.out _ (HB.out _ (Only.refl _ _)).1).mono ?_
    rintro e w2 ⟨rfl, o1⟩
    have hs := o1.size
    simp only [World.size_alloc] at hs
    have hks : ∀ W, Only NoF (w2.alloc (.cells #[.int .i64 m.a, .int .i64 m.b, strV m.t] 90)) W → (Only NoF w W ∧ Blk W w.heap.size 49 #[v1, v2] ∧ Blk W (w.heap.size + 1) 49 #[.slice none 0 0, .slice none 0 0] ∧ Blk W (w.heap.size + 1 + 1) 90 #[.int .i64 0, .int .i64 0, strV []]) ∧ W.cell? ⟨w.heap.size, 1, none⟩ = some v2 ∧ W.cell? ⟨w2.heap.size, 0, none⟩ = some (.int .i64 m.a) ∧ W.cell? ⟨w2.heap.size, 1, none⟩ = some (.int .i64 m.b) := fun W o =>
     have q := HB.out _ ((o1.alloc _).trans' o)
     have r := (Blk.new w2 90 #[.int .i64 m.a, .int .i64 m.b, strV m.t]).keep o
     ⟨q, q.2.1.two.2.1, r.three.1, r.three.2.1⟩
    have HKS := Lib.hid hks
    obtain ⟨_, z0, z1, z2⟩ := hks _ (Only.refl _ _)
    clear o1 hks
    go_wp2_with fail
    go_region_held3 (fun W => W.cell? ⟨w.heap.size, 1, none⟩ = some v2 ∧ W.cell? ⟨w2.heap.size, 0, none⟩ = some (.int .i64 m.a) ∧ W.cell? ⟨w2.heap.size, 1, none⟩ = some (.int .i64 m.b))
     (first | go_keep | exact K2.out | exact K3.out)
     (first
      | (go_at_call 105; refine (npair_c _ _ _).mono ?_; rintro e w3 ⟨rfl, o2⟩; have O2 := Lib.hid (((Only.refl NoF _).drew).trans' o2); have K2 := Lib.hid (HKS.out _ O2.out).2; clear o2)
      | (go_at_call 104; refine (HHAS.out _ (HKS.out _ O2.out).1.1).mono ?_; rintro e w4 ⟨rfl, o3⟩; have O3 := Lib.hid (O2.out.trans' o3); have K3 := Lib.hid (HKS.out _ O3.out).2; clear o3))
    have hq := HKS.out _ O3.out
    obtain ⟨⟨o, p1, p2, p3⟩, _⟩ := hq
    obtain ⟨x0, x1, _, _⟩ := p1.two
    have q7 := (Blk.new w2 90 #[.int .i64 m.a, .int .i64 m.b, strV m.t]).keep O3.out
    obtain ⟨y0, y1, y2, _, _, _⟩ := q7.three
    have hs4 := O3.out.size
    simp only [World.size_alloc] at hs4
    have hn1 : ¬ w2.heap.size = w.heap.size + 1 := by omega
    have hn2 : ¬ w2.heap.size = w.heap.size + 1 + 1 := by omega
    have hn3 : ¬ w.heap.size + 1 = w2.heap.size := by omega
    have hn5 : ¬ w.heap.size = w.heap.size + 1 + 1 := by omega
    have hn6 : ¬ w.heap.size + 1 + 1 = w.heap.size := by omega
    have hn4 : ¬ w.heap.size + 1 + 1 = w2.heap.size := by omega
    have Q7 := Lib.hid q7
    clear o p1 p2 p3 z0 z1 z2 q7
    go_wp2_with fail
    go_region_held3 (fun W => W.cell? ⟨w.heap.size, 0, none⟩ = some v1 ∧ W.cell? ⟨w.heap.size, 1, none⟩ = some v2 ∧ W.cell? ⟨w2.heap.size, 0, none⟩ = some (.int .i64 m.a) ∧ W.cell? ⟨w2.heap.size, 1, none⟩ = some (.int .i64 m.b) ∧ W.cell? ⟨w2.heap.size, 2, none⟩ = some (strV m.t))
     (first | go_keep | exact K5.out)
     (first
      | (go_at_call 106; refine (HWI.out _ (HKS.out _ O3.out.drew).1.1).mono ?_; rintro e w5 ⟨vv, rfl, ⟨u1, u2, rfl, r1, r2⟩, o5⟩; obtain ⟨E1, e1, rfl, _, _, _⟩ := Reads.of_own r1; obtain ⟨E2, e2, rfl, _, _, _⟩ := Reads.of_own r2; have O5 := Lib.hid (O3.out.drew.trans' o5); obtain ⟨o, p1, p2, p3⟩ := (HKS.out _ O5.out).1; have q7 := (Q7.out.drew.keep o5).three; have K5 := Lib.hid (And.intro p1.two.1 (And.intro p1.two.2.1 (And.intro q7.1 (And.intro q7.2.1 q7.2.2.1)))); obtain ⟨x0, x1, x2, x3⟩ := p2.two; obtain ⟨y0, y1, y2, y3, y4, y5⟩ := p3.three; have P2 := Lib.hid p2; have P3 := Lib.hid p3; have O := Lib.hid o; have R1 := Lib.hid r1; have R2 := Lib.hid r2; clear o p1 p2 p3 r1 r2 q7 o5))
    have HA := Lib.hid (show OwnAir (w.heap.size + 1 + 1 + 1) w5 (.agg #[.slice E1 (Lnk.without a k).ms.length e1, .slice E2 (Lnk.without a k).cs.length e2]) (Lnk.without a k) from ⟨_, _, rfl, own_base R1.out (by show _ ≤ w4.heap.size; omega), own_base R2.out (by show _ ≤ w4.heap.size; omega)⟩)
    go_wp2
    refine bodyPost_ret (results_row_row_tmp rfl _ _ (w.heap.size + 1) (w.heap.size + 1 + 1) 49 90 #[.slice E1 (Lnk.without a k).ms.length e1, .slice E2 (Lnk.without a k).cs.length e2] #[.int .i64 m.a, .int .i64 m.b, strV m.t] (0, 0) (0, 0) _ _ rfl ((P2.out.put2 _ _).far3 (by omega) _ _ _) Tryz.underlying49 rfl (by kernel_rfl) rfl ((P3.out.far2 (by omega) _ _).put3 _ _ _) Tryz.underlying90 rfl (by kernel_rfl)) rfl ?_
    exact ⟨_, rfl, ((HA.out.put2 (by omega) (Nat.le_refl _) _ _).put3 (by omega) _ _ _).low (by omega), HOKS.out, (O.out.put2 (by omega) _ _).put3 (by omega) _ _ _⟩
 · have e : Lnk.deliver a i = (Lnk.none_, Lnk.noM, Lnk.bad a i) := by unfold Lnk.deliver; rw [if_pos hb0]
   rw [e]
   rw [if_neg hb0] at HAT
   have hbn : (Lnk.bad a i != 0) = true := by simpa using hb0
   have hbe : (Lnk.bad a i == 0) = false := by simpa using hb0
   obtain ⟨m, hm⟩ : ∃ m, Lnk.noM = m := ⟨_, rfl⟩
   have hmv : msgV m = .agg #[.int .i64 0, .int .i64 0, strV []] := by rw [← hm]; rfl
   rw [hm] at HAT
   rw [hm]
   have HMV := Lib.hid hmv
   clear e hb0 hm hmv
   go_enter Tryz.func77, Tryz.ntmps77
   go_wp2_with fail
   refine (HAT.out _ (HB.out _ (Only.refl _ _)).1).mono ?_
   rintro e w2 ⟨rfl, o1⟩
   have hs := o1.size
   simp only [World.size_alloc] at hs
   go_wp2_with fail
   go_quiet (fail)
   obtain ⟨o, p1, p2, p3⟩ := HB.out _ o1
   have p2 := (p2.alloc (.cells #[.int .i64 m.a, .int .i64 m.b, strV m.t] 90)).drewN nq
   have p3 := (p3.alloc (.cells #[.int .i64 m.a, .int .i64 m.b, strV m.t] 90)).drewN nq
   have O := Lib.hid ((o.alloc (.cells #[.int .i64 m.a, .int .i64 m.b, strV m.t] 90)).drewN nq)
   obtain ⟨x0, x1, x2, x3⟩ := p2.two
   obtain ⟨y0, y1, y2, y3, y4, y5⟩ := p3.three
   have P2 := Lib.hid p2
   have P3 := Lib.hid p3
   clear o p1 p2 p3 o1
   go_wp2
   refine bodyPost_ret (results_row_row_tmp rfl _ _ (w.heap.size + 1) (w.heap.size + 1 + 1) 49 90 #[.slice none 0 0, .slice none 0 0] #[.int .i64 0, .int .i64 0, strV []] (0, 0) (0, 0) _ _ rfl ((P2.out.put2 _ _).far3 (by omega) _ _ _) Tryz.underlying49 rfl (by kernel_rfl) rfl ((P3.out.far2 (by omega) _ _).put3 _ _ _) Tryz.underlying90 rfl (by kernel_rfl)) rfl ?_
   refine ⟨_, ?_, ownNone _ _, okNone, (O.out.put2 (by omega) _ _).put3 (by omega) _ _ _⟩
   rw [HMV.out]
   rfl
end
end
section
open Go.RowKit
namespace Lnk
theorem posC_split {c : Pr} {l : List Pr} {i : Nat} (hi : i ≤ l.length) (h1 : ∀ t (h : t < l.length), t < i → lt l[t] c = true) (h2 : ∀ t (h : t < l.length), i ≤ t → lt l[t] c = false) : posC c l = i := by
 have e : l = l.take i ++ l.drop i := (List.take_append_drop i l).symm
 unfold posC
 rw [e, List.takeWhile_append_of_pos]
 · have : (l.drop i).takeWhile (fun q => lt q c) = [] := by
    cases hd : l.drop i with
    | nil => rfl
    | cons x r =>
     have hlt : i < l.length := by
      rcases Nat.lt_or_ge i l.length with h | h
      · exact h
      · rw [List.drop_eq_nil_of_le h] at hd; cases hd
     have hx : x = l[i] := by
      rw [List.drop_eq_getElem_cons hlt] at hd
      exact (List.cons.inj hd).1.symm
     rw [List.takeWhile_cons, hx, h2 i hlt (Nat.le_refl _)]
     rfl
   rw [this]
   simp
   omega
 · intro q hq
   obtain ⟨t, ht, rfl⟩ := List.getElem_of_mem hq
   simp only [List.length_take] at ht
   rw [List.getElem_take]
   exact h1 t (by omega) (by omega)
theorem sorted_mono {l : List Pr} (hs : sorted l = true) {c : Pr} : ∀ {s t : Nat} (hs' : s ≤ t) (h : t < l.length), lt l[t] c = true → lt l[s] c = true := by
 intro s t hst h hl
 rcases Nat.lt_or_ge s t with h' | h'
 · exact lt_trans (List.pairwise_iff_getElem.1 (sorted_pairwise hs) s t (by omega) h h') hl
 · obtain rfl : s = t := by omega
   exact hl
theorem mem_pos {l : List Pr} (hs : sorted l = true) {c : Pr} {i : Nat} (hi : posC c l = i) : decide (c ∈ l) = (if h : i < l.length then decide (l[i] = c) else false) := by
 rw [Bool.eq_iff_iff]
 constructor
 · intro h
   obtain ⟨t, ht, e⟩ := List.getElem_of_mem (of_decide_eq_true h)
   have hp := sorted_pairwise hs
   have : posC c l = t := posC_split (by omega) (fun s h1 h2 => by rw [← e]; exact List.pairwise_iff_getElem.1 hp s t h1 ht h2) (fun s h1 h2 => by
    rcases Nat.lt_or_ge t s with h' | h'
    · have := List.pairwise_iff_getElem.1 hp t s ht h1 h'
      rw [e] at this
      exact lt_asymm this
    · obtain rfl : s = t := by omega
      rw [e]; exact lt_irrefl c)
   obtain rfl : t = i := by omega
   rw [dif_pos ht]
   exact decide_eq_true e
 · intro h
   split at h
   · rename_i hl
     have e : l[i] = c := by simpa using h
     exact decide_eq_true (by rw [← e]; exact List.getElem_mem hl)
   · cases h
end Lnk
theorem beforeI_eq (p q : Pr) : (beforeI p q == 0) = decide (p = q) := by
 obtain ⟨a, b⟩ := p
 obtain ⟨c, d⟩ := q
 rw [Bool.eq_iff_iff]
 simp only [beforeI, lorI, cmpI, beq_iff_eq, decide_eq_true_eq, Pr.mk.injEq]
 rcases Int.lt_trichotomy a c with h | h | h <;> rcases Int.lt_trichotomy b d with k | k | k <;> simp [h, k] <;> omega
section
variable {w : World} {v : Value}
def FindTo (w : World) (i : Nat) (b : Bool) (e : Ending) (w' : World) : Prop := e = .returned (.tuple #[.int .i64 (i : Int), .bool b]) ∧ Only NoF w w'
theorem bsPr_c {l : List Pr} (h : Prs w v l) (hs : Lnk.sorted l = true) (hl : l.length ≤ 1000000) (p : Pr) : Calls Tryz.prog 125 #[v, prV p, .func (.func 70) #[] #[]] w (FindTo w (Lnk.posC p l) (decide (p ∈ l))) := by
 obtain ⟨A, cap, rfl, h1, h2, hf⟩ := Prs.form h
 have HF := Lib.hid hf
 have HS := Lib.hid hs
 clear hf h hs
 unfold maxLen at h2
 go_enter Tryz.func125, Tryz.ntmps125
 go_wp2
 go_loopw [9, 10] (fun i j wr => ∃ a b : Nat, a ≤ b ∧ b ≤ l.length ∧ i = .int .i64 (a : Int) ∧ j = .int .i64 (b : Int) ∧ (∀ t (h : t < l.length), t < a → Lnk.lt l[t] p = true) ∧ (∀ t (h : t < l.length), b ≤ t → Lnk.lt l[t] p = false) ∧ Only NoF w wr ∧ Blk wr w.heap.size 108 #[.int .i64 p.x, .int .i64 p.y]) (fun i j _ => (intOf j).toNat - (intOf i).toNat)
 case atStart => exact ⟨0, l.length, by omega, by omega, by go_num, by go_num, (fun t h h2 => by omega), (fun t h h2 => by omega), (Only.refl _ _).alloc _, Blk.new w _ _⟩
 case round =>
  obtain ⟨a, b, hab, hbl, rfl, rfl, ha, hb, hO, hK⟩ := hrel
  have HA := Lib.hid ha
  have HB := Lib.hid hb
  obtain ⟨x0, x1, _, _⟩ := hK.two
  have HK := Lib.hid hK
  have hlK := hK.lt
  clear ha hb hK
  by_cases hlt : a < b
  · have hh : ((a : Int) + (b : Int)) / 2 = (((a + b) / 2 : Nat) : Int) := by omega
    obtain ⟨m, hm⟩ : ∃ m, (a + b) / 2 = m := ⟨_, rfl⟩
    rw [hm] at hh
    have hm1 : a ≤ m := by omega
    have hm2 : m < b := by omega
    have hml : m < l.length := by omega
    obtain ⟨g, off, rfl, _, _, hc⟩ := HF.out m hml
    obtain ⟨c0, c1⟩ := hc wr hO
    have ks : ∀ W, Only NoF wr.drew W → W.cell? ⟨w.heap.size, 0, none⟩ = some (.int .i64 p.x) ∧ W.cell? ⟨w.heap.size, 1, none⟩ = some (.int .i64 p.y) ∧ W.cell? ⟨g, off + m * 2, none⟩ = some (.int .i64 l[m].x) ∧ W.cell? ⟨g, off + m * 2 + 1, none⟩ = some (.int .i64 l[m].y) := fun W o =>
     ⟨(HK.out.drew.keep o).two.1, (HK.out.drew.keep o).two.2.1, hc W (hO.drew.trans' o)⟩
    have KS := Lib.hid ks
    clear hc ks
    have j1 : (0 : Int) ≤ (m : Int) := by omega
    have j2 : (m : Int) < (l.length : Int) := by omega
    have hbf := beforeI_lt l[m] p
    cases hlp : Lnk.lt l[m] p with
    | true =>
     have hbi : decide (beforeI l[m] p < 0) = true := by rw [hlp] at hbf; simp at hbf; simpa using hbf
     clear hbf
     have HLP := Lib.hid hlp
     clear hlp
     go_wp2_with fail
     go_region_held3 (fun W => W.cell? ⟨w.heap.size, 0, none⟩ = some (.int .i64 p.x) ∧ W.cell? ⟨w.heap.size, 1, none⟩ = some (.int .i64 p.y) ∧ W.cell? ⟨g, off + m * 2, none⟩ = some (.int .i64 l[m].x) ∧ W.cell? ⟨g, off + m * 2 + 1, none⟩ = some (.int .i64 l[m].y))
      (first | go_keep | exact K2.out)
      (first | (go_at_call 70; refine (nbefore_c _ _ _).mono ?_; rintro e w2 ⟨rfl, o2⟩; have K2 := Lib.hid (KS.out _ o2)))
     go_wp2
     go_roundw
     case rel =>
      refine ⟨m + 1, b, by omega, hbl, by go_num, rfl, fun t h h2 => Lnk.sorted_mono HS.out (by omega) hml HLP.out, HB.out, hO.drew.trans' o2, HK.out.drew.keep o2⟩
     case measure => simp [intOf]; omega
    | false =>
     have hbi : decide (beforeI l[m] p < 0) = false := by rw [hlp] at hbf; simp at hbf; simpa using hbf
     clear hbf
     have HLP := Lib.hid hlp
     clear hlp
     go_wp2_with fail
     go_region_held3 (fun W => W.cell? ⟨w.heap.size, 0, none⟩ = some (.int .i64 p.x) ∧ W.cell? ⟨w.heap.size, 1, none⟩ = some (.int .i64 p.y) ∧ W.cell? ⟨g, off + m * 2, none⟩ = some (.int .i64 l[m].x) ∧ W.cell? ⟨g, off + m * 2 + 1, none⟩ = some (.int .i64 l[m].y))
      (first | go_keep | exact K2.out)
      (first | (go_at_call 70; refine (nbefore_c _ _ _).mono ?_; rintro e w2 ⟨rfl, o2⟩; have K2 := Lib.hid (KS.out _ o2)))
     go_wp2
     go_roundw
     case rel =>
      refine ⟨a, m, hm1, by omega, rfl, rfl, HA.out, fun t h h2 => ?_, hO.drew.trans' o2, HK.out.drew.keep o2⟩
      cases hx : Lnk.lt l[t] p with
      | false => rfl
      | true => rw [Lnk.sorted_mono HS.out h2 h hx] at HLP; exact absurd HLP.out (by decide)
     case measure => simp [intOf]; omega
  · obtain rfl : a = b := by omega
    have hpos := Lnk.posC_split (c := p) (l := l) hbl HA.out HB.out
    have hmem := Lnk.mem_pos HS.out hpos
    have HPOS := Lib.hid hpos
    have HMEM := Lib.hid hmem
    clear hmem hpos
    by_cases hal : a < l.length
    · rw [dif_pos hal] at HMEM
      obtain ⟨g, off, rfl, _, _, hc⟩ := HF.out a hal
      obtain ⟨c0, c1⟩ := hc wr hO
      have ks : ∀ W, Only NoF wr.drew W → W.cell? ⟨w.heap.size, 0, none⟩ = some (.int .i64 p.x) ∧ W.cell? ⟨w.heap.size, 1, none⟩ = some (.int .i64 p.y) ∧ W.cell? ⟨g, off + a * 2, none⟩ = some (.int .i64 l[a].x) ∧ W.cell? ⟨g, off + a * 2 + 1, none⟩ = some (.int .i64 l[a].y) := fun W o =>
       ⟨(HK.out.drew.keep o).two.1, (HK.out.drew.keep o).two.2.1, hc W (hO.drew.trans' o)⟩
      have KS := Lib.hid ks
      clear hc ks
      have j1 : (0 : Int) ≤ (a : Int) := by omega
      have j2 : (a : Int) < (l.length : Int) := by omega
      have hbq := beforeI_eq l[a] p
      go_wp2_with fail
      go_region_held3 (fun W => W.cell? ⟨w.heap.size, 0, none⟩ = some (.int .i64 p.x) ∧ W.cell? ⟨w.heap.size, 1, none⟩ = some (.int .i64 p.y) ∧ W.cell? ⟨g, off + a * 2, none⟩ = some (.int .i64 l[a].x) ∧ W.cell? ⟨g, off + a * 2 + 1, none⟩ = some (.int .i64 l[a].y))
       (first | go_keep | exact K2.out)
       (first | (go_at_call 70; refine (nbefore_c _ _ _).mono ?_; rintro e w2 ⟨rfl, o2⟩; have K2 := Lib.hid (KS.out _ o2)))
      go_wp2
      go_ret2
      exact ⟨by rw [HPOS.out, HMEM.out]; rfl, hO.drew.trans' o2⟩
    · rw [dif_neg hal] at HMEM
      have j2 : ¬ (a : Int) < (l.length : Int) := by omega
      go_wp2_with fail
      go_quiet (fail)
      go_wp2
      go_ret2
      exact ⟨by rw [HPOS.out, HMEM.out]; rfl, hO.drewN _⟩
theorem nfind_c {a : Air} (h : AirV w v a) (hs : Lnk.sorted a.cs = true) (hf : Few_ a) (x y : Int) : Calls Tryz.prog 107 #[v, .int .i64 x, .int .i64 y] w (FindTo w (Lnk.posC (Lnk.pair x y) a.cs) (decide (Lnk.pair x y ∈ a.cs))) := by
 obtain ⟨v1, v2, rfl, hm0, hc0⟩ := h
 have HPR := Lib.hid hc0
 have HBS := Lib.hid (fun (W : World) (o : Only NoF w W) => bsPr_c (Prs.keep HPR.out o) hs hf.2 (Lnk.pair x y))
 clear hm0 hc0 hs hf
 have ks : ∀ W, Only NoF (w.alloc (.cells #[v1, v2] 49)).drew W → Only NoF w W ∧ W.cell? ⟨w.heap.size, 1, none⟩ = some v2 := fun W o =>
  ⟨((Only.refl NoF w).alloc _).drew.trans' o, ((Blk.new w 49 #[v1, v2]).drew.keep o).two.2.1⟩
 have KS := Lib.hid ks
 clear ks
 go_enter Tryz.func107, Tryz.ntmps107
 go_wp2_with fail
 go_region_held3 (fun W => W.cell? ⟨w.heap.size, 1, none⟩ = some v2)
  (first | go_keep | exact K2.out | exact K3.out)
  (first
   | (go_at_call 105; refine (npair_c _ _ _).mono ?_; rintro e w2 ⟨rfl, o2⟩; have O2 := Lib.hid o2; have K2 := Lib.hid (KS.out _ o2).2; clear o2)
   | (go_at_call 125; refine (HBS.out _ (KS.out _ O2.out).1).mono ?_; rintro e w3 ⟨rfl, o3⟩; have O3 := Lib.hid (O2.out.trans' o3); have K3 := Lib.hid (KS.out _ O3.out).2; clear o3))
 go_wp2
 go_ret2
 exact ⟨rfl, (KS.out _ O3.out).1⟩
end
end
section
open Go.RowKit
namespace Lnk
theorem heal_at {l : List Pr} (hs : sorted l = true) {p : Pr} (hm : p ∈ l) : ∃ h : posC p l < l.length, l[posC p l] = p ∧ l.filter (fun q => q != p) = l.take (posC p l) ++ l.drop (posC p l + 1) := by
 have h1 := mem_pos hs (c := p) rfl
 rw [decide_eq_true hm] at h1
 split at h1
 · rename_i h
   have e : l[posC p l] = p := by simpa using h1.symm
   refine ⟨h, e, ?_⟩
   have hp := sorted_pairwise hs
   generalize posC p l = i at h e
   have el : l = l.take i ++ l[i] :: l.drop (i + 1) := by rw [← List.drop_eq_getElem_cons h, List.take_append_drop]
   have f1 : (l.take i).filter (fun q => q != p) = l.take i := List.filter_eq_self.2 fun q hq => by
    obtain ⟨t, ht, rfl⟩ := List.getElem_of_mem hq
    simp only [List.length_take] at ht
    rw [List.getElem_take]
    have := List.pairwise_iff_getElem.1 hp t i (by omega) h (by omega)
    rw [e] at this
    have hne : l[t] ≠ p := fun h => by rw [h, lt_irrefl] at this; cases this
    simpa using hne
   have f2 : (l.drop (i + 1)).filter (fun q => q != p) = l.drop (i + 1) := List.filter_eq_self.2 fun q hq => by
    obtain ⟨t, ht, rfl⟩ := List.getElem_of_mem hq
    simp only [List.length_drop] at ht
    rw [List.getElem_drop]
    have := List.pairwise_iff_getElem.1 hp i (i + 1 + t) h (by omega) (by omega)
    rw [e] at this
    have hne : l[i + 1 + t] ≠ p := fun h => by rw [h, lt_irrefl] at this; cases this
    simpa using hne
   conv => lhs; rw [el]
   rw [List.filter_append, List.filter_cons, e, f1, f2]
   simp
 · cases h1
end Lnk
section
variable {w : World} {v : Value}
theorem nHeal_c {a : Air} (h : AirV w v a) (hf : Few_ a) (x y : Int) : Calls Tryz.prog 81 #[v, .int .i64 x, .int .i64 y] w (AirTo w (Lnk.heal a x y)) := by
 have H := Lib.hid h
 have HOK := Lib.hid (AirV.oks h)
 obtain ⟨v1, v2, rfl, hm0, hc0⟩ := h
 clear hm0 hc0
 have HB := Lib.hid (fun (W : World) (o : Only NoF ((w.alloc (.cells #[v1, v2] 49)).alloc (.cells #[.slice none 0 0, .slice none 0 0] 49)) W) =>
  (⟨(((Only.refl NoF w).alloc _).alloc _).trans' o, ((Blk.new w 49 #[v1, v2]).alloc _).keep o, (Blk.new2 w _ 49 #[.slice none 0 0, .slice none 0 0]).keep o⟩ :
   Only NoF w W ∧ Blk W w.heap.size 49 #[v1, v2] ∧ Blk W (w.heap.size + 1) 49 #[.slice none 0 0, .slice none 0 0]))
 cases hr : Lnk.right a with
 | false =>
  have e : Lnk.heal a x y = (Lnk.none_, 1) := by unfold Lnk.heal; rw [if_pos (.inl hr)]
  rw [e]
  have HR := Lib.hid (nRightA_of H.out hr)
  clear e hr
  go_enter Tryz.func81, Tryz.ntmps81
  go_wp2_with fail
  refine (HR.out _ (HB.out _ (Only.refl _ _)).1).mono ?_
  rintro e w2 ⟨rfl, o1⟩
  obtain ⟨o, p1, p2⟩ := HB.out _ o1
  obtain ⟨x0, x1, x2, x3⟩ := p2.two
  have O := Lib.hid o
  have P2 := Lib.hid p2
  have hs := o.size
  clear o1 o p1 p2
  go_wp2
  refine bodyPost_ret (results_row_tmp rfl _ _ (w.heap.size + 1) 49 #[.slice none 0 0, .slice none 0 0] (0, 0) _ rfl (P2.out.put2 _ _) Tryz.underlying49 rfl (by kernel_rfl)) rfl ?_
  exact ⟨_, rfl, ownNone _ _, okNone, O.out.put2 (by omega) _ _⟩
 | true =>
  have HR := Lib.hid (nRightA_of H.out hr)
  cases hh : Lnk.houses x y with
  | false =>
   have e : Lnk.heal a x y = (Lnk.none_, 1) := by unfold Lnk.heal; rw [if_pos (.inr hh)]
   rw [e]
   have HH := Lib.hid (nhouses_of hh)
   clear e hr hh
   go_enter Tryz.func81, Tryz.ntmps81
   go_wp2_with fail
   refine (HR.out _ (HB.out _ (Only.refl _ _)).1).mono ?_
   rintro e w2 ⟨rfl, o1⟩
   go_wp2_with fail
   refine (HH.out _).mono ?_
   rintro e w3 ⟨rfl, rfl⟩
   obtain ⟨o, p1, p2⟩ := HB.out _ o1
   obtain ⟨x0, x1, x2, x3⟩ := p2.two
   have O := Lib.hid o
   have P2 := Lib.hid p2
   have hs := o.size
   clear o1 o p1 p2
   go_wp2
   refine bodyPost_ret (results_row_tmp rfl _ _ (w.heap.size + 1) 49 #[.slice none 0 0, .slice none 0 0] (0, 0) _ rfl (P2.out.put2 _ _) Tryz.underlying49 rfl (by kernel_rfl)) rfl ?_
   exact ⟨_, rfl, ownNone _ _, okNone, O.out.put2 (by omega) _ _⟩
  | true =>
   have HH := Lib.hid (nhouses_of hh)
   have hsrt := (Lnk.right_iff.1 hr).2.1
   have HFD := Lib.hid (fun (W : World) (o : Only NoF w W) => nfind_c (AirV.keep H.out o) hsrt hf x y)
   cases hc : Lnk.isCut a x y with
   | false =>
    have e : Lnk.heal a x y = (Lnk.none_, 4) := by unfold Lnk.heal; rw [if_neg (by simp [hr, hh]), if_pos hc]
    rw [e]
    rw [show decide (Lnk.pair x y ∈ a.cs) = false from hc] at HFD
    clear e hr hh hc hsrt
    go_enter Tryz.func81, Tryz.ntmps81
    go_wp2_with fail
    refine (HR.out _ (HB.out _ (Only.refl _ _)).1).mono ?_
    rintro e w2 ⟨rfl, o1⟩
    go_wp2_with fail
    refine (HH.out _).mono ?_
    rintro e w3 ⟨rfl, rfl⟩
    obtain ⟨o, p1, p2⟩ := HB.out _ o1
    obtain ⟨x0, x1, _, _⟩ := p1.two
    have O1 := Lib.hid o1
    clear o1 o p1 p2
    go_wp2_with fail
    refine (HFD.out _ (HB.out _ O1.out).1).mono ?_
    rintro e w4 ⟨rfl, o2⟩
    obtain ⟨o, p1, p2⟩ := HB.out _ (O1.out.trans' o2)
    obtain ⟨x0, x1, x2, x3⟩ := p2.two
    have O := Lib.hid o
    have P2 := Lib.hid p2
    have hs := o.size
    clear o2 o p1 p2
    go_wp2
    refine bodyPost_ret (results_row_tmp rfl _ _ (w.heap.size + 1) 49 #[.slice none 0 0, .slice none 0 0] (0, 0) _ rfl (P2.out.put2 _ _) Tryz.underlying49 rfl (by kernel_rfl)) rfl ?_
    exact ⟨_, rfl, ownNone _ _, okNone, O.out.put2 (by omega) _ _⟩
   | true =>
    have e : Lnk.heal a x y = ({ a with cs := a.cs.filter fun q => q != Lnk.pair x y }, 0) := by unfold Lnk.heal; rw [if_neg (by simp [hr, hh]), if_neg (by simp [hc])]
    rw [e]
    rw [show decide (Lnk.pair x y ∈ a.cs) = true from hc] at HFD
    obtain ⟨hk, _, hfl⟩ := Lnk.heal_at hsrt (p := Lnk.pair x y) (by simpa [Lnk.isCut] using hc)
    generalize Lnk.posC (Lnk.pair x y) a.cs = k at HFD hk hfl
    have HCL := Lib.hid (fun (W : World) (hW : Only NoF w W) => nclone_c (AirV.keep H.out hW) hf)
    obtain ⟨n, hn⟩ : ∃ n, a.cs.length = n + 1 := ⟨a.cs.length - 1, by omega⟩
    have hfm := hf.2
    have HFL := Lib.hid hfl
    have HOKF := Lib.hid (show AirOk { a with cs := a.cs.filter fun q => q != Lnk.pair x y } from ⟨HOK.out.1, fun p hp => HOK.out.2 p ((List.mem_filter.1 hp).1)⟩)
    clear e hr hh hc hsrt hfl
    have hwi : IntKind.i64.wrap ((k : Int) + 1) = ((k + 1 : Nat) : Int) := by rw [IntWalk.i64_in _ (by omega)]; rfl
    go_enter Tryz.func81, Tryz.ntmps81
    go_wp2_with fail
    refine (HR.out _ (HB.out _ (Only.refl _ _)).1).mono ?_
    rintro e w2 ⟨rfl, o1⟩
    go_wp2_with fail
    refine (HH.out _).mono ?_
    rintro e w3 ⟨rfl, rfl⟩
    obtain ⟨o, p1, p2⟩ := HB.out _ o1
    obtain ⟨x0, x1, _, _⟩ := p1.two
    have O1 := Lib.hid o1
    clear o1 o p1 p2
    go_wp2_with fail
    refine (HFD.out _ (HB.out _ O1.out).1).mono ?_
    rintro e w4 ⟨rfl, o2⟩
    obtain ⟨o, p1, p2⟩ := HB.out _ (O1.out.trans' o2)
    obtain ⟨x0, x1, _, _⟩ := p1.two
    have O2 := Lib.hid (O1.out.trans' o2)
    clear o2 o p1 p2
    go_wp2_with fail
    refine (HCL.out _ (HB.out _ O2.out).1).mono ?_
    rintro e w5 ⟨vv, rfl, ⟨u1, u2, rfl, r1, r2⟩, o3⟩
    obtain ⟨E1, e1, rfl, _, _, _⟩ := Reads.of_own r1
    obtain ⟨E2, e2, rfl, _, _, _⟩ := Reads.of_own r2
    have hs4 := O2.out.size
    simp only [World.size_alloc] at hs4
    rw [hn] at r2 ⊢
    obtain ⟨g, rfl, hg1, hg2⟩ := own_some r2
    obtain ⟨o, p1, p2⟩ := HB.out _ (O2.out.trans' o3)
    have hs := o.size
    have HNE := Lib.hid (own_ne r1 r2 (by decide))
    have R1 := Lib.hid (own_base (base' := w.heap.size + 1 + 1) r1 (by omega))
    have R2 := Lib.hid (own_base (base' := w.heap.size + 1 + 1) r2 (by omega))
    have O := Lib.hid o
    have P2 := Lib.hid p2
    clear o o3 p1 p2 r1 r2
    go_wp2_with fail
    refine (delPr_c (base := w.heap.size + 1 + 1) (i := k) (own_keep R2.out ((Only.refl NoF w5).alloc _)) (prCells_one _) (by omega) (by omega)).mono ?_
    rintro e w6 ⟨rfl, hrw, o4⟩
    have q2 := ((P2.out.alloc (.cells #[.slice E1 a.ms.length e1, .slice (some ⟨g, 0, none⟩) (n + 1) e2] 49)).only o4 fun h => by have : w.heap.size + 1 = g := h; omega)
    have q5 := (Blk.new w5 49 #[.slice E1 a.ms.length e1, .slice (some ⟨g, 0, none⟩) (n + 1) e2]).only o4 fun h => by have : w5.heap.size = g := h; omega
    have R1' := Lib.hid (own_only (own_keep R1.out ((Only.refl NoF w5).alloc (.cells #[.slice E1 a.ms.length e1, .slice (some ⟨g, 0, none⟩) (n + 1) e2] 49))) o4 fun j hj h => HNE.out j hj (by have : j = g := h; rw [this]; rfl))
    have O4 := Lib.hid ((O.out.alloc (.cells #[.slice E1 a.ms.length e1, .slice (some ⟨g, 0, none⟩) (n + 1) e2] 49)).trans o4 fun j hj => .inr (by have : j = g := hj; omega))
    obtain ⟨x0, x1, x2, x3⟩ := q2.two
    obtain ⟨y0, y1, y2, y3⟩ := q5.two
    have Q2 := Lib.hid q2
    have Q5 := Lib.hid q5
    have R2' := Lib.hid hrw
    have hne : ¬ w.heap.size + 1 = w5.heap.size := by omega
    have hne2 : ¬ w5.heap.size = w.heap.size + 1 := by omega
    clear q2 q5 hrw o4
    go_wp2
    refine bodyPost_ret (results_row_tmp rfl _ _ (w.heap.size + 1) 49 #[.slice E1 a.ms.length e1, .slice (some ⟨g, 0, none⟩) n e2] (0, 0) _ rfl ((Q2.out.far (p := ⟨w5.heap.size, 1, none⟩) hne _).put2 _ _) Tryz.underlying49 rfl (by kernel_rfl)) rfl ?_
    have z1 := own_blk_ne R1'.out Q5.out (by decide)
    have z2 := own_blk_ne R2'.out Q5.out (by decide)
    have hl : (a.cs.filter fun q => q != Lnk.pair x y).length = n := by
     rw [HFL.out, List.length_append, List.length_take, List.length_drop]
     omega
    have hown : OwnAir (w.heap.size + 1 + 1) (w6.setCell ⟨w5.heap.size, 1, none⟩ (.slice (some ⟨g, 0, none⟩) n e2)) (.agg #[.slice E1 a.ms.length e1, .slice (some ⟨g, 0, none⟩) n e2]) { a with cs := a.cs.filter fun q => q != Lnk.pair x y } :=
     ⟨_, _, rfl, ownsRow_setCell_other R1'.out (a := ⟨w5.heap.size, 1, none⟩) z1 _, by
      show World.ownsRow _ _ _ _ _ (a.cs.filter fun q => q != Lnk.pair x y).length (prCells (a.cs.filter fun q => q != Lnk.pair x y))
      rw [hl, HFL.out, prCells_append, prCells_take, prCells_drop]
      exact ownsRow_setCell_other R2'.out (a := ⟨w5.heap.size, 1, none⟩) z2 _⟩
    exact ⟨_, rfl, hown.put2 (by omega) (by omega) _ _, HOKF.out, (O4.out.setCell (.inr hs) _).put2 (by omega) _ _⟩
end
end
section
open Go.RowKit
theorem Only.rules {W w1 : World} (h : Only NoF W w1) : (∀ b o, b < W.heap.size → w1.cell? ⟨b, o, none⟩ = W.cell? ⟨b, o, none⟩) ∧ (∀ b o, b < W.heap.size → w1.frozen? ⟨b, o, none⟩ = W.frozen? ⟨b, o, none⟩) ∧ W.heap.size ≤ w1.heap.size :=
 ⟨fun b o hb => h.cell (p := ⟨b, o, none⟩) hb id, fun b o hb => h.frozen (p := ⟨b, o, none⟩) hb id, h.size⟩
theorem Blk.shape {w : World} {g : Nat} {t : TypeId} {cs : Array Value} (h : Blk w g t cs) : w.shape? g = some (t, cs.size) := by
 unfold Blk at h
 simp [World.shape?, h]
section
variable {P : Program} (w : World)
/-- 'append(s, make([]T, m)..)' where there is no room -/
theorem run_append_zeros (t tn ty e : TypeId) (i : TypeInfo) (z : Value) (k kn : IntKind) (ht : P.underlying t = some (.slice e)) (htn : P.underlying tn = some (.int kn)) (hi : P.info? e = some i) (hz : i.zero = some z)
 (base : Option Addr) (n c : Nat) (olds : List Value) (hold : (Builtin.firstCells i.size n (.slice base n c)).run P w.drew = .ok olds.toArray w.drew) (m : Nat) (h0 : 0 < m) (hs : 0 < i.size) (hg : c < n + m)
 (h63 : ((n + m : Nat) : Int) ≤ 9223372036854775807) (hb : (n + m) * i.bytes ≤ 140737488355328) (hfit : Builtin.nextslicecap (n + m) c * i.bytes ≤ 281474976710656) :
 (Builtin.append_ #[t, tn] ty #[.slice base n c, .int k m]).run P w =
  .ok (.slice (some ⟨w.heap.size, 0, none⟩) (n + m) (grownCap w (n + m) c e))
   (w.drew.alloc (.cells ((olds ++ (Builtin.zeroCells z.cells m).toList).toArray ++ Builtin.zeroCells z.cells (grownCap w (n + m) c e - (n + m))) e)) := by
 have hn : ¬ (n + m ≤ c) := by omega
 have hw : IntKind.i64.wrap (m : Int) = m := by rw [IntKind.wrap_i64]; omega
 have h63' : ¬ (9223372036854775807 < ((n : Int) + (m : Int))) := by omega
 have h48' : ¬ (281474976710656 < Builtin.nextslicecap (n + m) c * i.bytes) := by omega
 have hmb : m * i.bytes ≤ (n + m) * i.bytes := Nat.mul_le_mul_right _ (by omega)
 have h48i : ¬ (281474976710656 < (m : Int) * (i.bytes : Int)) := by
  rw [← Int.natCast_mul]
  omega
 have hneg : ¬ ((m : Int) < 0) := by omega
 have hns : ¬ (m * i.size = 0) := Nat.mul_ne_zero (by omega) (by omega)
 simp [Builtin.append_, run_underlying ht, run_underlying htn, sizeOf, typeInfo, zeroValue, hi, hz, asInt, asIntOf, hw, hn, hneg, hns, h63', h48', h48i, Question.forced, hold, newRow, grownCap]
 congr 2
 apply Array.ext'
 simp [List.append_assoc]
end
theorem run_op_copy {P : Program} {o : Oper} {a : Act} {w w' : World} {d s : Operand} {t t' : TypeId} {v1 v2 v : Value} (ho : o.op = .call { callee := .builtin .copy, args := #[d, s], argTypes := #[t, t'] }) (hd : a.eval d = v1) (hs : a.eval s = v2)
 (hrun : (Builtin.copy_ #[t, t'] o.type #[v1, v2]).run P w = .ok v w') : (execOp a.eval o).run P w = .ok (.value v) w' := by
 unfold execOp
 simp only [ho, resolve, invoke, builtin, Sem.run_bind, Sem.run_pure, Result.andThen_ok, List.map_toArray, List.map_cons, List.map_nil, hd, hs, hrun]
section
variable {P : Program} {o : Oper} {a : Act} {w : World}
theorem run_op_move {x : Operand} (ho : o.op = .move x) : (execOp a.eval o).run P w = .ok (.value (a.eval x)) w := by
 unfold execOp
 simp only [ho]
 rfl
theorem run_op_slice {T : TypeId} {x lo : Operand} {v v1 v2 : Value} (ho : o.op = .slice T x (some lo) none none) (h1 : a.eval x = v1) (h2 : a.eval lo = v2) (ht : P.underlying T = some (.slice (P.elem T))) (hr : (Instr.slice T v1 (some v2) none none).run P w = .ok v w) : (execOp a.eval o).run P w = .ok (.value v) w := by
 unfold execOp
 simp only [ho, Option.map_some, Option.map_none, h1, h2]
 simp [run_sliceAt_slice _ T _ _ _ _ ht, hr]
theorem run_op_addI {T T' : TypeId} {x y : Operand} {m n k : Int} (ho : o.op = .binOp .add T x y T') (h1 : a.eval x = .int .i64 m) (h2 : a.eval y = .int .i64 n) (ht : P.underlying T = some (.int .i64)) (hw : IntKind.i64.wrap (m + n) = k) : (execOp a.eval o).run P w = .ok (.value (.int .i64 k)) w := by
 subst hw
 unfold execOp
 simp only [ho, h1, h2]
 simp [go_sem]
variable {ops : Array Oper} {S' : Nat → World → Prop} {T : List Nat} {Qa : Act → Prop} {i : Nat} {R : List Nat}
theorem wpReads_plain (v : Value) (ho : ops[i]? = some o) (hg : o.guard = none) (hy : ∀ w', (execOp a.eval o).run P w' = .ok (.value v) w') (h : wpReads P ops S' T Qa R (a.put o.dst v)) : wpReads P ops S' T Qa (i :: R) a :=
 wpReads_cons ho v (by simp [Region.wanted, hg]) (fun w' _ _ _ => hy w') h
end
theorem wpList_run {P : Program} {ops : Array Oper} {rest : List Oper} {o : Oper} {a : Act} {Q : Exit → Act → World → Prop} {w w' : World} {v : Value} (hgd : o.guard = none) (hr : (execOp a.eval o).run P w = .ok (.value v) w') (h : wpList P ops Q rest (a.put o.dst v) w') : wpList P ops Q (o :: rest) a w :=
 wpList_plain hgd fun _ hK => by
  unfold Oper.wp
  rw [hr]
  exact hK _ _ h
/-- the row with one element more -/
def InsRow (base : Nat) (t : TypeId) (size : Nat) (v : Value) (n i : Nat) (xs news : List Value) (w : World) (e : Ending) (w' : World) : Prop :=
 ∃ v', e = .returned v' ∧ w'.ownsRow base t size v' (n + 1) (xs.take (i * size) ++ news ++ xs.drop (i * size)) ∧ Only (fun k => v.ownBlock = some k) w w'
/-- the address behind 's[k:]' -/
def cutA (A : Option Addr) (cap k size : Nat) : Option Addr := if cap = k then A else A.map (·.add (k * size))
theorem slice_lo {P : Program} {T e : TypeId} {i : TypeInfo} (ht : P.underlying T = some (.slice e)) (hi : P.info? e = some i) {size : Nat} (hs : i.size = size) (A : Option Addr) (n c k : Nat) (hk : k ≤ n) (w : World) :
 (Instr.slice T (.slice A n c) (some (.int .i64 (k : Int))) none none).run P w = .ok (.slice (cutA A c k size) (n - k) (c - k)) w := by
 have h1 : ¬ (n : Int) < (k : Int) := by omega
 simp [Instr.slice, Instr.sliceBounds, Instr.sliceBound, run_underlying ht, asIntOf, sizeOf, typeInfo, hi, hs, cutA, hk]
theorem slice_in {P : Program} {T e : TypeId} {i : TypeInfo} (ht : P.underlying T = some (.slice e)) (hi : P.info? e = some i) {size : Nat} (hs : i.size = size) (g n c k : Nat) (hk : k ≤ n) (hc : k < c) (w : World) :
 (Instr.slice T (.slice (some ⟨g, 0, none⟩) n c) (some (.int .i64 (k : Int))) none none).run P w = .ok (.slice (some ⟨g, k * size, none⟩) (n - k) (c - k)) w := by
 rw [slice_lo ht hi hs (some ⟨g, 0, none⟩) n c k hk w, cutA, if_neg (by omega), Option.map_some, Addr.add_lit, Nat.zero_add]
theorem ins_take1 {R u v : List Value} {o1 o2 k : Nat} (h2 : o2 = o1 + v.length) (hk : k = o2 + u.length) (hR : k ≤ R.length) : (splice (splice R o1 v) o2 u).take k = R.take o1 ++ v ++ u := by
 subst h2 hk
 apply List.ext_getElem?
 intro j
 rw [List.getElem?_take]
 have hl : (splice R o1 v).length = R.length := length_splice (by omega)
 have ho : (R.take o1).length = o1 := by simp; omega
 split
 · rw [splice_get (by omega), splice_get (by omega)]
   by_cases a : j < o1
   · rw [if_pos (by omega), if_pos a, List.append_assoc, List.getElem?_append_left (by omega), List.getElem?_take, if_pos a]
   · by_cases b : j < o1 + v.length
     · rw [if_pos b, if_neg a, if_pos b, List.getElem?_append_left (by simp; omega), List.getElem?_append_right (by omega), ho]
     · rw [if_neg b, if_pos (by omega), List.getElem?_append_right (by simp; omega)]
       congr 1
       simp
       omega
 · rw [List.getElem?_eq_none (by simp; omega)]
theorem ins_take2 {R u v : List Value} {o1 o2 k : Nat} (h2 : o2 = o1 + v.length) (hk : k = o2 + u.length) (hR : k ≤ R.length) : (splice (splice R o2 u) o1 v).take k = R.take o1 ++ v ++ u := by
 subst h2 hk
 apply List.ext_getElem?
 intro j
 rw [List.getElem?_take]
 have hl : (splice R (o1 + v.length) u).length = R.length := length_splice (by omega)
 have ho : (R.take o1).length = o1 := by simp; omega
 split
 · rw [splice_get (by omega), splice_get (by omega)]
   by_cases a : j < o1
   · rw [if_pos a, if_pos (by omega), List.append_assoc, List.getElem?_append_left (by omega), List.getElem?_take, if_pos a]
   · rw [if_neg a]
     by_cases b : j < o1 + v.length
     · rw [if_pos b, List.getElem?_append_left (by simp; omega), List.getElem?_append_right (by omega), ho]
     · rw [if_neg b, if_neg b, if_pos (by omega), List.getElem?_append_right (by simp; omega)]
       congr 1
       simp
       omega
 · rw [List.getElem?_eq_none (by simp; omega)]
section
variable {w : World}
theorem insPr_end {base n : Nat} {v : Value} {xs : List Value} (h : w.ownsRow base 108 2 v n xs) (hn : n ≤ 1000000) (hbase : base ≤ w.heap.size)
 {g c : Nat} {news : List Value} {S : Nat → Prop} (hr : Reads w S 2 (some ⟨g, 0, none⟩) 1 news) (h2 : ∀ u ∈ news, u.oneCell' = true) :
 Calls Tryz.prog 108 #[v, .int .i64 (n : Int), .slice (some ⟨g, 0, none⟩) 1 c] w (InsRow base 108 2 v n n xs news w) := by
 have hx : xs.take (n * 2) ++ news ++ xs.drop (n * 2) = xs ++ news := by
  rw [List.take_of_length_le (by rw [h.1]; omega), List.drop_of_length_le (by rw [h.1]; omega)]
  simp
 have HX := Lib.hid hx
 have HH := Lib.hid h
 have HR := Lib.hid hr
 obtain ⟨B, d, rfl, m1, m2, _⟩ := Reads.of_own h
 obtain ⟨ti, hti, hz0, hz1, hz2⟩ := info_parts info_Pr
 unfold maxLen at m2
 have H2 := Lib.hid h2
 clear hx h hr h2
 have hsl := fun w => slice_lo (P := Tryz.prog) Tryz.underlying47 hti hz1 B n d n (Nat.le_refl n) w
 go_enter Tryz.func108, Tryz.ntmps108
 go_wp2_with (at_builtin; (refine wpList_append_any _ rfl _ _ _ rfl base 108 ti _ 2 16 Tryz.underlying47 hti hz0 hz1 hz2 rfl (by decide) (.slice B n d) _ _ rfl HH.out _ _ 1 c _ rfl HR.out H2.out (by unfold maxLen; omega) (by omega) hbase ?_); intro v' w3 hown hgrow hat; (have HG := Lib.hid hgrow); (have HOWN := Lib.hid hown); clear hown hgrow hat)
 go_ret
 refine ⟨_, rfl, ?_, (Only.refl _ w).grown HG.out fun k hk => .inl hk⟩
 rw [HX.out]
 exact HOWN.out
theorem insPr_room {base g n d : Nat} {xs : List Value} (h : w.ownsRow base 108 2 (.slice (some ⟨g, 0, none⟩) n d) n xs) (h1 : ∀ u ∈ xs, u.oneCell' = true) {i : Nat} (hi : i < n) (hn : n ≤ 1000000) (hroom : n + 1 ≤ d)
 {gv : Nat} {tv : TypeId} {news : List Value} (hv : Blk w gv tv news.toArray) (hne : gv ≠ g) (hl : news.length = 2) (h2 : ∀ u ∈ news, u.oneCell' = true) :
 Calls Tryz.prog 108 #[.slice (some ⟨g, 0, none⟩) n d, .int .i64 (i : Int), .slice (some ⟨gv, 0, none⟩) 1 1] w (InsRow base 108 2 (.slice (some ⟨g, 0, none⟩) n d) n i xs news w) := by
 have hxl := h.1
 have hrd := Reads.of_own h
 rcases h.2 with ⟨h2, _⟩ | ⟨g', cap', cur, he, hg, hh, m1, m2, q3, q4⟩
 · cases h2
 cases he
 obtain ⟨_, _, he, _, _, hr0⟩ := hrd
 cases he
 unfold maxLen at m2
 have hbk : Blk w g 108 (cur.toList).toArray := by rw [Array.toArray_toList]; exact hh
 obtain ⟨ti, hti, hz0, hz1, hz2⟩ := info_parts info_Pr
 have s1 := fun w => slice_in (P := Tryz.prog) Tryz.underlying47 hti hz1 g n d i (by omega) (by omega) w
 have s2 := fun w => slice_in (P := Tryz.prog) Tryz.underlying47 hti hz1 g (n + 1) d (i + 1) (by omega) (by omega) w
 rw [show n + 1 - (i + 1) = n - i by omega] at s2
 have s3 := fun w => slice_in (P := Tryz.prog) Tryz.underlying47 hti hz1 g (n + 1) d i (by omega) (by omega) w
 have hov : (callFunc 126 #[.slice (some ⟨gv, 0, none⟩) 1 1, .slice (some ⟨g, (i + 1) * 2, none⟩) (n - i) (d - (i + 1))]).run Tryz.prog w = .ok (.value (.bool false)) w := by
  rw [run_callFunc_extern Tryz.func126 (by kernel_rfl) (by kernel_rfl) (by kernel_rfl) (e := Extern.SlicesOverlaps.overlaps #[47, 47] #[4]) (by kernel_rfl),
   Lib.run_overlaps_apart w 47 4 108 Tryz.underlying47 2 (fun w => by simp [sizeOf, typeInfo, hti, hz1]) ⟨gv, 0, none⟩ ⟨g, (i + 1) * 2, none⟩ 1 1 _ _ hne _ _ _ _ hv.shape hbk.shape (by rw [Array.toArray_toList, q3]; omega) (hv.frozen 0) (hv.frozen _)]
  rfl
 have hrd2 : Reads w (fun k => k = g) 2 (some ⟨g, i * 2, none⟩) (n - i) (xs.drop (i * 2)) := by
  have := Reads.cut hr0 (k := i) (cap := d) (by omega) (by omega)
  rw [if_neg (by omega), Option.map_some, Addr.add_lit, Nat.zero_add] at this
  exact this.sup fun k hk => (Option.some.inj hk).symm
 have c1 := fun ty : TypeId => run_copy_blk (P := Tryz.prog) (w := w.drew) (dT := 47) (sT := 47) (ty := ty) Tryz.underlying47 hti hz1 hbk ((i + 1) * 2) (n - i) (d - (i + 1)) (some ⟨g, i * 2, none⟩) (n + 1 - i) (d - i) (n - i) (by simp only [Nat.min_def]; split <;> omega) (xs.drop (i * 2)) (hrd2.only ((Only.refl NoF w).drew) fun _ _ h => h) (fun u hu => h1 u (List.mem_of_mem_drop hu)) (by simp only [Array.length_toList]; omega)
 have hb1 := Blk.setRow_ (w := w.drew) hbk (splice cur.toList ((i + 1) * 2) (xs.drop (i * 2))).toArray
 have hv1 : Blk (w.drew.setRow g (splice cur.toList ((i + 1) * 2) (xs.drop (i * 2))).toArray) gv tv news.toArray := Blk.setRow_far (w := w.drew) hv hne _
 have hvr : Reads (w.drew.setRow g (splice cur.toList ((i + 1) * 2) (xs.drop (i * 2))).toArray) (fun _ => True) 2 (some ⟨gv, 0, none⟩) 1 news := ⟨by omega, fun _ => ⟨_, rfl, trivial, hv1.lt, fun j u hj => (show (⟨gv, 0, none⟩ : Addr).add j = ⟨gv, j, none⟩ by rw [Addr.add_lit, Nat.zero_add]) ▸ ((hv1.cell j).trans (by simpa using hj))⟩⟩
 have hdl : (xs.drop (i * 2)).length = (n - i) * 2 := by rw [List.length_drop, hxl]; omega
 have hsl : (splice cur.toList ((i + 1) * 2) (xs.drop (i * 2))).length = d * 2 := by
  rw [length_splice (by rw [hdl]; simp only [Array.length_toList]; omega)]
  simpa using q3
 have c2 := fun ty : TypeId => run_copy_blk (P := Tryz.prog) (dT := 47) (sT := 47) (ty := ty) Tryz.underlying47 hti hz1 hb1 (i * 2) (n + 1 - i) (d - i) (some ⟨gv, 0, none⟩) 1 1 1 (by simp only [Nat.min_def]; split <;> omega) news hvr h2 (by omega)
 have hb2 := hb1.setRow_ (splice (splice cur.toList ((i + 1) * 2) (xs.drop (i * 2))) (i * 2) news).toArray
 have hfin : (splice (splice cur.toList ((i + 1) * 2) (xs.drop (i * 2))) (i * 2) news).take ((n + 1) * 2) = xs.take (i * 2) ++ news ++ xs.drop (i * 2) := by
  rw [ins_take2 (by omega) (by rw [hdl]; omega) (by simp; omega)]
  congr 2
  rw [← q4, List.take_take, Nat.min_eq_left (by omega)]
 have C1 := Lib.hid c1
 have C2 := Lib.hid c2
 have HFIN := Lib.hid hfin
 have HB2 := Lib.hid hb2
 have HSL := Lib.hid hsl
 have HXL := Lib.hid hxl
 have HL := Lib.hid hl
 have HG := Lib.hid hg
 have b1 : ((1 : Int) == 0) = false := rfl
 have hw1 : IntKind.i64.wrap ((i : Int) + 1) = ((i + 1 : Nat) : Int) := by rw [IntWalk.i64_in _ (by omega)]; rfl
 have b2 : ((i : Int) == (n : Int)) = false := by simp; omega
 have b3 : ¬ (d : Int) < (n : Int) + 1 := by omega
 have b4 : (0 : Int) ≤ (n : Int) + 1 := by omega
 have b5 : (n : Int) + 1 ≤ (d : Int) := by omega
 have b6 : ((n : Int) + 1).toNat = n + 1 := by omega
 clear c1 c2 hfin hb2 hsl hdl hvr hv1 hb1 hrd2 hbk hr0 h hh hxl q4 q3 hg hti hz0 hz1 hz2 h1 h2 hl hv
 go_enter Tryz.func108, Tryz.ntmps108
 go_wp2_with fail
 refine wp_region_reads [0, 1, 2, 3, 4, 5, 6, 7] [8] (fun _ _ => True) (by kernel_rfl) (by kernel_rfl) (fun _ _ _ _ _ h => h) trivial ?_
 iterate 3
  refine wpReads_plain _ rfl rfl (fun _ => run_op_move rfl) ?_
  go_simp
 refine wpReads_plain (.int .i64 ((i + 1 : Nat) : Int)) rfl rfl (fun _ => run_op_addI rfl rfl rfl Tryz.underlying3 hw1) ?_
 go_simp
 refine wpReads_plain (.slice (some ⟨g, (i + 1) * 2, none⟩) (n - i) (d - (i + 1))) rfl rfl (fun _ => run_op_slice rfl rfl rfl Tryz.underlying47 (s2 _)) ?_
 go_simp
 iterate 2
  refine wpReads_plain _ rfl rfl (fun _ => run_op_move rfl) ?_
  go_simp
 refine wpReads_plain (.slice (some ⟨g, i * 2, none⟩) (n + 1 - i) (d - i)) rfl rfl (fun _ => run_op_slice rfl rfl rfl Tryz.underlying47 (s3 _)) ?_
 go_simp
 refine wpReads_nil ?_
 refine wpTail_run rfl rfl (run_op_copy rfl rfl rfl (C1.out _)) trivial ?_
 go_simp
 refine wpTail_nil ?_
 go_wp2_with (refine wpList_run rfl (run_op_copy rfl rfl rfl (C2.out _)) ?_)
 go_ret
 refine ⟨_, rfl, own_of_blk HB2.out HG.out ?_ hroom (by unfold maxLen; omega) ?_ HFIN.out, ((((Only.refl (fun k => (Value.slice (some ⟨g, 0, none⟩) n d).ownBlock = some k) w).drew).setRow' (.inl rfl) _).setRow' (.inl rfl) _)⟩
 · have := HXL.out
   have := HL.out
   simp only [List.length_append, List.length_take, List.length_drop]
   omega
 · have := HSL.out
   have := HL.out
   rw [length_splice (by omega)]
   exact HSL.out
theorem insPr_grow {base g n d : Nat} {xs : List Value} (h : w.ownsRow base 108 2 (.slice (some ⟨g, 0, none⟩) n d) n xs) (h1 : ∀ u ∈ xs, u.oneCell' = true) {i : Nat} (hi : i < n) (hn : n ≤ 1000000) (hroom : d < n + 1) (hbase : base ≤ w.heap.size)
 {gv : Nat} {tv : TypeId} {news : List Value} (hv : Blk w gv tv news.toArray) (hl : news.length = 2) (h2 : ∀ u ∈ news, u.oneCell' = true) :
 Calls Tryz.prog 108 #[.slice (some ⟨g, 0, none⟩) n d, .int .i64 (i : Int), .slice (some ⟨gv, 0, none⟩) 1 1] w (InsRow base 108 2 (.slice (some ⟨g, 0, none⟩) n d) n i xs news w) := by
 have hxl := h.1
 obtain ⟨_, _, he, hnd, _, hr0⟩ := Reads.of_own h
 cases he
 obtain rfl : d = n := by omega
 obtain ⟨ti, hti, hz0, hz1, hz2⟩ := info_parts info_Pr
 have hgw : g < w.heap.size := by
  obtain ⟨_, he, _, hlt, _⟩ := hr0.2 (by omega)
  cases he
  exact hlt
 obtain ⟨m, hm⟩ : ∃ m, m = d + 1 - i := ⟨_, rfl⟩
 have hmi : (d : Int) + 1 - (i : Int) = (m : Int) := by omega
 have s1 := fun w => slice_in (P := Tryz.prog) Tryz.underlying47 hti hz1 g d d i (by omega) (by omega) w
 have hrdi : Reads w (fun k => k = g) 2 (some ⟨g, 0, none⟩) i (xs.take (i * 2)) := (hr0.take_ (by omega)).sup fun k hk => (Option.some.inj hk).symm
 have hold : (Builtin.firstCells ti.size i (.slice (some ⟨g, 0, none⟩) i d)).run Tryz.prog w.drew = .ok (xs.take (i * 2)).toArray w.drew := by
  rw [hz1]
  refine run_firstCells_some w.drew 2 i ⟨g, 0, none⟩ i d _ hrdi.1 fun j u hj => ?_
  obtain ⟨_, he, _, _, hc⟩ := hrdi.2 (by have h1 := hrdi.1; have h2 := (List.getElem?_eq_some_iff.1 hj).1; omega)
  cases he
  exact hc j u hj
 obtain ⟨cp, hcp⟩ : ∃ cp, cp = grownCap w (i + m) d 108 := ⟨_, rfl⟩
 have hc1 : d + 1 ≤ cp := by rw [hcp]; exact Nat.le_trans (by omega) (grownCap_ge w (i + m) d 108)
 have hc2 : cp ≤ maxLen := by rw [hcp]; exact grownCap_le_maxLen w (i + m) d 108 (by unfold maxLen; omega)
 have ha := fun ty : TypeId => run_append_zeros (P := Tryz.prog) w 47 3 ty 108 ti _ .i64 .i64 Tryz.underlying47 Tryz.underlying3 hti hz0 (some ⟨g, 0, none⟩) i d _ hold m (by omega) (by omega) (by omega) (by omega) (by rw [hz2]; omega) (by rw [hz2]; exact growslice_fits (by omega) (by omega))
 rw [← hcp, show i + m = d + 1 by omega] at ha
 obtain ⟨R, hR⟩ : ∃ R : List Value, R = xs.take (i * 2) ++ ((Builtin.zeroCells (Value.cells (.agg #[.int .i64 0, .int .i64 0])) m).toList ++ (Builtin.zeroCells (Value.cells (.agg #[.int .i64 0, .int .i64 0])) (cp - (d + 1))).toList) := ⟨_, rfl⟩
 have hR2 : ((xs.take (i * 2) ++ (Builtin.zeroCells (Value.cells (.agg #[.int .i64 0, .int .i64 0])) m).toList).toArray ++ Builtin.zeroCells (Value.cells (.agg #[.int .i64 0, .int .i64 0])) (cp - (d + 1))) = R.toArray := by
  rw [hR]; apply Array.ext'; simp
 have hRl : R.length = cp * 2 := by
  rw [hR]
  simp only [List.length_append, List.length_take, Builtin.zeroCells, Array.length_toList, Array.size_map, Array.size_range, hxl]
  simp [Value.cells]
  omega
 have hRt : R.take (i * 2) = xs.take (i * 2) := by
  rw [hR, List.take_append_of_le_length (by simp; omega), List.take_take, Nat.min_self]
 rw [hR2] at ha
 have hb0 : Blk ((w.alloc (.cells R.toArray 108)).drew) w.heap.size 108 R.toArray := Blk.new w.drew 108 R.toArray
 have hv0 : Blk ((w.alloc (.cells R.toArray 108)).drew) gv tv news.toArray := Blk.alloc (w := w) hv _
 have s2 := fun w' => slice_in (P := Tryz.prog) Tryz.underlying47 hti hz1 w.heap.size (d + 1) cp i (by omega) (by omega) w'
 have s3 := fun w' => slice_in (P := Tryz.prog) Tryz.underlying47 hti hz1 w.heap.size (d + 1) cp (i + 1) (by omega) (by omega) w'
 rw [show d + 1 - (i + 1) = d - i by omega] at s3
 have hvr : Reads ((w.alloc (.cells R.toArray 108)).drew) (fun _ => True) 2 (some ⟨gv, 0, none⟩) 1 news := ⟨by omega, fun _ => ⟨_, rfl, trivial, hv0.lt, fun j u hj => (show (⟨gv, 0, none⟩ : Addr).add j = ⟨gv, j, none⟩ by rw [Addr.add_lit, Nat.zero_add]) ▸ ((hv0.cell j).trans (by simpa using hj))⟩⟩
 have c1 := fun ty : TypeId => run_copy_blk (P := Tryz.prog) (dT := 47) (sT := 47) (ty := ty) Tryz.underlying47 hti hz1 hb0 (i * 2) (d + 1 - i) (cp - i) (some ⟨gv, 0, none⟩) 1 1 1 (by simp only [Nat.min_def]; split <;> omega) news hvr h2 (by omega)
 have hb1 := hb0.setRow_ (splice R (i * 2) news).toArray
 have hsl : (splice R (i * 2) news).length = cp * 2 := by rw [length_splice (by omega)]; exact hRl
 have hrd2 : Reads w (fun k => k = g) 2 (some ⟨g, i * 2, none⟩) (d - i) (xs.drop (i * 2)) := by
  have := Reads.cut hr0 (k := i) (cap := d) (by omega) (by omega)
  rw [if_neg (by omega), Option.map_some, Addr.add_lit, Nat.zero_add] at this
  exact this.sup fun k hk => (Option.some.inj hk).symm
 have hon : Only NoF w ((((w.alloc (.cells R.toArray 108)).drew).setRow w.heap.size (splice R (i * 2) news).toArray).drew) := (((((Only.refl NoF w).alloc _).drew).setRow' (.inr (Nat.le_refl _)) _).drew)
 have c2 := fun ty : TypeId => run_copy_blk (P := Tryz.prog) (w := (((w.alloc (.cells R.toArray 108)).drew).setRow w.heap.size (splice R (i * 2) news).toArray).drew) (dT := 47) (sT := 47) (ty := ty) Tryz.underlying47 hti hz1 hb1 ((i + 1) * 2) (d - i) (cp - (i + 1)) (some ⟨g, i * 2, none⟩) (d - i) (d - i) (d - i) (by simp) (xs.drop (i * 2)) (hrd2.only hon fun _ _ h => h) (fun u hu => h1 u (List.mem_of_mem_drop hu)) (by omega)
 have hb2 := Blk.setRow_ (w := (((w.alloc (.cells R.toArray 108)).drew).setRow w.heap.size (splice R (i * 2) news).toArray).drew) hb1 (splice (splice R (i * 2) news) ((i + 1) * 2) (xs.drop (i * 2))).toArray
 have hdl : (xs.drop (i * 2)).length = (d - i) * 2 := by rw [List.length_drop, hxl]; omega
 have hfin : (splice (splice R (i * 2) news) ((i + 1) * 2) (xs.drop (i * 2))).take ((d + 1) * 2) = xs.take (i * 2) ++ news ++ xs.drop (i * 2) := by
  rw [ins_take1 (by omega) (by rw [hdl]; omega) (by omega), hRt]
 have hlen : (splice (splice R (i * 2) news) ((i + 1) * 2) (xs.drop (i * 2))).length = cp * 2 := by rw [length_splice (by rw [hdl]; omega)]; exact hsl
 have hxn : (xs.take (i * 2) ++ news ++ xs.drop (i * 2)).length = (d + 1) * 2 := by simp only [List.length_append, List.length_take, hdl]; omega
 have HA := Lib.hid ha
 have C1 := Lib.hid c1
 have C2 := Lib.hid c2
 have HFIN := Lib.hid hfin
 have HB2 := Lib.hid hb2
 have HLEN := Lib.hid hlen
 have HXN := Lib.hid hxn
 have HO := Lib.hid hon
 have b1 : ((1 : Int) == 0) = false := rfl
 have hw1 : IntKind.i64.wrap ((i : Int) + 1) = ((i + 1 : Nat) : Int) := by rw [IntWalk.i64_in _ (by omega)]; rfl
 have b2 : ((i : Int) == (d : Int)) = false := by simp; omega
 have b4 : (0 : Int) ≤ (d : Int) + 1 := by omega
 have hid : i ≤ d := by omega
 clear ha c1 c2 hfin hb2 hlen hxn hon hdl hrd2 hsl hb1 hvr hv0 hb0 hR2 hRl hRt hR hold hrdi hr0 h hxl hti hz0 hz1 hz2 h1 h2 hl hv hcp hm
 go_enter Tryz.func108, Tryz.ntmps108
 go_wp2_with (first | (at_builtin; refine Lib.wpList_append_run _ rfl _ _ _ _ rfl _ _ rfl rfl _ _ (HA.out _) ?_) | (refine wpList_run rfl (run_op_copy rfl rfl rfl (C1.out _)) ?_))
 refine wp_region_reads [0, 1, 2, 3, 4, 5, 6, 7] [8] (fun _ _ => True) (by kernel_rfl) (by kernel_rfl) (fun _ _ _ _ _ h => h) trivial ?_
 iterate 3
  refine wpReads_plain _ rfl rfl (fun _ => run_op_move rfl) ?_
  go_simp
 refine wpReads_plain (.int .i64 ((i + 1 : Nat) : Int)) rfl rfl (fun _ => run_op_addI rfl rfl rfl Tryz.underlying3 hw1) ?_
 go_simp
 refine wpReads_plain (.slice (some ⟨w.heap.size, (i + 1) * 2, none⟩) (d - i) (cp - (i + 1))) rfl rfl (fun _ => run_op_slice rfl rfl rfl Tryz.underlying47 (s3 _)) ?_
 go_simp
 iterate 2
  refine wpReads_plain _ rfl rfl (fun _ => run_op_move rfl) ?_
  go_simp
 refine wpReads_plain (.slice (some ⟨g, i * 2, none⟩) (d - i) (d - i)) rfl rfl (fun _ => run_op_slice rfl rfl rfl Tryz.underlying47 (s1 _)) ?_
 go_simp
 refine wpReads_nil ?_
 refine wpTail_run rfl rfl (run_op_copy rfl rfl rfl (C2.out _)) trivial ?_
 go_simp
 refine wpTail_nil ?_
 go_wp2
 go_ret
 exact ⟨_, rfl, own_of_blk HB2.out hbase HXN.out hc1 hc2 HLEN.out HFIN.out, (HO.out.setRow' (.inr (Nat.le_refl _)) _).mono fun _ h => h.elim⟩
theorem insPr_c {base n : Nat} {v : Value} {xs : List Value} (h : w.ownsRow base 108 2 v n xs) (h1 : ∀ u ∈ xs, u.oneCell' = true) {i : Nat} (hi : i ≤ n) (hn : n ≤ 1000000) (hbase : base ≤ w.heap.size)
 {gv : Nat} {tv : TypeId} {news : List Value} (hv : Blk w gv tv news.toArray) (hne : v.ownBlock ≠ some gv) (hl : news.length = 2) (h2 : ∀ u ∈ news, u.oneCell' = true) :
 Calls Tryz.prog 108 #[v, .int .i64 (i : Int), .slice (some ⟨gv, 0, none⟩) 1 1] w (InsRow base 108 2 v n i xs news w) := by
 by_cases hin : i = n
 · subst hin
   exact insPr_end h hn hbase (S := fun _ => True) ⟨by omega, fun _ => ⟨_, rfl, trivial, hv.lt, fun j u hj => (show (⟨gv, 0, none⟩ : Addr).add j = ⟨gv, j, none⟩ by rw [Addr.add_lit, Nat.zero_add]) ▸ ((hv.cell j).trans (by simpa using hj))⟩⟩ h2
 · have hr := Reads.of_own h
   obtain ⟨A, d, rfl, hnd, _, hr⟩ := hr
   rcases h.2 with ⟨he, rfl⟩ | ⟨g, cap, cur, he, _⟩
   · omega
   · cases he
     by_cases hroom : n + 1 ≤ d
     · exact insPr_room h h1 (by omega) hn hroom hv (fun e => hne (by rw [e]; rfl)) hl h2
     · exact insPr_grow h h1 (by omega) hn (by omega) hbase hv hl h2
end
end
section
open Go.RowKit
theorem pair_I64 {x y : Int} (h : Lnk.houses x y = true) : I64 (Lnk.pair x y).x ∧ I64 (Lnk.pair x y).y := by
 simp only [Lnk.houses, decide_eq_true_eq] at h
 simp only [Lnk.pair, I64]
 omega
theorem own_blk_none {w w' : World} {base n : Nat} {t : TypeId} {size : Nat} {v : Value} {xs : List Value} (h : w.ownsRow base t size v n xs) (ho : Only NoF w w') : v.ownBlock ≠ some w'.heap.size := fun e => by
 have := h.lt _ e
 have := ho.size
 omega
section
variable {w : World} {v : Value}
theorem nCut_c {a : Air} (h : AirV w v a) (hf : Few_ a) (x y : Int) : Calls Tryz.prog 80 #[v, .int .i64 x, .int .i64 y] w (AirTo w (Lnk.cut a x y)) := by
 have H := Lib.hid h
 have HOK := Lib.hid (AirV.oks h)
 obtain ⟨v1, v2, rfl, hm0, hc0⟩ := h
 clear hm0 hc0
 have HB := Lib.hid (fun (W : World) (o : Only NoF ((w.alloc (.cells #[v1, v2] 49)).alloc (.cells #[.slice none 0 0, .slice none 0 0] 49)) W) =>
  (⟨(((Only.refl NoF w).alloc _).alloc _).trans' o, ((Blk.new w 49 #[v1, v2]).alloc _).keep o, (Blk.new2 w _ 49 #[.slice none 0 0, .slice none 0 0]).keep o⟩ :
   Only NoF w W ∧ Blk W w.heap.size 49 #[v1, v2] ∧ Blk W (w.heap.size + 1) 49 #[.slice none 0 0, .slice none 0 0]))
 cases hr : Lnk.right a with
 | false =>
  have e : Lnk.cut a x y = (Lnk.none_, 1) := by unfold Lnk.cut; rw [if_pos (.inl hr)]
  rw [e]
  have HR := Lib.hid (nRightA_of H.out hr)
  clear e hr
  go_enter Tryz.func80, Tryz.ntmps80
  go_wp2_with fail
  refine (HR.out _ (HB.out _ (Only.refl _ _)).1).mono ?_
  rintro e w2 ⟨rfl, o1⟩
  obtain ⟨o, p1, p2⟩ := HB.out _ o1
  obtain ⟨x0, x1, x2, x3⟩ := p2.two
  have O := Lib.hid o
  have P2 := Lib.hid p2
  have hs := o.size
  clear o1 o p1 p2
  go_wp2
  refine bodyPost_ret (results_row_tmp rfl _ _ (w.heap.size + 1) 49 #[.slice none 0 0, .slice none 0 0] (0, 0) _ rfl (P2.out.put2 _ _) Tryz.underlying49 rfl (by kernel_rfl)) rfl ?_
  exact ⟨_, rfl, ownNone _ _, okNone, O.out.put2 (by omega) _ _⟩
 | true =>
  have HR := Lib.hid (nRightA_of H.out hr)
  cases hh : Lnk.houses x y with
  | false =>
   have e : Lnk.cut a x y = (Lnk.none_, 1) := by unfold Lnk.cut; rw [if_pos (.inr hh)]
   rw [e]
   have HH := Lib.hid (nhouses_of hh)
   clear e hr hh
   go_enter Tryz.func80, Tryz.ntmps80
   go_wp2_with fail
   refine (HR.out _ (HB.out _ (Only.refl _ _)).1).mono ?_
   rintro e w2 ⟨rfl, o1⟩
   go_wp2_with fail
   refine (HH.out _).mono ?_
   rintro e w3 ⟨rfl, rfl⟩
   obtain ⟨o, p1, p2⟩ := HB.out _ o1
   obtain ⟨x0, x1, x2, x3⟩ := p2.two
   have O := Lib.hid o
   have P2 := Lib.hid p2
   have hs := o.size
   clear o1 o p1 p2
   go_wp2
   refine bodyPost_ret (results_row_tmp rfl _ _ (w.heap.size + 1) 49 #[.slice none 0 0, .slice none 0 0] (0, 0) _ rfl (P2.out.put2 _ _) Tryz.underlying49 rfl (by kernel_rfl)) rfl ?_
   exact ⟨_, rfl, ownNone _ _, okNone, O.out.put2 (by omega) _ _⟩
  | true =>
   have HH := Lib.hid (nhouses_of hh)
   have hsrt := (Lnk.right_iff.1 hr).2.1
   have HFD := Lib.hid (fun (W : World) (o : Only NoF w W) => nfind_c (AirV.keep H.out o) hsrt hf x y)
   cases hc : Lnk.isCut a x y with
   | true =>
    have e : Lnk.cut a x y = (Lnk.none_, 5) := by unfold Lnk.cut; rw [if_neg (by simp [hr, hh]), if_pos hc]
    rw [e]
    rw [show decide (Lnk.pair x y ∈ a.cs) = true from hc] at HFD
    clear e hr hh hc hsrt
    go_enter Tryz.func80, Tryz.ntmps80
    go_wp2_with fail
    refine (HR.out _ (HB.out _ (Only.refl _ _)).1).mono ?_
    rintro e w2 ⟨rfl, o1⟩
    go_wp2_with fail
    refine (HH.out _).mono ?_
    rintro e w3 ⟨rfl, rfl⟩
    obtain ⟨o, p1, p2⟩ := HB.out _ o1
    obtain ⟨x0, x1, _, _⟩ := p1.two
    have O1 := Lib.hid o1
    clear o1 o p1 p2
    go_wp2_with fail
    refine (HFD.out _ (HB.out _ O1.out).1).mono ?_
    rintro e w4 ⟨rfl, o2⟩
    obtain ⟨o, p1, p2⟩ := HB.out _ (O1.out.trans' o2)
    obtain ⟨x0, x1, x2, x3⟩ := p2.two
    have O := Lib.hid o
    have P2 := Lib.hid p2
    have hs := o.size
    clear o2 o p1 p2
    go_wp2
    refine bodyPost_ret (results_row_tmp rfl _ _ (w.heap.size + 1) 49 #[.slice none 0 0, .slice none 0 0] (0, 0) _ rfl (P2.out.put2 _ _) Tryz.underlying49 rfl (by kernel_rfl)) rfl ?_
    exact ⟨_, rfl, ownNone _ _, okNone, O.out.put2 (by omega) _ _⟩
   | false =>
    have e : Lnk.cut a x y = ({ a with cs := Lnk.insC (Lnk.pair x y) a.cs }, 0) := by unfold Lnk.cut; rw [if_neg (by simp [hr, hh]), if_neg (by simp [hc])]
    rw [e]
    rw [show decide (Lnk.pair x y ∈ a.cs) = false from hc] at HFD
    have hk := Lnk.posC_le (Lnk.pair x y) a.cs
    have hfl : Lnk.insC (Lnk.pair x y) a.cs = a.cs.take (Lnk.posC (Lnk.pair x y) a.cs) ++ Lnk.pair x y :: a.cs.drop (Lnk.posC (Lnk.pair x y) a.cs) := rfl
    have HPI := Lib.hid (pair_I64 hh)
    generalize Lnk.posC (Lnk.pair x y) a.cs = k at HFD hk hfl
    have HCL := Lib.hid (fun (W : World) (hW : Only NoF w W) => nclone_c (AirV.keep H.out hW) hf)
    have hfm := hf.2
    have HFL := Lib.hid hfl
    have HOKF := Lib.hid (show AirOk { a with cs := Lnk.insC (Lnk.pair x y) a.cs } from ⟨HOK.out.1, fun p hp => (Lnk.mem_ins.1 hp).elim (fun h => by rw [h]; exact HPI.out) (HOK.out.2 p)⟩)
    clear e hr hh hc hsrt hfl
    go_enter Tryz.func80, Tryz.ntmps80
    go_wp2_with fail
    refine (HR.out _ (HB.out _ (Only.refl _ _)).1).mono ?_
    rintro e w2 ⟨rfl, o1⟩
    go_wp2_with fail
    refine (HH.out _).mono ?_
    rintro e w3 ⟨rfl, rfl⟩
    obtain ⟨o, p1, p2⟩ := HB.out _ o1
    obtain ⟨x0, x1, _, _⟩ := p1.two
    have O1 := Lib.hid o1
    clear o1 o p1 p2
    go_wp2_with fail
    refine (HFD.out _ (HB.out _ O1.out).1).mono ?_
    rintro e w4 ⟨rfl, o2⟩
    obtain ⟨o, p1, p2⟩ := HB.out _ (O1.out.trans' o2)
    obtain ⟨x0, x1, _, _⟩ := p1.two
    have O2 := Lib.hid (O1.out.trans' o2)
    clear o2 o p1 p2
    go_wp2_with fail
    refine (HCL.out _ (HB.out _ O2.out).1).mono ?_
    rintro e w5 ⟨vv, rfl, ⟨u1, u2, rfl, r1, r2⟩, o3⟩
    obtain ⟨E1, e1, rfl, _, _, _⟩ := Reads.of_own r1
    obtain ⟨E2, e2, rfl, _, _, _⟩ := Reads.of_own r2
    have hs4 := O2.out.size
    simp only [World.size_alloc] at hs4
    obtain ⟨o, p1, p2⟩ := HB.out _ (O2.out.trans' o3)
    have hs := o.size
    have HNE := Lib.hid (own_ne r1 r2 (by decide))
    have R1 := Lib.hid (own_base (base' := w.heap.size + 1 + 1) r1 (by omega))
    have R2 := Lib.hid (own_base (base' := w.heap.size + 1 + 1) r2 (by omega))
    have O := Lib.hid o
    have P2 := Lib.hid p2
    clear o o3 p1 p2 r1 r2
    have hA5 := Only.alloc (Only.refl NoF w5) (.cells #[.slice E1 a.ms.length e1, .slice E2 a.cs.length e2] 49)
    have hB5 := Blk.new w5 49 #[.slice E1 a.ms.length e1, .slice E2 a.cs.length e2]
    obtain ⟨y0, y1, y2, y3⟩ := hB5.two
    have HA5 := Lib.hid hA5
    have HB5 := Lib.hid hB5
    clear hA5 hB5
    go_wp2_with fail
    refine wp_region_reads [0, 1, 2, 3, 4] [5, 6, 7, 8, 9] (fun k W => k ≤ 2 → W.cell? ⟨w5.heap.size, 1, none⟩ = some (.slice E2 a.cs.length e2)) (by kernel_rfl) (by kernel_rfl) (fun _ _ _ _ _ h => h) (fun _ => HB5.out.drew.two.2.1) ?_
    refine wpReads_cons rfl (.pointer (some ⟨w5.heap.size, 1, none⟩)) (by rfl) (fun w' k hk hS => by go_simp) ?_
    go_simp
    refine wpReads_cons rfl (.slice E2 a.cs.length e2) (by rfl) (fun w' k hk hS => by have h1 := hS (Nat.le_trans hk (of_decide_eq_true (by kernel_rfl))); clear hk hS; go_simp) ?_
    go_simp
    iterate 3
     refine wpReads_plain _ rfl rfl (fun _ => run_op_move rfl) ?_
     go_simp
    refine wpReads_nil ?_
    refine wpTail_cons rfl rfl ?_
    go_simp
    refine (npair_c _ x y).mono ?_
    rintro e w6 ⟨rfl, o6⟩
    have O6 := Lib.hid (HA5.out.drew.trans' o6)
    have Q5 := Lib.hid (HB5.out.drew.keep o6)
    clear o6 y0 y1 y2 y3
    refine ⟨Q5.out.two.2.1, ?_⟩
    refine wpTail_cons rfl rfl ?_
    go_simp
    refine ⟨(Q5.out.alloc _).two.2.1, ?_⟩
    refine wpTail_cons rfl rfl ?_
    go_simp
    refine (insPr_c (base := w.heap.size + 1 + 1) (own_keep R2.out (O6.out.alloc _)) (prCells_one _) hk hf.2 (by simp only [World.size_alloc]; have := O6.out.size; have := P2.out.lt; omega) (gv := w6.heap.size) (news := prCells [Lnk.pair x y]) (Blk.new w6 _ _) (own_blk_none R2.out O6.out) rfl (prCells_one _)).mono ?_
    rintro e w7 ⟨v7, rfl, r7, o7⟩
    obtain ⟨E7, e7, rfl, _, _, _⟩ := Reads.of_own r7
    have q5 := (Q5.out.alloc _).only o7 fun h => own_blk_none R2.out (Only.refl NoF w5) h
    have q2 := ((P2.out.only O6.out id).alloc _).only o7 fun h => by have := R2.out.lt _ h; omega
    have R1' := Lib.hid (own_only (own_keep R1.out (O6.out.alloc _)) o7 fun j hj h => HNE.out j hj h.symm)
    have O7 := Lib.hid ((O.out.trans' (O6.out.alloc _)).trans o7 fun j hj => .inr (by have := R2.out.lt _ hj; omega))
    obtain ⟨u0, u1, u2, u3⟩ := q5.two
    obtain ⟨x0, x1, x2, x3⟩ := q2.two
    have Q7 := Lib.hid q5
    have Q2 := Lib.hid q2
    have R7 := Lib.hid r7
    have hne : ¬ w.heap.size + 1 = w5.heap.size := by have := P2.out.lt; omega
    have hne2 : ¬ w5.heap.size = w.heap.size + 1 := by omega
    clear q5 q2 r7 o7
    refine wpTail_cons rfl rfl ?_
    go_simp
    refine wpTail_cons rfl rfl ?_
    go_simp
    refine wpTail_nil ?_
    go_wp2
    refine bodyPost_ret (results_row_tmp rfl _ _ (w.heap.size + 1) 49 #[.slice E1 a.ms.length e1, .slice E7 (a.cs.length + 1) e7] (0, 0) _ rfl ((Q2.out.far (p := ⟨w5.heap.size, 1, none⟩) hne _).put2 _ _) Tryz.underlying49 rfl (by kernel_rfl)) rfl ?_
    have z1 := own_blk_ne R1'.out Q7.out (by decide)
    have z2 := own_blk_ne R7.out Q7.out (by decide)
    have hl : (Lnk.insC (Lnk.pair x y) a.cs).length = a.cs.length + 1 := by
     rw [HFL.out, List.length_append, List.length_cons, List.length_take, List.length_drop]
     omega
    have hown : OwnAir (w.heap.size + 1 + 1) (w7.setCell ⟨w5.heap.size, 1, none⟩ (.slice E7 (a.cs.length + 1) e7)) (.agg #[.slice E1 a.ms.length e1, .slice E7 (a.cs.length + 1) e7]) { a with cs := Lnk.insC (Lnk.pair x y) a.cs } :=
     ⟨_, _, rfl, ownsRow_setCell_other R1'.out (a := ⟨w5.heap.size, 1, none⟩) z1 _, by
      show World.ownsRow _ _ _ _ _ (Lnk.insC (Lnk.pair x y) a.cs).length (prCells (Lnk.insC (Lnk.pair x y) a.cs))
      rw [hl, HFL.out, prCells_append, prCells_cons, prCells_take, prCells_drop]
      have := ownsRow_setCell_other R7.out (a := ⟨w5.heap.size, 1, none⟩) z2 (.slice E7 (a.cs.length + 1) e7)
      simpa [prCells] using this⟩
    exact ⟨_, rfl, hown.put2 (by omega) (by omega) _ _, HOKF.out, (O7.out.setCell (.inr hs) _).put2 (by omega) _ _⟩
end
end
section
open Go.RowKit
def DoTo (w : World) (r : Air × List Msg × Int) (e : Ending) (w' : World) : Prop :=
 ∃ v' m', e = .returned (.tuple #[v', m', .int .i64 r.2.2]) ∧ OwnAir w.heap.size w' v' r.1 ∧ AirOk r.1 ∧ w'.ownsRow w.heap.size 90 3 m' r.2.1.length (msgCells r.2.1) ∧ (∀ m ∈ r.2.1, MsgOk m) ∧ Only NoF w w'
abbrev evV (e : Ev) : Value := .agg #[.int .i64 e.k, .int .i64 e.a, .int .i64 e.b, strV e.t]
def EvOk (e : Ev) : Prop := I64 e.k ∧ I64 e.a ∧ I64 e.b ∧ e.t.length ≤ maxLen
theorem AirOk.deliver {a : Air} (h : AirOk a) (i : Int) : MsgOk (Lnk.deliver a i).2.1 := by
 unfold Lnk.deliver
 split
 · exact ⟨(by decide : -9223372036854775808 ≤ (0 : Int) ∧ (0 : Int) ≤ 9223372036854775807), (by decide : -9223372036854775808 ≤ (0 : Int) ∧ (0 : Int) ≤ 9223372036854775807), Nat.zero_le _⟩
 split
 · exact ⟨(by decide : -9223372036854775808 ≤ (0 : Int) ∧ (0 : Int) ≤ 9223372036854775807), (by decide : -9223372036854775808 ≤ (0 : Int) ∧ (0 : Int) ≤ 9223372036854775807), Nat.zero_le _⟩
 · rename_i h1 _
   simp only [Classical.not_not] at h1
   have hb := Lnk.bad_zero (by simpa using h1)
   exact h.1 _ (Lnk.msg_mem hb.2.1 hb.2.2)
theorem Blk.new_2 {w w' : World} (o o2 : Obj) (t : TypeId) (cs : Array Value) (h : Only NoF (((w.alloc o).alloc o2).alloc (.cells cs t)) w') : Blk w' (w.heap.size + 1 + 1) t cs := (Blk.new3 w o o2 t cs).keep h
section
variable {w : World} {v : Value}
theorem ndo_5 {a : Air} (h : AirV w v a) (hf : Few_ a) {e : Ev} (he : EvOk e) (h05 : e.k = 0 ∨ e.k = 2 ∨ e.k = 3 ∨ e.k = 4 ∨ e.k = 5) : Calls Tryz.prog 49 #[v, evV e] w (DoTo w (Lnk.do_ a e)) := by
 have H := Lib.hid h
 have HOK := Lib.hid (AirV.oks h)
 obtain ⟨v1, v2, rfl, hm0, hc0⟩ := h
 clear hm0 hc0
 obtain ⟨ek, ea, eb, et⟩ := e
 obtain ⟨k1, k2, k3, k4⟩ := he
 have hch : ∀ W, Only NoF (((w.alloc (.cells #[v1, v2] 49)).alloc (.cells #[.int .i64 ek, .int .i64 ea, .int .i64 eb, strV et] 45)).alloc (.cells #[.slice none 0 0, .slice none 0 0] 49)) W → Only NoF w W := fun W o => ((((Only.refl NoF w).alloc _).alloc _).alloc _).trans' o
 have HCH := Lib.hid hch
 have HN := Lib.hid (fun (W : World) o => Blk.new_2 (w := w) (w' := W) (.cells #[v1, v2] 49) (.cells #[.int .i64 ek, .int .i64 ea, .int .i64 eb, strV et] 45) 49 #[.slice none 0 0, .slice none 0 0] o)
 have HM := Lib.hid (show MsgOk ⟨ea, eb, et⟩ from ⟨k2, k3, k4⟩)
 clear hch k1 k2 k3 k4
 have H05 := Lib.hid h05
 clear h05
 by_cases hk0 : ek = 0
 · subst hk0
   have HE := Lib.hid (show Lnk.do_ a ⟨0, ea, eb, et⟩ = ((Lnk.send a ⟨ea, eb, et⟩).1, [], (Lnk.send a ⟨ea, eb, et⟩).2) from rfl)
   have HC := Lib.hid (fun (W : World) o => nSend_c (AirV.keep (w' := W) H.out o) hf HM.out)
   generalize Lnk.send a ⟨ea, eb, et⟩ = r at HE HC
   go_enter Tryz.func49, Tryz.ntmps49
   go_wp2_with fail
   refine (HC.out _ (HCH.out _ (Only.refl _ _))).mono ?_
   rintro e w2 ⟨v', rfl, ⟨u1, u2, rfl, r1, r2⟩, hok, o2⟩
   obtain ⟨E1, e1, rfl, _, _, _⟩ := Reads.of_own r1
   obtain ⟨E2, e2, rfl, _, _, _⟩ := Reads.of_own r2
   obtain ⟨c2, f2, s2⟩ := o2.rules
   have O2 := Lib.hid o2
   have OA := Lib.hid (OwnAir.low (base' := w.heap.size + 1 + 1 + 1) (show OwnAir _ w2 (.agg #[.slice E1 r.1.ms.length e1, .slice E2 r.1.cs.length e2]) r.1 from ⟨_, _, rfl, r1, r2⟩) (by simp only [World.size_alloc]; omega))
   clear o2 r1 r2
   go_wp2
   refine bodyPost_ret (results_row_tmp2 rfl _ _ (w.heap.size + 1 + 1) 49 #[.slice E1 r.1.ms.length e1, .slice E2 r.1.cs.length e2] (0, 0) _ rfl (((HN.out _ O2.out).put2 _ _).put2 _ _) Tryz.underlying49 rfl (by kernel_rfl)) rfl ?_
   rw [HE.out]
   exact ⟨_, .slice none 0 0, rfl, (((OA.out.put2 (by omega) (Nat.le_refl _) _ _).put2 (by omega) (Nat.le_refl _) _ _).low (by omega)), hok, World.ownsRow_nil _ _ _ _, (fun m h => by cases h), ((HCH.out _ O2.out).put2 (by omega) _ _).put2 (by omega) _ _⟩
 by_cases hk2 : ek = 2
 · subst hk2
   have HE := Lib.hid (show Lnk.do_ a ⟨2, ea, eb, et⟩ = ((Lnk.lose a ea).1, [], (Lnk.lose a ea).2) from rfl)
   have HC := Lib.hid (fun (W : World) o => nLose_c (AirV.keep (w' := W) H.out o) hf ea)
   generalize Lnk.lose a ea = r at HE HC
   go_enter Tryz.func49, Tryz.ntmps49
   go_wp2_with fail
   refine (HC.out _ (HCH.out _ (Only.refl _ _))).mono ?_
   rintro e w2 ⟨v', rfl, ⟨u1, u2, rfl, r1, r2⟩, hok, o2⟩
   obtain ⟨E1, e1, rfl, _, _, _⟩ := Reads.of_own r1
   obtain ⟨E2, e2, rfl, _, _, _⟩ := Reads.of_own r2
   obtain ⟨c2, f2, s2⟩ := o2.rules
   have O2 := Lib.hid o2
   have OA := Lib.hid (OwnAir.low (base' := w.heap.size + 1 + 1 + 1) (show OwnAir _ w2 (.agg #[.slice E1 r.1.ms.length e1, .slice E2 r.1.cs.length e2]) r.1 from ⟨_, _, rfl, r1, r2⟩) (by simp only [World.size_alloc]; omega))
   clear o2 r1 r2
   go_wp2
   refine bodyPost_ret (results_row_tmp2 rfl _ _ (w.heap.size + 1 + 1) 49 #[.slice E1 r.1.ms.length e1, .slice E2 r.1.cs.length e2] (0, 0) _ rfl (((HN.out _ O2.out).put2 _ _).put2 _ _) Tryz.underlying49 rfl (by kernel_rfl)) rfl ?_
   rw [HE.out]
   exact ⟨_, .slice none 0 0, rfl, (((OA.out.put2 (by omega) (Nat.le_refl _) _ _).put2 (by omega) (Nat.le_refl _) _ _).low (by omega)), hok, World.ownsRow_nil _ _ _ _, (fun m h => by cases h), ((HCH.out _ O2.out).put2 (by omega) _ _).put2 (by omega) _ _⟩
 by_cases hk3 : ek = 3
 · subst hk3
   have HE := Lib.hid (show Lnk.do_ a ⟨3, ea, eb, et⟩ = ((Lnk.double a ea).1, [], (Lnk.double a ea).2) from rfl)
   have HC := Lib.hid (fun (W : World) o => nDouble_c (AirV.keep (w' := W) H.out o) hf ea)
   generalize Lnk.double a ea = r at HE HC
   go_enter Tryz.func49, Tryz.ntmps49
   go_wp2_with fail
   refine (HC.out _ (HCH.out _ (Only.refl _ _))).mono ?_
   rintro e w2 ⟨v', rfl, ⟨u1, u2, rfl, r1, r2⟩, hok, o2⟩
   obtain ⟨E1, e1, rfl, _, _, _⟩ := Reads.of_own r1
   obtain ⟨E2, e2, rfl, _, _, _⟩ := Reads.of_own r2
   obtain ⟨c2, f2, s2⟩ := o2.rules
   have O2 := Lib.hid o2
   have OA := Lib.hid (OwnAir.low (base' := w.heap.size + 1 + 1 + 1) (show OwnAir _ w2 (.agg #[.slice E1 r.1.ms.length e1, .slice E2 r.1.cs.length e2]) r.1 from ⟨_, _, rfl, r1, r2⟩) (by simp only [World.size_alloc]; omega))
   clear o2 r1 r2
   go_wp2
   refine bodyPost_ret (results_row_tmp2 rfl _ _ (w.heap.size + 1 + 1) 49 #[.slice E1 r.1.ms.length e1, .slice E2 r.1.cs.length e2] (0, 0) _ rfl (((HN.out _ O2.out).put2 _ _).put2 _ _) Tryz.underlying49 rfl (by kernel_rfl)) rfl ?_
   rw [HE.out]
   exact ⟨_, .slice none 0 0, rfl, (((OA.out.put2 (by omega) (Nat.le_refl _) _ _).put2 (by omega) (Nat.le_refl _) _ _).low (by omega)), hok, World.ownsRow_nil _ _ _ _, (fun m h => by cases h), ((HCH.out _ O2.out).put2 (by omega) _ _).put2 (by omega) _ _⟩
 by_cases hk4 : ek = 4
 · subst hk4
   have HE := Lib.hid (show Lnk.do_ a ⟨4, ea, eb, et⟩ = ((Lnk.cut a ea eb).1, [], (Lnk.cut a ea eb).2) from rfl)
   have HC := Lib.hid (fun (W : World) o => nCut_c (AirV.keep (w' := W) H.out o) hf ea eb)
   generalize Lnk.cut a ea eb = r at HE HC
   go_enter Tryz.func49, Tryz.ntmps49
   go_wp2_with fail
   refine (HC.out _ (HCH.out _ (Only.refl _ _))).mono ?_
   rintro e w2 ⟨v', rfl, ⟨u1, u2, rfl, r1, r2⟩, hok, o2⟩
   obtain ⟨E1, e1, rfl, _, _, _⟩ := Reads.of_own r1
   obtain ⟨E2, e2, rfl, _, _, _⟩ := Reads.of_own r2
   obtain ⟨c2, f2, s2⟩ := o2.rules
   have O2 := Lib.hid o2
   have OA := Lib.hid (OwnAir.low (base' := w.heap.size + 1 + 1 + 1) (show OwnAir _ w2 (.agg #[.slice E1 r.1.ms.length e1, .slice E2 r.1.cs.length e2]) r.1 from ⟨_, _, rfl, r1, r2⟩) (by simp only [World.size_alloc]; omega))
   clear o2 r1 r2
   go_wp2
   refine bodyPost_ret (results_row_tmp2 rfl _ _ (w.heap.size + 1 + 1) 49 #[.slice E1 r.1.ms.length e1, .slice E2 r.1.cs.length e2] (0, 0) _ rfl (((HN.out _ O2.out).put2 _ _).put2 _ _) Tryz.underlying49 rfl (by kernel_rfl)) rfl ?_
   rw [HE.out]
   exact ⟨_, .slice none 0 0, rfl, (((OA.out.put2 (by omega) (Nat.le_refl _) _ _).put2 (by omega) (Nat.le_refl _) _ _).low (by omega)), hok, World.ownsRow_nil _ _ _ _, (fun m h => by cases h), ((HCH.out _ O2.out).put2 (by omega) _ _).put2 (by omega) _ _⟩
 by_cases hk5 : ek = 5
 · subst hk5
   have HE := Lib.hid (show Lnk.do_ a ⟨5, ea, eb, et⟩ = ((Lnk.heal a ea eb).1, [], (Lnk.heal a ea eb).2) from rfl)
   have HC := Lib.hid (fun (W : World) o => nHeal_c (AirV.keep (w' := W) H.out o) hf ea eb)
   generalize Lnk.heal a ea eb = r at HE HC
   go_enter Tryz.func49, Tryz.ntmps49
   go_wp2_with fail
   refine (HC.out _ (HCH.out _ (Only.refl _ _))).mono ?_
   rintro e w2 ⟨v', rfl, ⟨u1, u2, rfl, r1, r2⟩, hok, o2⟩
   obtain ⟨E1, e1, rfl, _, _, _⟩ := Reads.of_own r1
   obtain ⟨E2, e2, rfl, _, _, _⟩ := Reads.of_own r2
   obtain ⟨c2, f2, s2⟩ := o2.rules
   have O2 := Lib.hid o2
   have OA := Lib.hid (OwnAir.low (base' := w.heap.size + 1 + 1 + 1) (show OwnAir _ w2 (.agg #[.slice E1 r.1.ms.length e1, .slice E2 r.1.cs.length e2]) r.1 from ⟨_, _, rfl, r1, r2⟩) (by simp only [World.size_alloc]; omega))
   clear o2 r1 r2
   go_wp2
   refine bodyPost_ret (results_row_tmp2 rfl _ _ (w.heap.size + 1 + 1) 49 #[.slice E1 r.1.ms.length e1, .slice E2 r.1.cs.length e2] (0, 0) _ rfl (((HN.out _ O2.out).put2 _ _).put2 _ _) Tryz.underlying49 rfl (by kernel_rfl)) rfl ?_
   rw [HE.out]
   exact ⟨_, .slice none 0 0, rfl, (((OA.out.put2 (by omega) (Nat.le_refl _) _ _).put2 (by omega) (Nat.le_refl _) _ _).low (by omega)), hok, World.ownsRow_nil _ _ _ _, (fun m h => by cases h), ((HCH.out _ O2.out).put2 (by omega) _ _).put2 (by omega) _ _⟩
 have h05 := H05.out
 simp only at h05
 omega
end
end
section
open Go.RowKit
section
variable {w : World} {v : Value}
theorem ndo_d {a : Air} (h : AirV w v a) (hf : Few_ a) {e : Ev} (he : EvOk e) (hk : e.k < 0 ∨ 5 < e.k) : Calls Tryz.prog 49 #[v, evV e] w (DoTo w (Lnk.do_ a e)) := by
 have H := Lib.hid h
 have HOK := Lib.hid (AirV.oks h)
 obtain ⟨v1, v2, rfl, hm0, hc0⟩ := h
 clear hm0 hc0
 obtain ⟨ek, ea, eb, et⟩ := e
 obtain ⟨k1, k2, k3, k4⟩ := he
 simp only at hk
 have hch : ∀ W, Only NoF (((w.alloc (.cells #[v1, v2] 49)).alloc (.cells #[.int .i64 ek, .int .i64 ea, .int .i64 eb, strV et] 45)).alloc (.cells #[.slice none 0 0, .slice none 0 0] 49)) W → Only NoF w W := fun W o => ((((Only.refl NoF w).alloc _).alloc _).alloc _).trans' o
 have HCH := Lib.hid hch
 have HN := Lib.hid (fun (W : World) o => Blk.new_2 (w := w) (w' := W) (.cells #[v1, v2] 49) (.cells #[.int .i64 ek, .int .i64 ea, .int .i64 eb, strV et] 45) 49 #[.slice none 0 0, .slice none 0 0] o)
 have HM := Lib.hid (show MsgOk ⟨ea, eb, et⟩ from ⟨k2, k3, k4⟩)
 clear hch k1 k2 k3 k4
 have b0 : (ek == 0) = false := by simp; omega
 have b1 : (ek == 1) = false := by simp; omega
 have b2 : (ek == 2) = false := by simp; omega
 have b3 : (ek == 3) = false := by simp; omega
 have b4 : (ek == 4) = false := by simp; omega
 have b5 : (ek == 5) = false := by simp; omega
 have HE := Lib.hid (show Lnk.do_ a ⟨ek, ea, eb, et⟩ = (Lnk.none_, [], 1) by unfold Lnk.do_; rw [if_neg (by simp only; omega), if_neg (by simp only; omega), if_neg (by simp only; omega), if_neg (by simp only; omega), if_neg (by simp only; omega), if_neg (by simp only; omega)])
 clear hk
 go_enter Tryz.func49, Tryz.ntmps49
 go_wp2
 refine bodyPost_ret (results_row_tmp2 rfl _ _ (w.heap.size + 1 + 1) 49 #[.slice none 0 0, .slice none 0 0] (0, 0) _ rfl (HN.out _ (Only.refl _ _)) Tryz.underlying49 rfl (by kernel_rfl)) rfl ?_
 rw [HE.out]
 exact ⟨_, .slice none 0 0, rfl, ownNone _ _, okNone, World.ownsRow_nil _ _ _ _, (fun m h => by cases h), HCH.out _ (Only.refl _ _)⟩
theorem ndo_1 {a : Air} (h : AirV w v a) (hf : Few_ a) {e : Ev} (he : EvOk e) (hk : e.k = 1) : Calls Tryz.prog 49 #[v, evV e] w (DoTo w (Lnk.do_ a e)) := by
 have H := Lib.hid h
 have HOK := Lib.hid (AirV.oks h)
 obtain ⟨v1, v2, rfl, hm0, hc0⟩ := h
 clear hm0 hc0
 obtain ⟨ek, ea, eb, et⟩ := e
 obtain ⟨k1, k2, k3, k4⟩ := he
 obtain rfl : ek = 1 := hk
 have hch : ∀ W, Only NoF (((w.alloc (.cells #[v1, v2] 49)).alloc (.cells #[.int .i64 1, .int .i64 ea, .int .i64 eb, strV et] 45)).alloc (.cells #[.slice none 0 0, .slice none 0 0] 49)) W → Only NoF w W := fun W o => ((((Only.refl NoF w).alloc _).alloc _).alloc _).trans' o
 have HCH := Lib.hid hch
 have HN := Lib.hid (fun (W : World) o => Blk.new_2 (w := w) (w' := W) (.cells #[v1, v2] 49) (.cells #[.int .i64 1, .int .i64 ea, .int .i64 eb, strV et] 45) 49 #[.slice none 0 0, .slice none 0 0] o)
 have HM := Lib.hid (show MsgOk ⟨ea, eb, et⟩ from ⟨k2, k3, k4⟩)
 clear hch k1 k2 k3 k4
 have HE := Lib.hid (show Lnk.do_ a ⟨1, ea, eb, et⟩ = ((Lnk.deliver a ea).1, if (Lnk.deliver a ea).2.2 = 0 then [(Lnk.deliver a ea).2.1] else [], (Lnk.deliver a ea).2.2) from rfl)
 have HC := Lib.hid (fun (W : World) o => nDeliver_c (AirV.keep (w' := W) H.out o) hf ea)
 have HMO := Lib.hid (AirOk.deliver HOK.out ea)
 generalize Lnk.deliver a ea = r at HE HC HMO
 obtain ⟨ra, rm, rn⟩ := r
 obtain ⟨ti, hti, hz0, hz1, hz2⟩ := info_parts info_Msg
 go_enter Tryz.func49, Tryz.ntmps49
 go_wp2_with fail
 refine (HC.out _ ((HCH.out _ (Only.refl _ _)).alloc _)).mono ?_
 rintro e w2 ⟨v', rfl, ⟨u1, u2, rfl, r1, r2⟩, hok, o2⟩
 obtain ⟨E1, e1, rfl, _, _, _⟩ := Reads.of_own r1
 obtain ⟨E2, e2, rfl, _, _, _⟩ := Reads.of_own r2
 dsimp only at r1 r2 hok ⊢
 obtain ⟨c2, f2, s2⟩ := o2.rules
 have OA := Lib.hid (OwnAir.low (base' := w.heap.size + 1 + 1 + 1 + 1) (show OwnAir _ w2 (.agg #[.slice E1 ra.ms.length e1, .slice E2 ra.cs.length e2]) ra from ⟨_, _, rfl, r1, r2⟩) (by simp only [World.size_alloc]; omega))
 have N2 := Lib.hid (HN.out _ ((((Only.refl NoF _).alloc _)).trans' o2))
 have O2 := Lib.hid (HCH.out _ ((((Only.refl NoF _).alloc _)).trans' o2))
 have hsz : w.heap.size + 1 + 1 + 1 + 1 ≤ w2.heap.size := by simpa using s2
 clear o2 r1 r2
 by_cases hrn : rn = 0
 · subst hrn
   have hms : World.ownsRow w2 (w.heap.size + 1 + 1 + 1 + 1) 90 3 (.slice none 0 0) 0 [] := World.ownsRow_nil _ _ _ _
   have HMS := Lib.hid hms
   have HRD := Lib.hid (fun (W : World) (h : w2.heap.size = W.heap.size) => (show Reads (W.alloc (.cells #[.int .i64 rm.a, .int .i64 rm.b, strV rm.t] 90)) (fun k => k = w2.heap.size) 3 (some ⟨w2.heap.size, 0, none⟩) 1 (msgCells [rm]) from h ▸ reads_made W 90 3 1 (msgCells [rm]) rfl))
   clear hms
   go_wp2_with (at_builtin; (refine wpList_append_any _ rfl _ _ _ rfl (w.heap.size + 1 + 1 + 1 + 1) 90 ti _ 3 32 Tryz.underlying46 hti hz0 hz1 hz2 rfl (by decide) (.slice none 0 0) 0 [] rfl (World.ownsRow_nil _ _ _ _) _ _ 1 1 (msgCells [rm]) rfl (HRD.out _ (by simp only [World.size_setCell])) (msgCells_one [rm]) (by unfold maxLen; omega) (by omega) (by simp only [World.size_alloc, World.size_setCell]; omega) ?_); intro v' w3 hown hgrow hat; (have o3 := (Only.refl NoF _).grown hgrow (fun k hk => by cases hk)); obtain ⟨E3, e3, rfl, _, _, _⟩ := Reads.of_own hown; (have n3 := ((((N2.out.put2 (.slice E1 ra.ms.length e1) (.slice E2 ra.cs.length e2)).far3 (by omega) (.int .i64 rm.a) (.int .i64 rm.b) (strV rm.t)).alloc _).keep o3)); obtain ⟨c30, c31, c32, c33⟩ := n3.two; (have N3 := Lib.hid n3); (have O3 := Lib.hid o3); clear n3; (have HOWN := Lib.hid hown); clear o3 hown hgrow hat)
   refine bodyPost_ret (results_row_tmp2 rfl _ _ (w.heap.size + 1 + 1) 49 #[.slice E1 ra.ms.length e1, .slice E2 ra.cs.length e2] (0, 0) _ rfl ((((((N2.out.put2 _ _).far3 (by omega) _ _ _).alloc _).keep O3.out).put2 _ _)) Tryz.underlying49 rfl (by kernel_rfl)) rfl ?_
   rw [HE.out, if_pos trivial]
   refine ⟨_, _, rfl, (((((((OA.out.put2 (by omega) (Nat.le_refl _) _ _).put3 (by omega) _ _ _).keep ((Only.refl NoF _).alloc _)).keep O3.out).put2 (by omega) (Nat.le_refl _) _ _).low (by omega))), hok, ?_, (fun m h => by rw [List.mem_singleton.1 h]; exact HMO.out), ((((((O2.out.put2 (by omega) _ _).put3 (by omega) _ _ _).alloc _).trans' O3.out).put2 (by omega) _ _))⟩
   have z := HOWN.out
   rw [Nat.zero_add, List.nil_append] at z
   exact own_base (ownsRow_setCell_other (ownsRow_setCell_other z (a := ⟨w.heap.size + 1 + 1, 0, none⟩) (fun hk => by have h := z.lt _ hk; simp only at h; omega) _) (a := ⟨w.heap.size + 1 + 1, 1, none⟩) (fun hk => by have h := z.lt _ hk; simp only at h; omega) _) (by omega)
 · have hb : (rn == 0) = false := by simpa using hrn
   have HE2 := Lib.hid hrn
   clear hrn
   go_wp2
   refine bodyPost_ret (results_row_tmp2 rfl _ _ (w.heap.size + 1 + 1) 49 #[.slice E1 ra.ms.length e1, .slice E2 ra.cs.length e2] (0, 0) _ rfl (((N2.out.put2 _ _).far3 (by omega) _ _ _).put2 _ _) Tryz.underlying49 rfl (by kernel_rfl)) rfl ?_
   rw [HE.out, if_neg HE2.out]
   exact ⟨_, .slice none 0 0, rfl, ((((OA.out.put2 (by omega) (Nat.le_refl _) _ _).put3 (by omega) _ _ _).put2 (by omega) (Nat.le_refl _) _ _).low (by omega)), hok, World.ownsRow_nil _ _ _ _, (fun m h => by cases h), ((O2.out.put2 (by omega) _ _).put3 (by omega) _ _ _).put2 (by omega) _ _⟩
theorem ndo_c {a : Air} (h : AirV w v a) (hf : Few_ a) {e : Ev} (he : EvOk e) : Calls Tryz.prog 49 #[v, evV e] w (DoTo w (Lnk.do_ a e)) := by
 by_cases h1 : e.k = 1
 · exact ndo_1 h hf he h1
 by_cases h2 : e.k < 0 ∨ 5 < e.k
 · exact ndo_d h hf he h2
 · exact ndo_5 h hf he (by omega)
end
end
section
open Go.RowKit
def errCells (l : List Int) : List Value := l.map fun n => .int .i64 n
theorem Errs.own {w : World} {v : Value} {base : Nat} {l : List Int} (h : w.ownsRow base 72 1 v l.length (errCells l)) (hm : ∀ n ∈ l, I64 n) : Errs w v l := by
 obtain ⟨A, c, e, h1, h2, h3⟩ := Reads.of_own h
 refine ⟨A, c, errCells l, e, h1, h2, h3.sup fun _ _ => trivial, fun i x hx => ⟨?_, hm x (List.mem_of_getElem? hx)⟩⟩
 obtain ⟨hi, rfl⟩ := List.getElem?_eq_some_iff.1 hx
 rw [errCells, Nat.mul_one, List.drop_eq_getElem_cons (by simpa using hi)]
 simp
/-- what the rounds keep -/
def RunSt (w : World) (r : Air × List Msg × List Int) (vc ve : Value) (wr : World) : Prop :=
 ∃ u1 u2, Blk wr (w.heap.size + 1) 49 #[u1, u2] ∧ OwnAir (w.heap.size + 1 + 1) wr (.agg #[u1, u2]) r.1 ∧ wr.ownsRow (w.heap.size + 1 + 1) 90 3 vc r.2.1.length (msgCells r.2.1) ∧
  wr.ownsRow (w.heap.size + 1 + 1) 72 1 ve r.2.2.length (errCells r.2.2) ∧ (∀ j, vc.ownBlock = some j → u1.ownBlock ≠ some j) ∧ Only NoF w wr ∧ AirOk r.1 ∧ (∀ m ∈ r.2.1, MsgOk m) ∧ ∀ n ∈ r.2.2, I64 n
theorem grown_only {w w' : World} {v : Value} (h : w.grownBy w' v.ownBlock) : Only (fun k => v.ownBlock = some k) w w' := (Only.refl _ w).grown h fun k hk => .inl hk
theorem run_mid {w W0 W1 W2 : World} {o : Obj} {vc vc' ve ve' y1 y2 : Value} {nx : Air} {ms news : List Msg} {es : List Int} {n : Int}
 (hB : Blk W0 (w.heap.size + 1) 49 #[y1, y2]) (hA : OwnAir (w.heap.size + 1 + 1) W0 (.agg #[y1, y2]) nx)
 (hc : W0.ownsRow (w.heap.size + 1 + 1) 90 3 vc ms.length (msgCells ms)) (he : W0.ownsRow (w.heap.size + 1 + 1) 72 1 ve es.length (errCells es))
 (hne : ∀ j, vc.ownBlock = some j → y1.ownBlock ≠ some j) (hO : Only NoF w W0) (hk : AirOk nx) (hm : ∀ m ∈ ms ++ news, MsgOk m) (hn : ∀ n ∈ es, I64 n) (hn' : I64 n)
 (g1 : W0.grownBy W1 vc.ownBlock) (c1 : W1.ownsRow (w.heap.size + 1 + 1) 90 3 vc' (ms.length + news.length) (msgCells ms ++ msgCells news)) (a1 : vc'.ownBlock = vc.ownBlock ∨ vc'.ownBlock = some W0.heap.size)
 (g2 : (W1.alloc o).grownBy W2 ve.ownBlock) (c2 : W2.ownsRow (w.heap.size + 1 + 1) 72 1 ve' (es.length + 1) (errCells es ++ [.int .i64 n])) :
 RunSt w (nx, ms ++ news, es ++ [n]) vc' ve' W2 := by
 obtain ⟨x1, x2, hx, r1, r2⟩ := hA
 obtain ⟨rfl, rfl⟩ : y1 = x1 ∧ y2 = x2 := by
  injection hx with hx
  have := congrArg Array.toList hx
  simpa using this
 have o1 := grown_only g1
 have o2 := grown_only g2
 have hc_lt := fun k hk => hc.lt k hk
 have he_lt := fun k hk => he.lt k hk
 have e1 := own_only he o1 fun k h h' => own_ne he hc (by decide) k h (h'.symm ▸ rfl)
 have m1 := own_only r1 o1 fun k h h' => hne k h' h
 have p1 := own_only r2 o1 fun k h h' => own_ne r2 hc (by decide) k h (h'.symm ▸ rfl)
 have B1 := hB.only o1 fun h => by have := hc_lt _ h; omega
 have al := (Only.refl NoF W1).alloc o
 have e2 := own_keep e1 al
 have m2 := own_only (own_keep m1 al) o2 fun k h h' => own_ne (own_keep m1 al) e2 (by decide) k h (h'.symm ▸ rfl)
 have p2 := own_only (own_keep p1 al) o2 fun k h h' => own_ne (own_keep p1 al) e2 (by decide) k h (h'.symm ▸ rfl)
 have C2 := own_only (own_keep c1 al) o2 fun k h h' => own_ne (own_keep c1 al) e2 (by decide) k h (h'.symm ▸ rfl)
 have B2 := (B1.keep al).only o2 fun h => by have := he_lt _ h; omega
 refine ⟨_, _, B2, ⟨_, _, rfl, m2, p2⟩, ?_, ?_, fun j hj h => ?_, ?_, hk, hm, ?_⟩
 · simpa only [List.length_append, msgCells_append] using C2
 · simpa only [List.length_append, List.length_singleton, errCells, List.map_append, List.map_cons, List.map_nil] using c2
 · rcases a1 with a1 | a1
   · exact hne j (a1 ▸ hj) h
   · rw [a1] at hj
     have := (r1.lt j h).2
     injection hj with hj
     omega
 · have q1 : Only NoF w W1 := hO.trans o1 fun k hk => .inr (by have := hc_lt k hk; omega)
   exact (q1.alloc o).trans o2 fun k hk => .inr (by have := he_lt k hk; omega)
 · intro x hx
   rcases List.mem_append.1 hx with hx | hx
   · exact hn x hx
   · rw [List.mem_singleton.1 hx]; exact hn'
theorem runs_step (a : Air) (l : List Ev) (k : Nat) (h : k < l.length) :
 Lnk.runs a (l.take (k + 1)) = (Lnk.next (Lnk.runs a (l.take k)).1 l[k], (Lnk.runs a (l.take k)).2.1 ++ (Lnk.do_ (Lnk.runs a (l.take k)).1 l[k]).2.1, (Lnk.runs a (l.take k)).2.2 ++ [(Lnk.do_ (Lnk.runs a (l.take k)).1 l[k]).2.2]) := by
 rw [List.take_succ_eq_append_getElem h, Lnk.runs_append]
 simp [Lnk.runs]
theorem agg2_inj {a b c d : Value} (h : Value.agg #[a, b] = .agg #[c, d]) : a = c ∧ b = d := by
 injection h with h
 have := congrArg Array.toList h
 simpa using this
/-- what holds ahead of the round's two appends -/
structure Mid (w : World) (y1 y2 vc ve : Value) (nx : Air) (ms : List Msg) (es : List Int) (E9 : Option Addr) (dm : List Msg) (W0 : World) : Prop where
 blk : Blk W0 (w.heap.size + 1) 49 #[y1, y2]
 air : OwnAir (w.heap.size + 1 + 1) W0 (.agg #[y1, y2]) nx
 rc : W0.ownsRow (w.heap.size + 1 + 1) 90 3 vc ms.length (msgCells ms)
 re : W0.ownsRow (w.heap.size + 1 + 1) 72 1 ve es.length (errCells es)
 ne : ∀ j, vc.ownBlock = some j → y1.ownBlock ≠ some j
 only : Only NoF w W0
 rm : Reads W0 AllB 3 E9 dm.length (msgCells dm)
 size : w.heap.size + 1 + 1 ≤ W0.heap.size
section
variable {w wr w5 : World} {o o' : Obj} {y1 y2 z1 z2 vc ve : Value} {b da : Air} {ms dm : List Msg} {es : List Int} {E9 : Option Addr} {e9 : Nat}
theorem mid_no (hB : Blk wr (w.heap.size + 1) 49 #[y1, y2]) (hA : OwnAir (w.heap.size + 1 + 1) wr (.agg #[y1, y2]) b)
 (hc : wr.ownsRow (w.heap.size + 1 + 1) 90 3 vc ms.length (msgCells ms)) (he : wr.ownsRow (w.heap.size + 1 + 1) 72 1 ve es.length (errCells es))
 (hne : ∀ j, vc.ownBlock = some j → y1.ownBlock ≠ some j) (hO : Only NoF w wr) (o5 : Only NoF (wr.alloc o) w5) (hm : w5.ownsRow (wr.alloc o).heap.size 90 3 (.slice E9 dm.length e9) dm.length (msgCells dm)) :
 Mid w y1 y2 vc ve b ms es E9 dm (w5.alloc o') := by
 have p : Only NoF wr (w5.alloc o') := (((Only.refl NoF wr).alloc o).trans' o5).alloc o'
 obtain ⟨_, _, hx, _, _, q⟩ := Reads.of_own (own_keep hm ((Only.refl NoF w5).alloc o'))
 cases hx
 exact ⟨hB.keep p, hA.keep p, own_keep hc p, own_keep he p, hne, hO.trans' p, q.sup fun _ _ => trivial, Nat.le_trans hB.lt p.size⟩
theorem mid_ok (hB : Blk wr (w.heap.size + 1) 49 #[y1, y2])
 (hc : wr.ownsRow (w.heap.size + 1 + 1) 90 3 vc ms.length (msgCells ms)) (he : wr.ownsRow (w.heap.size + 1 + 1) 72 1 ve es.length (errCells es))
 (hO : Only NoF w wr) (o5 : Only NoF (wr.alloc o) w5) (hA : OwnAir (wr.alloc o).heap.size w5 (.agg #[z1, z2]) da) (hm : w5.ownsRow (wr.alloc o).heap.size 90 3 (.slice E9 dm.length e9) dm.length (msgCells dm)) :
 Mid w z1 z2 vc ve da ms es E9 dm (((w5.alloc o').setCell ⟨w.heap.size + 1, 0, none⟩ z1).setCell ⟨w.heap.size + 1, 1, none⟩ z2) := by
 have p : Only NoF wr (w5.alloc o') := (((Only.refl NoF wr).alloc o).trans' o5).alloc o'
 have hlt := hB.lt
 have s : Only (oneF (w.heap.size + 1)) (w5.alloc o') (((w5.alloc o').setCell ⟨w.heap.size + 1, 0, none⟩ z1).setCell ⟨w.heap.size + 1, 1, none⟩ z2) :=
  ((Only.refl (oneF (w.heap.size + 1)) _).setCell (.inl (by show _ = _; rfl)) _).setCell (.inl (by show _ = _; rfl)) _
 have hsz : (wr.alloc o).heap.size = wr.heap.size + 1 := by simp
 rw [hsz] at hA hm
 have al := (Only.refl NoF w5).alloc o'
 have hm2 := own_only (own_keep hm al) s fun j hj h => by
  have := (hm.lt j hj).1
  unfold oneF at h
  omega
 obtain ⟨_, _, hx, _, _, q⟩ := Reads.of_own hm2
 cases hx
 refine ⟨(hB.keep p).put2 _ _, (((hA.keep al).put2 (by omega) (Nat.le_refl _) _ _).low (by omega)), ?_, ?_, ?_, (hO.trans' p).put2 (by omega) _ _, q.sup fun _ _ => trivial, by simp only [World.size_setCell]; exact Nat.le_trans hlt p.size⟩
 · exact own_only (own_keep hc p) s fun j hj h => by
    have := (hc.lt j hj).1
    unfold oneF at h
    omega
 · exact own_only (own_keep he p) s fun j hj h => by
    have := (he.lt j hj).1
    unfold oneF at h
    omega
 · intro j hj h
   obtain ⟨_, _, hx, r1, _⟩ := hA
   obtain ⟨rfl, rfl⟩ := agg2_inj hx
   have := (hc.lt j hj).2
   have := (r1.lt j h).1
   omega
end
end
section
open Go.RowKit
def LRunTo (w : World) (r : Air × List Msg × List Int) (e : Ending) (w' : World) : Prop :=
 ∃ v m es, e = .returned (.tuple #[v, m, es]) ∧ (OwnAir w.heap.size w' v r.1 ∧ AirOk r.1) ∧ SliceOf (fun k => w.heap.size ≤ k) 3 RMsg w' m r.2.1 ∧ SliceOf (fun k => w.heap.size ≤ k) 1 RInt w' es r.2.2 ∧ Only NoF w w'
theorem Msgs.ownB {w : World} {v : Value} {base b : Nat} {l : List Msg} (h : w.ownsRow base 90 3 v l.length (msgCells l)) (hb : b ≤ base) (hm : ∀ m ∈ l, MsgOk m) : SliceOf (fun k => b ≤ k) 3 RMsg w v l :=
 (SliceOf.of_own (R := RMsg) h fun i x hx => by
  obtain ⟨hi, rfl⟩ := List.getElem?_eq_some_iff.1 hx
  exact ⟨msgCells_get l i hi, hm _ (List.getElem_mem hi)⟩).sup fun k hk => Nat.le_trans hb (h.lt k hk).1
theorem Errs.ownB {w : World} {v : Value} {base b : Nat} {l : List Int} (h : w.ownsRow base 72 1 v l.length (errCells l)) (hb : b ≤ base) (hm : ∀ n ∈ l, I64 n) : SliceOf (fun k => b ≤ k) 1 RInt w v l :=
 (SliceOf.of_own (R := RInt) h fun i x hx => by
  obtain ⟨hi, rfl⟩ := List.getElem?_eq_some_iff.1 hx
  refine ⟨?_, hm _ (List.getElem_mem hi)⟩
  rw [errCells, Nat.mul_one, List.drop_eq_getElem_cons (by simpa using hi)]
  simp).sup fun k hk => Nat.le_trans hb (h.lt k hk).1
theorem right_few {a : Air} (h : Lnk.right a = true) (hc : a.cs.length ≤ 1000000) : Few_ a := ⟨by have := (Lnk.right_iff.1 h).2.2.1; omega, hc⟩
theorem insC_len (c : Pr) (l : List Pr) : (Lnk.insC c l).length = l.length + 1 := by
 have := Lnk.posC_le c l
 simp only [Lnk.insC, List.length_append, List.length_cons, List.length_take, List.length_drop]
 omega
theorem next_cuts (a : Air) (e : Ev) : (Lnk.next a e).cs.length ≤ a.cs.length + 1 := by
 unfold Lnk.next
 split
 · unfold Lnk.do_
   split
   · unfold Lnk.send Lnk.with_; split <;> (try split) <;> simp [Lnk.none_]
   split
   · unfold Lnk.deliver; split <;> (try split) <;> simp [Lnk.none_, Lnk.without]
   split
   · unfold Lnk.lose; split <;> simp [Lnk.none_, Lnk.without]
   split
   · unfold Lnk.double Lnk.with_; split <;> (try split) <;> simp [Lnk.none_]
   split
   · unfold Lnk.cut; split <;> (try split) <;> simp [Lnk.none_, insC_len]
   split
   · unfold Lnk.heal; split <;> (try split) <;> simp [Lnk.none_]
     exact Nat.le_trans (List.length_filter_le _ _) (by omega)
   · simp [Lnk.none_]
 · omega
theorem runs_cuts (a : Air) (l : List Ev) : (Lnk.runs a l).1.cs.length ≤ a.cs.length + l.length := by
 induction l generalizing a with
 | nil => simp [Lnk.runs]
 | cons e l ih =>
  have := ih (Lnk.next a e)
  have := next_cuts a e
  simp only [Lnk.runs, List.length_cons]
  omega
theorem do_one (a : Air) (e : Ev) : (Lnk.do_ a e).2.1.length ≤ 1 := by
 unfold Lnk.do_
 repeat' split
 all_goals simp
theorem runs_came (a : Air) (l : List Ev) : (Lnk.runs a l).2.1.length ≤ l.length := by
 induction l generalizing a with
 | nil => simp [Lnk.runs]
 | cons e l ih =>
  have := ih (Lnk.next a e)
  have := do_one a e
  simp only [Lnk.runs, List.length_append, List.length_cons]
  omega
theorem do_I64 (a : Air) (e : Ev) : I64 (Lnk.do_ a e).2.2 := by
 have h : ∀ n : Int, 0 ≤ n → n ≤ 10 → I64 n := fun n h1 h2 => by unfold I64; omega
 have hb : ∀ i, 0 ≤ Lnk.bad a i ∧ Lnk.bad a i ≤ 10 := fun i => by unfold Lnk.bad; split <;> (try split) <;> omega
 have key : 0 ≤ (Lnk.do_ a e).2.2 ∧ (Lnk.do_ a e).2.2 ≤ 10 := by
  have := hb e.a
  unfold Lnk.do_ Lnk.send Lnk.deliver Lnk.lose Lnk.double Lnk.cut Lnk.heal Lnk.with_
  repeat' split
  all_goals simp only
  all_goals omega
 exact h _ key.1 key.2
section
variable {w : World} {v1 v2 : Value}
theorem nRun_c {a : Air} {l : List Ev} (h1 : AirV w v1 a) (h2 : Evs w v2 l) (hc : a.cs.length + l.length ≤ 1000000) : Calls Tryz.prog 26 #[v1, v2] w (LRunTo w (Lnk.run a l)) := by
 have H := Lib.hid h1
 obtain ⟨u1, u2, rfl, hm0, hc0⟩ := h1
 clear hm0 hc0
 obtain ⟨A, cap, rfl, m1, m2, hf⟩ := Evs.form h2
 have HF := Lib.hid hf
 unfold maxLen at m2
 have HCH := Lib.hid (fun (W : World) (o : Only NoF ((w.alloc (.cells #[u1, u2] 49)).alloc (.cells #[.slice none 0 0, .slice none 0 0] 49)) W) => (((Only.refl NoF w).alloc _).alloc _).trans' o)
 have HN := Lib.hid (fun (W : World) o => (Blk.new2 w (.cells #[u1, u2] 49) 49 #[.slice none 0 0, .slice none 0 0]).keep (w' := W) o)
 clear h2 hf
 cases hr : Lnk.right a with
 | false =>
  have HE := Lib.hid (show Lnk.run a l = (Lnk.none_, [], []) by unfold Lnk.run; rw [if_pos hr])
  have HR := Lib.hid (nRightA_of H.out hr)
  clear hr
  go_enter Tryz.func26, Tryz.ntmps26
  go_wp2_with fail
  refine (HR.out _ (HCH.out _ (Only.refl _ _))).mono ?_
  rintro e w2 ⟨rfl, o1⟩
  obtain ⟨x0, x1, x2, x3⟩ := (HN.out _ o1).two
  have O1 := Lib.hid o1
  clear o1
  go_wp2
  refine bodyPost_ret (results_row_tmp2 rfl _ _ (w.heap.size + 1) 49 #[.slice none 0 0, .slice none 0 0] (0, 0) _ rfl ((HN.out _ O1.out).put2 _ _) Tryz.underlying49 rfl (by kernel_rfl)) rfl ?_
  rw [HE.out]
  exact ⟨_, _, _, rfl, ⟨ownNone _ _, okNone⟩, SliceOf.nil_ _ _ _, SliceOf.nil_ _ _ _, (HCH.out _ O1.out).put2 (by omega) _ _⟩
 | true =>
  have HE := Lib.hid (show Lnk.run a l = Lnk.runs a l by unfold Lnk.run; rw [if_neg (by simp [hr])])
  have HR := Lib.hid (nRightA_of H.out hr)
  have HRT := Lib.hid hr
  have HCL := Lib.hid (fun (W : World) (hW : Only NoF w W) => nclone_c (AirV.keep H.out hW) (right_few hr (by omega)))
  clear hr
  go_enter Tryz.func26, Tryz.ntmps26
  go_wp2_with fail
  refine (HR.out _ (HCH.out _ (Only.refl _ _))).mono ?_
  rintro e w2 ⟨rfl, o1⟩
  obtain ⟨c1, f1, s1⟩ := o1.rules
  have O1 := Lib.hid o1
  clear o1
  go_wp2_with fail
  refine (HCL.out _ (HCH.out _ O1.out)).mono ?_
  rintro e w3 ⟨vv, rfl, ⟨y1, y2, rfl, r1, r2⟩, o3⟩
  obtain ⟨E1, e1, rfl, _, _, _⟩ := Reads.of_own r1
  obtain ⟨E2, e2, rfl, _, _, _⟩ := Reads.of_own r2
  have hs2 : w.heap.size + 1 + 1 ≤ w2.heap.size := by simpa using s1
  have OA := Lib.hid (OwnAir.low (base' := w.heap.size + 1 + 1) (show OwnAir _ w3 (.agg #[.slice E1 a.ms.length e1, .slice E2 a.cs.length e2]) a from ⟨_, _, rfl, r1, r2⟩) hs2)
  have N3 := Lib.hid (HN.out _ (O1.out.trans' o3))
  obtain ⟨x0, x1, x2, x3⟩ := N3.out.two
  have O3 := Lib.hid (HCH.out _ (O1.out.trans' o3))
  clear o3 r1 r2 c1 f1 s1
  have HST := Lib.hid (show RunSt w (a, [], []) (.slice none 0 0) (.slice none 0 0) ((w3.setCell ⟨w.heap.size + 1, 0, none⟩ (.slice E1 a.ms.length e1)).setCell ⟨w.heap.size + 1, 1, none⟩ (.slice E2 a.cs.length e2)) from
   ⟨_, _, N3.out.put2 _ _, OA.out.put2 (by omega) (Nat.le_refl _) _ _, World.ownsRow_nil _ _ _ _, World.ownsRow_nil _ _ _ _, (fun j h => by cases h), O3.out.put2 (by omega) _ _, AirV.oks H.out, (fun m h => by cases h), (fun n h => by cases h)⟩)
  obtain ⟨ti, hti, hz0, hz1, hz2⟩ := info_parts info_Msg
  obtain ⟨tj, htj, jz0, jz1, jz2⟩ := info_parts info_Errno
  go_wp2_with fail
  go_loopw [5, 6, 20] (fun vc ve i wr => ∃ k : Nat, k ≤ l.length ∧ i = .int .i64 (k : Int) ∧ RunSt w (Lnk.runs a (l.take k)) vc ve wr) (fun _ _ i _ => l.length - (intOf i).toNat)
  case atStart => exact ⟨0, by omega, by go_num, HST.out⟩
  case round =>
   obtain ⟨k, hk, rfl, hst⟩ := hrel
   have hcu := runs_cuts a (l.take k)
   have hca := runs_came a (l.take k)
   have hle := Lnk.runs_len (l.take k) a
   have hrt := Lnk.right_runs (l := l.take k) HRT.out
   simp only [List.length_take, Nat.min_eq_left hk] at hcu hca hle
   have HST2 := Lib.hid (fun h => runs_step a l k h)
   have HSE := Lib.hid (fun h : k = l.length => (show Lnk.runs a (l.take k) = Lnk.runs a l by rw [h, List.take_length]))
   generalize Lnk.runs a (l.take k) = r at hst hcu hca hle hrt HST2 HSE
   obtain ⟨b, ms, es⟩ := r
   obtain ⟨y1, y2, hB, ⟨_, _, he, r1, r2⟩, rc, re, hne, hO, hok, hmk, hnk⟩ := hst
   obtain ⟨rfl, rfl⟩ := agg2_inj he
   simp only at hcu hca hle hrt r1 r2 rc re hok hmk hnk
   obtain ⟨E3, e3, rfl, _, _, _⟩ := Reads.of_own r1
   obtain ⟨E4, e4, rfl, _, _, _⟩ := Reads.of_own r2
   obtain ⟨E5, e5, rfl, _, _, _⟩ := Reads.of_own rc
   obtain ⟨E6, e6, rfl, _, _, _⟩ := Reads.of_own re
   obtain ⟨x0, x1, x2, x3⟩ := hB.two
   have hbl := hB.lt
   have HA := Lib.hid (show OwnAir (w.heap.size + 1 + 1) wr (.agg #[.slice E3 b.ms.length e3, .slice E4 b.cs.length e4]) b from ⟨_, _, rfl, r1, r2⟩)
   have HB := Lib.hid hB
   have HRC := Lib.hid rc
   have HRE := Lib.hid re
   have HNE := Lib.hid hne
   have HO := Lib.hid hO
   have HOK := Lib.hid hok
   have HMK := Lib.hid hmk
   have HNK := Lib.hid hnk
   have HLE := Lib.hid hle
   have HF_ := Lib.hid (right_few hrt (by omega : b.cs.length ≤ 1000000))
   clear hB r1 r2 rc re hne hO hok hmk hnk hle hrt
   by_cases hlt : k < l.length
   · obtain ⟨bb, off, rfl, i0, i1, i2, i3, hcell⟩ := HF.out k hlt
     obtain ⟨g0, g1, g2, g3⟩ := hcell wr HO.out
     have HC := Lib.hid (fun (W : World) (o : Only NoF wr W) => ndo_c (w := W) (HA.out.keep o |>.air HOK.out.1 HOK.out.2) HF_.out (e := l[k]) ⟨i0, i1, i2, i3⟩)
     have HNX := Lib.hid (show Lnk.next b l[k] = if (Lnk.do_ b l[k]).2.2 = 0 then (Lnk.do_ b l[k]).1 else b from rfl)
     have HS3 := Lib.hid (HST2.out hlt)
     have hd1 := do_one b l[k]
     have HDI := Lib.hid (do_I64 b l[k])
     simp only at HS3
     generalize Lnk.do_ b l[k] = d at HC HNX HS3 hd1 HDI
     obtain ⟨da, dm, dn⟩ := d
     simp only at HNX HS3 hd1 HDI
     clear hcell i0 i1 i2 i3
     go_wp2_with fail
     refine (HC.out _ ((Only.refl NoF wr).alloc _)).mono ?_
     rintro e w5 ⟨v', m', rfl, ⟨z1, z2, rfl, q1, q2⟩, hok5, q3, hmk5, o5⟩
     dsimp only at q1 q2 q3 hok5 hmk5 ⊢
     obtain ⟨E7, e7, rfl, _, _, _⟩ := Reads.of_own q1
     obtain ⟨E8, e8, rfl, _, _, _⟩ := Reads.of_own q2
     obtain ⟨E9, e9, rfl, _, _, _⟩ := Reads.of_own q3
     have hB5 := HB.out.keep (((Only.refl NoF wr).alloc _).trans' o5)
     obtain ⟨x50, x51, x52, x53⟩ := (hB5.alloc (.cells #[.slice E7 da.ms.length e7, .slice E8 da.cs.length e8] 49)).two
     have HMN := Lib.hid (fun o' => mid_no (o' := o') HB.out HA.out HRC.out HRE.out HNE.out HO.out o5 q3)
     have HMY := Lib.hid (fun o' => mid_ok (o' := o') HB.out HRC.out HRE.out HO.out o5 ⟨_, _, rfl, q1, q2⟩ q3)
     have HM5 := Lib.hid (show ∀ m ∈ ms ++ dm, MsgOk m from fun m h => (List.mem_append.1 h).elim (HMK.out m) (hmk5 m))
     have hel : es.length ≤ 1000000 := by have := HLE.out; omega
     clear o5 q1 q2 q3 hmk5 hB5
     by_cases hz : dn = 0
     · have hzb : (dn == 0) = true := by simpa using hz
       have HX := Lib.hid (show Lnk.next b l[k] = da by rw [HNX.out, if_pos hz])
       clear hz
       have hmid := Lib.hid (HMY.out (.cells #[.slice E7 da.ms.length e7, .slice E8 da.cs.length e8] 49))
       clear HMY HMN
       go_wp2_with (first
        | (at_builtin; (refine wpList_append_any _ rfl (.tmp 34) (.tmp 35) _ rfl (w.heap.size + 1 + 1) 90 ti _ 3 32 Tryz.underlying46 hti hz0 hz1 hz2 rfl (by decide) (.slice E5 ms.length e5) ms.length (msgCells ms) rfl hmid.out.rc _ _ dm.length e9 (msgCells dm) rfl hmid.out.rm (msgCells_one dm) (by unfold maxLen; omega) (by omega) hmid.out.size ?_); intro vc' w7 c7 g7 a7; (have C7 := Lib.hid c7); (have G7 := Lib.hid g7); (have A7 := Lib.hid a7); (have RE7 := Lib.hid (own_only hmid.out.re (grown_only (v := .slice E5 ms.length e5) g7) fun k h h' => own_ne hmid.out.re hmid.out.rc (by decide) k h (h'.symm ▸ rfl))); (have HS7 := Lib.hid (Nat.le_trans hmid.out.size g7.size)); clear c7 g7 a7)
        | (at_builtin; (refine wpList_append_any _ rfl (.tmp 37) (.tmp 39) _ rfl (w.heap.size + 1 + 1) 72 tj _ 1 8 Tryz.underlying50 htj jz0 jz1 jz2 rfl (by decide) (.slice E6 es.length e6) es.length (errCells es) rfl (own_keep RE7.out ((Only.refl NoF w7).alloc _)) _ _ 1 1 [.int .i64 dn] rfl (reads_made w7 _ 1 1 [.int .i64 dn] rfl) (by simp [Value.oneCell']) (by unfold maxLen; omega) (by omega) (by simp only [World.size_alloc]; exact Nat.le_succ_of_le HS7.out) ?_); intro ve' w8 c8 g8 a8; (have C8 := Lib.hid c8); (have G8 := Lib.hid g8); clear c8 g8 a8))
       go_roundw
       case rel => exact ⟨k + 1, by omega, by go_num, by rw [HS3.out, HX.out]; exact run_mid hmid.out.blk hmid.out.air hmid.out.rc hmid.out.re hmid.out.ne hmid.out.only hok5 HM5.out HNK.out HDI.out G7.out C7.out A7.out G8.out C8.out⟩
       case measure => simp [intOf]; omega
     · have hzb : (dn == 0) = false := by simpa using hz
       have HX := Lib.hid (show Lnk.next b l[k] = b by rw [HNX.out, if_neg hz])
       clear hz
       have hmid := Lib.hid (HMN.out (.cells #[.slice E7 da.ms.length e7, .slice E8 da.cs.length e8] 49))
       clear HMY HMN
       go_wp2_with (first
        | (at_builtin; (refine wpList_append_any _ rfl (.tmp 34) (.tmp 35) _ rfl (w.heap.size + 1 + 1) 90 ti _ 3 32 Tryz.underlying46 hti hz0 hz1 hz2 rfl (by decide) (.slice E5 ms.length e5) ms.length (msgCells ms) rfl hmid.out.rc _ _ dm.length e9 (msgCells dm) rfl hmid.out.rm (msgCells_one dm) (by unfold maxLen; omega) (by omega) hmid.out.size ?_); intro vc' w7 c7 g7 a7; (have C7 := Lib.hid c7); (have G7 := Lib.hid g7); (have A7 := Lib.hid a7); (have RE7 := Lib.hid (own_only hmid.out.re (grown_only (v := .slice E5 ms.length e5) g7) fun k h h' => own_ne hmid.out.re hmid.out.rc (by decide) k h (h'.symm ▸ rfl))); (have HS7 := Lib.hid (Nat.le_trans hmid.out.size g7.size)); clear c7 g7 a7)
        | (at_builtin; (refine wpList_append_any _ rfl (.tmp 37) (.tmp 39) _ rfl (w.heap.size + 1 + 1) 72 tj _ 1 8 Tryz.underlying50 htj jz0 jz1 jz2 rfl (by decide) (.slice E6 es.length e6) es.length (errCells es) rfl (own_keep RE7.out ((Only.refl NoF w7).alloc _)) _ _ 1 1 [.int .i64 dn] rfl (reads_made w7 _ 1 1 [.int .i64 dn] rfl) (by simp [Value.oneCell']) (by unfold maxLen; omega) (by omega) (by simp only [World.size_alloc]; exact Nat.le_succ_of_le HS7.out) ?_); intro ve' w8 c8 g8 a8; (have C8 := Lib.hid c8); (have G8 := Lib.hid g8); clear c8 g8 a8))
       go_roundw
       case rel => exact ⟨k + 1, by omega, by go_num, by rw [HS3.out, HX.out]; exact run_mid hmid.out.blk hmid.out.air hmid.out.rc hmid.out.re hmid.out.ne hmid.out.only HOK.out HM5.out HNK.out HDI.out G7.out C7.out A7.out G8.out C8.out⟩
       case measure => simp [intOf]; omega
   · have HE2 := Lib.hid (HSE.out (by omega))
     go_wp2
     refine bodyPost_ret (results_row_tmp2 rfl _ _ (w.heap.size + 1) 49 #[.slice E3 b.ms.length e3, .slice E4 b.cs.length e4] (0, 0) _ rfl (HB.out.put2 _ _) Tryz.underlying49 rfl (by kernel_rfl)) rfl ?_
     rw [HE.out, ← HE2.out]
     have p : Only (oneF (w.heap.size + 1)) wr ((wr.setCell ⟨w.heap.size + 1, 0, none⟩ (.slice E3 b.ms.length e3)).setCell ⟨w.heap.size + 1, 1, none⟩ (.slice E4 b.cs.length e4)) := ((Only.refl (oneF (w.heap.size + 1)) _).setCell (.inl (by show _ = _; rfl)) _).setCell (.inl (by show _ = _; rfl)) _
     exact ⟨_, _, _, rfl, ⟨(HA.out.put2 (by omega) (Nat.le_refl _) _ _).low (by omega), HOK.out⟩, Msgs.ownB (own_only HRC.out p (fun j hj h => by have := (HRC.out.lt j hj).1; unfold oneF at h; omega)) (by omega) HMK.out, Errs.ownB (own_only HRE.out p (fun j hj h => by have := (HRE.out.lt j hj).1; unfold oneF at h; omega)) (by omega) HNK.out, HO.out.put2 (by omega) _ _⟩
end
end
end Go.Proofs.YtdcbjedkddgfkaaGreatDoor
