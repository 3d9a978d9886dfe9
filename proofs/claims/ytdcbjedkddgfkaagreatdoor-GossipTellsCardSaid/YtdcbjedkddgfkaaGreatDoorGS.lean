/-
  Gossip's reference: Missing, walked. Condition: at most 400,000 notes.
  Gossip's reference: ready, walked. No condition.
  Gossip's reference: Order, walked. Condition: at most 400,000 notes.
  Gossip's reference: Heads, walked. Condition: at most 400,000 notes.
  Gossip: GossipTells, walked: it returns true. Condition: the listed variables.
-/
import Derived.Test.YtdcbjedkddgfkaaGreatDoorGR
import Derived.Test.YtdcbjedkddgfkaaGreatDoorGpM
namespace Go.Proofs.YtdcbjedkddgfkaaGreatDoor
set_option maxHeartbeats 4000000
set_option maxRecDepth 20000
set_option linter.unusedVariables false
set_option linter.unusedSimpArgs false
set_option linter.unusedSectionVars false
section
open Go.RowKit
section
variable {P : List NM} {O : List RM} {i k q j : Nat} {m : NM} {r : RM} {z a : Int} {w wq wr : Bool}
theorem nm_yes (hm : P[i]? = some m) (h : (decide (m.h = (k : Int)) && decide (m.n = z)) = true) (hz : z = nextN (P.take i) k) : z + 1 = nextN (P.take (i + 1)) k := by
 rw [Bool.and_eq_true, decide_eq_true_eq, decide_eq_true_eq] at h
 unfold nextN at *
 rw [take_succ_get hm, List.foldl_append, ← hz]
 show z + 1 = nextS k z m
 unfold nextS
 simp [h.1, h.2]
theorem nm_no (hm : P[i]? = some m) (h : (decide (m.h = (k : Int)) && decide (m.n = z)) = false) (hz : z = nextN (P.take i) k) : z = nextN (P.take (i + 1)) k := by
 have h1 : ¬ (m.h = (k : Int) ∧ m.n = z) := by
  intro e; rw [decide_eq_true e.1, decide_eq_true e.2] at h; cases h
 unfold nextN at *
 rw [take_succ_get hm, List.foldl_append, ← hz]
 show z = nextS k z m
 unfold nextS
 rw [if_neg h1]
theorem wn_start (hz : 0 ≤ z) : false = decide (z < needN (P.take 0) k) := by
 rw [List.take_zero]
 exact (decide_eq_false (by show ¬ z < 0; omega)).symm
theorem wh_t (h : wq = true) (hw : wq = decide (z < a)) : true = decide (z < (List.take 0 m.l).foldl (wantR k) (wantH k a m)) := by
 rw [h] at hw
 have h1 : z < a := of_decide_eq_true hw.symm
 refine (decide_eq_true ?_).symm
 rw [List.take_zero]
 show z < wantH k a m
 unfold wantH
 split <;> omega
theorem wh_f (h : wq = false) (hw : wq = decide (z < a)) : (decide (m.h = (k : Int)) && decide (z < m.n)) = decide (z < (List.take 0 m.l).foldl (wantR k) (wantH k a m)) := by
 rw [h] at hw
 have h1 : ¬ z < a := of_decide_eq_false hw.symm
 rw [List.take_zero]
 show _ = decide (z < wantH k a m)
 unfold wantH
 by_cases e : m.h = (k : Int)
 · rw [if_pos e, decide_eq_true e, Bool.true_and]
   exact decide_eq_decide.2 (by omega)
 · rw [if_neg e, decide_eq_false e, Bool.false_and, decide_eq_false h1]
theorem wr_t (hr : m.l[j]? = some r) (h : wr = true) (hw : wr = decide (z < (List.take j m.l).foldl (wantR k) a)) : true = decide (z < (List.take (j + 1) m.l).foldl (wantR k) a) := by
 rw [h] at hw
 have h1 := of_decide_eq_true hw.symm
 rw [take_succ_get hr, List.foldl_append]
 refine (decide_eq_true ?_).symm
 generalize (List.take j m.l).foldl (wantR k) a = x at h1 ⊢
 show z < wantR k x r
 unfold wantR
 split <;> omega
theorem wr_f (hr : m.l[j]? = some r) (h : wr = false) (hw : wr = decide (z < (List.take j m.l).foldl (wantR k) a)) : (decide (r.h = (k : Int)) && decide (z ≤ r.n)) = decide (z < (List.take (j + 1) m.l).foldl (wantR k) a) := by
 rw [h] at hw
 have h1 := of_decide_eq_false hw.symm
 rw [take_succ_get hr, List.foldl_append]
 generalize (List.take j m.l).foldl (wantR k) a = x at h1 ⊢
 show _ = decide (z < wantR k x r)
 unfold wantR
 by_cases e : r.h = (k : Int)
 · rw [if_pos e, decide_eq_true e, Bool.true_and]
   exact decide_eq_decide.2 (by omega)
 · rw [if_neg e, decide_eq_false e, Bool.false_and, decide_eq_false h1]
theorem wn_end (hm : P[q]? = some m) (hj : m.l.length ≤ j) (hw : wr = decide (z < (List.take j m.l).foldl (wantR k) (wantH k (needN (P.take q) k) m))) : wr = decide (z < needN (P.take (q + 1)) k) := by
 rw [List.take_of_length_le hj] at hw
 unfold needN at *
 rw [take_succ_get hm, List.foldl_append]
 exact hw
theorem mi_yes (hz : z = nextN P k) (hw : true = decide (z < needN P k)) (hO : O = ((List.range k).filter fun h => decide (nextN P h < needN P h)).map fun (h : Nat) => (⟨(h : Int), nextN P h⟩ : RM)) :
 O ++ [(⟨(k : Int), z⟩ : RM)] = ((List.range (k + 1)).filter fun h => decide (nextN P h < needN P h)).map fun (h : Nat) => (⟨(h : Int), nextN P h⟩ : RM) := by
 rw [List.range_succ, List.filter_append, List.map_append, ← hO]
 rw [hz] at hw
 simp [← hw, hz]
theorem mi_no (hz : z = nextN P k) (hw : false = decide (z < needN P k)) (hO : O = ((List.range k).filter fun h => decide (nextN P h < needN P h)).map fun (h : Nat) => (⟨(h : Int), nextN P h⟩ : RM)) :
 O = ((List.range (k + 1)).filter fun h => decide (nextN P h < needN P h)).map fun (h : Nat) => (⟨(h : Int), nextN P h⟩ : RM) := by
 rw [List.range_succ, List.filter_append, List.map_append, ← hO]
 rw [hz] at hw
 simp [← hw]
end
theorem rMissing_v_ {w : World} {l : List NM} {A : Option Addr} {c : Nat} (t : NtV w (.slice A l.length c) l) (hl : l.length ≤ 400000) : Calls Tryz.prog 23 [.slice A l.length c].toArray w (ROut (missN (joinN l)) w) := by
 refine calls_start Tryz.func23 rfl rfl ?_
 intro az Z
 rw [Tryz.ntmps23] at Z
 refine wp_seq_k fun _ k1 => wp_region_lit ?_
 refine L (r_as Z rfl) Z rfl ?_; clear Z az; intro az Z
 refine k1 _ _ (wp_seq_k fun _ k2 => wp_region_lit ?_)
 obtain ⟨A3, w4, hw, hA, r5, o6⟩ := made0 (w := w) (e := 59) (size := 2)
 refine L (r_bs0 Tryz.underlying35 Tryz.sizeOf59) Z rfl ?_
 rw [← hw, ← hA]; clear Z az; intro az Z
 clear hw hA
 refine L (r_as Z rfl) Z rfl ?_; clear Z az; intro az Z
 refine k2 _ _ (wp_seq_k fun _ k7 => wp_region_lit ?_)
 refine L (r_mv Z rfl) Z rfl ?_; clear Z az; intro az Z
 have hC16 := rJoin1_v (NtV.k t o6) (by omega)
 refine LC Z rfl rfl Tryz.call11 (hC16) rfl ?_
 rintro e w17 ⟨A8, c9, P10, rfl, hP11, hS12, hN13, hM14, o15⟩; refine ⟨_, rfl, ?_⟩
 clear Z az; intro az Z
 have nt18 : NtV w17 (.slice A8 (P10.length) c9) P10 := ⟨SliceOf.pl hS12, hN13⟩
 have hrt := joined_right hP11
 have hPl : P10.length ≤ 400000 := ns_len_le hP11 (Nat.le_trans (joinN_le _) hl)
 refine L (r_as Z rfl) Z rfl ?_; clear Z az; intro az Z
 refine k7 _ _ (wp_seq_k fun _ k19 => ?_)
 refine wp_seq_k fun _ k20 => wp_region_lit ?_
 refine L (r_as Z rfl) Z rfl ?_; clear Z az; intro az Z
 refine k20 _ _ ?_
 refine wp_block ?_
 have hS21 := SliceOf.lt2 (K := KN0) hS12
 have hq22 := ownF_lt r5
 refine wp_loop_m (fun mz az W => ∃ k : Nat, ∃ O : List RM, ∃ Ao : Option Addr, ∃ co : Nat, mz = 400 - k ∧ Fr 112 [(4, .slice A8 (P10.length) c9), (5, .int .i64 ((k : Int))), (3, .slice Ao (O.length) co)] az ∧ (k ≤ 400) ∧ (O = ((List.range k).filter fun h => decide (nextN P10 h < needN P10 h)).map fun (h : Nat) => (⟨(h : Int), nextN P10 h⟩ : RM)) ∧ (∀ r ∈ O, KRef.ok r) ∧ (∀ k, ownF (.slice Ao O.length co) k → ¬ (geB w4.heap.size k ∧ k < w17.heap.size)) ∧ Only NoF w W ∧ W.ownsRow w.heap.size 59 2 (.slice Ao O.length co) O.length (List.flatMap KRef.cells O) ∧ SliceOf (fun k => geB w4.heap.size k ∧ k < w17.heap.size) 5 KN0.R W (.slice A8 (P10.length) c9) P10 ∧ w17.heap.size ≤ W.heap.size) ?_ ?_
 ·
  have O23 : Only NoF w w17 := (Only.trans' o6 o15)
  have r24 := (ow_k r5 o15)
  exact ⟨_, 0, [], A3, 0, rfl, Z.cut ⟨rfl, rfl, rfl, trivial⟩, (by omega), rfl, (fun r hr => by cases hr), (fun k h hk => absurd (hq22 k h) (Nat.not_lt.2 hk.1)), O23, r24, hS21, (Nat.le_refl _)⟩
 clear Z az
 rintro mz az w25 ⟨k, O, Ao, co, hm27, Z, hk, hO, hOk, hsep, o26, rO, hNs, hge8⟩
 have hOl : O.length ≤ k := by rw [hO, List.length_map]; exact Nat.le_trans (List.length_filter_le _ _) (by rw [List.length_range]; omega)
 have hOk0 : ∀ r ∈ O, KRef.ok r := hOk
 refine wp_seq_k fun _ k28 => ?_
 refine wp_seq_k fun _ k29 => wp_region_lit ?_
 refine L (r_mv Z rfl) Z rfl ?_; clear Z az; intro az Z
 refine L (r_ltI Z rfl rfl) Z rfl ?_; clear Z az; intro az Z
 refine k29 _ _ ?_
 refine br Z rfl (fun hc30 => ?_) (fun hc30 => ?_)
 ·
  have p31 := of_decide_eq_true hc30
  refine wp_skip ?_
  refine k28 _ _ (wp_seq_k fun _ k32 => ?_)
  refine wp_block ?_
  refine wp_seq_k fun _ k33 => wp_region_lit ?_
  refine L (r_as Z rfl) Z rfl ?_; clear Z az; intro az Z
  refine k33 _ _ (wp_seq_k fun _ k34 => ?_)
  refine wp_seq_k fun _ k35 => wp_region_lit ?_
  refine L (r_as Z rfl) Z rfl ?_; clear Z az; intro az Z
  refine k35 _ _ ?_
  refine wp_block ?_
  refine wp_loop_m (fun mz az W => ∃ i : Nat, ∃ z : Int, mz = P10.length - i ∧ Fr 112 [(3, .slice Ao (O.length) co), (4, .slice A8 (P10.length) c9), (5, .int .i64 ((k : Int))), (7, .int .i64 ((i : Int))), (6, .int .i64 (z))] az ∧ (i ≤ P10.length) ∧ (z = nextN (List.take i P10) k) ∧ (0 ≤ z ∧ z ≤ (i : Int)) ∧ Only NoF w25 W) ?_ ?_
  ·
   exact ⟨_, 0, 0, rfl, Z.cut ⟨rfl, rfl, rfl, rfl, rfl, trivial⟩, Nat.zero_le _, rfl, (by omega), (Only.refl NoF w25)⟩
  clear Z az
  rintro mz az w36 ⟨i, z, hm38, Z, hi, hz, hzb, o37⟩
  refine wp_seq_k fun _ k39 => ?_
  refine wp_seq_k fun _ k40 => wp_region_lit ?_
  refine L (r_mv Z rfl) Z rfl ?_; clear Z az; intro az Z
  refine L (r_mv Z rfl) Z rfl ?_; clear Z az; intro az Z
  refine L (r_lenL Tryz.underlying22 Z rfl) Z rfl ?_; clear Z az; intro az Z
  refine L (r_ltI Z rfl rfl) Z rfl ?_; clear Z az; intro az Z
  refine k40 _ _ ?_
  refine br Z rfl (fun hc41 => ?_) (fun hc41 => ?_)
  ·
   have p42 := of_decide_eq_true hc41
   refine wp_skip ?_
   refine k39 _ _ (wp_seq_k fun _ k43 => ?_)
   refine wp_block ?_
   refine wp_seq_k fun _ k44 => wp_region_lit ?_
   refine L (r_mv Z rfl) Z rfl ?_; clear Z az; intro az Z
   refine L (r_mv Z rfl) Z rfl ?_; clear Z az; intro az Z
   have hk45 : i < (P10).length := by omega
   have h51 := (SliceOf.kp hNs o37 (fun _ _ h => h) (fun _ _ _ _ h => h))
   obtain ⟨m46, hm47, ok48, hA49⟩ := Row.el KN0 h51 hk45
   have E50 : ∀ W, Only NoF w36 W → CA W (eA A8 5 (i)) [.int .i64 (m46.h), .int .i64 (m46.n), .int .i64 (m46.d), .slice m46.A (m46.l.length) m46.c, strV (m46.s)] := Row.ce KN0 h51 hm47 rfl
   have hb52 := right_bnd (hrt _ (List.mem_of_getElem? hm47))
   have O54 : Only NoF w w36 := (Only.trans' o26 o37)
   have h55 := (SliceOf.kp ((fun y hy => t.2 y (hM14 y hy)) _ (List.mem_of_getElem? hm47)).2.2.2.1 O54 (fun _ _ h => h) (fun _ _ _ _ h => h))
   have hl53 := SliceOf.len h55; unfold maxLen at hl53
   refine L (r_ia (k := i) (size := 5) Tryz.underlying22 Tryz.sizeOf43 Z rfl rfl rfl hk45 hA49) Z rfl ?_; clear Z az; intro az Z
   refine L (r_fa (m' := 0) Tryz.underlying43 rfl Tryz.sizeOf3 rfl Z rfl rfl) Z rfl ?_; clear Z az; intro az Z
   refine L (r_ld Tryz.isAgg3 Z rfl ((E50 _ (Only.refl NoF w36)) 0 _ rfl)) Z rfl ?_; clear Z az; intro az Z
   refine L (r_mv Z rfl) Z rfl ?_; clear Z az; intro az Z
   refine L (r_eqI Z rfl rfl) Z rfl ?_; clear Z az; intro az Z
   refine L (r_mv Z rfl) Z rfl ?_; clear Z az; intro az Z
   refine LG Z rfl rfl gd_t (fun hb => r_mv Z rfl) rfl ?_; clear Z az; intro az Z
   refine LG Z rfl rfl gd_t (fun hb => r_mv Z rfl) rfl ?_; clear Z az; intro az Z
   refine LG Z rfl rfl gd_t (fun hb => r_ia (k := i) (size := 5) Tryz.underlying22 Tryz.sizeOf43 Z (evg hb rfl) (evg hb rfl) rfl hk45 hA49) rfl ?_; clear Z az; intro az Z
   refine LG Z rfl rfl gd_t (fun hb => r_fa (m' := 1) Tryz.underlying43 rfl Tryz.sizeOf3 rfl Z (evg hb rfl) rfl) rfl ?_; clear Z az; intro az Z
   refine LG Z rfl rfl gd_t (fun hb => r_ld Tryz.isAgg3 Z (evg hb rfl) ((E50 _ (Only.refl NoF w36)) 1 _ rfl)) rfl ?_; clear Z az; intro az Z
   refine LG Z rfl rfl gd_t (fun hb => r_mv Z rfl) rfl ?_; clear Z az; intro az Z
   refine LG Z rfl rfl gd_t (fun hb => r_eqI Z (evg hb rfl) (evg hb rfl)) rfl ?_; clear Z az; intro az Z
   refine L (r_and Z rfl rfl rfl) Z rfl ?_; clear Z az; intro az Z
   refine k44 _ _ ?_
   refine br Z rfl (fun hc56 => ?_) (fun hc56 => ?_)
   ·
    have p57 := of_decide_eq_true (and_t hc56).1
    have p58 := of_decide_eq_true (and_t hc56).2
    refine wp_region_lit ?_
    refine L (r_mv Z rfl) Z rfl ?_; clear Z az; intro az Z
    have i59 : I64 ((z + 1)) := by unfold I64; omega
    refine L (r_addI (r := (z + 1)) Z rfl rfl rfl i59) Z rfl ?_; clear Z az; intro az Z
    refine L (r_as Z rfl) Z rfl ?_; clear Z az; intro az Z
    refine k43 _ _ ?_
    refine wp_region_lit ?_
    refine L (r_mv Z rfl) Z rfl ?_; clear Z az; intro az Z
    have i60 : I64 (((i : Int) + 1)) := by unfold I64; omega
    refine L (r_addI (r := ((i : Int) + 1)) Z rfl rfl rfl i60) Z rfl ?_; clear Z az; intro az Z
    refine L (r_as Z rfl) Z rfl ?_; clear Z az; intro az Z
    exact ⟨_, (by omega), i + 1, _, rfl, Z.cut ⟨rfl, rfl, rfl, rfl, rfl, trivial⟩, (by omega), (nm_yes hm47 hc56 hz), (by omega), o37⟩
   ·
    have d61 := hc56
    refine wp_skip ?_
    refine k43 _ _ ?_
    refine wp_region_lit ?_
    refine L (r_mv Z rfl) Z rfl ?_; clear Z az; intro az Z
    have i62 : I64 (((i : Int) + 1)) := by unfold I64; omega
    refine L (r_addI (r := ((i : Int) + 1)) Z rfl rfl rfl i62) Z rfl ?_; clear Z az; intro az Z
    refine L (r_as Z rfl) Z rfl ?_; clear Z az; intro az Z
    exact ⟨_, (by omega), i + 1, _, rfl, Z.cut ⟨rfl, rfl, rfl, rfl, rfl, trivial⟩, (by omega), (nm_no hm47 hc56 hz), (by omega), o37⟩
  ·
   have p63 := of_decide_eq_false hc41
   refine wp_exit ?_
   refine th_exit ?_
   refine th_exit ?_
   refine ib_hit ?_
   refine k34 _ _ (wp_seq_k fun _ k64 => wp_region_lit ?_)
   refine L (r_as Z rfl) Z rfl ?_; clear Z az; intro az Z
   refine k64 _ _ (wp_seq_k fun _ k65 => ?_)
   refine wp_seq_k fun _ k66 => wp_region_lit ?_
   refine L (r_as Z rfl) Z rfl ?_; clear Z az; intro az Z
   refine k66 _ _ ?_
   refine wp_block ?_
   rw [List.take_of_length_le (by omega)] at hz
   refine wp_loop_m (fun mz az W => ∃ q : Nat, ∃ wq : Bool, mz = P10.length - q ∧ Fr 112 [(3, .slice Ao (O.length) co), (4, .slice A8 (P10.length) c9), (5, .int .i64 ((k : Int))), (6, .int .i64 (z)), (9, .int .i64 ((q : Int))), (8, .bool (wq))] az ∧ (q ≤ P10.length) ∧ (wq = decide (z < needN (List.take q P10) k)) ∧ Only NoF w36 W) ?_ ?_
   ·
    exact ⟨_, 0, false, rfl, Z.cut ⟨rfl, rfl, rfl, rfl, rfl, rfl, trivial⟩, Nat.zero_le _, (wn_start hzb.1), (Only.refl NoF w36)⟩
   clear Z az
   rintro mz az w67 ⟨q, wq, hm69, Z, hq, hwq, o68⟩
   refine wp_seq_k fun _ k70 => ?_
   refine wp_seq_k fun _ k71 => wp_region_lit ?_
   refine L (r_mv Z rfl) Z rfl ?_; clear Z az; intro az Z
   refine L (r_mv Z rfl) Z rfl ?_; clear Z az; intro az Z
   refine L (r_lenL Tryz.underlying22 Z rfl) Z rfl ?_; clear Z az; intro az Z
   refine L (r_ltI Z rfl rfl) Z rfl ?_; clear Z az; intro az Z
   refine k71 _ _ ?_
   refine br Z rfl (fun hc72 => ?_) (fun hc72 => ?_)
   ·
    have p73 := of_decide_eq_true hc72
    refine wp_skip ?_
    refine k70 _ _ (wp_seq_k fun _ k74 => ?_)
    refine wp_block ?_
    refine wp_seq_k fun _ k75 => ?_
    rcases Bool.eq_false_or_eq_true wq with hwb | hwb
    · skip
      refine wp_region_lit ?_
      refine L (r_mv Z rfl) Z rfl ?_; clear Z az; intro az Z
      refine L ((r_cast (b := true) (r_mv Z rfl) hwb)) Z rfl ?_; clear Z az; intro az Z
      refine LF Z rfl rfl rfl rfl ?_; clear Z az; intro az Z
      refine LF Z rfl rfl rfl rfl ?_; clear Z az; intro az Z
      refine LF Z rfl rfl rfl rfl ?_; clear Z az; intro az Z
      refine LF Z rfl rfl rfl rfl ?_; clear Z az; intro az Z
      refine LF Z rfl rfl rfl rfl ?_; clear Z az; intro az Z
      refine LF Z rfl rfl rfl rfl ?_; clear Z az; intro az Z
      refine LF Z rfl rfl rfl rfl ?_; clear Z az; intro az Z
      refine LF Z rfl rfl rfl rfl ?_; clear Z az; intro az Z
      refine LF Z rfl rfl rfl rfl ?_; clear Z az; intro az Z
      refine LF Z rfl rfl rfl rfl ?_; clear Z az; intro az Z
      refine LF Z rfl rfl rfl rfl ?_; clear Z az; intro az Z
      refine LF Z rfl rfl rfl rfl ?_; clear Z az; intro az Z
      refine LF Z rfl rfl rfl rfl ?_; clear Z az; intro az Z
      refine LF Z rfl rfl rfl rfl ?_; clear Z az; intro az Z
      refine LF Z rfl rfl rfl rfl ?_; clear Z az; intro az Z
      refine LF Z rfl rfl rfl rfl ?_; clear Z az; intro az Z
      refine L (r_pick Z rfl rfl rfl) Z rfl ?_; clear Z az; intro az Z
      refine L (r_as Z rfl) Z rfl ?_; clear Z az; intro az Z
      refine k75 _ _ (wp_seq_k fun _ k76 => wp_region_lit ?_)
      refine L (r_as Z rfl) Z rfl ?_; clear Z az; intro az Z
      refine k76 _ _ ?_
      refine wp_block ?_
      have hk77 : q < (P10).length := by omega
      have O83 : Only NoF w25 w67 := (Only.trans' o37 o68)
      have h84 := (SliceOf.kp hNs O83 (fun _ _ h => h) (fun _ _ _ _ h => h))
      obtain ⟨m78, hm79, ok80, hA81⟩ := Row.el KN0 h84 hk77
      have E82 : ∀ W, Only NoF w67 W → CA W (eA A8 5 (q)) [.int .i64 (m78.h), .int .i64 (m78.n), .int .i64 (m78.d), .slice m78.A (m78.l.length) m78.c, strV (m78.s)] := Row.ce KN0 h84 hm79 rfl
      have hb85 := right_bnd (hrt _ (List.mem_of_getElem? hm79))
      have O87 : Only NoF w w67 := (Only.trans' (Only.trans' o26 o37) o68)
      have h88 := (SliceOf.kp ((fun y hy => t.2 y (hM14 y hy)) _ (List.mem_of_getElem? hm79)).2.2.2.1 O87 (fun _ _ h => h) (fun _ _ _ _ h => h))
      have hl86 := SliceOf.len h88; unfold maxLen at hl86
      refine wp_loop_m (fun mz az W => ∃ j : Nat, ∃ wr : Bool, mz = m78.l.length - j ∧ Fr 112 [(3, .slice Ao (O.length) co), (4, .slice A8 (P10.length) c9), (5, .int .i64 ((k : Int))), (6, .int .i64 (z)), (9, .int .i64 ((q : Int))), (10, .int .i64 ((j : Int))), (8, .bool (wr))] az ∧ (j ≤ m78.l.length) ∧ (wr = decide (z < (List.take j m78.l).foldl (wantR k) (wantH k (needN (List.take q P10) k) m78))) ∧ Only NoF w67 W) ?_ ?_
      ·
       exact ⟨_, 0, true, rfl, Z.cut ⟨rfl, rfl, rfl, rfl, rfl, rfl, rfl, trivial⟩, Nat.zero_le _, (wh_t hwb hwq), (Only.refl NoF w67)⟩
      clear Z az
      rintro mz az w89 ⟨j, wr, hm91, Z, hj, hwr, o90⟩
      refine wp_seq_k fun _ k92 => ?_
      refine wp_seq_k fun _ k93 => wp_region_lit ?_
      refine L (r_mv Z rfl) Z rfl ?_; clear Z az; intro az Z
      refine L (r_mv Z rfl) Z rfl ?_; clear Z az; intro az Z
      refine L (r_mv Z rfl) Z rfl ?_; clear Z az; intro az Z
      refine L (r_ia (k := q) (size := 5) Tryz.underlying22 Tryz.sizeOf43 Z rfl rfl rfl hk77 hA81) Z rfl ?_; clear Z az; intro az Z
      refine L (r_fa (m' := 3) Tryz.underlying43 rfl Tryz.sizeOf35 rfl Z rfl rfl) Z rfl ?_; clear Z az; intro az Z
      refine L (r_ld Tryz.isAgg35 Z rfl ((E82 _ o90) 3 _ rfl)) Z rfl ?_; clear Z az; intro az Z
      refine L (r_lenL Tryz.underlying35 Z rfl) Z rfl ?_; clear Z az; intro az Z
      refine L (r_ltI Z rfl rfl) Z rfl ?_; clear Z az; intro az Z
      refine k93 _ _ ?_
      refine br Z rfl (fun hc94 => ?_) (fun hc94 => ?_)
      ·
       have p95 := of_decide_eq_true hc94
       refine wp_skip ?_
       refine k92 _ _ (wp_seq_k fun _ k96 => ?_)
       refine wp_block ?_
       rcases Bool.eq_false_or_eq_true wr with hwb | hwb
       · skip
         refine wp_region_lit ?_
         refine L (r_mv Z rfl) Z rfl ?_; clear Z az; intro az Z
         refine L ((r_cast (b := true) (r_mv Z rfl) hwb)) Z rfl ?_; clear Z az; intro az Z
         refine LF Z rfl rfl rfl rfl ?_; clear Z az; intro az Z
         refine LF Z rfl rfl rfl rfl ?_; clear Z az; intro az Z
         refine LF Z rfl rfl rfl rfl ?_; clear Z az; intro az Z
         refine LF Z rfl rfl rfl rfl ?_; clear Z az; intro az Z
         refine LF Z rfl rfl rfl rfl ?_; clear Z az; intro az Z
         refine LF Z rfl rfl rfl rfl ?_; clear Z az; intro az Z
         refine LF Z rfl rfl rfl rfl ?_; clear Z az; intro az Z
         refine LF Z rfl rfl rfl rfl ?_; clear Z az; intro az Z
         refine LF Z rfl rfl rfl rfl ?_; clear Z az; intro az Z
         refine LF Z rfl rfl rfl rfl ?_; clear Z az; intro az Z
         refine LF Z rfl rfl rfl rfl ?_; clear Z az; intro az Z
         refine LF Z rfl rfl rfl rfl ?_; clear Z az; intro az Z
         refine LF Z rfl rfl rfl rfl ?_; clear Z az; intro az Z
         refine LF Z rfl rfl rfl rfl ?_; clear Z az; intro az Z
         refine LF Z rfl rfl rfl rfl ?_; clear Z az; intro az Z
         refine LF Z rfl rfl rfl rfl ?_; clear Z az; intro az Z
         refine LF Z rfl rfl rfl rfl ?_; clear Z az; intro az Z
         refine LF Z rfl rfl rfl rfl ?_; clear Z az; intro az Z
         refine LF Z rfl rfl rfl rfl ?_; clear Z az; intro az Z
         refine LF Z rfl rfl rfl rfl ?_; clear Z az; intro az Z
         refine LF Z rfl rfl rfl rfl ?_; clear Z az; intro az Z
         refine LF Z rfl rfl rfl rfl ?_; clear Z az; intro az Z
         refine LF Z rfl rfl rfl rfl ?_; clear Z az; intro az Z
         refine LF Z rfl rfl rfl rfl ?_; clear Z az; intro az Z
         refine L (r_pick Z rfl rfl rfl) Z rfl ?_; clear Z az; intro az Z
         refine L (r_as Z rfl) Z rfl ?_; clear Z az; intro az Z
         refine k96 _ _ ?_
         refine wp_region_lit ?_
         refine L (r_mv Z rfl) Z rfl ?_; clear Z az; intro az Z
         have i97 : I64 (((j : Int) + 1)) := by unfold I64; omega
         refine L (r_addI (r := ((j : Int) + 1)) Z rfl rfl rfl i97) Z rfl ?_; clear Z az; intro az Z
         refine L (r_as Z rfl) Z rfl ?_; clear Z az; intro az Z
         have hk98 : j < (m78.l).length := by omega
         have O104 : Only NoF w w89 := (Only.trans' O87 o90)
         have h105 := (SliceOf.kp ((fun y hy => t.2 y (hM14 y hy)) _ (List.mem_of_getElem? hm79)).2.2.2.1 O104 (fun _ _ h => h) (fun _ _ _ _ h => h))
         obtain ⟨m99, hm100, ok101, hA102⟩ := Row.el KRef h105 hk98
         have E103 : ∀ W, Only NoF w89 W → CA W (eA m78.A 2 (j)) [.int .i64 (m99.h), .int .i64 (m99.n)] := Row.ce KRef h105 hm100 rfl
         exact ⟨_, (by omega), j + 1, true, rfl, Z.cut ⟨rfl, rfl, rfl, rfl, rfl, rfl, rfl, trivial⟩, (by omega), (wr_t hm100 hwb hwr), o90⟩
       · skip
         refine wp_region_lit ?_
         refine L (r_mv Z rfl) Z rfl ?_; clear Z az; intro az Z
         refine L ((r_cast (b := false) (r_mv Z rfl) hwb)) Z rfl ?_; clear Z az; intro az Z
         refine LT Z rfl rfl (r_mv Z rfl) rfl ?_; clear Z az; intro az Z
         refine LT Z rfl rfl (r_mv Z rfl) rfl ?_; clear Z az; intro az Z
         refine LT Z rfl rfl (r_ia (k := q) (size := 5) Tryz.underlying22 Tryz.sizeOf43 Z rfl rfl rfl hk77 hA81) rfl ?_; clear Z az; intro az Z
         refine LT Z rfl rfl (r_fa (m' := 3) Tryz.underlying43 rfl Tryz.sizeOf35 rfl Z rfl rfl) rfl ?_; clear Z az; intro az Z
         refine LT Z rfl rfl (r_ld Tryz.isAgg35 Z rfl ((E82 _ o90) 3 _ rfl)) rfl ?_; clear Z az; intro az Z
         refine LT Z rfl rfl (r_mv Z rfl) rfl ?_; clear Z az; intro az Z
         have hk106 : j < (m78.l).length := by omega
         have O112 : Only NoF w w89 := (Only.trans' O87 o90)
         have h113 := (SliceOf.kp ((fun y hy => t.2 y (hM14 y hy)) _ (List.mem_of_getElem? hm79)).2.2.2.1 O112 (fun _ _ h => h) (fun _ _ _ _ h => h))
         obtain ⟨m107, hm108, ok109, hA110⟩ := Row.el KRef h113 hk106
         have E111 : ∀ W, Only NoF w89 W → CA W (eA m78.A 2 (j)) [.int .i64 (m107.h), .int .i64 (m107.n)] := Row.ce KRef h113 hm108 rfl
         refine LT Z rfl rfl (r_ia (k := j) (size := 2) Tryz.underlying35 Tryz.sizeOf59 Z rfl rfl rfl hk106 hA110) rfl ?_; clear Z az; intro az Z
         refine LT Z rfl rfl (r_fa (m' := 0) Tryz.underlying59 rfl Tryz.sizeOf3 rfl Z rfl rfl) rfl ?_; clear Z az; intro az Z
         refine LT Z rfl rfl (r_ld Tryz.isAgg3 Z rfl ((E111 _ (Only.refl NoF w89)) 0 _ rfl)) rfl ?_; clear Z az; intro az Z
         refine LT Z rfl rfl (r_mv Z rfl) rfl ?_; clear Z az; intro az Z
         refine LT Z rfl rfl (r_eqI Z rfl rfl) rfl ?_; clear Z az; intro az Z
         refine LT Z rfl rfl (r_mv Z rfl) rfl ?_; clear Z az; intro az Z
         refine LG Z rfl rfl gd_t (fun hb => r_mv Z rfl) rfl ?_; clear Z az; intro az Z
         refine LG Z rfl rfl gd_t (fun hb => r_mv Z rfl) rfl ?_; clear Z az; intro az Z
         refine LG Z rfl rfl gd_t (fun hb => r_ia (k := q) (size := 5) Tryz.underlying22 Tryz.sizeOf43 Z (evg hb rfl) (evg hb rfl) rfl hk77 hA81) rfl ?_; clear Z az; intro az Z
         refine LG Z rfl rfl gd_t (fun hb => r_fa (m' := 3) Tryz.underlying43 rfl Tryz.sizeOf35 rfl Z (evg hb rfl) rfl) rfl ?_; clear Z az; intro az Z
         refine LG Z rfl rfl gd_t (fun hb => r_ld Tryz.isAgg35 Z (evg hb rfl) ((E82 _ o90) 3 _ rfl)) rfl ?_; clear Z az; intro az Z
         refine LG Z rfl rfl gd_t (fun hb => r_mv Z rfl) rfl ?_; clear Z az; intro az Z
         refine LG Z rfl rfl gd_t (fun hb => r_ia (k := j) (size := 2) Tryz.underlying35 Tryz.sizeOf59 Z (evg hb rfl) (evg hb rfl) rfl hk106 hA110) rfl ?_; clear Z az; intro az Z
         refine LG Z rfl rfl gd_t (fun hb => r_fa (m' := 1) Tryz.underlying59 rfl Tryz.sizeOf3 rfl Z (evg hb rfl) rfl) rfl ?_; clear Z az; intro az Z
         refine LG Z rfl rfl gd_t (fun hb => r_ld Tryz.isAgg3 Z (evg hb rfl) ((E111 _ (Only.refl NoF w89)) 1 _ rfl)) rfl ?_; clear Z az; intro az Z
         refine LG Z rfl rfl gd_t (fun hb => r_mv Z rfl) rfl ?_; clear Z az; intro az Z
         refine LG Z rfl rfl gd_t (fun hb => r_geI Z (evg hb rfl) (evg hb rfl)) rfl ?_; clear Z az; intro az Z
         refine LT Z rfl rfl (r_and Z rfl rfl rfl) rfl ?_; clear Z az; intro az Z
         refine L (r_pick Z rfl rfl rfl) Z rfl ?_; clear Z az; intro az Z
         refine L (r_as Z rfl) Z rfl ?_; clear Z az; intro az Z
         refine k96 _ _ ?_
         refine wp_region_lit ?_
         refine L (r_mv Z rfl) Z rfl ?_; clear Z az; intro az Z
         have i114 : I64 (((j : Int) + 1)) := by unfold I64; omega
         refine L (r_addI (r := ((j : Int) + 1)) Z rfl rfl rfl i114) Z rfl ?_; clear Z az; intro az Z
         refine L (r_as Z rfl) Z rfl ?_; clear Z az; intro az Z
         exact ⟨_, (by omega), j + 1, ((decide (m107.h = (k : Int))) && (decide (z ≤ m107.n))), rfl, Z.cut ⟨rfl, rfl, rfl, rfl, rfl, rfl, rfl, trivial⟩, (by omega), (wr_f hm108 hwb hwr), o90⟩
      ·
       have p115 := of_decide_eq_false hc94
       refine wp_exit ?_
       refine th_exit ?_
       refine th_exit ?_
       refine ib_hit ?_
       refine k74 _ _ ?_
       refine wp_region_lit ?_
       refine L (r_mv Z rfl) Z rfl ?_; clear Z az; intro az Z
       have i116 : I64 (((q : Int) + 1)) := by unfold I64; omega
       refine L (r_addI (r := ((q : Int) + 1)) Z rfl rfl rfl i116) Z rfl ?_; clear Z az; intro az Z
       refine L (r_as Z rfl) Z rfl ?_; clear Z az; intro az Z
       have O117 : Only NoF w36 w89 := (Only.trans' o68 o90)
       exact ⟨_, (by omega), q + 1, wr, rfl, Z.cut ⟨rfl, rfl, rfl, rfl, rfl, rfl, trivial⟩, (by omega), (wn_end hm79 (by omega) hwr), O117⟩
    · skip
      refine wp_region_lit ?_
      refine L (r_mv Z rfl) Z rfl ?_; clear Z az; intro az Z
      refine L ((r_cast (b := false) (r_mv Z rfl) hwb)) Z rfl ?_; clear Z az; intro az Z
      refine LT Z rfl rfl (r_mv Z rfl) rfl ?_; clear Z az; intro az Z
      refine LT Z rfl rfl (r_mv Z rfl) rfl ?_; clear Z az; intro az Z
      have hk118 : q < (P10).length := by omega
      have O124 : Only NoF w25 w67 := (Only.trans' o37 o68)
      have h125 := (SliceOf.kp hNs O124 (fun _ _ h => h) (fun _ _ _ _ h => h))
      obtain ⟨m119, hm120, ok121, hA122⟩ := Row.el KN0 h125 hk118
      have E123 : ∀ W, Only NoF w67 W → CA W (eA A8 5 (q)) [.int .i64 (m119.h), .int .i64 (m119.n), .int .i64 (m119.d), .slice m119.A (m119.l.length) m119.c, strV (m119.s)] := Row.ce KN0 h125 hm120 rfl
      have hb126 := right_bnd (hrt _ (List.mem_of_getElem? hm120))
      have O128 : Only NoF w w67 := (Only.trans' (Only.trans' o26 o37) o68)
      have h129 := (SliceOf.kp ((fun y hy => t.2 y (hM14 y hy)) _ (List.mem_of_getElem? hm120)).2.2.2.1 O128 (fun _ _ h => h) (fun _ _ _ _ h => h))
      have hl127 := SliceOf.len h129; unfold maxLen at hl127
      refine LT Z rfl rfl (r_ia (k := q) (size := 5) Tryz.underlying22 Tryz.sizeOf43 Z rfl rfl rfl hk118 hA122) rfl ?_; clear Z az; intro az Z
      refine LT Z rfl rfl (r_fa (m' := 0) Tryz.underlying43 rfl Tryz.sizeOf3 rfl Z rfl rfl) rfl ?_; clear Z az; intro az Z
      refine LT Z rfl rfl (r_ld Tryz.isAgg3 Z rfl ((E123 _ (Only.refl NoF w67)) 0 _ rfl)) rfl ?_; clear Z az; intro az Z
      refine LT Z rfl rfl (r_mv Z rfl) rfl ?_; clear Z az; intro az Z
      refine LT Z rfl rfl (r_eqI Z rfl rfl) rfl ?_; clear Z az; intro az Z
      refine LT Z rfl rfl (r_mv Z rfl) rfl ?_; clear Z az; intro az Z
      refine LG Z rfl rfl gd_t (fun hb => r_mv Z rfl) rfl ?_; clear Z az; intro az Z
      refine LG Z rfl rfl gd_t (fun hb => r_mv Z rfl) rfl ?_; clear Z az; intro az Z
      refine LG Z rfl rfl gd_t (fun hb => r_ia (k := q) (size := 5) Tryz.underlying22 Tryz.sizeOf43 Z (evg hb rfl) (evg hb rfl) rfl hk118 hA122) rfl ?_; clear Z az; intro az Z
      refine LG Z rfl rfl gd_t (fun hb => r_fa (m' := 1) Tryz.underlying43 rfl Tryz.sizeOf3 rfl Z (evg hb rfl) rfl) rfl ?_; clear Z az; intro az Z
      refine LG Z rfl rfl gd_t (fun hb => r_ld Tryz.isAgg3 Z (evg hb rfl) ((E123 _ (Only.refl NoF w67)) 1 _ rfl)) rfl ?_; clear Z az; intro az Z
      refine LG Z rfl rfl gd_t (fun hb => r_mv Z rfl) rfl ?_; clear Z az; intro az Z
      refine LG Z rfl rfl gd_t (fun hb => r_gtI Z (evg hb rfl) (evg hb rfl)) rfl ?_; clear Z az; intro az Z
      refine LT Z rfl rfl (r_and Z rfl rfl rfl) rfl ?_; clear Z az; intro az Z
      refine L (r_pick Z rfl rfl rfl) Z rfl ?_; clear Z az; intro az Z
      refine L (r_as Z rfl) Z rfl ?_; clear Z az; intro az Z
      refine k75 _ _ (wp_seq_k fun _ k130 => wp_region_lit ?_)
      refine L (r_as Z rfl) Z rfl ?_; clear Z az; intro az Z
      refine k130 _ _ ?_
      refine wp_block ?_
      refine wp_loop_m (fun mz az W => ∃ j : Nat, ∃ wr : Bool, mz = m119.l.length - j ∧ Fr 112 [(3, .slice Ao (O.length) co), (4, .slice A8 (P10.length) c9), (5, .int .i64 ((k : Int))), (6, .int .i64 (z)), (9, .int .i64 ((q : Int))), (10, .int .i64 ((j : Int))), (8, .bool (wr))] az ∧ (j ≤ m119.l.length) ∧ (wr = decide (z < (List.take j m119.l).foldl (wantR k) (wantH k (needN (List.take q P10) k) m119))) ∧ Only NoF w67 W) ?_ ?_
      ·
       exact ⟨_, 0, ((decide (m119.h = (k : Int))) && (decide (z < m119.n))), rfl, Z.cut ⟨rfl, rfl, rfl, rfl, rfl, rfl, rfl, trivial⟩, Nat.zero_le _, (wh_f hwb hwq), (Only.refl NoF w67)⟩
      clear Z az
      rintro mz az w131 ⟨j, wr, hm133, Z, hj, hwr, o132⟩
      refine wp_seq_k fun _ k134 => ?_
      refine wp_seq_k fun _ k135 => wp_region_lit ?_
      refine L (r_mv Z rfl) Z rfl ?_; clear Z az; intro az Z
      refine L (r_mv Z rfl) Z rfl ?_; clear Z az; intro az Z
      refine L (r_mv Z rfl) Z rfl ?_; clear Z az; intro az Z
      refine L (r_ia (k := q) (size := 5) Tryz.underlying22 Tryz.sizeOf43 Z rfl rfl rfl hk118 hA122) Z rfl ?_; clear Z az; intro az Z
      refine L (r_fa (m' := 3) Tryz.underlying43 rfl Tryz.sizeOf35 rfl Z rfl rfl) Z rfl ?_; clear Z az; intro az Z
      refine L (r_ld Tryz.isAgg35 Z rfl ((E123 _ o132) 3 _ rfl)) Z rfl ?_; clear Z az; intro az Z
      refine L (r_lenL Tryz.underlying35 Z rfl) Z rfl ?_; clear Z az; intro az Z
      refine L (r_ltI Z rfl rfl) Z rfl ?_; clear Z az; intro az Z
      refine k135 _ _ ?_
      refine br Z rfl (fun hc136 => ?_) (fun hc136 => ?_)
      ·
       have p137 := of_decide_eq_true hc136
       refine wp_skip ?_
       refine k134 _ _ (wp_seq_k fun _ k138 => ?_)
       refine wp_block ?_
       rcases Bool.eq_false_or_eq_true wr with hwb | hwb
       · skip
         refine wp_region_lit ?_
         refine L (r_mv Z rfl) Z rfl ?_; clear Z az; intro az Z
         refine L ((r_cast (b := true) (r_mv Z rfl) hwb)) Z rfl ?_; clear Z az; intro az Z
         refine LF Z rfl rfl rfl rfl ?_; clear Z az; intro az Z
         refine LF Z rfl rfl rfl rfl ?_; clear Z az; intro az Z
         refine LF Z rfl rfl rfl rfl ?_; clear Z az; intro az Z
         refine LF Z rfl rfl rfl rfl ?_; clear Z az; intro az Z
         refine LF Z rfl rfl rfl rfl ?_; clear Z az; intro az Z
         refine LF Z rfl rfl rfl rfl ?_; clear Z az; intro az Z
         refine LF Z rfl rfl rfl rfl ?_; clear Z az; intro az Z
         refine LF Z rfl rfl rfl rfl ?_; clear Z az; intro az Z
         refine LF Z rfl rfl rfl rfl ?_; clear Z az; intro az Z
         refine LF Z rfl rfl rfl rfl ?_; clear Z az; intro az Z
         refine LF Z rfl rfl rfl rfl ?_; clear Z az; intro az Z
         refine LF Z rfl rfl rfl rfl ?_; clear Z az; intro az Z
         refine LF Z rfl rfl rfl rfl ?_; clear Z az; intro az Z
         refine LF Z rfl rfl rfl rfl ?_; clear Z az; intro az Z
         refine LF Z rfl rfl rfl rfl ?_; clear Z az; intro az Z
         refine LF Z rfl rfl rfl rfl ?_; clear Z az; intro az Z
         refine LF Z rfl rfl rfl rfl ?_; clear Z az; intro az Z
         refine LF Z rfl rfl rfl rfl ?_; clear Z az; intro az Z
         refine LF Z rfl rfl rfl rfl ?_; clear Z az; intro az Z
         refine LF Z rfl rfl rfl rfl ?_; clear Z az; intro az Z
         refine LF Z rfl rfl rfl rfl ?_; clear Z az; intro az Z
         refine LF Z rfl rfl rfl rfl ?_; clear Z az; intro az Z
         refine LF Z rfl rfl rfl rfl ?_; clear Z az; intro az Z
         refine LF Z rfl rfl rfl rfl ?_; clear Z az; intro az Z
         refine L (r_pick Z rfl rfl rfl) Z rfl ?_; clear Z az; intro az Z
         refine L (r_as Z rfl) Z rfl ?_; clear Z az; intro az Z
         refine k138 _ _ ?_
         refine wp_region_lit ?_
         refine L (r_mv Z rfl) Z rfl ?_; clear Z az; intro az Z
         have i139 : I64 (((j : Int) + 1)) := by unfold I64; omega
         refine L (r_addI (r := ((j : Int) + 1)) Z rfl rfl rfl i139) Z rfl ?_; clear Z az; intro az Z
         refine L (r_as Z rfl) Z rfl ?_; clear Z az; intro az Z
         have hk140 : j < (m119.l).length := by omega
         have O146 : Only NoF w w131 := (Only.trans' O128 o132)
         have h147 := (SliceOf.kp ((fun y hy => t.2 y (hM14 y hy)) _ (List.mem_of_getElem? hm120)).2.2.2.1 O146 (fun _ _ h => h) (fun _ _ _ _ h => h))
         obtain ⟨m141, hm142, ok143, hA144⟩ := Row.el KRef h147 hk140
         have E145 : ∀ W, Only NoF w131 W → CA W (eA m119.A 2 (j)) [.int .i64 (m141.h), .int .i64 (m141.n)] := Row.ce KRef h147 hm142 rfl
         exact ⟨_, (by omega), j + 1, true, rfl, Z.cut ⟨rfl, rfl, rfl, rfl, rfl, rfl, rfl, trivial⟩, (by omega), (wr_t hm142 hwb hwr), o132⟩
       · skip
         refine wp_region_lit ?_
         refine L (r_mv Z rfl) Z rfl ?_; clear Z az; intro az Z
         refine L ((r_cast (b := false) (r_mv Z rfl) hwb)) Z rfl ?_; clear Z az; intro az Z
         refine LT Z rfl rfl (r_mv Z rfl) rfl ?_; clear Z az; intro az Z
         refine LT Z rfl rfl (r_mv Z rfl) rfl ?_; clear Z az; intro az Z
         refine LT Z rfl rfl (r_ia (k := q) (size := 5) Tryz.underlying22 Tryz.sizeOf43 Z rfl rfl rfl hk118 hA122) rfl ?_; clear Z az; intro az Z
         refine LT Z rfl rfl (r_fa (m' := 3) Tryz.underlying43 rfl Tryz.sizeOf35 rfl Z rfl rfl) rfl ?_; clear Z az; intro az Z
         refine LT Z rfl rfl (r_ld Tryz.isAgg35 Z rfl ((E123 _ o132) 3 _ rfl)) rfl ?_; clear Z az; intro az Z
         refine LT Z rfl rfl (r_mv Z rfl) rfl ?_; clear Z az; intro az Z
         have hk148 : j < (m119.l).length := by omega
         have O154 : Only NoF w w131 := (Only.trans' O128 o132)
         have h155 := (SliceOf.kp ((fun y hy => t.2 y (hM14 y hy)) _ (List.mem_of_getElem? hm120)).2.2.2.1 O154 (fun _ _ h => h) (fun _ _ _ _ h => h))
         obtain ⟨m149, hm150, ok151, hA152⟩ := Row.el KRef h155 hk148
         have E153 : ∀ W, Only NoF w131 W → CA W (eA m119.A 2 (j)) [.int .i64 (m149.h), .int .i64 (m149.n)] := Row.ce KRef h155 hm150 rfl
         refine LT Z rfl rfl (r_ia (k := j) (size := 2) Tryz.underlying35 Tryz.sizeOf59 Z rfl rfl rfl hk148 hA152) rfl ?_; clear Z az; intro az Z
         refine LT Z rfl rfl (r_fa (m' := 0) Tryz.underlying59 rfl Tryz.sizeOf3 rfl Z rfl rfl) rfl ?_; clear Z az; intro az Z
         refine LT Z rfl rfl (r_ld Tryz.isAgg3 Z rfl ((E153 _ (Only.refl NoF w131)) 0 _ rfl)) rfl ?_; clear Z az; intro az Z
         refine LT Z rfl rfl (r_mv Z rfl) rfl ?_; clear Z az; intro az Z
         refine LT Z rfl rfl (r_eqI Z rfl rfl) rfl ?_; clear Z az; intro az Z
         refine LT Z rfl rfl (r_mv Z rfl) rfl ?_; clear Z az; intro az Z
         refine LG Z rfl rfl gd_t (fun hb => r_mv Z rfl) rfl ?_; clear Z az; intro az Z
         refine LG Z rfl rfl gd_t (fun hb => r_mv Z rfl) rfl ?_; clear Z az; intro az Z
         refine LG Z rfl rfl gd_t (fun hb => r_ia (k := q) (size := 5) Tryz.underlying22 Tryz.sizeOf43 Z (evg hb rfl) (evg hb rfl) rfl hk118 hA122) rfl ?_; clear Z az; intro az Z
         refine LG Z rfl rfl gd_t (fun hb => r_fa (m' := 3) Tryz.underlying43 rfl Tryz.sizeOf35 rfl Z (evg hb rfl) rfl) rfl ?_; clear Z az; intro az Z
         refine LG Z rfl rfl gd_t (fun hb => r_ld Tryz.isAgg35 Z (evg hb rfl) ((E123 _ o132) 3 _ rfl)) rfl ?_; clear Z az; intro az Z
         refine LG Z rfl rfl gd_t (fun hb => r_mv Z rfl) rfl ?_; clear Z az; intro az Z
         refine LG Z rfl rfl gd_t (fun hb => r_ia (k := j) (size := 2) Tryz.underlying35 Tryz.sizeOf59 Z (evg hb rfl) (evg hb rfl) rfl hk148 hA152) rfl ?_; clear Z az; intro az Z
         refine LG Z rfl rfl gd_t (fun hb => r_fa (m' := 1) Tryz.underlying59 rfl Tryz.sizeOf3 rfl Z (evg hb rfl) rfl) rfl ?_; clear Z az; intro az Z
         refine LG Z rfl rfl gd_t (fun hb => r_ld Tryz.isAgg3 Z (evg hb rfl) ((E153 _ (Only.refl NoF w131)) 1 _ rfl)) rfl ?_; clear Z az; intro az Z
         refine LG Z rfl rfl gd_t (fun hb => r_mv Z rfl) rfl ?_; clear Z az; intro az Z
         refine LG Z rfl rfl gd_t (fun hb => r_geI Z (evg hb rfl) (evg hb rfl)) rfl ?_; clear Z az; intro az Z
         refine LT Z rfl rfl (r_and Z rfl rfl rfl) rfl ?_; clear Z az; intro az Z
         refine L (r_pick Z rfl rfl rfl) Z rfl ?_; clear Z az; intro az Z
         refine L (r_as Z rfl) Z rfl ?_; clear Z az; intro az Z
         refine k138 _ _ ?_
         refine wp_region_lit ?_
         refine L (r_mv Z rfl) Z rfl ?_; clear Z az; intro az Z
         have i156 : I64 (((j : Int) + 1)) := by unfold I64; omega
         refine L (r_addI (r := ((j : Int) + 1)) Z rfl rfl rfl i156) Z rfl ?_; clear Z az; intro az Z
         refine L (r_as Z rfl) Z rfl ?_; clear Z az; intro az Z
         exact ⟨_, (by omega), j + 1, ((decide (m149.h = (k : Int))) && (decide (z ≤ m149.n))), rfl, Z.cut ⟨rfl, rfl, rfl, rfl, rfl, rfl, rfl, trivial⟩, (by omega), (wr_f hm150 hwb hwr), o132⟩
      ·
       have p157 := of_decide_eq_false hc136
       refine wp_exit ?_
       refine th_exit ?_
       refine th_exit ?_
       refine ib_hit ?_
       refine k74 _ _ ?_
       refine wp_region_lit ?_
       refine L (r_mv Z rfl) Z rfl ?_; clear Z az; intro az Z
       have i158 : I64 (((q : Int) + 1)) := by unfold I64; omega
       refine L (r_addI (r := ((q : Int) + 1)) Z rfl rfl rfl i158) Z rfl ?_; clear Z az; intro az Z
       refine L (r_as Z rfl) Z rfl ?_; clear Z az; intro az Z
       have O159 : Only NoF w36 w131 := (Only.trans' o68 o132)
       exact ⟨_, (by omega), q + 1, wr, rfl, Z.cut ⟨rfl, rfl, rfl, rfl, rfl, rfl, trivial⟩, (by omega), (wn_end hm120 (by omega) hwr), O159⟩
   ·
    have p160 := of_decide_eq_false hc72
    rw [List.take_of_length_le (by omega)] at hwq
    refine wp_exit ?_
    refine th_exit ?_
    refine th_exit ?_
    refine ib_hit ?_
    refine k65 _ _ (wp_seq_k fun _ k161 => wp_region_lit ?_)
    refine L (r_mv Z rfl) Z rfl ?_; clear Z az; intro az Z
    refine k161 _ _ ?_
    refine br Z rfl (fun hc162 => ?_) (fun hc162 => ?_)
    ·
     have q163 : wq = true := hc162
     refine wp_region_lit ?_
     refine L (r_mv Z rfl) Z rfl ?_; clear Z az; intro az Z
     refine L (r_mv Z rfl) Z rfl ?_; clear Z az; intro az Z
     refine L (r_mv Z rfl) Z rfl ?_; clear Z az; intro az Z
     refine L (r_bd (v := .agg #[.int .i64 ((k : Int)), .int .i64 (z)]) (build_Ref2 _ _) Z rfl) Z rfl ?_; clear Z az; intro az Z
     obtain ⟨A164, w165, hw, hA, r166, o167⟩ := Row.made (w := w67) KRef (e := 59) ([(⟨(k : Int), z⟩ : RM)] : List RM) (by simp only [List.length_cons, List.length_nil]; unfold maxLen; omega)
     refine L (r_bs (z := .agg #[.int .i64 (0), .int .i64 (0)]) (size := 2) (vs := [(0, .agg #[.int .i64 ((k : Int)), .int .i64 (z)])]) (cs := List.flatMap KRef.cells [(⟨(k : Int), z⟩ : RM)]) Tryz.underlying35 Tryz.sizeOf59 Tryz.zeroValue59 rfl (Fr.evalps Z rfl) (by kernel_rfl)) Z rfl ?_
     rw [← hw, ← hA]; clear Z az; intro az Z
     clear hw hA
     have ok168 : ∀ zq ∈ ([(⟨(k : Int), z⟩ : RM)] : List RM), KRef.ok zq := by intro zq hx; simp only [List.mem_cons, List.not_mem_nil, or_false] at hx; rcases hx with rfl <;> first | exact (show I64 ((k : Int)) ∧ I64 (z) from ⟨by unfold I64; omega, by unfold I64; omega⟩)
     have r169 := (ow_k (ow_k (ow_k rO o37) o68) o167)
     have h170 := SliceOf.pl (Row.own KRef r166 ok168)
     have hb178 : (List.length (O) + List.length ([(⟨(k : Int), z⟩ : RM)])) * 16 ≤ 140737488355328 := by (simp only [List.length_append, List.length_cons, List.length_nil]; omega)
     have O179 : Only NoF w w165 := (Only.trans' (Only.trans' (Only.trans' o26 o37) o68) o167)
     obtain ⟨A171, c172, w173, hr174, r175, o176, al177⟩ := Row.app (P := Tryz.prog) (l := O) (l2 := [(⟨(k : Int), z⟩ : RM)]) KRef elemRef r169 h170 hb178 (by unfold maxLen; omega) (size_only O179)
     refine L (r_app hr174 Z rfl rfl) Z rfl ?_; clear Z az; intro az Z
     have ok180 : ∀ zq ∈ (O ++ [(⟨(k : Int), z⟩ : RM)]), KRef.ok zq := (fun x hx => (List.mem_append.1 hx).elim (hOk0 x) ((Row.oks KRef h170) x))
     have h181 := Row.own KRef r175 ok180
     refine L (r_as Z rfl) Z rfl ?_; clear Z az; intro az Z
     refine k32 _ _ ?_
     refine wp_region_lit ?_
     refine L (r_mv Z rfl) Z rfl ?_; clear Z az; intro az Z
     have i182 : I64 (((k : Int) + 1)) := by unfold I64; omega
     refine L (r_addI (r := ((k : Int) + 1)) Z rfl rfl rfl i182) Z rfl ?_; clear Z az; intro az Z
     refine L (r_as Z rfl) Z rfl ?_; clear Z az; intro az Z
     have O183 : Only NoF w25 w165 := (Only.trans' (Only.trans' o37 o68) o167)
     have O184 : Only NoF w w173 := (o_sg O179 o176 (Nat.le_refl _) (ownF_ge rO))
     have h185 := (SliceOf.kp (SliceOf.kp hNs O183 (fun _ _ h => h) (fun _ _ _ _ h => h)) o176 (fun k hk h => hsep k h hk) (fun _ _ _ _ h => h))
     have O186 := (Only.trans (Only.trans (Only.trans (Only.trans (Only.refl (fun _ => True) w25) o37 (fun _ _ => .inl trivial)) o68 (fun _ _ => .inl trivial)) o167 (fun _ _ => .inl trivial)) o176 (fun _ _ => .inl trivial))
     exact ⟨_, (by omega), k + 1, (O ++ [(⟨(k : Int), z⟩ : RM)]), A171, c172, rfl, Z.cut ⟨rfl, rfl, rfl, trivial⟩, (by omega), (mi_yes hz ((Eq.symm hc162).trans (by rw [hwq])) hO), ok180, (fun k h hk => (app_Fg al177 h).elim (fun h => hsep k h hk) (fun h => by rw [h] at hk; exact absurd hk.2 (Nat.not_lt.2 (Nat.le_trans hge8 (size_only O183))))), O184, r175, h185, (Nat.le_trans hge8 (size_only O186))⟩
    ·
     have q187 : wq = false := hc162
     refine wp_skip ?_
     refine k32 _ _ ?_
     refine wp_region_lit ?_
     refine L (r_mv Z rfl) Z rfl ?_; clear Z az; intro az Z
     have i188 : I64 (((k : Int) + 1)) := by unfold I64; omega
     refine L (r_addI (r := ((k : Int) + 1)) Z rfl rfl rfl i188) Z rfl ?_; clear Z az; intro az Z
     refine L (r_as Z rfl) Z rfl ?_; clear Z az; intro az Z
     have O189 : Only NoF w w67 := (Only.trans' (Only.trans' o26 o37) o68)
     have r190 := (ow_k (ow_k rO o37) o68)
     have O191 : Only NoF w25 w67 := (Only.trans' o37 o68)
     have h192 := (SliceOf.kp hNs O191 (fun _ _ h => h) (fun _ _ _ _ h => h))
     exact ⟨_, (by omega), k + 1, O, Ao, co, rfl, Z.cut ⟨rfl, rfl, rfl, trivial⟩, (by omega), (mi_no hz ((Eq.symm hc162).trans (by rw [hwq])) hO), hOk0, hsep, O189, r190, h192, (Nat.le_trans hge8 (size_only O191))⟩
 ·
  have p193 := of_decide_eq_false hc30
  refine wp_exit ?_
  refine th_exit ?_
  refine th_exit ?_
  refine ib_hit ?_
  refine k19 _ _ (wp_seq_k fun _ k194 => wp_region_lit ?_)
  refine L (r_mv Z rfl) Z rfl ?_; clear Z az; intro az Z
  refine L (r_as Z rfl) Z rfl ?_; clear Z az; intro az Z
  refine k194 _ _ ?_
  refine wp_ret ?_
  show bodyPost _ _ _ .ret _ _
  refine ret_of (vs := [.slice Ao (O.length) co]) Z Tryz.results23 ⟨rfl, trivial⟩ ?_
  rw [show missN (joinN l) = O by rw [hO, show k = 400 by omega, ← hP11, miss_map]; rfl]; exact ⟨_, _, rfl, ow_low rO (Nat.le_refl _), hOk0, o26⟩
end
section
open Go.RowKit
def hpr (y : HR) : NR := ⟨y.A, y.p, y.c⟩
section
variable {H : List HR} {i j : Nat} {y : HR} {r : RM} {x : NM} {mt : Bool}
theorem at_map {α : Type} {N : List α} {f : HR → α} {m : α} (hN : N = H.map f) (hy : H[i]? = some y) (hm : N[i]? = some m) : m = f y := by
 subst hN
 rw [List.getElem?_map, hy] at hm
 exact (Option.some.inj hm).symm
theorem find_take (hA : (H.map hm).Pairwise fun a b => a.h < b.h) (hy : H[i]? = some y) : ((H.take i).map hm).find? (fun z => decide (z.h = y.h)) = none := by
 rw [List.find?_eq_none]
 intro z hz
 obtain ⟨u, hu, rfl⟩ := List.mem_map.1 hz
 obtain ⟨q, hq⟩ := List.getElem?_of_mem hu
 rw [List.getElem?_take] at hq
 split at hq
 · rename_i hqi
   have h1 : (H.map hm)[q]? = some (hm u) := by rw [List.getElem?_map, hq]; rfl
   have h2 : (H.map hm)[i]? = some (hm y) := by rw [List.getElem?_map, hy]; rfl
   obtain ⟨a1, a2⟩ := List.getElem?_eq_some_iff.1 h1
   obtain ⟨b1, b2⟩ := List.getElem?_eq_some_iff.1 h2
   have := List.pairwise_iff_getElem.1 hA q i a1 b1 hqi
   rw [a2, b2] at this
   have h3 : u.h < y.h := this
   simp only [decide_eq_true_eq]
   show ¬ u.h = y.h
   omega
 · cases hq
theorem mt_no {mN : Int} (hy : H[i]? = some y) (e : decide (mN = r.h) = false) (eN : mN = y.h) (hmt : mt = okR ((H.take i).map hm) r) : mt = okR ((H.take (i + 1)).map hm) r := by
 rw [hmt, take_succ_get hy, List.map_append]
 unfold okR
 rw [List.find?_append]
 have : List.find? (fun z : HM => decide (z.h = r.h)) [hm y] = none := by
  rw [List.find?_cons]
  have : decide ((hm y).h = r.h) = false := by
   show decide (y.h = r.h) = false
   rw [← eN]; exact e
  rw [this]; rfl
 show _ = (match ((H.take i).map hm).find? (fun z : HM => decide (z.h = r.h)) |>.or (List.find? (fun z : HM => decide (z.h = r.h)) [hm y]) with | none => false | some y => _)
 rw [this, Option.or_none]
 rfl
theorem mt_yes {mN mT : Int} {mF : Bool} {mP : NR} (hA : (H.map hm).Pairwise fun a b => a.h < b.h) (hy : H[i]? = some y) (e : decide (mN = r.h) = true) (eN : mN = y.h) (eT : mT = (y.t : Int)) (eF : mF = y.f) (eP : mP = hpr y) :
 (decide (r.n < mT) || (mF && decide (((mP.l.length : Nat) : Int) ≤ r.n))) = okR ((H.take (i + 1)).map hm) r := by
 have e1 : y.h = r.h := by rw [← eN]; exact of_decide_eq_true e
 have h0 := find_take hA hy
 rw [e1] at h0
 rw [take_succ_get hy, List.map_append]
 unfold okR
 rw [List.find?_append, h0]
 have : List.find? (fun z : HM => decide (z.h = r.h)) [hm y] = some (hm y) := by
  rw [List.find?_cons]
  have : decide ((hm y).h = r.h) = true := decide_eq_true e1
  rw [this]
 show _ = (match (none : Option HM) |>.or (List.find? (fun z : HM => decide (z.h = r.h)) [hm y]) with | none => false | some y => !(decide ((y.t : Int) ≤ r.n) && !(y.f && decide (((y.p.length : Nat) : Int) ≤ r.n))))
 rw [this, eT, eF, eP]
 show _ = !(decide ((y.t : Int) ≤ r.n) && !(y.f && decide ((((y.p.map ns).length : Nat) : Int) ≤ r.n)))
 rw [List.length_map]
 show (decide (r.n < (y.t : Int)) || (y.f && decide (((y.p.length : Nat) : Int) ≤ r.n))) = _
 by_cases h1 : r.n < (y.t : Int)
 · rw [decide_eq_true h1, decide_eq_false (show ¬ (y.t : Int) ≤ r.n by omega)]; rfl
 · rw [decide_eq_false h1, decide_eq_true (show (y.t : Int) ≤ r.n by omega)]
   cases (y.f && decide (((y.p.length : Nat) : Int) ≤ r.n)) <;> rfl
theorem rd_no (hr : x.l[j]? = some r) (h : okR (H.map hm) r = false) : readyN (H.map hm) x = false := by
 unfold readyN
 cases e : x.l.all (okR (H.map hm))
 · rfl
 · rw [List.all_eq_true.1 e r (List.mem_of_getElem? hr)] at h; cases h
theorem rd_yes (h : ∀ r ∈ x.l, okR (H.map hm) r = true) : readyN (H.map hm) x = true := List.all_eq_true.2 h
end
theorem ready39_v_ {w : World} {H : List HR} (hA : (H.map hm).Pairwise fun a b => a.h < b.h) {g : Nat} {N : List Int} {A1 : Option Addr} {c1 : Nat} (hN : N = H.map (·.h)) (f1 : IntsV w (.slice A1 N.length c1) N) {PL : List NR} {A2 : Option Addr} {c2 : Nat} (hPL : PL = H.map hpr) (f2 : SliceOf AllB 1 KRr.R w (.slice A2 PL.length c2) PL) {FL : List Bool} {A3 : Option Addr} {c3 : Nat} (hFL : FL = H.map (·.f)) (f3 : SliceOf AllB 1 KBool.R w (.slice A3 FL.length c3) FL) {TL : List Int} {A4 : Option Addr} {n4 c4 : Nat} (hTL : TL = H.map fun y => (y.t : Int)) (f4 : IntsV w (.slice A4 n4 c4) TL) (h4 : n4 = TL.length) (hB : Blk w g 80 [.slice A1 N.length c1, .slice A2 PL.length c2, .slice A3 FL.length c3, .slice A4 n4 c4].toArray) {x : NM} (hx : okN AllB w x) : Calls Tryz.prog 42 [.pointer (some ⟨g, 0, none⟩), .agg #[.int .i64 x.h, .int .i64 x.n, .int .i64 x.d, .slice x.A x.l.length x.c, strV x.s]].toArray w (Fix (.bool (readyN (H.map hm) x)) w) := by
 subst h4
 have hNl : N.length = H.length := by rw [hN, List.length_map]
 have hPl : PL.length = H.length := by rw [hPL, List.length_map]
 have hFl : FL.length = H.length := by rw [hFL, List.length_map]
 have hTl : TL.length = H.length := by rw [hTL, List.length_map]
 have hxl := SliceOf.len hx.2.2.2.1
 unfold maxLen at hxl
 have hnl := SliceOf.len f1
 unfold maxLen at hnl
 refine calls_start Tryz.func42 rfl rfl ?_
 intro az Z
 rw [Tryz.ntmps42] at Z
 refine wp_seq_k fun _ k1 => wp_region_lit ?_
 refine LBox Z rfl rfl rfl ?_
 clear Z az; intro g2 w3 hg6 hl7 o4 B5 az Z
 refine L (r_as Z rfl) Z rfl ?_; clear Z az; intro az Z
 refine k1 _ _ (wp_seq_k fun _ k8 => ?_)
 refine wp_seq_k fun _ k9 => wp_region_lit ?_
 refine L (r_as Z rfl) Z rfl ?_; clear Z az; intro az Z
 refine k9 _ _ ?_
 refine wp_block ?_
 refine wp_loop_m (fun mz az W => ∃ j : Nat, mz = x.l.length - j ∧ Fr 77 [(0, .pointer (some ((⟨g, 0, none⟩ : Addr)))), (3, .pointer (some ((⟨g2, 0, none⟩ : Addr)))), (5, .int .i64 ((j : Int)))] az ∧ (j ≤ x.l.length) ∧ (∀ r ∈ List.take j x.l, okR (H.map hm) r = true) ∧ Only NoF w3 W) ?_ ?_
 ·
  exact ⟨_, 0, rfl, Z.cut ⟨rfl, rfl, rfl, trivial⟩, Nat.zero_le _, tk_nil, (Only.refl NoF w3)⟩
 clear Z az
 rintro mz az w10 ⟨j, hm12, Z, hj, hR, o11⟩
 refine wp_seq_k fun _ k13 => ?_
 refine wp_seq_k fun _ k14 => wp_region_lit ?_
 refine L (r_mv Z rfl) Z rfl ?_; clear Z az; intro az Z
 refine L (r_fa (m' := 3) Tryz.underlying43 rfl Tryz.sizeOf35 rfl Z rfl rfl) Z rfl ?_; clear Z az; intro az Z
 have B15 := (Blk.k B5 o11)
 refine L (r_ld Tryz.isAgg35 Z rfl ((Blk.ca B15) 3 _ rfl)) Z rfl ?_; clear Z az; intro az Z
 refine L (r_lenL Tryz.underlying35 Z rfl) Z rfl ?_; clear Z az; intro az Z
 refine L (r_ltI Z rfl rfl) Z rfl ?_; clear Z az; intro az Z
 refine k14 _ _ ?_
 refine br Z rfl (fun hc16 => ?_) (fun hc16 => ?_)
 ·
  have p17 := of_decide_eq_true hc16
  refine wp_skip ?_
  refine k13 _ _ (wp_seq_k fun _ k18 => ?_)
  refine wp_block ?_
  refine wp_seq_k fun _ k19 => wp_region_lit ?_
  refine L (r_as Z rfl) Z rfl ?_; clear Z az; intro az Z
  refine k19 _ _ (wp_seq_k fun _ k20 => ?_)
  refine wp_seq_k fun _ k21 => wp_region_lit ?_
  refine L (r_as Z rfl) Z rfl ?_; clear Z az; intro az Z
  refine k21 _ _ ?_
  refine wp_block ?_
  have hk22 : j < (x.l).length := by omega
  have O28 : Only NoF w w10 := (Only.trans' o4 o11)
  have h29 := (SliceOf.kp hx.2.2.2.1 O28 (fun _ _ h => h) (fun _ _ _ _ h => h))
  obtain ⟨m23, hm24, ok25, hA26⟩ := Row.el KRef h29 hk22
  have E27 : ∀ W, Only NoF w10 W → CA W (eA x.A 2 (j)) [.int .i64 (m23.h), .int .i64 (m23.n)] := Row.ce KRef h29 hm24 rfl
  refine wp_loop_m (fun mz az W => ∃ i : Nat, ∃ mt : Bool, mz = H.length - i ∧ Fr 77 [(0, .pointer (some ((⟨g, 0, none⟩ : Addr)))), (3, .pointer (some ((⟨g2, 0, none⟩ : Addr)))), (5, .int .i64 ((j : Int))), (7, .int .i64 ((i : Int))), (6, .bool (mt))] az ∧ (i ≤ H.length) ∧ (mt = okR ((H.take i).map hm) m23) ∧ Only NoF w10 W) ?_ ?_
  ·
   exact ⟨_, 0, false, rfl, Z.cut ⟨rfl, rfl, rfl, rfl, rfl, trivial⟩, Nat.zero_le _, rfl, (Only.refl NoF w10)⟩
  clear Z az
  rintro mz az w30 ⟨i, mt, hm32, Z, hi, hmt, o31⟩
  refine wp_seq_k fun _ k33 => ?_
  refine wp_seq_k fun _ k34 => wp_region_lit ?_
  refine L (r_mv Z rfl) Z rfl ?_; clear Z az; intro az Z
  refine L (r_mv Z rfl) Z rfl ?_; clear Z az; intro az Z
  refine L (r_nilP Z rfl) Z rfl ?_; clear Z az; intro az Z
  refine L (r_fa (m' := 0) Tryz.underlying80 rfl Tryz.sizeOf30 rfl Z rfl rfl) Z rfl ?_; clear Z az; intro az Z
  have B35 := (Blk.k (Blk.k (Blk.k hB o4) o11) o31)
  refine L (r_ld Tryz.isAgg30 Z rfl ((Blk.ca B35) 0 _ rfl)) Z rfl ?_; clear Z az; intro az Z
  refine L (r_lenL Tryz.underlying30 Z rfl) Z rfl ?_; clear Z az; intro az Z
  refine L (r_ltI Z rfl rfl) Z rfl ?_; clear Z az; intro az Z
  refine k34 _ _ ?_
  refine br Z rfl (fun hc36 => ?_) (fun hc36 => ?_)
  ·
   have p37 := of_decide_eq_true hc36
   obtain ⟨y38, hy39⟩ : ∃ y, H[i]? = some y := ⟨_, List.getElem?_eq_getElem (by omega)⟩
   refine wp_skip ?_
   refine k33 _ _ (wp_seq_k fun _ k40 => ?_)
   refine wp_block ?_
   refine wp_seq_k fun _ k41 => ?_
   refine reg_q [(true, 0), (true, 1), (true, 2), (true, 3), (true, 4), (true, 5), (true, 6), (true, 7), (true, 8), (true, 9), (true, 10), (true, 11), (true, 12), (true, 13)] (by kernel_rfl) (by kernel_rfl) (fun _ _ _ _ _ h => h) fun w42 o43 => ?_
   refine M (r_mv Z rfl) Z rfl rfl ?_; clear Z az; intro az Z
   refine M (r_nilP Z rfl) Z rfl rfl ?_; clear Z az; intro az Z
   refine M (r_fa (m' := 0) Tryz.underlying80 rfl Tryz.sizeOf30 rfl Z rfl rfl) Z rfl rfl ?_; clear Z az; intro az Z
   have B44 := (Blk.k B35 o43)
   refine M (r_ld Tryz.isAgg30 Z rfl ((Blk.ca B44) 0 _ rfl)) Z rfl rfl ?_; clear Z az; intro az Z
   refine M (r_mv Z rfl) Z rfl rfl ?_; clear Z az; intro az Z
   have hk45 : i < (N).length := by omega
   have O51 : Only NoF w w42 := (Only.trans' (Only.trans' O28 o31) o43)
   have h52 := (SliceOf.kp f1 O51 (fun _ _ h => h) (fun _ _ _ _ h => h))
   obtain ⟨m46, hm47, ok48, hA49⟩ := Row.el KInt h52 hk45
   have E50 : ∀ W, Only NoF w42 W → CA W (eA A1 1 (i)) [.int .i64 (m46)] := Row.ce KInt h52 hm47 rfl
   refine M (r_ia (k := i) (size := 1) Tryz.underlying30 Tryz.sizeOf3 Z rfl rfl rfl hk45 hA49) Z rfl rfl ?_; clear Z az; intro az Z
   refine M (r_ld Tryz.isAgg3 Z rfl (CA.first (E50 _ (Only.refl NoF w42)))) Z rfl rfl ?_; clear Z az; intro az Z
   refine M (r_fa (m' := 3) Tryz.underlying43 rfl Tryz.sizeOf35 rfl Z rfl rfl) Z rfl rfl ?_; clear Z az; intro az Z
   have B53 := (Blk.k (Blk.k B15 o31) o43)
   refine M (r_ld Tryz.isAgg35 Z rfl ((Blk.ca B53) 3 _ rfl)) Z rfl rfl ?_; clear Z az; intro az Z
   refine M (r_mv Z rfl) Z rfl rfl ?_; clear Z az; intro az Z
   refine M (r_ia (k := j) (size := 2) Tryz.underlying35 Tryz.sizeOf59 Z rfl rfl rfl hk22 hA26) Z rfl rfl ?_; clear Z az; intro az Z
   refine M (r_fa (m' := 0) Tryz.underlying59 rfl Tryz.sizeOf3 rfl Z rfl rfl) Z rfl rfl ?_; clear Z az; intro az Z
   have O54 : Only NoF w10 w42 := (Only.trans' o31 o43)
   refine M (r_ld Tryz.isAgg3 Z rfl ((E27 _ O54) 0 _ rfl)) Z rfl rfl ?_; clear Z az; intro az Z
   refine M (r_eqI Z rfl rfl) Z rfl rfl ?_; clear Z az; intro az Z
   refine wpMix_nil ?_
   refine k41 _ _ ?_
   refine br Z rfl (fun hc55 => ?_) (fun hc55 => ?_)
   ·
    have p56 := of_decide_eq_true hc55
    refine wp_seq_k fun _ k57 => wp_region_lit ?_
    refine L (r_fa (m' := 3) Tryz.underlying43 rfl Tryz.sizeOf35 rfl Z rfl rfl) Z rfl ?_; clear Z az; intro az Z
    refine L (r_ld Tryz.isAgg35 Z rfl ((Blk.ca B53) 3 _ rfl)) Z rfl ?_; clear Z az; intro az Z
    refine L (r_mv Z rfl) Z rfl ?_; clear Z az; intro az Z
    refine L (r_ia (k := j) (size := 2) Tryz.underlying35 Tryz.sizeOf59 Z rfl rfl rfl hk22 hA26) Z rfl ?_; clear Z az; intro az Z
    refine L (r_fa (m' := 1) Tryz.underlying59 rfl Tryz.sizeOf3 rfl Z rfl rfl) Z rfl ?_; clear Z az; intro az Z
    refine L (r_ld Tryz.isAgg3 Z rfl ((E27 _ O54) 1 _ rfl)) Z rfl ?_; clear Z az; intro az Z
    refine L (r_as Z rfl) Z rfl ?_; clear Z az; intro az Z
    refine k57 _ _ ?_
    refine wp_region_lit ?_
    refine L (r_mv Z rfl) Z rfl ?_; clear Z az; intro az Z
    refine L (r_mv Z rfl) Z rfl ?_; clear Z az; intro az Z
    refine L (r_nilP Z rfl) Z rfl ?_; clear Z az; intro az Z
    refine L (r_fa (m' := 3) Tryz.underlying80 rfl Tryz.sizeOf30 rfl Z rfl rfl) Z rfl ?_; clear Z az; intro az Z
    refine L (r_ld Tryz.isAgg30 Z rfl ((Blk.ca B44) 3 _ rfl)) Z rfl ?_; clear Z az; intro az Z
    refine L (r_mv Z rfl) Z rfl ?_; clear Z az; intro az Z
    have hk58 : i < (TL).length := by omega
    have h64 := (SliceOf.kp f4 O51 (fun _ _ h => h) (fun _ _ _ _ h => h))
    obtain ⟨m59, hm60, ok61, hA62⟩ := Row.el KInt h64 hk58
    have E63 : ∀ W, Only NoF w42 W → CA W (eA A4 1 (i)) [.int .i64 (m59)] := Row.ce KInt h64 hm60 rfl
    refine L (r_ia (k := i) (size := 1) Tryz.underlying30 Tryz.sizeOf3 Z rfl rfl rfl hk58 hA62) Z rfl ?_; clear Z az; intro az Z
    refine L (r_ld Tryz.isAgg3 Z rfl (CA.first (E63 _ (Only.refl NoF w42)))) Z rfl ?_; clear Z az; intro az Z
    refine L (r_ltI Z rfl rfl) Z rfl ?_; clear Z az; intro az Z
    refine L (r_mv Z rfl) Z rfl ?_; clear Z az; intro az Z
    refine LG Z rfl rfl gd_f (fun hb => r_mv Z rfl) rfl ?_; clear Z az; intro az Z
    refine LG Z rfl rfl gd_f (fun hb => r_nilP Z (evg hb rfl)) rfl ?_; clear Z az; intro az Z
    refine LG Z rfl rfl gd_f (fun hb => r_fa (m' := 2) Tryz.underlying80 rfl Tryz.sizeOf78 rfl Z (evg hb rfl) rfl) rfl ?_; clear Z az; intro az Z
    refine LG Z rfl rfl gd_f (fun hb => r_ld Tryz.isAgg78 Z (evg hb rfl) ((Blk.ca B44) 2 _ rfl)) rfl ?_; clear Z az; intro az Z
    refine LG Z rfl rfl gd_f (fun hb => r_mv Z rfl) rfl ?_; clear Z az; intro az Z
    have hk65 : i < (FL).length := by omega
    have h71 := (SliceOf.kp f3 O51 (fun _ _ h => h) (fun _ _ _ _ h => h))
    obtain ⟨m66, hm67, ok68, hA69⟩ := Row.el KBool h71 hk65
    have E70 : ∀ W, Only NoF w42 W → CA W (eA A3 1 (i)) [.bool (m66)] := Row.ce KBool h71 hm67 rfl
    refine LG Z rfl rfl gd_f (fun hb => r_ia (k := i) (size := 1) Tryz.underlying78 Tryz.sizeOf4 Z (evg hb rfl) (evg hb rfl) rfl hk65 hA69) rfl ?_; clear Z az; intro az Z
    refine LG Z rfl rfl gd_f (fun hb => r_ld Tryz.isAgg4 Z (evg hb rfl) (CA.first (E70 _ (Only.refl NoF w42)))) rfl ?_; clear Z az; intro az Z
    refine LG Z rfl rfl gd_f (fun hb => r_mv Z (evg hb rfl)) rfl ?_; clear Z az; intro az Z
    refine LG Z rfl rfl gd_gt (fun hb => r_mv Z rfl) rfl ?_; clear Z az; intro az Z
    refine LG Z rfl rfl gd_gt (fun hb => r_mv Z rfl) rfl ?_; clear Z az; intro az Z
    refine LG Z rfl rfl gd_gt (fun hb => r_nilP Z (evg hb rfl)) rfl ?_; clear Z az; intro az Z
    refine LG Z rfl rfl gd_gt (fun hb => r_fa (m' := 1) Tryz.underlying80 rfl Tryz.sizeOf77 rfl Z (evg hb rfl) rfl) rfl ?_; clear Z az; intro az Z
    refine LG Z rfl rfl gd_gt (fun hb => r_ld Tryz.isAgg77 Z (evg hb rfl) ((Blk.ca B44) 1 _ rfl)) rfl ?_; clear Z az; intro az Z
    refine LG Z rfl rfl gd_gt (fun hb => r_mv Z rfl) rfl ?_; clear Z az; intro az Z
    have hk72 : i < (PL).length := by omega
    have h78 := (SliceOf.kp f2 O51 (fun _ _ h => h) (fun _ _ _ _ h => h))
    obtain ⟨m73, hm74, ok75, hA76⟩ := Row.el KRr h78 hk72
    have E77 : ∀ W, Only NoF w42 W → CA W (eA A2 1 (i)) [.slice m73.A (m73.l.length) m73.c] := Row.ce KRr h78 hm74 rfl
    refine LG Z rfl rfl gd_gt (fun hb => r_ia (k := i) (size := 1) Tryz.underlying77 Tryz.sizeOf22 Z (evg hb rfl) (evg hb rfl) rfl hk72 hA76) rfl ?_; clear Z az; intro az Z
    refine LG Z rfl rfl gd_gt (fun hb => r_ld Tryz.isAgg22 Z (evg hb rfl) (CA.first (E77 _ (Only.refl NoF w42)))) rfl ?_; clear Z az; intro az Z
    refine LG Z rfl rfl gd_gt (fun hb => r_lenL Tryz.underlying22 Z (evg hb rfl)) rfl ?_; clear Z az; intro az Z
    refine LG Z rfl rfl gd_gt (fun hb => r_geI Z (evg hb rfl) (evg hb rfl)) rfl ?_; clear Z az; intro az Z
    refine LG Z rfl rfl gd_f (fun hb => r_and Z (evg hb rfl) (evgc hb rfl) rfl) rfl ?_; clear Z az; intro az Z
    refine L (r_or Z rfl rfl rfl) Z rfl ?_; clear Z az; intro az Z
    refine L (r_as Z rfl) Z rfl ?_; clear Z az; intro az Z
    refine k40 _ _ ?_
    refine wp_region_lit ?_
    refine L (r_mv Z rfl) Z rfl ?_; clear Z az; intro az Z
    have i79 : I64 (((i : Int) + 1)) := by unfold I64; omega
    refine L (r_addI (r := ((i : Int) + 1)) Z rfl rfl rfl i79) Z rfl ?_; clear Z az; intro az Z
    refine L (r_as Z rfl) Z rfl ?_; clear Z az; intro az Z
    exact ⟨_, (by omega), i + 1, ((decide (m23.n < m59)) || (m66 && (decide (((m73.l.length : Nat) : Int) ≤ m23.n)))), rfl, Z.cut ⟨rfl, rfl, rfl, rfl, rfl, trivial⟩, (by omega), (mt_yes hA hy39 hc55 (at_map hN hy39 hm47) (at_map hTL hy39 hm60) (at_map hFL hy39 hm67) (at_map hPL hy39 hm74)), O54⟩
   ·
    have p80 := of_decide_eq_false hc55
    refine wp_skip ?_
    refine k40 _ _ ?_
    refine wp_region_lit ?_
    refine L (r_mv Z rfl) Z rfl ?_; clear Z az; intro az Z
    have i81 : I64 (((i : Int) + 1)) := by unfold I64; omega
    refine L (r_addI (r := ((i : Int) + 1)) Z rfl rfl rfl i81) Z rfl ?_; clear Z az; intro az Z
    refine L (r_as Z rfl) Z rfl ?_; clear Z az; intro az Z
    exact ⟨_, (by omega), i + 1, mt, rfl, Z.cut ⟨rfl, rfl, rfl, rfl, rfl, trivial⟩, (by omega), (mt_no hy39 hc55 (at_map hN hy39 hm47) hmt), O54⟩
  ·
   have p82 := of_decide_eq_false hc36
   rw [List.take_of_length_le (by omega)] at hmt
   refine wp_exit ?_
   refine th_exit ?_
   refine th_exit ?_
   refine ib_hit ?_
   refine k20 _ _ (wp_seq_k fun _ k83 => wp_region_lit ?_)
   refine L (r_mv Z rfl) Z rfl ?_; clear Z az; intro az Z
   refine L (r_not Z rfl) Z rfl ?_; clear Z az; intro az Z
   refine k83 _ _ ?_
   refine br Z rfl (fun hc84 => ?_) (fun hc84 => ?_)
   ·
    have q85 : mt = false := (nt_t hc84)
    refine wp_seq_k fun _ k86 => wp_region_lit ?_
    refine L (r_as Z rfl) Z rfl ?_; clear Z az; intro az Z
    refine k86 _ _ ?_
    refine wp_ret ?_
    show bodyPost _ _ _ .ret _ _
    refine ret_of (vs := [.bool (false)]) Z Tryz.results42 ⟨rfl, trivial⟩ ?_
    have O87 : Only NoF w w30 := (Only.trans' O28 o31)
    rw [rd_no hm24 (hmt.symm.trans (nt_t hc84))]; exact ⟨rfl, O87⟩
   ·
    have q88 : mt = true := (nt_f hc84)
    refine wp_skip ?_
    refine k18 _ _ ?_
    refine wp_region_lit ?_
    refine L (r_mv Z rfl) Z rfl ?_; clear Z az; intro az Z
    have i89 : I64 (((j : Int) + 1)) := by unfold I64; omega
    refine L (r_addI (r := ((j : Int) + 1)) Z rfl rfl rfl i89) Z rfl ?_; clear Z az; intro az Z
    refine L (r_as Z rfl) Z rfl ?_; clear Z az; intro az Z
    have O90 : Only NoF w3 w30 := (Only.trans' o11 o31)
    exact ⟨_, (by omega), j + 1, rfl, Z.cut ⟨rfl, rfl, rfl, trivial⟩, (by omega), (tk_step hR hm24 (hmt.symm.trans (nt_f hc84))), O90⟩
 ·
  have p91 := of_decide_eq_false hc16
  refine wp_exit ?_
  refine th_exit ?_
  refine th_exit ?_
  refine ib_hit ?_
  refine k8 _ _ (wp_seq_k fun _ k92 => wp_region_lit ?_)
  refine L (r_as Z rfl) Z rfl ?_; clear Z az; intro az Z
  refine k92 _ _ ?_
  refine wp_ret ?_
  show bodyPost _ _ _ .ret _ _
  refine ret_of (vs := [.bool (true)]) Z Tryz.results42 ⟨rfl, trivial⟩ ?_
  have O93 : Only NoF w w10 := (Only.trans' o4 o11)
  rw [List.take_of_length_le (by omega)] at hR; rw [rd_yes hR]; exact ⟨rfl, O93⟩
end
section
open Go.RowKit
def HdS (S : Nat → Prop) (w : World) (PL : List NR) : Prop := ∀ r ∈ PL, SliceOf S 5 KN0.R w (.slice r.A r.l.length r.c) r.l
def FS (vP vF : Value) (g : Nat) (k : Nat) : Prop := ownF vP k ∨ ownF vF k ∨ k = g
section
variable {S S' F F' G : Nat → Prop} {w w' : World} {PL : List NR} {x : NR} {v : Value} {l : List NM} {b g : Nat} {vP vF vP' vF' : Value}
theorem HdS.kp (h : HdS S w PL) (o : Only F w w') (hF : ∀ k, S k → ¬ F k) : HdS S w' PL := fun r hr => SliceOf.kp (h r hr) o hF (fun _ _ _ _ h => h)
theorem HdS.sup (h : HdS S w PL) (hS : ∀ k, S k → S' k) : HdS S' w PL := fun r hr => SliceOf.sup (h r hr) hS
theorem HdS.mv (h : HdS (SKr F w) w PL) (o : Only G w w') (hG : ∀ k, G k → F k) : HdS (SKr F w') w' PL := (h.kp o fun k hk hg => hk.1 (hG k hg)).sup (SKr.mv o)
theorem HdS.mvA (h : HdS (SKr F w) w PL) (o : Only G w w') (hG : ∀ k, G k → F k) (hF : ∀ k, F' k → F k ∨ w.heap.size ≤ k) : HdS (SKr F' w') w' PL := (h.kp o fun k hk hg => hk.1 (hG k hg)).sup (SKr.mvA o hF)
theorem HdS.add (h : HdS S w PL) (hx : SliceOf S 5 KN0.R w (.slice x.A x.l.length x.c) x.l) : HdS S w (PL ++ [x]) := fun r hr => by
 rcases List.mem_append.1 hr with h1 | h1
 · exact h r h1
 · rw [List.mem_singleton.1 h1]; exact hx
theorem hd_new (hS : SliceOf (geB b) 5 KN0.R w v l) (hF : ∀ k, F k → k < b) : SliceOf (SKr F w) 5 KN0.R w v l :=
 (SliceOf.lt2 (K := KN0) hS).sup fun k hk => ⟨fun hf => absurd (hF k hf) (Nat.not_lt.2 hk.1), hk.2⟩
theorem FS.p (k : Nat) (h : ownF vP k) : FS vP vF g k := .inl h
theorem FS.f (k : Nat) (h : ownF vF k) : FS vP vF g k := .inr (.inl h)
theorem FS.g_ (k : Nat) (h : oneF g k) : FS vP vF g k := .inr (.inr h)
theorem FS.lt (h1 : ∀ k, ownF vP k → k < b) (h2 : ∀ k, ownF vF k → k < b) (h3 : g < b) : ∀ k, FS vP vF g k → k < b := fun k h => h.elim (h1 k) fun h => h.elim (h2 k) fun h => by rw [h]; exact h3
theorem FS.apP (h : ∀ k, ownF vP' k → ownF vP k ∨ b ≤ k) : ∀ k, FS vP' vF g k → FS vP vF g k ∨ b ≤ k := fun k hk =>
 hk.elim (fun h1 => (h k h1).elim (fun h => .inl (.inl h)) .inr) fun hk => .inl (.inr hk)
theorem FS.apF (h : ∀ k, ownF vF' k → ownF vF k ∨ b ≤ k) : ∀ k, FS vP vF' g k → FS vP vF g k ∨ b ≤ k := fun k hk =>
 hk.elim (fun h1 => .inl (.inl h1)) fun hk => hk.elim (fun h1 => (h k h1).elim (fun h => .inl (.inr (.inl h))) .inr) fun h => .inl (.inr (.inr h))
theorem HdS.nil : HdS S w [] := fun r hr => by cases hr
end
theorem Row.ownS {α : Type} (K : Row α) {w : World} {base n0 c : Nat} {e : TypeId} {A : Option Addr} {L : List α} (h : w.ownsRow base e K.size (.slice A n0 c) n0 (L.flatMap K.cells)) (hl : L.length = n0) (ho : ∀ z ∈ L, K.ok z) : SliceOf (ownF (.slice A n0 c)) K.size K.R w (.slice A n0 c) L := by
 subst hl
 exact SliceOf.of_own (R := K.R) h fun i x hx => by
  obtain ⟨hi, rfl⟩ := List.getElem?_eq_some_iff.1 hx
  exact ⟨flat_get K L i hi, ho _ (List.getElem_mem hi)⟩
theorem elemSN : ElemIs Tryz.prog 77 22 1 24 := by
 obtain ⟨i, h1, h2, h3, h4⟩ := info_parts (show (Tryz.prog.info? 22).map (fun i => (i.zero, i.size, i.bytes)) = some (some (.slice none 0 0), 1, 24) by kernel_rfl)
 exact ⟨Tryz.underlying77, i, _, h1, h2, h3, h4, rfl⟩
theorem elemB : ElemIs Tryz.prog 78 4 1 1 := by
 obtain ⟨i, h1, h2, h3, h4⟩ := info_parts (show (Tryz.prog.info? 4).map (fun i => (i.zero, i.size, i.bytes)) = some (some (.bool false), 1, 1) by kernel_rfl)
 exact ⟨Tryz.underlying78, i, _, h1, h2, h3, h4, rfl⟩
theorem build_State1 (A : Option Addr) (n c : Nat) (w : World) : (Instr.build 80 #[(0, .slice A n c)]).run Tryz.prog w = .ok (.agg #[.slice A n c, .slice none 0 0, .slice none 0 0, .slice none 0 0]) w := by kernel_rfl
section
variable {l P : List NM} {H : List HR} {PL : List NR} {FL : List Bool} {i : Nat} {n : Int} {A : Option Addr} {c : Nat} {f : Bool}
theorem o0_step (hH : H.map hm = (houN (joinN l)).take i) (hn : (hseq (joinN l))[i]? = some n) (hP : P.map ns = pastOfN (joinN l) n) : (H ++ [(⟨n, A, P, c, hasI (forksN (joinN l)) n, 0⟩ : HR)]).map hm = (houN (joinN l)).take (i + 1) := by
 have hU := join_up l
 rw [hseq_hou, List.getElem?_map] at hn
 cases hy : (houN (joinN l))[i]? with
 | none => rw [hy] at hn; cases hn
 | some y =>
  rw [hy] at hn
  have hyn : y.h = n := Option.some.inj hn
  have h1 := ((hou_iff hU y).1 (List.mem_of_getElem? hy)).1
  rw [take_succ_get hy, List.map_append, hH]
  congr 1
  rw [h1, hyn]
  show [(⟨n, P.map ns, hasI (forksN (joinN l)) n, 0⟩ : HM)] = [houOf (joinN l) n]
  unfold houOf
  rw [hP, past_of hU]
  have : hasI (forksN (joinN l)) n = adjN (ofN (joinN l) n) := by
   unfold hasI
   cases e : adjN (ofN (joinN l) n)
   · exact decide_eq_false fun h => by rw [(forks_iff hU n).1 h] at e; cases e
   · exact decide_eq_true ((forks_iff hU n).2 e)
  rw [this]
theorem o0_pl (hPL : PL = H.map hpr) (x : HR) : PL ++ [(⟨x.A, x.p, x.c⟩ : NR)] = (H ++ [x]).map hpr := by rw [hPL, List.map_append]; rfl
theorem o0_fl (hFL : FL = H.map (·.f)) (x : HR) : FL ++ [x.f] = (H ++ [x]).map (·.f) := by rw [hFL, List.map_append]; rfl
theorem o0_mem {L : List NM} (h : ∀ r ∈ PL, ∀ y ∈ r.l, y ∈ L) {x : NR} (hx : ∀ y ∈ x.l, y ∈ L) : ∀ r ∈ PL ++ [x], ∀ y ∈ r.l, y ∈ L := fun r hr => by
 rcases List.mem_append.1 hr with h1 | h1
 · exact h r h1
 · rw [List.mem_singleton.1 h1]; exact hx
end
section
variable {l O : List NM} {H HH : List HR} {PL : List NR} {TL T2 : List Int} {N0 : List Int} {i n k q : Nat} {y z : HR} {m x : NM} {o : Option Nat} {r : NR} {t : Int}
theorem o1_tl (hN : N0 = List.replicate n 0) (hH : H.map hm = houN (joinN l)) (hl : H.length = n) : N0 = H.map fun y => (y.t : Int) := by
 rw [hN]
 refine (List.eq_replicate_iff.2 ⟨by rw [List.length_map]; exact hl, fun b hb => ?_⟩).symm
 obtain ⟨y, hy, rfl⟩ := List.mem_map.1 hb
 have h1 : hm y ∈ houN (joinN l) := by rw [← hH]; exact List.mem_map_of_mem hy
 have h2 : y.t = 0 := (hou_t _ _ (hm y) h1).1
 rw [h2]; rfl
theorem o1_bnd (hH : H.map hm = houN (joinN l)) : ∀ y ∈ H, y.t ≤ y.p.length ∧ y.p.length ≤ 400 := fun y hy => by
 have h1 : hm y ∈ houN (joinN l) := by rw [← hH]; exact List.mem_map_of_mem hy
 have h2 : y.t = 0 := (hou_t _ _ (hm y) h1).1
 have h3 := ((hou_iff (join_up l) (hm y)).1 h1).1
 have h4 : y.p.map ns = pastN (ofN (joinN l) y.h) := congrArg HM.p h3
 have h5 := congrArg List.length h4
 rw [List.length_map] at h5
 have := past_400 (ofN (joinN l) y.h)
 omega
theorem o1_bnd2 (h : ∀ y ∈ HH, y.t ≤ y.p.length ∧ y.p.length ≤ 400) (hz : HH[q]? = some z) (hx : z.p[z.t]? = some x) : ∀ y ∈ HH.set q ⟨z.h, z.A, z.p, z.c, z.f, z.t + 1⟩, y.t ≤ y.p.length ∧ y.p.length ≤ 400 := fun y hy => by
 rcases List.mem_or_eq_of_mem_set hy with h1 | h1
 · exact h y h1
 · rw [h1]
   have h2 := h z (List.mem_of_getElem? hz)
   have h3 := (List.getElem?_eq_some_iff.1 hx).1
   exact ⟨h3, h2.2⟩
theorem set_same {α : Type} {f : HR → α} {t : Nat} (hz : HH[q]? = some z) (h : ∀ t, f ⟨z.h, z.A, z.p, z.c, z.f, t⟩ = f z) : (HH.set q ⟨z.h, z.A, z.p, z.c, z.f, t⟩).map f = HH.map f := by
 rw [List.map_set, h]
 refine List.ext_getElem? fun i => ?_
 rw [List.getElem?_set]
 split
 · rename_i e
   subst e
   split
   · rw [List.getElem?_map, hz]; rfl
   · rename_i h2
     rw [List.length_map] at h2
     exact absurd (List.getElem?_eq_some_iff.1 hz).1 h2
 · rfl
theorem o1_T (hT : TL = HH.map fun y => (y.t : Int)) (hz : HH[q]? = some z) (hN : T2 = TL.set q t) (e : t = (z.t : Int) + 1) : T2 = (HH.set q ⟨z.h, z.A, z.p, z.c, z.f, z.t + 1⟩).map fun y => (y.t : Int) := by
 rw [hN, hT, List.map_set, e]; rfl
theorem b_nr (hy : HH[k]? = some y) (hm' : y.p[y.t]? = some m) (h : readyN (HH.map hm) m = false) : bestN (HH.map hm) (k + 1) = bestN (HH.map hm) k := by
 cases e : bestN (HH.map hm) k with
 | none => exact b_b (b := false) hy hm' e h
 | some q =>
  obtain ⟨hq, hq2⟩ := best_lt e
  have hql : q < HH.length := by have := (List.getElem?_eq_some_iff.1 hy).1; omega
  have hz : HH[q]? = some (HH[q]'hql) := List.getElem?_eq_getElem hql
  generalize HH[q]'hql = z at hz
  have ht := hq2 z hz
  have hx : z.p[z.t]? = some (z.p[z.t]'ht) := List.getElem?_eq_getElem ht
  exact b_c (b := false) hy hm' e hz hx (by rw [h, Bool.and_false])
theorem o1_end (hb : bestN (HH.map hm) HH.length = none) (hr : runF (restN (HH.map hm)) (HH.map hm) (O.map ns) = runN (joinN l)) : O.map ns = orderN (joinN l) := by
 have h1 : bestN (HH.map hm) (HH.map hm).length = none := by rw [List.length_map]; exact hb
 rw [run_end h1] at hr
 unfold orderN
 rw [← hr]
end
section
variable {l O : List NM} {HH : List HR} {q : Nat} {z : HR} {m : NM}
theorem asc_hm {t : Nat} (hA : (HH.map hm).Pairwise fun a b => a.h < b.h) (hz : HH[q]? = some z) : ((HH.set q ⟨z.h, z.A, z.p, z.c, z.f, t⟩).map hm).Pairwise fun a b => a.h < b.h := by
 have h1 : ∀ L : List HR, ((L.map hm).Pairwise fun a b => a.h < b.h) ↔ (L.map (·.h)).Pairwise (· < ·) := fun L => by
  rw [List.pairwise_map, List.pairwise_map]; rfl
 rw [h1] at hA ⊢
 rw [set_same hz (fun _ => rfl)]; exact hA
theorem o1_om (h : ∀ y ∈ O, y ∈ l) (hm : m ∈ l) : ∀ y ∈ O ++ [m], y ∈ l := fun y hy => by
 rcases List.mem_append.1 hy with h1 | h1
 · exact h y h1
 · rw [List.mem_singleton.1 h1]; exact hm
theorem runF_len : ∀ (f : Nat) (hs : List HM) (out : List NM), out.length ≤ (runF f hs out).2.length
 | 0, hs, out => Nat.le_refl _
 | f + 1, hs, out => by
  unfold runF
  split
  · exact Nat.le_refl _
  · split
    · exact Nat.le_refl _
    · split
      · exact Nat.le_refl _
      · rename_i _ q _ _ y _ _ m _
        exact Nat.le_trans (by simp) (runF_len f (putN hs q y) (out ++ [m]))
theorem ol_len (hr : runF (restN (HH.map hm)) (HH.map hm) (O.map ns) = runN (joinN l)) (hl : l.length ≤ 400000) : O.length ≤ 400000 := by
 have h1 := runF_len (restN (HH.map hm)) (HH.map hm) (O.map ns)
 rw [hr, List.length_map] at h1
 exact Nat.le_trans h1 (Nat.le_trans (order_len (join_up l)) (Nat.le_trans (joinN_le l) hl))
end
theorem rOrder_v_ {w : World} {l : List NM} {A : Option Addr} {c : Nat} (t : NtV w (.slice A l.length c) l) (hl : l.length ≤ 400000) : Calls Tryz.prog 18 [.slice A l.length c].toArray w (JnTo l (orderN (joinN l)) w) := by
 refine calls_start Tryz.func18 rfl rfl ?_
 intro az Z
 rw [Tryz.ntmps18] at Z
 refine wp_seq_k fun _ k1 => wp_region_lit ?_
 refine L (r_as Z rfl) Z rfl ?_; clear Z az; intro az Z
 refine k1 _ _ (wp_seq_k fun _ k2 => wp_region_lit ?_)
 refine L (r_mv Z rfl) Z rfl ?_; clear Z az; intro az Z
 have hC7 := rHouses_v_ t hl
 refine LC Z rfl rfl Tryz.call37 (hC7) rfl ?_
 rintro e w8 ⟨A3, c4, rfl, r5, o6⟩; refine ⟨_, rfl, ?_⟩
 clear Z az; intro az Z
 have hNl := hseq_len l
 refine L (r_bd (v := .agg #[.slice A3 ((hseq (joinN l)).length) c4, .slice none (0) 0, .slice none (0) 0, .slice none (0) 0]) (build_State1 _ _ _) Z rfl) Z rfl ?_; clear Z az; intro az Z
 refine LBox Z rfl rfl rfl ?_
 clear Z az; intro g9 w10 hg13 hl14 o11 B12 az Z
 refine L (r_as Z rfl) Z rfl ?_; clear Z az; intro az Z
 refine k2 _ _ (wp_seq_k fun _ k15 => ?_)
 refine wp_seq_k fun _ k16 => wp_region_lit ?_
 refine L (r_as Z rfl) Z rfl ?_; clear Z az; intro az Z
 refine k16 _ _ ?_
 refine wp_block ?_
 refine wp_loop_m (fun mz az W => ∃ i : Nat, ∃ H : List HR, ∃ PL : List NR, ∃ FL : List Bool, ∃ Ap : Option Addr, ∃ cp : Nat, ∃ Af : Option Addr, ∃ cf : Nat, mz = (hseq (joinN l)).length - i ∧ Fr 168 [(0, .slice A (l.length) c), (3, .pointer (some ((⟨g9, 0, none⟩ : Addr)))), (4, .int .i64 ((i : Int)))] az ∧ (i ≤ (hseq (joinN l)).length) ∧ (H.map hm = (houN (joinN l)).take i) ∧ (H.length = i) ∧ (PL = H.map hpr) ∧ (FL = H.map (·.f)) ∧ (∀ r ∈ PL, ∀ y ∈ r.l, y ∈ l) ∧ Only NoF w8 W ∧ Blk W g9 80 [.slice A3 ((hseq (joinN l)).length) c4, .slice Ap (PL.length) cp, .slice Af (FL.length) cf, .slice none (0) 0].toArray ∧ W.ownsRow w8.heap.size 22 1 (.slice Ap PL.length cp) PL.length (List.flatMap KRr.cells PL) ∧ W.ownsRow w8.heap.size 4 1 (.slice Af FL.length cf) FL.length (List.flatMap KBool.cells FL) ∧ HdS (SKr (FS (.slice Ap PL.length cp) (.slice Af FL.length cf) g9) W) W PL) ?_ ?_
 ·
  exact ⟨_, 0, [], [], [], none, 0, none, 0, rfl, Z.cut ⟨rfl, rfl, rfl, trivial⟩, Nat.zero_le _, rfl, rfl, rfl, rfl, (fun r hr => by cases hr), o11, B12, (World.ownsRow_nil _ _ _ _), (World.ownsRow_nil _ _ _ _), HdS.nil⟩
 clear Z az
 rintro mz az w17 ⟨i, H, PL, FL, Ap, cp, Af, cf, hm19, Z, hi, hH, hHl, hPL, hFL, hPm, o18, B20, rP, rF, hHd⟩
 have hPll : PL.length = i := by rw [hPL, List.length_map]; exact hHl
 have hFll : FL.length = i := by rw [hFL, List.length_map]; exact hHl
 refine wp_seq_k fun _ k21 => ?_
 refine wp_seq_k fun _ k22 => wp_region_lit ?_
 refine L (r_mv Z rfl) Z rfl ?_; clear Z az; intro az Z
 refine L (r_mv Z rfl) Z rfl ?_; clear Z az; intro az Z
 refine L (r_nilP Z rfl) Z rfl ?_; clear Z az; intro az Z
 refine L (r_fa (m' := 0) Tryz.underlying80 rfl Tryz.sizeOf30 rfl Z rfl rfl) Z rfl ?_; clear Z az; intro az Z
 refine L (r_ld Tryz.isAgg30 Z rfl ((Blk.ca B20) 0 _ rfl)) Z rfl ?_; clear Z az; intro az Z
 refine L (r_lenL Tryz.underlying30 Z rfl) Z rfl ?_; clear Z az; intro az Z
 refine L (r_ltI Z rfl rfl) Z rfl ?_; clear Z az; intro az Z
 refine k22 _ _ ?_
 refine br Z rfl (fun hc23 => ?_) (fun hc23 => ?_)
 ·
  have p24 := of_decide_eq_true hc23
  refine wp_skip ?_
  refine k21 _ _ (wp_seq_k fun _ k25 => ?_)
  refine wp_block ?_
  refine wp_seq_k fun _ k26 => ?_
  refine reg_q2 (ownF (.slice Ap (PL.length) cp)) (orF (ownF (.slice Ap (PL.length) cp)) (oneF g9)) 2 3 [13, 14, 15, 18] (.rd 0 (.rd 1 (.rd 2 (.rd 3 (.rd 4 (.rd 5 (.rd 6 (.rd 7 (.rd 8 (.rd 9 (.rd 10 (.rd 11 (.rd 12 (.ex 13 (.ex 14 (.ex 15 (.rd 16 (.rd 17 (.ex 18 .nil))))))))))))))))))) (by kernel_rfl) (by kernel_rfl) (fun _ _ _ _ _ h => h) fun w27 o28 => ?_
  have B29 := (Blk.k B20 o28)
  refine Pq.MSP (b := 1) (by kernel_rfl) (fun W oW => r_mv Z rfl) Z rfl rfl ?_; clear Z az; intro az Z
  refine Pq.MSP (b := 1) (by kernel_rfl) (fun W oW => r_mv Z rfl) Z rfl rfl ?_; clear Z az; intro az Z
  refine Pq.MSP (b := 1) (by kernel_rfl) (fun W oW => r_nilP Z rfl) Z rfl rfl ?_; clear Z az; intro az Z
  refine Pq.MSP (b := 1) (by kernel_rfl) (fun W oW => r_fa (m' := 1) Tryz.underlying80 rfl Tryz.sizeOf77 rfl Z rfl rfl) Z rfl rfl ?_; clear Z az; intro az Z
  refine Pq.MSP (b := 0) (by kernel_rfl) (fun W oW => r_ld Tryz.isAgg77 Z rfl ((Blk.ca (Blk.k B29 oW)) 1 _ rfl)) Z rfl rfl ?_; clear Z az; intro az Z
  refine Pq.MSP (b := 0) (by kernel_rfl) (fun W oW => r_mv Z rfl) Z rfl rfl ?_; clear Z az; intro az Z
  refine Pq.MSP (b := 1) (by kernel_rfl) (fun W oW => r_mv Z rfl) Z rfl rfl ?_; clear Z az; intro az Z
  refine Pq.MSP (b := 1) (by kernel_rfl) (fun W oW => r_nilP Z rfl) Z rfl rfl ?_; clear Z az; intro az Z
  refine Pq.MSP (b := 1) (by kernel_rfl) (fun W oW => r_fa (m' := 0) Tryz.underlying80 rfl Tryz.sizeOf30 rfl Z rfl rfl) Z rfl rfl ?_; clear Z az; intro az Z
  have r30 := (ow_k rP o28)
  refine Pq.MSP (b := 1) (by kernel_rfl) (fun W oW => r_ld Tryz.isAgg30 Z rfl ((Blk.ca (Blk.only B29 oW (ow_nb r30 B29 (by decide)))) 0 _ rfl)) Z rfl rfl ?_; clear Z az; intro az Z
  refine Pq.MSP (b := 1) (by kernel_rfl) (fun W oW => r_mv Z rfl) Z rfl rfl ?_; clear Z az; intro az Z
  have h31 := Row.own KInt r5 (hseq_ok l)
  have hk32 : i < ((hseq (joinN l))).length := by omega
  have O38 : Only NoF w8 w27 := (Only.trans' o18 o28)
  have h39 := (SliceOf.kp h31 O38 (fun _ _ h => h) (fun _ _ _ _ h => h))
  obtain ⟨m33, hm34, ok35, hA36⟩ := Row.el KInt h39 hk32
  have E37 : ∀ W, Only NoF w27 W → CA W (eA A3 1 (i)) [.int .i64 (m33)] := Row.ce KInt h39 hm34 rfl
  refine Pq.MSP (b := 1) (by kernel_rfl) (fun W oW => r_ia (k := i) (size := 1) Tryz.underlying30 Tryz.sizeOf3 Z rfl rfl rfl hk32 hA36) Z rfl rfl ?_; clear Z az; intro az Z
  refine Pq.MSP (b := 0) (by kernel_rfl) (fun W oW => r_ld Tryz.isAgg3 Z rfl (CA.first (E37 _ (Only.trans' (Only.refl NoF w27) oW)))) Z rfl rfl ?_; clear Z az; intro az Z
  have O48 : Only NoF w w27 := (Only.trans' (Only.trans' o6 o18) o28)
  have hC49 := rPast_v_ (NtV.k t O48) hl m33
  refine Pq.MSC Z rfl rfl rfl Tryz.call16 (hC49) rfl ?_
  rintro e w50 ⟨A40, c41, P42, rfl, hP43, hS44, hN45, hM46, o47⟩; refine ⟨_, rfl, ⟨(fun _ => o47), (fun _ => (Only.trans (Only.refl (ownF (.slice Ap (PL.length) cp)) w27) o47 (fun _ h => h.elim))), (Only.trans (Only.refl (orF (ownF (.slice Ap (PL.length) cp)) (oneF g9)) w27) o47 (fun _ h => h.elim))⟩, ?_⟩
  clear Z az; intro az Z
  obtain ⟨A51, w52, hw, hA, r53, o54⟩ := Row.made (w := w50) KRr (e := 22) ([(⟨A40, P42, c41⟩ : NR)] : List NR) (by simp only [List.length_cons, List.length_nil]; unfold maxLen; omega)
  refine Pq.MD (r_bs (z := .slice none (0) 0) (size := 1) (vs := [(0, .slice A40 (P42.length) c41)]) (cs := List.flatMap KRr.cells [(⟨A40, P42, c41⟩ : NR)]) Tryz.underlying77 Tryz.sizeOf22 Tryz.zeroValue22 rfl (Fr.evalps Z rfl) (by kernel_rfl)) Z rfl rfl ?_ ?_
  · rw [← hw]; exact ⟨(fun _ => (Only.trans' o47 o54)), (fun _ => (Only.trans (Only.trans (Only.refl (ownF (.slice Ap (PL.length) cp)) w27) o47 (fun _ h => h.elim)) o54 (fun _ h => h.elim))), (Only.trans (Only.trans (Only.refl (orF (ownF (.slice Ap (PL.length) cp)) (oneF g9)) w27) o47 (fun _ h => h.elim)) o54 (fun _ h => h.elim))⟩
  rw [← hw, ← hA]; clear Z az; intro az Z
  clear hw hA
  have ok55 : ∀ zq ∈ ([(⟨A40, P42, c41⟩ : NR)] : List NR), KRr.ok zq := by intro zq hx; simp only [List.mem_cons, List.not_mem_nil, or_false] at hx; rcases hx with rfl <;> first | exact trivial
  have O57 : Only NoF w17 w52 := (Only.trans' (Only.trans' o28 o47) o54)
  have ho56 := (HdS.mv hHd O57 (fun _ h => h.elim))
  have r59 := (ow_k rF o28)
  have hx58 : SliceOf (SKr (FS (.slice Ap (PL.length) cp) (.slice Af (FL.length) cf) g9) w52) 5 KN0.R w52 (.slice A40 (P42.length) c41) P42 := hd_new (SliceOf.kp hS44 o54 (fun _ _ h => h) (fun _ _ _ _ h => h)) (FS.lt (ownF_lt r30) (ownF_lt r59) (Blk.lt B29))
  have r60 := (ow_k (ow_k r30 o47) o54)
  have h61 := SliceOf.pl (Row.own KRr r53 ok55)
  have hb69 : (List.length (PL) + List.length ([(⟨A40, P42, c41⟩ : NR)])) * 24 ≤ 140737488355328 := by (simp only [List.length_append, List.length_cons, List.length_nil]; omega)
  have O70 : Only NoF w8 w52 := (Only.trans' (Only.trans' O38 o47) o54)
  obtain ⟨A62, c63, w64, hr65, r66, o67, al68⟩ := Row.app (P := Tryz.prog) (l := PL) (l2 := [(⟨A40, P42, c41⟩ : NR)]) KRr elemSN r60 h61 hb69 (by unfold maxLen; omega) (size_only O70)
  refine Pq.MD (r_app hr65 Z rfl rfl) Z rfl rfl ?_ ?_
  · exact ⟨(fun h => absurd h (by decide)), (fun _ => (Only.trans (Only.trans (Only.trans (Only.refl (ownF (.slice Ap (PL.length) cp)) w27) o47 (fun _ h => h.elim)) o54 (fun _ h => h.elim)) o67 (fun _ h => .inl h))), (Only.trans (Only.trans (Only.trans (Only.refl (orF (ownF (.slice Ap (PL.length) cp)) (oneF g9)) w27) o47 (fun _ h => h.elim)) o54 (fun _ h => h.elim)) o67 (fun _ h => .inl (.inl h)))⟩
  clear Z az; intro az Z
  have ok71 : ∀ zq ∈ (PL ++ [(⟨A40, P42, c41⟩ : NR)]), KRr.ok zq := (fun x hx => (List.mem_append.1 hx).elim ((fun _ _ => trivial) x) ((Row.oks KRr h61) x))
  have h72 := Row.own KRr r66 ok71
  have ho73 : HdS (SKr (FS (.slice A62 (((PL ++ [(⟨A40, P42, c41⟩ : NR)])).length) c63) (.slice Af (FL.length) cf) g9) w64) w64 (PL ++ [(⟨A40, P42, c41⟩ : NR)]) := HdS.mvA (HdS.add ho56 (x := ⟨A40, P42, c41⟩) hx58) o67 FS.p (FS.apP (fun k h => (app_Fg al68 h).elim .inl (fun h => .inr (by omega))))
  refine Pq.MSP (b := 2) (by kernel_rfl) (fun W oW => r_nilP Z rfl) Z rfl rfl ?_; clear Z az; intro az Z
  refine Pq.MSP (b := 1) (by kernel_rfl) (fun W oW => r_fa (m' := 1) Tryz.underlying80 rfl Tryz.sizeOf77 rfl Z rfl rfl) Z rfl rfl ?_; clear Z az; intro az Z
  have ho74 := ho73
  have B75 := (Blk.only (Blk.k (Blk.k B29 o47) o54) o67 (ow_nb r60 (Blk.k (Blk.k B29 o47) o54) (by decide)))
  refine Pq.MSS (cs' := [.slice A3 ((hseq (joinN l)).length) c4, .slice A62 (((PL ++ [(⟨A40, P42, c41⟩ : NR)])).length) c63, .slice Af (FL.length) cf, .slice none (0) 0]) Tryz.sizeOf77 Z rfl rfl rfl rfl rfl rfl ⟨rfl, trivial⟩ B75 rfl rfl fun w76 s77 B78 => ?_
  refine ⟨⟨(fun h => absurd h (by decide)), (fun h => absurd h (by decide)), (Only.trans (Only.trans (Only.trans (Only.trans (Only.refl (orF (ownF (.slice Ap (PL.length) cp)) (oneF g9)) w27) o47 (fun _ h => h.elim)) o54 (fun _ h => h.elim)) o67 (fun _ h => .inl (.inl h))) s77 (fun _ h => .inl (.inr h)))⟩, ?_⟩
  have ho79 := HdS.mv ho74 s77 FS.g_
  refine wpPl_nil ?_
  refine k26 _ _ ?_
  refine reg_q2 (ownF (.slice Af (FL.length) cf)) (orF (ownF (.slice Af (FL.length) cf)) (oneF g9)) 2 3 [13, 14, 15, 18] (.rd 0 (.rd 1 (.rd 2 (.rd 3 (.rd 4 (.rd 5 (.rd 6 (.rd 7 (.rd 8 (.rd 9 (.rd 10 (.rd 11 (.rd 12 (.ex 13 (.ex 14 (.ex 15 (.rd 16 (.rd 17 (.ex 18 .nil))))))))))))))))))) (by kernel_rfl) (by kernel_rfl) (fun _ _ _ _ _ h => h) fun w80 o81 => ?_
  have B82 := (Blk.k B78 o81)
  refine Pq.MSP (b := 1) (by kernel_rfl) (fun W oW => r_mv Z rfl) Z rfl rfl ?_; clear Z az; intro az Z
  refine Pq.MSP (b := 1) (by kernel_rfl) (fun W oW => r_mv Z rfl) Z rfl rfl ?_; clear Z az; intro az Z
  refine Pq.MSP (b := 1) (by kernel_rfl) (fun W oW => r_nilP Z rfl) Z rfl rfl ?_; clear Z az; intro az Z
  refine Pq.MSP (b := 1) (by kernel_rfl) (fun W oW => r_fa (m' := 2) Tryz.underlying80 rfl Tryz.sizeOf78 rfl Z rfl rfl) Z rfl rfl ?_; clear Z az; intro az Z
  refine Pq.MSP (b := 0) (by kernel_rfl) (fun W oW => r_ld Tryz.isAgg78 Z rfl ((Blk.ca (Blk.k B82 oW)) 2 _ rfl)) Z rfl rfl ?_; clear Z az; intro az Z
  refine Pq.MSP (b := 0) (by kernel_rfl) (fun W oW => r_mv Z rfl) Z rfl rfl ?_; clear Z az; intro az Z
  refine Pq.MSP (b := 1) (by kernel_rfl) (fun W oW => r_mv Z rfl) Z rfl rfl ?_; clear Z az; intro az Z
  refine Pq.MSP (b := 1) (by kernel_rfl) (fun W oW => r_nilP Z rfl) Z rfl rfl ?_; clear Z az; intro az Z
  refine Pq.MSP (b := 1) (by kernel_rfl) (fun W oW => r_fa (m' := 0) Tryz.underlying80 rfl Tryz.sizeOf30 rfl Z rfl rfl) Z rfl rfl ?_; clear Z az; intro az Z
  have r83 := (ow_k (ow_only (ow_only (ow_k (ow_k r59 o47) o54) o67 (ow_ne (ow_k (ow_k r59 o47) o54) r60 (by decide))) s77 (fun k hk hF => ow_nb (ow_only (ow_k (ow_k r59 o47) o54) o67 (ow_ne (ow_k (ow_k r59 o47) o54) r60 (by decide))) B75 (by decide) (by rw [show k = g9 from hF] at hk; exact hk))) o81)
  refine Pq.MSP (b := 1) (by kernel_rfl) (fun W oW => r_ld Tryz.isAgg30 Z rfl ((Blk.ca (Blk.only B82 oW (ow_nb r83 B82 (by decide)))) 0 _ rfl)) Z rfl rfl ?_; clear Z az; intro az Z
  refine Pq.MSP (b := 1) (by kernel_rfl) (fun W oW => r_mv Z rfl) Z rfl rfl ?_; clear Z az; intro az Z
  refine Pq.MSP (b := 1) (by kernel_rfl) (fun W oW => r_ia (k := i) (size := 1) Tryz.underlying30 Tryz.sizeOf3 Z rfl rfl rfl hk32 hA36) Z rfl rfl ?_; clear Z az; intro az Z
  have O84 : Only NoF w8 w80 := (Only.trans' (o_sg (o_sg O70 o67 (Nat.le_refl _) (ownF_ge rP)) s77 (Nat.le_refl _) (oneF_ge hg13)) o81)
  have h85 := (SliceOf.kp h31 O84 (fun _ _ h => h) (fun _ _ _ _ h => h))
  have h86 := SliceOf.pl h85
  have E87 := Row.ce KInt h86 hm34 rfl
  refine Pq.MSP (b := 0) (by kernel_rfl) (fun W oW => r_ld Tryz.isAgg3 Z rfl (CA.first (E87 _ (Only.trans' (Only.refl NoF w80) oW)))) Z rfl rfl ?_; clear Z az; intro az Z
  have O88 : Only NoF w w80 := (Only.trans' (o_sg (o_sg (Only.trans' (Only.trans' O48 o47) o54) o67 (size_only o6) (ownF_ge rP)) s77 (size_only o6) (oneF_ge hg13)) o81)
  refine Pq.MSV (v := .bool (hasI (forksN (joinN l)) m33)) Z rfl rfl rfl Tryz.call38 (rForked_v_ (NtV.k t O88) hl m33) rfl (fun w' o' => ⟨(fun _ => o'), (fun _ => (Only.trans (Only.refl (ownF (.slice Af (FL.length) cf)) w80) o' (fun _ h => h.elim))), (Only.trans (Only.refl (orF (ownF (.slice Af (FL.length) cf)) (oneF g9)) w80) o' (fun _ h => h.elim))⟩) fun w89 o90 => ?_; clear Z az; intro az Z
  obtain ⟨A91, w92, hw, hA, r93, o94⟩ := Row.made (w := w89) KBool (e := 4) ([hasI (forksN (joinN l)) m33] : List Bool) (by simp only [List.length_cons, List.length_nil]; unfold maxLen; omega)
  refine Pq.MD (r_bs (z := .bool (false)) (size := 1) (vs := [(0, .bool (hasI (forksN (joinN l)) m33))]) (cs := List.flatMap KBool.cells [hasI (forksN (joinN l)) m33]) Tryz.underlying78 Tryz.sizeOf4 Tryz.zeroValue4 rfl (Fr.evalps Z rfl) (by kernel_rfl)) Z rfl rfl ?_ ?_
  · rw [← hw]; exact ⟨(fun _ => (Only.trans' o90 o94)), (fun _ => (Only.trans (Only.trans (Only.refl (ownF (.slice Af (FL.length) cf)) w80) o90 (fun _ h => h.elim)) o94 (fun _ h => h.elim))), (Only.trans (Only.trans (Only.refl (orF (ownF (.slice Af (FL.length) cf)) (oneF g9)) w80) o90 (fun _ h => h.elim)) o94 (fun _ h => h.elim))⟩
  rw [← hw, ← hA]; clear Z az; intro az Z
  clear hw hA
  have ok95 : ∀ zq ∈ ([hasI (forksN (joinN l)) m33] : List Bool), KBool.ok zq := by intro zq hx; simp only [List.mem_cons, List.not_mem_nil, or_false] at hx; rcases hx with rfl <;> first | exact trivial
  have O97 : Only NoF w76 w92 := (Only.trans' (Only.trans' o81 o90) o94)
  have ho96 := (HdS.mv ho79 O97 (fun _ h => h.elim))
  have r98 := (ow_k (ow_k r83 o90) o94)
  have h99 := SliceOf.pl (Row.own KBool r93 ok95)
  have hb107 : (List.length (FL) + List.length ([hasI (forksN (joinN l)) m33])) * 1 ≤ 140737488355328 := by (simp only [List.length_append, List.length_cons, List.length_nil]; omega)
  have O108 : Only NoF w8 w92 := (Only.trans' (Only.trans' O84 o90) o94)
  obtain ⟨A100, c101, w102, hr103, r104, o105, al106⟩ := Row.app (P := Tryz.prog) (l := FL) (l2 := [hasI (forksN (joinN l)) m33]) KBool elemB r98 h99 hb107 (by unfold maxLen; omega) (size_only O108)
  refine Pq.MD (r_app hr103 Z rfl rfl) Z rfl rfl ?_ ?_
  · exact ⟨(fun h => absurd h (by decide)), (fun _ => (Only.trans (Only.trans (Only.trans (Only.refl (ownF (.slice Af (FL.length) cf)) w80) o90 (fun _ h => h.elim)) o94 (fun _ h => h.elim)) o105 (fun _ h => .inl h))), (Only.trans (Only.trans (Only.trans (Only.refl (orF (ownF (.slice Af (FL.length) cf)) (oneF g9)) w80) o90 (fun _ h => h.elim)) o94 (fun _ h => h.elim)) o105 (fun _ h => .inl (.inl h)))⟩
  clear Z az; intro az Z
  have ok109 : ∀ zq ∈ (FL ++ [hasI (forksN (joinN l)) m33]), KBool.ok zq := (fun x hx => (List.mem_append.1 hx).elim ((fun _ _ => trivial) x) ((Row.oks KBool h99) x))
  have h110 := Row.own KBool r104 ok109
  have ho111 : HdS (SKr (FS (.slice A62 (((PL ++ [(⟨A40, P42, c41⟩ : NR)])).length) c63) (.slice A100 (((FL ++ [hasI (forksN (joinN l)) m33])).length) c101) g9) w102) w102 (PL ++ [(⟨A40, P42, c41⟩ : NR)]) := HdS.mvA ho96 o105 FS.f (FS.apF (fun k h => (app_Fg al106 h).elim .inl (fun h => .inr (by omega))))
  refine Pq.MSP (b := 2) (by kernel_rfl) (fun W oW => r_nilP Z rfl) Z rfl rfl ?_; clear Z az; intro az Z
  refine Pq.MSP (b := 1) (by kernel_rfl) (fun W oW => r_fa (m' := 2) Tryz.underlying80 rfl Tryz.sizeOf78 rfl Z rfl rfl) Z rfl rfl ?_; clear Z az; intro az Z
  have ho112 := ho111
  have B113 := (Blk.only (Blk.k (Blk.k B82 o90) o94) o105 (ow_nb r98 (Blk.k (Blk.k B82 o90) o94) (by decide)))
  refine Pq.MSS (cs' := [.slice A3 ((hseq (joinN l)).length) c4, .slice A62 (((PL ++ [(⟨A40, P42, c41⟩ : NR)])).length) c63, .slice A100 (((FL ++ [hasI (forksN (joinN l)) m33])).length) c101, .slice none (0) 0]) Tryz.sizeOf78 Z rfl rfl rfl rfl rfl rfl ⟨rfl, trivial⟩ B113 rfl rfl fun w114 s115 B116 => ?_
  refine ⟨⟨(fun h => absurd h (by decide)), (fun h => absurd h (by decide)), (Only.trans (Only.trans (Only.trans (Only.trans (Only.refl (orF (ownF (.slice Af (FL.length) cf)) (oneF g9)) w80) o90 (fun _ h => h.elim)) o94 (fun _ h => h.elim)) o105 (fun _ h => .inl (.inl h))) s115 (fun _ h => .inl (.inr h)))⟩, ?_⟩
  have ho117 := HdS.mv ho112 s115 FS.g_
  refine wpPl_nil ?_
  refine k25 _ _ ?_
  refine wp_region_lit ?_
  refine L (r_mv Z rfl) Z rfl ?_; clear Z az; intro az Z
  have i118 : I64 (((i : Int) + 1)) := by unfold I64; omega
  refine L (r_addI (r := ((i : Int) + 1)) Z rfl rfl rfl i118) Z rfl ?_; clear Z az; intro az Z
  refine L (r_as Z rfl) Z rfl ?_; clear Z az; intro az Z
  have O119 : Only NoF w8 w114 := (o_sg (o_sg O108 o105 (Nat.le_refl _) (ownF_ge rF)) s115 (Nat.le_refl _) (oneF_ge hg13))
  have r120 := (ow_only (ow_only (ow_k (ow_k (ow_k (ow_only r66 s77 (fun k hk hF => ow_nb r66 B75 (by decide) (by rw [show k = g9 from hF] at hk; exact hk))) o81) o90) o94) o105 (ow_ne (ow_k (ow_k (ow_k (ow_only r66 s77 (fun k hk hF => ow_nb r66 B75 (by decide) (by rw [show k = g9 from hF] at hk; exact hk))) o81) o90) o94) r98 (by decide))) s115 (fun k hk hF => ow_nb (ow_only (ow_k (ow_k (ow_k (ow_only r66 s77 (fun k hk hF => ow_nb r66 B75 (by decide) (by rw [show k = g9 from hF] at hk; exact hk))) o81) o90) o94) o105 (ow_ne (ow_k (ow_k (ow_k (ow_only r66 s77 (fun k hk hF => ow_nb r66 B75 (by decide) (by rw [show k = g9 from hF] at hk; exact hk))) o81) o90) o94) r98 (by decide))) B113 (by decide) (by rw [show k = g9 from hF] at hk; exact hk)))
  have r121 := (ow_only r104 s115 (fun k hk hF => ow_nb r104 B113 (by decide) (by rw [show k = g9 from hF] at hk; exact hk)))
  exact ⟨_, (by omega), i + 1, H ++ [⟨m33, A40, P42, c41, hasI (forksN (joinN l)) m33, 0⟩], (PL ++ [(⟨A40, P42, c41⟩ : NR)]), (FL ++ [hasI (forksN (joinN l)) m33]), A62, c63, A100, c101, rfl, Z.cut ⟨rfl, rfl, rfl, trivial⟩, (by omega), (o0_step hH hm34 hP43), (by rw [List.length_append, hHl]; rfl), (o0_pl hPL ⟨m33, A40, P42, c41, hasI (forksN (joinN l)) m33, 0⟩), (o0_fl hFL ⟨m33, A40, P42, c41, hasI (forksN (joinN l)) m33, 0⟩), (o0_mem hPm hM46), O119, B116, r120, r121, ho117⟩
 ·
  have p122 := of_decide_eq_false hc23
  refine wp_exit ?_
  refine th_exit ?_
  refine th_exit ?_
  refine ib_hit ?_
  refine k15 _ _ (wp_seq_k fun _ k123 => wp_region_lit ?_)
  refine L (r_mv Z rfl) Z rfl ?_; clear Z az; intro az Z
  refine L (r_mv Z rfl) Z rfl ?_; clear Z az; intro az Z
  refine L (r_nilP Z rfl) Z rfl ?_; clear Z az; intro az Z
  refine L (r_fa (m' := 0) Tryz.underlying80 rfl Tryz.sizeOf30 rfl Z rfl rfl) Z rfl ?_; clear Z az; intro az Z
  refine L (r_ld Tryz.isAgg30 Z rfl ((Blk.ca B20) 0 _ rfl)) Z rfl ?_; clear Z az; intro az Z
  refine L (r_lenL Tryz.underlying30 Z rfl) Z rfl ?_; clear Z az; intro az Z
  have hs124 : HdS (fun k => k ≠ g9 ∧ k < w17.heap.size) w17 PL := HdS.sup hHd (fun k hk => ⟨fun e => hk.1 (.inr (.inr e)), hk.2⟩)
  obtain ⟨A125, w126, hw, hA, r127, o128⟩ := Row.madeN (w := w17) KInt (e := 3) (l := List.replicate (hseq (joinN l)).length (0 : Int)) (m := (hseq (joinN l)).length) List.length_replicate (by unfold maxLen; omega)
  refine L (r_mk1 (m := (hseq (joinN l)).length) (x := (0 : Int)) (v := .int .i64 0) (b := 8) KInt Tryz.underlying30 (by kernel_rfl) (by decide) rfl rfl rfl Z rfl rfl (by first | decide | omega)) Z rfl ?_
  rw [← hw, ← hA]; clear Z az; intro az Z
  clear hw hA
  obtain ⟨N129, hN130⟩ : ∃ N0 : List Int, N0 = List.replicate (hseq (joinN l)).length (0 : Int) := ⟨_, rfl⟩
  rw [← hN130] at r127
  have hl131 : N129.length = (hseq (joinN l)).length := by rw [hN130, List.length_replicate]
  have ok132 : ∀ zq ∈ N129, KInt.ok zq := by rw [hN130]; intro zq hq; rw [List.eq_of_mem_replicate hq]; exact (by show I64 0; unfold I64; omega)
  refine L (r_nilP Z rfl) Z rfl ?_; clear Z az; intro az Z
  refine L (r_fa (m' := 3) Tryz.underlying80 rfl Tryz.sizeOf30 rfl Z rfl rfl) Z rfl ?_; clear Z az; intro az Z
  have hs133 := (HdS.kp hs124 o128 (fun _ _ h => h))
  have B134 := (Blk.k B20 o128)
  refine LSt (cs' := [.slice A3 ((hseq (joinN l)).length) c4, .slice Ap (PL.length) cp, .slice Af (FL.length) cf, .slice A125 ((hseq (joinN l)).length) (hseq (joinN l)).length]) Tryz.sizeOf30 Z rfl rfl rfl rfl rfl ⟨rfl, trivial⟩ B134 rfl rfl fun w135 s136 B137 => ?_
  have hs138 := HdS.kp hs133 s136 (fun k hk h => hk.1 h)
  refine k123 _ _ (wp_seq_k fun _ k139 => wp_region_lit ?_)
  obtain ⟨A140, w141, hw, hA, r142, o143⟩ := made0 (w := w135) (e := 43) (size := 5)
  refine L (r_bs0 Tryz.underlying22 Tryz.sizeOf43) Z rfl ?_
  rw [← hw, ← hA]; clear Z az; intro az Z
  clear hw hA
  refine L (r_as Z rfl) Z rfl ?_; clear Z az; intro az Z
  refine k139 _ _ ?_
  refine wp_block ?_
  rw [List.take_of_length_le (by rw [← List.length_map (f := (·.h)), ← hseq_hou]; omega)] at hH
  have hiN : i = (hseq (joinN l)).length := by omega
  have hTge := ownF_ge r127
  have B144 := (Blk.k B137 o143)
  refine wp_loop_m (fun mz az W => ∃ HH : List HR, ∃ TL : List Int, ∃ O : List NM, ∃ Ao : Option Addr, ∃ co : Nat, mz = restN (HH.map hm) ∧ Fr 168 [(3, .pointer (some ((⟨g9, 0, none⟩ : Addr)))), (5, .slice Ao (O.length) co)] az ∧ ((hseq (joinN l)) = HH.map (·.h)) ∧ (PL = HH.map hpr) ∧ (FL = HH.map (·.f)) ∧ (TL = HH.map fun y => (y.t : Int)) ∧ (TL.length = (hseq (joinN l)).length) ∧ ((HH.map hm).Pairwise fun a b => a.h < b.h) ∧ (runF (restN (HH.map hm)) (HH.map hm) (O.map ns) = runN (joinN l)) ∧ (∀ y ∈ O, y ∈ l) ∧ (∀ y ∈ HH, y.t ≤ y.p.length ∧ y.p.length ≤ 400) ∧ (∀ k, ownF (.slice Ao O.length co) k → w17.heap.size ≤ k) ∧ Only NoF w8 W ∧ Blk W g9 80 [.slice A3 ((hseq (joinN l)).length) c4, .slice Ap (PL.length) cp, .slice Af (FL.length) cf, .slice A125 ((hseq (joinN l)).length) (hseq (joinN l)).length].toArray ∧ W.ownsRow w8.heap.size 22 1 (.slice Ap PL.length cp) PL.length (List.flatMap KRr.cells PL) ∧ W.ownsRow w8.heap.size 4 1 (.slice Af FL.length cf) FL.length (List.flatMap KBool.cells FL) ∧ W.ownsRow w8.heap.size 3 1 (.slice A125 (hseq (joinN l)).length (hseq (joinN l)).length) (hseq (joinN l)).length (List.flatMap KInt.cells TL) ∧ W.ownsRow w8.heap.size 43 5 (.slice Ao O.length co) O.length (List.flatMap KN0.cells O) ∧ HdS (fun k => k ≠ g9 ∧ k < w17.heap.size) W PL ∧ w17.heap.size ≤ W.heap.size) ?_ ?_
  ·
   have hs145 := (HdS.kp hs138 o143 (fun _ _ h => h))
   have O146 := (Only.trans (Only.trans (Only.refl (fun _ => True) w17) o128 (fun _ _ => .inl trivial)) s136 (fun _ _ => .inl trivial))
   have O147 : Only NoF w8 w141 := (Only.trans' (o_sg (Only.trans' o18 o128) s136 (Nat.le_refl _) (oneF_ge hg13)) o143)
   have r148 := (ow_k (ow_only (ow_k rP o128) s136 (fun k hk hF => ow_nb (ow_k rP o128) B134 (by decide) (by rw [show k = g9 from hF] at hk; exact hk))) o143)
   have r149 := (ow_k (ow_only (ow_k rF o128) s136 (fun k hk hF => ow_nb (ow_k rF o128) B134 (by decide) (by rw [show k = g9 from hF] at hk; exact hk))) o143)
   have r150 := (ow_k (ow_only r127 s136 (fun k hk => ge_F (oneF_lt (Blk.lt B20)) (Nat.le_refl _) k (ownF_ge r127 k hk))) o143)
   have O151 : Only NoF w8 w135 := (o_sg (Only.trans' o18 o128) s136 (Nat.le_refl _) (oneF_ge hg13))
   have O152 := (Only.trans (Only.trans (Only.trans (Only.refl (fun _ => True) w17) o128 (fun _ _ => .inl trivial)) s136 (fun _ _ => .inl trivial)) o143 (fun _ _ => .inl trivial))
   exact ⟨_, H, N129, [], A140, 0, rfl, Z.cut ⟨rfl, rfl, trivial⟩, (by rw [hseq_hou, ← hH, List.map_map]; rfl), hPL, hFL, (o1_tl hN130 hH (hHl.trans hiN)), hl131, (by rw [hH]; exact hou_asc' (join_up l)), (by rw [hH]; rfl), (fun y hy => by cases hy), (o1_bnd hH), (fun k h => Nat.le_trans (size_only O146) (ownF_ge r142 k h)), O147, B144, r148, r149, (ow_low r150 (size_only o18)), (ow_low r142 (size_only O151)), hs145, (size_only O152)⟩
  clear Z az
  rintro mz az w153 ⟨HH, TL, O, Ao, co, hm155, Z, hNH, hPLH, hFLH, hTL, hTn, hA, hrun, hOm, hTb, hOge, o154, B156, rP1, rF1, rT, rO, hS, hwT⟩
  have hNl2 : (hseq (joinN l)).length = HH.length := by rw [hNH, List.length_map]
  have hPl2 : PL.length = HH.length := by rw [hPLH, List.length_map]
  have hFl2 : FL.length = HH.length := by rw [hFLH, List.length_map]
  have hTl2 : TL.length = HH.length := by rw [hTL, List.length_map]
  have hTok : ∀ z ∈ TL, KInt.ok z := fun z hz => by rw [hTL] at hz; obtain ⟨y, hy, rfl⟩ := List.mem_map.1 hz; have h0 := hTb y hy; show I64 _; unfold I64; omega
  have hOl : O.length ≤ 400000 := ol_len hrun hl
  refine wp_block ?_
  refine wp_seq_k fun _ k157 => wp_region_lit ?_
  refine L (r_as Z rfl) Z rfl ?_; clear Z az; intro az Z
  refine k157 _ _ (wp_seq_k fun _ k158 => ?_)
  refine wp_seq_k fun _ k159 => wp_region_lit ?_
  refine L (r_as Z rfl) Z rfl ?_; clear Z az; intro az Z
  refine k159 _ _ ?_
  refine wp_block ?_
  refine wp_loop_m (fun mz az W => ∃ i : Nat, ∃ bb : Option Nat, mz = HH.length - i ∧ Fr 168 [(3, .pointer (some ((⟨g9, 0, none⟩ : Addr)))), (5, .slice Ao (O.length) co), (7, .int .i64 ((i : Int))), (6, .int .i64 ((bst bb)))] az ∧ (i ≤ HH.length) ∧ (bestN (HH.map hm) i = bb) ∧ Only NoF w153 W) ?_ ?_
  ·
   exact ⟨_, 0, none, rfl, Z.cut ⟨rfl, rfl, rfl, rfl, trivial⟩, Nat.zero_le _, rfl, (Only.refl NoF w153)⟩
  clear Z az
  rintro mz az w160 ⟨i, bb, hm162, Z, hi2, hb, o161⟩
  refine wp_seq_k fun _ k163 => ?_
  refine wp_seq_k fun _ k164 => wp_region_lit ?_
  refine L (r_mv Z rfl) Z rfl ?_; clear Z az; intro az Z
  refine L (r_mv Z rfl) Z rfl ?_; clear Z az; intro az Z
  refine L (r_nilP Z rfl) Z rfl ?_; clear Z az; intro az Z
  refine L (r_fa (m' := 0) Tryz.underlying80 rfl Tryz.sizeOf30 rfl Z rfl rfl) Z rfl ?_; clear Z az; intro az Z
  have B165 := (Blk.k B156 o161)
  refine L (r_ld Tryz.isAgg30 Z rfl ((Blk.ca B165) 0 _ rfl)) Z rfl ?_; clear Z az; intro az Z
  refine L (r_lenL Tryz.underlying30 Z rfl) Z rfl ?_; clear Z az; intro az Z
  refine L (r_ltI Z rfl rfl) Z rfl ?_; clear Z az; intro az Z
  refine k164 _ _ ?_
  refine br Z rfl (fun hc166 => ?_) (fun hc166 => ?_)
  ·
   have p167 := of_decide_eq_true hc166
   refine wp_skip ?_
   refine k163 _ _ (wp_seq_k fun _ k168 => ?_)
   refine wp_block ?_
   refine wp_seq_k fun _ k169 => ?_
   refine wp_seq_k fun _ k170 => ?_
   refine reg_q [(true, 0), (true, 1), (true, 2), (true, 3), (true, 4), (true, 5), (true, 6), (true, 7), (true, 8), (true, 9), (true, 10), (true, 11), (true, 12), (true, 13), (true, 14), (true, 15)] (by kernel_rfl) (by kernel_rfl) (fun _ _ _ _ _ h => h) fun w171 o172 => ?_
   refine M (r_mv Z rfl) Z rfl rfl ?_; clear Z az; intro az Z
   refine M (r_nilP Z rfl) Z rfl rfl ?_; clear Z az; intro az Z
   refine M (r_fa (m' := 3) Tryz.underlying80 rfl Tryz.sizeOf30 rfl Z rfl rfl) Z rfl rfl ?_; clear Z az; intro az Z
   have B173 := (Blk.k B165 o172)
   refine M (r_ld Tryz.isAgg30 Z rfl ((Blk.ca B173) 3 _ rfl)) Z rfl rfl ?_; clear Z az; intro az Z
   refine M (r_mv Z rfl) Z rfl rfl ?_; clear Z az; intro az Z
   have r174 := (ow_k (ow_k rT o161) o172)
   have h175 := Row.ownN KInt r174 hTn hTok
   have hk176 : i < (hseq (joinN l)).length := by omega
   have hk177 : i < (TL).length := by omega
   obtain ⟨m178, hm179, ok180, hA181⟩ := Row.el KInt h175 hk177
   have E182 : ∀ W, Only NoF w171 W → CA W (eA A125 1 (i)) [.int .i64 (m178)] := Row.ce KInt h175 hm179 rfl
   obtain ⟨y183, hy184⟩ : ∃ y, HH[i]? = some y := ⟨_, List.getElem?_eq_getElem (by omega)⟩
   have hb185 := hTb _ (List.mem_of_getElem? hy184)
   have ht186 : m178 = (y183.t : Int) := at_map hTL hy184 hm179
   refine M (r_ia (k := i) (size := 1) Tryz.underlying30 Tryz.sizeOf3 Z rfl rfl rfl hk176 hA181) Z rfl rfl ?_; clear Z az; intro az Z
   refine M (r_ld Tryz.isAgg3 Z rfl (CA.first (E182 _ (Only.refl NoF w171)))) Z rfl rfl ?_; clear Z az; intro az Z
   refine M (r_mv Z rfl) Z rfl rfl ?_; clear Z az; intro az Z
   refine M (r_nilP Z rfl) Z rfl rfl ?_; clear Z az; intro az Z
   refine M (r_fa (m' := 1) Tryz.underlying80 rfl Tryz.sizeOf77 rfl Z rfl rfl) Z rfl rfl ?_; clear Z az; intro az Z
   refine M (r_ld Tryz.isAgg77 Z rfl ((Blk.ca B173) 1 _ rfl)) Z rfl rfl ?_; clear Z az; intro az Z
   refine M (r_mv Z rfl) Z rfl rfl ?_; clear Z az; intro az Z
   have h187 := Row.own KRr rP1 (fun _ _ => trivial)
   have hk188 : i < (PL).length := by omega
   have O194 : Only NoF w153 w171 := (Only.trans' o161 o172)
   have h195 := (SliceOf.kp h187 O194 (fun _ _ h => h) (fun _ _ _ _ h => h))
   obtain ⟨m189, hm190, ok191, hA192⟩ := Row.el KRr h195 hk188
   have E193 : ∀ W, Only NoF w171 W → CA W (eA Ap 1 (i)) [.slice m189.A (m189.l.length) m189.c] := Row.ce KRr h195 hm190 rfl
   have hr196 : m189 = hpr y183 := at_map hPLH hy184 hm190
   have hrl197 : m189.l.length = y183.p.length := by rw [hr196]; rfl
   refine M (r_ia (k := i) (size := 1) Tryz.underlying77 Tryz.sizeOf22 Z rfl rfl rfl hk188 hA192) Z rfl rfl ?_; clear Z az; intro az Z
   refine M (r_ld Tryz.isAgg22 Z rfl (CA.first (E193 _ (Only.refl NoF w171)))) Z rfl rfl ?_; clear Z az; intro az Z
   refine M (r_lenL Tryz.underlying22 Z rfl) Z rfl rfl ?_; clear Z az; intro az Z
   refine M (r_geI Z rfl rfl) Z rfl rfl ?_; clear Z az; intro az Z
   refine wpMix_nil ?_
   refine k170 _ _ ?_
   refine br Z rfl (fun hc198 => ?_) (fun hc198 => ?_)
   ·
    have p199 := of_decide_eq_true hc198
    refine wp_exit ?_
    refine th_exit ?_
    refine ib_hit ?_
    refine k168 _ _ ?_
    refine wp_region_lit ?_
    refine L (r_mv Z rfl) Z rfl ?_; clear Z az; intro az Z
    have i200 : I64 (((i : Int) + 1)) := by unfold I64; omega
    refine L (r_addI (r := ((i : Int) + 1)) Z rfl rfl rfl i200) Z rfl ?_; clear Z az; intro az Z
    refine L (r_as Z rfl) Z rfl ?_; clear Z az; intro az Z
    exact ⟨_, (by omega), i + 1, bb, rfl, Z.cut ⟨rfl, rfl, rfl, rfl, trivial⟩, (by omega), ((b_a hy184 (by omega)).trans hb), O194⟩
   ·
    have p201 := of_decide_eq_false hc198
    refine wp_skip ?_
    refine k169 _ _ (wp_seq_k fun _ k202 => ?_)
    refine reg_p NoF 1 [16, 17] (.rd 0 (.rd 1 (.rd 2 (.rd 3 (.rd 4 (.rd 5 (.rd 6 (.rd 7 (.rd 8 (.rd 9 (.rd 10 (.rd 11 (.rd 12 (.rd 13 (.rd 14 (.rd 15 (.ex 16 (.ex 17 .nil)))))))))))))))))) (by kernel_rfl) (by kernel_rfl) (fun _ _ _ _ _ h => h) fun w203 o204 => ?_
    have B205 := (Blk.k B173 o204)
    refine Pl.MSP (b := true) (by kernel_rfl) (fun W oW => r_mv Z rfl) Z rfl rfl ?_; clear Z az; intro az Z
    refine Pl.MSP (b := true) (by kernel_rfl) (fun W oW => r_nilP Z rfl) Z rfl rfl ?_; clear Z az; intro az Z
    refine Pl.MSP (b := true) (by kernel_rfl) (fun W oW => r_fa (m' := 1) Tryz.underlying80 rfl Tryz.sizeOf77 rfl Z rfl rfl) Z rfl rfl ?_; clear Z az; intro az Z
    refine Pl.MSP (b := true) (by kernel_rfl) (fun W oW => r_ld Tryz.isAgg77 Z rfl ((Blk.ca (Blk.k B205 oW)) 1 _ rfl)) Z rfl rfl ?_; clear Z az; intro az Z
    refine Pl.MSP (b := true) (by kernel_rfl) (fun W oW => r_mv Z rfl) Z rfl rfl ?_; clear Z az; intro az Z
    refine Pl.MSP (b := true) (by kernel_rfl) (fun W oW => r_ia (k := i) (size := 1) Tryz.underlying77 Tryz.sizeOf22 Z rfl rfl rfl hk188 hA192) Z rfl rfl ?_; clear Z az; intro az Z
    refine Pl.MSP (b := true) (by kernel_rfl) (fun W oW => r_ld Tryz.isAgg22 Z rfl (CA.first (E193 _ (Only.trans' o204 oW)))) Z rfl rfl ?_; clear Z az; intro az Z
    refine Pl.MSP (b := true) (by kernel_rfl) (fun W oW => r_mv Z rfl) Z rfl rfl ?_; clear Z az; intro az Z
    refine Pl.MSP (b := true) (by kernel_rfl) (fun W oW => r_nilP Z rfl) Z rfl rfl ?_; clear Z az; intro az Z
    refine Pl.MSP (b := true) (by kernel_rfl) (fun W oW => r_fa (m' := 3) Tryz.underlying80 rfl Tryz.sizeOf30 rfl Z rfl rfl) Z rfl rfl ?_; clear Z az; intro az Z
    refine Pl.MSP (b := true) (by kernel_rfl) (fun W oW => r_ld Tryz.isAgg30 Z rfl ((Blk.ca (Blk.k B205 oW)) 3 _ rfl)) Z rfl rfl ?_; clear Z az; intro az Z
    refine Pl.MSP (b := true) (by kernel_rfl) (fun W oW => r_mv Z rfl) Z rfl rfl ?_; clear Z az; intro az Z
    have r206 := (ow_k r174 o204)
    have h207 := Row.ownN KInt r206 hTn hTok
    refine Pl.MSP (b := true) (by kernel_rfl) (fun W oW => r_ia (k := i) (size := 1) Tryz.underlying30 Tryz.sizeOf3 Z rfl rfl rfl hk176 hA181) Z rfl rfl ?_; clear Z az; intro az Z
    refine Pl.MSP (b := true) (by kernel_rfl) (fun W oW => r_ld Tryz.isAgg3 Z rfl (CA.first (E182 _ (Only.trans' o204 oW)))) Z rfl rfl ?_; clear Z az; intro az Z
    have hk208 : y183.t < (m189.l).length := by omega
    have O214 : Only NoF w153 w203 := (Only.trans' O194 o204)
    have h215 := (SliceOf.kp (hS _ (List.mem_of_getElem? hm190)) O214 (fun _ _ h => h) (fun _ _ _ _ h => h))
    obtain ⟨m209, hm210, ok211, hA212⟩ := Row.el KN0 h215 hk208
    have E213 : ∀ W, Only NoF w203 W → CA W (eA m189.A 5 (y183.t)) [.int .i64 (m209.h), .int .i64 (m209.n), .int .i64 (m209.d), .slice m209.A (m209.l.length) m209.c, strV (m209.s)] := Row.ce KN0 h215 hm210 rfl
    have hx216 : y183.p[y183.t]? = some m209 := by have h0 := hm210; rw [hr196] at h0; exact h0
    refine Pl.MSP (b := true) (by kernel_rfl) (fun W oW => r_ia (k := y183.t) (size := 5) Tryz.underlying22 Tryz.sizeOf43 Z rfl rfl ht186 hk208 hA212) Z rfl rfl ?_; clear Z az; intro az Z
    refine Pl.MSP (b := true) (by kernel_rfl) (fun W oW => r_ldA Tryz.isAgg43 Tryz.sizeOf43 Z rfl (E213 _ (Only.trans' (Only.refl NoF w203) oW)) rfl) Z rfl rfl ?_; clear Z az; intro az Z
    obtain ⟨g217, w218, hw, hA, hg221, hl222, o219, B220⟩ := newBlk (w := w203) (e := 43) (cs := [.int .i64 (0), .int .i64 (0), .int .i64 (0), .slice none (0) 0, strV ([])])
    refine Pl.MD (r_al (v := .agg #[.int .i64 (0), .int .i64 (0), .int .i64 (0), .slice none (0) 0, strV ([])]) Tryz.zeroValue43 rfl) Z rfl rfl ?_ ?_
    · rw [← hw]; exact ⟨fun _ => o219, (Only.trans (Only.refl NoF w203) o219 (fun _ h => h.elim))⟩
    rw [← hw, ← hA]; clear Z az; intro az Z
    clear hw hA
    refine Pl.MSS (cs' := [.int .i64 (m209.h), .int .i64 (m209.n), .int .i64 (m209.d), .slice m209.A (m209.l.length) m209.c, strV (m209.s)]) Tryz.sizeOf43 Z rfl rfl rfl rfl rfl rfl ⟨rfl, rfl, rfl, rfl, rfl, trivial⟩ B220 rfl rfl fun w223 s224 B225 => ?_
    refine ⟨⟨fun h => absurd h (by decide), (Only.trans (Only.trans (Only.refl NoF w203) o219 (fun _ h => h.elim)) s224 (fun k h => .inr (Nat.le_trans (Nat.le_refl _) ((oneF_ge hg221) k h))))⟩, ?_⟩
    refine wpPl_nil ?_
    refine k202 _ _ (wp_seq_k fun _ k226 => ?_)
    refine wp_seq_k fun _ k227 => wp_region_lit ?_
    refine L (r_mv Z rfl) Z rfl ?_; clear Z az; intro az Z
    refine L (r_ldA Tryz.isAgg43 Tryz.sizeOf43 Z rfl (Blk.ca B225) rfl) Z rfl ?_; clear Z az; intro az Z
    have h228 := Row.own KInt r5 (hseq_ok l)
    have O229 : Only NoF w8 w203 := (Only.trans' (Only.trans' (Only.trans' o154 o161) o172) o204)
    have O230 : Only NoF w8 w223 := (o_sg (Only.trans' (Only.trans' (Only.trans' (Only.trans' o154 o161) o172) o204) o219) s224 (size_only O229) (oneF_ge hg221))
    have h231 := (SliceOf.kp h228 O230 (fun _ _ h => h) (fun _ _ _ _ h => h))
    have h232 := SliceOf.pl h231
    have O233 : Only NoF w153 w223 := (o_sg (Only.trans' O214 o219) s224 (size_only O214) (oneF_ge hg221))
    have h234 := (SliceOf.kp h187 O233 (fun _ _ h => h) (fun _ _ _ _ h => h))
    have h235 := SliceOf.pl h234
    have h236 := Row.own KBool rF1 (fun _ _ => trivial)
    have h237 := (SliceOf.kp h236 O233 (fun _ _ h => h) (fun _ _ _ _ h => h))
    have h238 := SliceOf.pl h237
    have r239 := (ow_only (ow_k r206 o219) s224 (fun k hk => lt_F (oneF_ge hg221) (size_only O214) k (ownF_lt rT k hk)))
    have h240 := Row.ownN KInt r239 hTn hTok
    have h241 := SliceOf.pl h240
    have ne242 : g9 ≠ g217 := (ne_of (Blk.lt B156) (Nat.le_trans (size_only O214) hg221))
    have B243 := (Blk.st (Blk.k B205 o219) s224 ne242)
    have O244 : Only NoF w w203 := (Only.trans' (Only.trans' (Only.trans' (Only.trans' o6 o154) o161) o172) o204)
    have O245 : Only NoF w w223 := (o_sg (Only.trans' (Only.trans' (Only.trans' (Only.trans' (Only.trans' o6 o154) o161) o172) o204) o219) s224 (size_only O244) (oneF_ge hg221))
    have h246 := (SliceOf.kp ((fun y hy => t.2 y (hPm _ (List.mem_of_getElem? hm190) y hy)) _ (List.mem_of_getElem? hm210)).2.2.2.1 O245 (fun _ _ h => h) (fun _ _ _ _ h => h))
    refine LCV (v := .bool (readyN (HH.map hm) m209)) Z rfl rfl Tryz.call42 (ready39_v_ (H := HH) hA hNH h232 hPLH h235 hFLH h238 hTL h241 hTn.symm B243 (x := m209) (okN.k ((fun y hy => t.2 y (hPm _ (List.mem_of_getElem? hm190) y hy)) _ (List.mem_of_getElem? hm210)) O245)) rfl fun w247 o248 => ?_; clear Z az; intro az Z
    refine L (r_not Z rfl) Z rfl ?_; clear Z az; intro az Z
    refine k227 _ _ ?_
    refine br Z rfl (fun hc249 => ?_) (fun hc249 => ?_)
    ·
     have q250 : readyN (HH.map hm) m209 = false := (nt_t hc249)
     refine wp_exit ?_
     refine th_exit ?_
     refine ib_hit ?_
     refine k168 _ _ ?_
     refine wp_region_lit ?_
     refine L (r_mv Z rfl) Z rfl ?_; clear Z az; intro az Z
     have i251 : I64 (((i : Int) + 1)) := by unfold I64; omega
     refine L (r_addI (r := ((i : Int) + 1)) Z rfl rfl rfl i251) Z rfl ?_; clear Z az; intro az Z
     refine L (r_as Z rfl) Z rfl ?_; clear Z az; intro az Z
     have O252 : Only NoF w153 w247 := (Only.trans' O233 o248)
     exact ⟨_, (by omega), i + 1, bb, rfl, Z.cut ⟨rfl, rfl, rfl, rfl, trivial⟩, (by omega), ((b_nr hy184 hx216 (nt_t hc249)).trans hb), O252⟩
    ·
     have q253 : readyN (HH.map hm) m209 = true := (nt_f hc249)
     refine wp_skip ?_
     refine k226 _ _ (wp_seq_k fun _ k254 => wp_region_lit ?_)
     refine L (r_mv Z rfl) Z rfl ?_; clear Z az; intro az Z
     refine L (r_ltI Z rfl rfl) Z rfl ?_; clear Z az; intro az Z
     refine k254 _ _ ?_
     refine br Z rfl (fun hc255 => ?_) (fun hc255 => ?_)
     ·
      have p256 := of_decide_eq_true hc255
      refine wp_region_lit ?_
      refine L (r_mv Z rfl) Z rfl ?_; clear Z az; intro az Z
      refine L (r_as Z rfl) Z rfl ?_; clear Z az; intro az Z
      refine k168 _ _ ?_
      refine wp_region_lit ?_
      refine L (r_mv Z rfl) Z rfl ?_; clear Z az; intro az Z
      have i257 : I64 (((i : Int) + 1)) := by unfold I64; omega
      refine L (r_addI (r := ((i : Int) + 1)) Z rfl rfl rfl i257) Z rfl ?_; clear Z az; intro az Z
      refine L (r_as Z rfl) Z rfl ?_; clear Z az; intro az Z
      have O258 : Only NoF w153 w247 := (Only.trans' O233 o248)
      exact ⟨_, (by omega), i + 1, some i, rfl, Z.cut ⟨rfl, rfl, rfl, rfl, trivial⟩, (by omega), (b_b (b := true) hy184 hx216 (hb.trans (bst_none rfl (of_decide_eq_true hc255))) (nt_f hc249)), O258⟩
     ·
      have p259 := of_decide_eq_false hc255
      obtain ⟨q260, hbq261, hzq262⟩ := bst_some (o := bb) rfl (of_decide_eq_false hc255)
      have hbl263 := best_lt (hb.trans hbq261)
      have hbl264 := hbl263.1
      obtain ⟨y265, hy266⟩ : ∃ y, HH[q260]? = some y := ⟨_, List.getElem?_eq_getElem (by omega)⟩
      have hb267 := hTb _ (List.mem_of_getElem? hy266)
      have hbt268 := hbl263.2 _ hy266
      refine wp_seq_k fun _ k269 => ?_
      refine reg_q [(true, 0), (true, 1), (true, 2), (true, 3), (true, 4), (true, 5), (true, 6), (true, 7), (true, 8), (true, 9), (true, 10), (true, 11), (true, 12), (true, 13), (true, 14), (true, 15), (true, 16), (true, 17), (true, 18), (true, 19)] (by kernel_rfl) (by kernel_rfl) (fun _ _ _ _ _ h => h) fun w270 o271 => ?_
      refine M (r_fa (m' := 2) Tryz.underlying43 rfl Tryz.sizeOf3 rfl Z rfl rfl) Z rfl rfl ?_; clear Z az; intro az Z
      have B272 := (Blk.k (Blk.k B225 o248) o271)
      refine M (r_ld Tryz.isAgg3 Z rfl ((Blk.ca B272) 2 _ rfl)) Z rfl rfl ?_; clear Z az; intro az Z
      refine M (r_mv Z rfl) Z rfl rfl ?_; clear Z az; intro az Z
      refine M (r_nilP Z rfl) Z rfl rfl ?_; clear Z az; intro az Z
      refine M (r_fa (m' := 1) Tryz.underlying80 rfl Tryz.sizeOf77 rfl Z rfl rfl) Z rfl rfl ?_; clear Z az; intro az Z
      have B273 := (Blk.k (Blk.k B243 o248) o271)
      refine M (r_ld Tryz.isAgg77 Z rfl ((Blk.ca B273) 1 _ rfl)) Z rfl rfl ?_; clear Z az; intro az Z
      refine M (r_mv Z rfl) Z rfl rfl ?_; clear Z az; intro az Z
      have hk274 : q260 < (PL).length := by omega
      have O280 : Only NoF w153 w270 := (Only.trans' (Only.trans' O233 o248) o271)
      have h281 := (SliceOf.kp h187 O280 (fun _ _ h => h) (fun _ _ _ _ h => h))
      obtain ⟨m275, hm276, ok277, hA278⟩ := Row.el KRr h281 hk274
      have E279 : ∀ W, Only NoF w270 W → CA W (eA Ap 1 (q260)) [.slice m275.A (m275.l.length) m275.c] := Row.ce KRr h281 hm276 rfl
      have hr282 : m275 = hpr y265 := at_map hPLH hy266 hm276
      have hrl283 : m275.l.length = y265.p.length := by rw [hr282]; rfl
      refine M (r_ia (k := q260) (size := 1) Tryz.underlying77 Tryz.sizeOf22 Z rfl rfl hzq262 hk274 hA278) Z rfl rfl ?_; clear Z az; intro az Z
      refine M (r_ld Tryz.isAgg22 Z rfl (CA.first (E279 _ (Only.refl NoF w270)))) Z rfl rfl ?_; clear Z az; intro az Z
      refine M (r_mv Z rfl) Z rfl rfl ?_; clear Z az; intro az Z
      refine M (r_nilP Z rfl) Z rfl rfl ?_; clear Z az; intro az Z
      refine M (r_fa (m' := 3) Tryz.underlying80 rfl Tryz.sizeOf30 rfl Z rfl rfl) Z rfl rfl ?_; clear Z az; intro az Z
      refine M (r_ld Tryz.isAgg30 Z rfl ((Blk.ca B273) 3 _ rfl)) Z rfl rfl ?_; clear Z az; intro az Z
      refine M (r_mv Z rfl) Z rfl rfl ?_; clear Z az; intro az Z
      have r284 := (ow_k (ow_k r239 o248) o271)
      have h285 := Row.ownN KInt r284 hTn hTok
      have hk286 : q260 < (hseq (joinN l)).length := by omega
      have hk287 : q260 < (TL).length := by omega
      obtain ⟨m288, hm289, ok290, hA291⟩ := Row.el KInt h285 hk287
      have E292 : ∀ W, Only NoF w270 W → CA W (eA A125 1 (q260)) [.int .i64 (m288)] := Row.ce KInt h285 hm289 rfl
      have ht293 : m288 = (y265.t : Int) := at_map hTL hy266 hm289
      refine M (r_ia (k := q260) (size := 1) Tryz.underlying30 Tryz.sizeOf3 Z rfl rfl hzq262 hk286 hA291) Z rfl rfl ?_; clear Z az; intro az Z
      refine M (r_ld Tryz.isAgg3 Z rfl (CA.first (E292 _ (Only.refl NoF w270)))) Z rfl rfl ?_; clear Z az; intro az Z
      have hk294 : y265.t < (m275.l).length := by omega
      have h300 := (SliceOf.kp (hS _ (List.mem_of_getElem? hm276)) O280 (fun _ _ h => h) (fun _ _ _ _ h => h))
      obtain ⟨m295, hm296, ok297, hA298⟩ := Row.el KN0 h300 hk294
      have E299 : ∀ W, Only NoF w270 W → CA W (eA m275.A 5 (y265.t)) [.int .i64 (m295.h), .int .i64 (m295.n), .int .i64 (m295.d), .slice m295.A (m295.l.length) m295.c, strV (m295.s)] := Row.ce KN0 h300 hm296 rfl
      have hx301 : y265.p[y265.t]? = some m295 := by have h0 := hm296; rw [hr282] at h0; exact h0
      refine M (r_ia (k := y265.t) (size := 5) Tryz.underlying22 Tryz.sizeOf43 Z rfl rfl ht293 hk294 hA298) Z rfl rfl ?_; clear Z az; intro az Z
      refine M (r_fa (m' := 2) Tryz.underlying43 rfl Tryz.sizeOf3 rfl Z rfl rfl) Z rfl rfl ?_; clear Z az; intro az Z
      refine M (r_ld Tryz.isAgg3 Z rfl ((E299 _ (Only.refl NoF w270)) 2 _ rfl)) Z rfl rfl ?_; clear Z az; intro az Z
      refine M (r_ltI Z rfl rfl) Z rfl rfl ?_; clear Z az; intro az Z
      refine wpMix_nil ?_
      refine k269 _ _ ?_
      refine br Z rfl (fun hc302 => ?_) (fun hc302 => ?_)
      ·
       have p303 := of_decide_eq_true hc302
       refine wp_region_lit ?_
       refine L (r_mv Z rfl) Z rfl ?_; clear Z az; intro az Z
       refine L (r_as Z rfl) Z rfl ?_; clear Z az; intro az Z
       refine k168 _ _ ?_
       refine wp_region_lit ?_
       refine L (r_mv Z rfl) Z rfl ?_; clear Z az; intro az Z
       have i304 : I64 (((i : Int) + 1)) := by unfold I64; omega
       refine L (r_addI (r := ((i : Int) + 1)) Z rfl rfl rfl i304) Z rfl ?_; clear Z az; intro az Z
       refine L (r_as Z rfl) Z rfl ?_; clear Z az; intro az Z
       exact ⟨_, (by omega), i + 1, some i, rfl, Z.cut ⟨rfl, rfl, rfl, rfl, trivial⟩, (by omega), (b_c (b := true) hy184 hx216 (hb.trans hbq261) hy266 hx301 (by rw [nt_f hc249, Bool.and_true]; exact hc302)), O280⟩
      ·
       have p305 := of_decide_eq_false hc302
       refine wp_skip ?_
       refine k168 _ _ ?_
       refine wp_region_lit ?_
       refine L (r_mv Z rfl) Z rfl ?_; clear Z az; intro az Z
       have i306 : I64 (((i : Int) + 1)) := by unfold I64; omega
       refine L (r_addI (r := ((i : Int) + 1)) Z rfl rfl rfl i306) Z rfl ?_; clear Z az; intro az Z
       refine L (r_as Z rfl) Z rfl ?_; clear Z az; intro az Z
       exact ⟨_, (by omega), i + 1, bb, rfl, Z.cut ⟨rfl, rfl, rfl, rfl, trivial⟩, (by omega), ((b_c (b := false) hy184 hx216 (hb.trans hbq261) hy266 hx301 (by rw [show decide _ = false from hc302, Bool.false_and])).trans hbq261.symm), O280⟩
  ·
   have p307 := of_decide_eq_false hc166
   refine wp_exit ?_
   refine th_exit ?_
   refine th_exit ?_
   refine ib_hit ?_
   refine k158 _ _ (wp_seq_k fun _ k308 => ?_)
   refine wp_seq_k fun _ k309 => wp_region_lit ?_
   refine L (r_mv Z rfl) Z rfl ?_; clear Z az; intro az Z
   refine L (r_ltI Z rfl rfl) Z rfl ?_; clear Z az; intro az Z
   refine k309 _ _ ?_
   refine br Z rfl (fun hc310 => ?_) (fun hc310 => ?_)
   ·
    have p311 := of_decide_eq_true hc310
    refine wp_seq_k fun _ k312 => wp_region_lit ?_
    refine L (r_mv Z rfl) Z rfl ?_; clear Z az; intro az Z
    refine L (r_as Z rfl) Z rfl ?_; clear Z az; intro az Z
    refine k312 _ _ ?_
    refine wp_ret ?_
    show bodyPost _ _ _ .ret _ _
    refine ret_of (vs := [.slice Ao (O.length) co]) Z Tryz.results18 ⟨rfl, trivial⟩ ?_
    have r313 := (ow_k rO o161)
    have O314 : Only NoF w w160 := (Only.trans' (Only.trans' o6 o154) o161)
    exact ⟨_, _, O, rfl, o1_end (by rw [show HH.length = i by omega]; exact hb.trans (bst_none rfl (of_decide_eq_true hc310))) hrun, SliceOf.sup (Row.own KN0 r313 (fun _ _ => trivial)) (fun k hk => Nat.le_trans (size_only o6) hk), OkNs.k (fun y hy => t.2 y (hOm y hy)) O314, hOm, O314⟩
   ·
    have p315 := of_decide_eq_false hc310
    obtain ⟨q316, hbq317, hzq318⟩ := bst_some (o := bb) rfl (of_decide_eq_false hc310)
    have hbl319 := best_lt (hb.trans hbq317)
    have hbl320 := hbl319.1
    obtain ⟨y321, hy322⟩ : ∃ y, HH[q316]? = some y := ⟨_, List.getElem?_eq_getElem (by omega)⟩
    have hb323 := hTb _ (List.mem_of_getElem? hy322)
    have hbt324 := hbl319.2 _ hy322
    have hbn325 : bestN (HH.map hm) HH.length = some q316 := by rw [show HH.length = i by omega]; exact hb.trans hbq317
    refine wp_skip ?_
    refine k308 _ _ (wp_seq_k fun _ k326 => ?_)
    have r327 := (ow_k rO o161)
    have r328 := (ow_k rP1 o161)
    have hw329 := Row.ownS KRr r328 rfl (fun _ _ => trivial)
    have hsp330 := ow_ne r328 r327 (by decide)
    have r331 := (ow_k rT o161)
    have hw332 := Row.ownS KInt r331 hTn hTok
    have hsp333 := ow_ne r331 r327 (by decide)
    refine reg_q2 NoF (ownF (.slice Ao (O.length) co)) 1 1 [17, 18] (.rd 0 (.rd 1 (.rd 2 (.rd 3 (.rd 4 (.rd 5 (.rd 6 (.rd 7 (.rd 8 (.rd 9 (.rd 10 (.rd 11 (.rd 12 (.rd 13 (.rd 14 (.rd 15 (.rd 16 (.ex 17 (.ex 18 (.rd 19 .nil)))))))))))))))))))) (by kernel_rfl) (by kernel_rfl) (fun _ _ _ _ _ h => h) fun w334 o335 => ?_
    have B336 := (Blk.k B165 o335)
    refine Pq.MSP (b := 0) (by kernel_rfl) (fun W oW => r_mv Z rfl) Z rfl rfl ?_; clear Z az; intro az Z
    refine Pq.MSP (b := 2) (by kernel_rfl) (fun W oW => r_mv Z rfl) Z rfl rfl ?_; clear Z az; intro az Z
    refine Pq.MSP (b := 2) (by kernel_rfl) (fun W oW => r_nilP Z rfl) Z rfl rfl ?_; clear Z az; intro az Z
    refine Pq.MSP (b := 2) (by kernel_rfl) (fun W oW => r_fa (m' := 1) Tryz.underlying80 rfl Tryz.sizeOf77 rfl Z rfl rfl) Z rfl rfl ?_; clear Z az; intro az Z
    have r337 := (ow_k r327 o335)
    refine Pq.MSP (b := 2) (by kernel_rfl) (fun W oW => r_ld Tryz.isAgg77 Z rfl ((Blk.ca (Blk.only B336 oW (ow_nb r337 B336 (by decide)))) 1 _ rfl)) Z rfl rfl ?_; clear Z az; intro az Z
    refine Pq.MSP (b := 2) (by kernel_rfl) (fun W oW => r_mv Z rfl) Z rfl rfl ?_; clear Z az; intro az Z
    have hk338 : q316 < (PL).length := by omega
    have h344 := (SliceOf.kp hw329 o335 (fun _ _ h => h) (fun _ _ _ _ h => h))
    obtain ⟨m339, hm340, ok341, hA342⟩ := Row.el KRr h344 hk338
    have E343 : ∀ W, Only NoF w334 W → CA W (eA Ap 1 (q316)) [.slice m339.A (m339.l.length) m339.c] := Row.ce KRr h344 hm340 rfl
    have hr345 : m339 = hpr y321 := at_map hPLH hy322 hm340
    have hrl346 : m339.l.length = y321.p.length := by rw [hr345]; rfl
    refine Pq.MSP (b := 2) (by kernel_rfl) (fun W oW => r_ia (k := q316) (size := 1) Tryz.underlying77 Tryz.sizeOf22 Z rfl rfl hzq318 hk338 hA342) Z rfl rfl ?_; clear Z az; intro az Z
    refine Pq.MSP (b := 2) (by kernel_rfl) (fun W oW => r_ld Tryz.isAgg22 Z rfl (CA.first (Row.ce KRr (SliceOf.kp h344 oW (fun k hk h => hsp330 k hk h) (fun _ _ _ _ h => h)) hm340 rfl _ (Only.refl NoF _)))) Z rfl rfl ?_; clear Z az; intro az Z
    refine Pq.MSP (b := 2) (by kernel_rfl) (fun W oW => r_mv Z rfl) Z rfl rfl ?_; clear Z az; intro az Z
    refine Pq.MSP (b := 2) (by kernel_rfl) (fun W oW => r_nilP Z rfl) Z rfl rfl ?_; clear Z az; intro az Z
    refine Pq.MSP (b := 2) (by kernel_rfl) (fun W oW => r_fa (m' := 3) Tryz.underlying80 rfl Tryz.sizeOf30 rfl Z rfl rfl) Z rfl rfl ?_; clear Z az; intro az Z
    refine Pq.MSP (b := 2) (by kernel_rfl) (fun W oW => r_ld Tryz.isAgg30 Z rfl ((Blk.ca (Blk.only B336 oW (ow_nb r337 B336 (by decide)))) 3 _ rfl)) Z rfl rfl ?_; clear Z az; intro az Z
    refine Pq.MSP (b := 2) (by kernel_rfl) (fun W oW => r_mv Z rfl) Z rfl rfl ?_; clear Z az; intro az Z
    have hk347 : q316 < (hseq (joinN l)).length := by omega
    have hk348 : q316 < (TL).length := by omega
    have h354 := (SliceOf.kp hw332 o335 (fun _ _ h => h) (fun _ _ _ _ h => h))
    obtain ⟨m349, hm350, ok351, hA352⟩ := Row.el KInt h354 hk348
    have E353 : ∀ W, Only NoF w334 W → CA W (eA A125 1 (q316)) [.int .i64 (m349)] := Row.ce KInt h354 hm350 rfl
    have ht355 : m349 = (y321.t : Int) := at_map hTL hy322 hm350
    refine Pq.MSP (b := 2) (by kernel_rfl) (fun W oW => r_ia (k := q316) (size := 1) Tryz.underlying30 Tryz.sizeOf3 Z rfl rfl hzq318 hk347 hA352) Z rfl rfl ?_; clear Z az; intro az Z
    refine Pq.MSP (b := 2) (by kernel_rfl) (fun W oW => r_ld Tryz.isAgg3 Z rfl (CA.first (Row.ce KInt (SliceOf.kp h354 oW (fun k hk h => hsp333 k hk h) (fun _ _ _ _ h => h)) hm350 rfl _ (Only.refl NoF _)))) Z rfl rfl ?_; clear Z az; intro az Z
    have hk356 : y321.t < (m339.l).length := by omega
    have O362 : Only NoF w153 w334 := (Only.trans' o161 o335)
    have h363 := (SliceOf.kp (hS _ (List.mem_of_getElem? hm340)) O362 (fun _ _ h => h) (fun _ _ _ _ h => h))
    obtain ⟨m357, hm358, ok359, hA360⟩ := Row.el KN0 h363 hk356
    have E361 : ∀ W, Only NoF w334 W → CA W (eA m339.A 5 (y321.t)) [.int .i64 (m357.h), .int .i64 (m357.n), .int .i64 (m357.d), .slice m357.A (m357.l.length) m357.c, strV (m357.s)] := Row.ce KN0 h363 hm358 rfl
    have hx364 : y321.p[y321.t]? = some m357 := by have h0 := hm358; rw [hr345] at h0; exact h0
    refine Pq.MSP (b := 2) (by kernel_rfl) (fun W oW => r_ia (k := y321.t) (size := 5) Tryz.underlying22 Tryz.sizeOf43 Z rfl rfl ht355 hk356 hA360) Z rfl rfl ?_; clear Z az; intro az Z
    refine Pq.MSP (b := 0) (by kernel_rfl) (fun W oW => r_ldA Tryz.isAgg43 Tryz.sizeOf43 Z rfl (E361 _ (Only.trans' (Only.refl NoF w334) oW)) rfl) Z rfl rfl ?_; clear Z az; intro az Z
    obtain ⟨A365, w366, hw, hA, r367, o368⟩ := Row.made (w := w334) KN0 (e := 43) ([m357] : List NM) (by simp only [List.length_cons, List.length_nil]; unfold maxLen; omega)
    refine Pq.MD (r_bs (z := .agg #[.int .i64 (0), .int .i64 (0), .int .i64 (0), .slice none (0) 0, strV ([])]) (size := 5) (vs := [(0, .agg #[.int .i64 (m357.h), .int .i64 (m357.n), .int .i64 (m357.d), .slice m357.A (m357.l.length) m357.c, strV (m357.s)])]) (cs := List.flatMap KN0.cells [m357]) Tryz.underlying22 Tryz.sizeOf43 Tryz.zeroValue43 rfl (Fr.evalps Z rfl) (by kernel_rfl)) Z rfl rfl ?_ ?_
    · rw [← hw]; exact ⟨(fun _ => o368), (fun _ => (Only.trans (Only.refl NoF w334) o368 (fun _ h => h.elim))), (Only.trans (Only.refl (ownF (.slice Ao (O.length) co)) w334) o368 (fun _ h => h.elim))⟩
    rw [← hw, ← hA]; clear Z az; intro az Z
    clear hw hA
    have ok369 : ∀ zq ∈ ([m357] : List NM), KN0.ok zq := by intro zq hx; simp only [List.mem_cons, List.not_mem_nil, or_false] at hx; rcases hx with rfl <;> first | exact trivial
    have O371 : Only NoF w153 w366 := (Only.trans' O362 o368)
    have hs370 := (HdS.kp hS O371 (fun _ _ h => h))
    have r372 := (ow_k r337 o368)
    have h373 := SliceOf.pl (Row.own KN0 r367 ok369)
    have hb381 : (List.length (O) + List.length ([m357])) * 64 ≤ 140737488355328 := by (simp only [List.length_append, List.length_cons, List.length_nil]; omega)
    have O382 : Only NoF w8 w366 := (Only.trans' (Only.trans' (Only.trans' o154 o161) o335) o368)
    obtain ⟨A374, c375, w376, hr377, r378, o379, al380⟩ := Row.app (P := Tryz.prog) (l := O) (l2 := [m357]) KN0 elemNote r372 h373 hb381 (by unfold maxLen; omega) (size_only O382)
    refine Pq.MD (r_app hr377 Z rfl rfl) Z rfl rfl ?_ ?_
    · exact ⟨(fun h => absurd h (by decide)), (fun h => absurd h (by decide)), (Only.trans (Only.trans (Only.refl (ownF (.slice Ao (O.length) co)) w334) o368 (fun _ h => h.elim)) o379 (fun _ h => .inl h))⟩
    clear Z az; intro az Z
    have ok383 : ∀ zq ∈ (O ++ [m357]), KN0.ok zq := (fun x hx => (List.mem_append.1 hx).elim ((fun _ _ => trivial) x) ((Row.oks KN0 h373) x))
    have h384 := Row.own KN0 r378 ok383
    have hs385 := HdS.kp hs370 o379 (fun k hk h => absurd (Nat.lt_of_lt_of_le hk.2 (hOge k h)) (Nat.lt_irrefl _))
    refine Pq.MSP (b := 2) (by kernel_rfl) (fun W oW => r_as Z rfl) Z rfl rfl ?_; clear Z az; intro az Z
    refine wpPl_nil ?_
    refine k326 _ _ ?_
    refine wp_region_lit ?_
    refine L (r_mv Z rfl) Z rfl ?_; clear Z az; intro az Z
    refine L (r_nilP Z rfl) Z rfl ?_; clear Z az; intro az Z
    refine L (r_fa (m' := 3) Tryz.underlying80 rfl Tryz.sizeOf30 rfl Z rfl rfl) Z rfl ?_; clear Z az; intro az Z
    have B386 := (Blk.only (Blk.k B336 o368) o379 (ow_nb r372 (Blk.k B336 o368) (by decide)))
    refine L (r_ld Tryz.isAgg30 Z rfl ((Blk.ca B386) 3 _ rfl)) Z rfl ?_; clear Z az; intro az Z
    refine L (r_mv Z rfl) Z rfl ?_; clear Z az; intro az Z
    have r387 := (ow_only (ow_k (ow_k r331 o335) o368) o379 (ow_ne (ow_k (ow_k r331 o335) o368) r372 (by decide)))
    have h388 := Row.ownN KInt r387 hTn hTok
    have hk389 : q316 < (hseq (joinN l)).length := by omega
    have hk390 : q316 < (TL).length := by omega
    obtain ⟨m391, hm392, ok393, hA394⟩ := Row.el KInt h388 hk390
    have E395 : ∀ W, Only NoF w376 W → CA W (eA A125 1 (q316)) [.int .i64 (m391)] := Row.ce KInt h388 hm392 rfl
    have ht396 : m391 = (y321.t : Int) := at_map hTL hy322 hm392
    refine L (r_ia (k := q316) (size := 1) Tryz.underlying30 Tryz.sizeOf3 Z rfl rfl hzq318 hk389 hA394) Z rfl ?_; clear Z az; intro az Z
    refine L (r_ld Tryz.isAgg3 Z rfl (CA.first (E395 _ (Only.refl NoF w376)))) Z rfl ?_; clear Z az; intro az Z
    have i397 : I64 ((m391 + 1)) := by unfold I64; omega
    refine L (r_addI (r := (m391 + 1)) Z rfl rfl rfl i397) Z rfl ?_; clear Z az; intro az Z
    refine L (r_ia (k := q316) (size := 1) Tryz.underlying30 Tryz.sizeOf3 Z rfl rfl hzq318 hk389 hA394) Z rfl ?_; clear Z az; intro az Z
    have hs398 := hs385
    have hk406 : q316 < (hseq (joinN l)).length := by omega
    refine LStQ (k := q316) (x := (m391 + 1)) KInt Tryz.sizeOf3 Z rfl rfl rfl rfl r387 hTn hk406 fun w399 o400 r401 => ?_
    obtain ⟨N402, hN403⟩ : ∃ N0, N0 = List.set TL q316 (m391 + 1) := ⟨_, rfl⟩
    rw [← hN403] at r401
    have hl404 : N402.length = (hseq (joinN l)).length := by rw [hN403]; exact List.length_set.trans hTn
    have ok405 : ∀ zq ∈ N402, KInt.ok zq := by rw [hN403]; exact set_ok hTok (by show I64 _; unfold I64; omega)
    have hs407 := HdS.kp hs398 o400 (fun k hk h => absurd (Nat.lt_of_lt_of_le hk.2 (hTge k h)) (Nat.lt_irrefl _))
    have O408 : Only NoF w8 w399 := (o_sg (o_sg O382 o379 (Nat.le_refl _) (ownF_ge rO)) o400 (Nat.le_refl _) (ownF_ge rT))
    have B409 := (Blk.only B386 o400 (ow_nb r387 B386 (by decide)))
    have r410 := (ow_only (ow_only (ow_k (ow_k r328 o335) o368) o379 (ow_ne (ow_k (ow_k r328 o335) o368) r372 (by decide))) o400 (ow_ne (ow_only (ow_k (ow_k r328 o335) o368) o379 (ow_ne (ow_k (ow_k r328 o335) o368) r372 (by decide))) r387 (by decide)))
    have r411 := (ow_only (ow_only (ow_k (ow_k (ow_k rF1 o161) o335) o368) o379 (ow_ne (ow_k (ow_k (ow_k rF1 o161) o335) o368) r372 (by decide))) o400 (ow_ne (ow_only (ow_k (ow_k (ow_k rF1 o161) o335) o368) o379 (ow_ne (ow_k (ow_k (ow_k rF1 o161) o335) o368) r372 (by decide))) r387 (by decide)))
    have r412 := (ow_only r378 o400 (ow_ne r378 r387 (by decide)))
    have O413 := (Only.trans (Only.trans (Only.trans (Only.trans (Only.trans (Only.refl (fun _ => True) w153) o161 (fun _ _ => .inl trivial)) o335 (fun _ _ => .inl trivial)) o368 (fun _ _ => .inl trivial)) o379 (fun _ _ => .inl trivial)) o400 (fun _ _ => .inl trivial))
    exact ⟨_, (by have h5 := rest_goH hy322 (List.getElem?_eq_some_iff.1 hx364).1; omega), (HH.set q316 ⟨y321.h, y321.A, y321.p, y321.c, y321.f, y321.t + 1⟩), N402, (O ++ [m357]), A374, c375, rfl, Z.cut ⟨rfl, rfl, trivial⟩, (hNH.trans (set_same hy322 (fun _ => rfl)).symm), (hPLH.trans (set_same hy322 (fun _ => rfl)).symm), (hFLH.trans (set_same hy322 (fun _ => rfl)).symm), (o1_T hTL hy322 hN403 (by rw [ht396])), hl404, (asc_hm hA hy322), ((run_goH hbn325 hy322 hx364 O).symm.trans hrun), (o1_om hOm (hPm _ (List.mem_of_getElem? hm340) _ (List.mem_of_getElem? hm358))), (o1_bnd2 hTb hy322 hx364), (fun k h => (app_Fg al380 h).elim (hOge k) (fun h => by rw [h]; exact Nat.le_trans hwT (size_only O371))), O408, B409, r410, r411, r401, r412, hs407, (Nat.le_trans hwT (size_only O413))⟩
end
section
open Go.RowKit
section
variable {l P : List NM} {O : List RM} {N : List Int} {i k : Nat} {m : NM} {h z : Int}
theorem oc_yes (hm : P[k]? = some m) (hc : decide (m.h = h) = true) (hz : z = (((ofN (P.take k) h).length : Nat) : Int)) : z + 1 = (((ofN (P.take (k + 1)) h).length : Nat) : Int) := by
 rw [take_succ_get hm, of_app, of_one_eq (of_decide_eq_true hc), List.length_append, hz]; rfl
theorem oc_no (hm : P[k]? = some m) (hc : decide (m.h = h) = false) (hz : z = (((ofN (P.take k) h).length : Nat) : Int)) : z = (((ofN (P.take (k + 1)) h).length : Nat) : Int) := by
 rw [take_succ_get hm, of_app, of_one_ne (of_decide_eq_false hc), List.append_nil, hz]
theorem hd2_yes (hn : N[i]? = some h) (hz : z = (((ofN P h).length : Nat) : Int)) (hc : decide (0 < z) = true) (hO : O = ((N.take i).filter fun h => decide (0 < (((ofN P h).length : Nat) : Int))).map fun h => (⟨h, (((ofN P h).length : Nat) : Int)⟩ : RM)) :
 O ++ [(⟨h, z⟩ : RM)] = ((N.take (i + 1)).filter fun h => decide (0 < (((ofN P h).length : Nat) : Int))).map fun h => (⟨h, (((ofN P h).length : Nat) : Int)⟩ : RM) := by
 rw [take_succ_get hn, List.filter_append, List.map_append, ← hO]
 rw [hz] at hc ⊢
 have : List.filter (fun h => decide (0 < (((ofN P h).length : Nat) : Int))) [h] = [h] := by rw [List.filter_cons, hc]; rfl
 rw [this]; rfl
theorem hd2_no (hn : N[i]? = some h) (hz : z = (((ofN P h).length : Nat) : Int)) (hc : decide (0 < z) = false) (hO : O = ((N.take i).filter fun h => decide (0 < (((ofN P h).length : Nat) : Int))).map fun h => (⟨h, (((ofN P h).length : Nat) : Int)⟩ : RM)) :
 O = ((N.take (i + 1)).filter fun h => decide (0 < (((ofN P h).length : Nat) : Int))).map fun h => (⟨h, (((ofN P h).length : Nat) : Int)⟩ : RM) := by
 rw [take_succ_get hn, List.filter_append, List.map_append, ← hO]
 rw [hz] at hc
 have : List.filter (fun h => decide (0 < (((ofN P h).length : Nat) : Int))) [h] = [] := by rw [List.filter_cons, hc]; rfl
 rw [this]; simp
theorem heads_seq (hP : P.map ns = orderN (joinN l)) : headsN (joinN l) = ((hseq (joinN l)).filter fun h => decide (0 < (((ofN P h).length : Nat) : Int))).map fun h => (⟨h, (((ofN P h).length : Nat) : Int)⟩ : RM) := by
 have hU := join_up l
 have e1 : ∀ h, (ofN P h).length = takenN (joinN l) h := fun h => by
  unfold takenN
  have := congrArg List.length (of_map P h)
  rw [hP, List.length_map] at this
  exact this.symm
 have e2 : hseq (joinN l) = (runN (joinN l)).1.map (·.h) := by
  rw [hseq_hou]
  have := congrArg (List.map HM.h) (run_houses (joinN l)).1
  rw [List.map_map, List.map_map] at this
  exact this.symm
 rw [e2, List.filter_map, List.map_map]
 unfold headsN
 have e3 : (runN (joinN l)).1.filter ((fun h => decide (0 < (((ofN P h).length : Nat) : Int))) ∘ fun y : HM => y.h) = (runN (joinN l)).1.filter fun y => decide (0 < y.t) := List.filter_congr fun y hy => by
  show decide (0 < (((ofN P y.h).length : Nat) : Int)) = decide (0 < y.t)
  rw [e1, taken_at hU hy]
  exact decide_eq_decide.2 (by omega)
 rw [e3]
 refine List.map_congr_left fun y hy => ?_
 show (⟨y.h, (y.t : Int)⟩ : RM) = ⟨y.h, (((ofN P y.h).length : Nat) : Int)⟩
 rw [e1, taken_at hU (List.mem_filter.1 hy).1]
end
theorem rHeads_v_ {w : World} {l : List NM} {A : Option Addr} {c : Nat} (t : NtV w (.slice A l.length c) l) (hl : l.length ≤ 400000) : Calls Tryz.prog 21 [.slice A l.length c].toArray w (ROut (headsN (joinN l)) w) := by
 refine calls_start Tryz.func21 rfl rfl ?_
 intro az Z
 rw [Tryz.ntmps21] at Z
 refine wp_seq_k fun _ k1 => wp_region_lit ?_
 refine L (r_as Z rfl) Z rfl ?_; clear Z az; intro az Z
 refine k1 _ _ (wp_seq_k fun _ k2 => wp_region_lit ?_)
 obtain ⟨A3, w4, hw, hA, r5, o6⟩ := made0 (w := w) (e := 59) (size := 2)
 refine L (r_bs0 Tryz.underlying35 Tryz.sizeOf59) Z rfl ?_
 rw [← hw, ← hA]; clear Z az; intro az Z
 clear hw hA
 refine L (r_as Z rfl) Z rfl ?_; clear Z az; intro az Z
 refine k2 _ _ (wp_seq_k fun _ k7 => wp_region_lit ?_)
 refine L (r_mv Z rfl) Z rfl ?_; clear Z az; intro az Z
 have hC16 := rOrder_v_ (NtV.k t o6) hl
 refine LC Z rfl rfl Tryz.call18 (hC16) rfl ?_
 rintro e w17 ⟨A8, c9, P10, rfl, hP11, hS12, hN13, hM14, o15⟩; refine ⟨_, rfl, ?_⟩
 clear Z az; intro az Z
 have hPl : P10.length ≤ 400000 := ns_len_le hP11 (Nat.le_trans (order_len (join_up l)) (Nat.le_trans (joinN_le l) hl))
 refine L (r_as Z rfl) Z rfl ?_; clear Z az; intro az Z
 refine k7 _ _ (wp_seq_k fun _ k18 => wp_region_lit ?_)
 refine L (r_mv Z rfl) Z rfl ?_; clear Z az; intro az Z
 have O19 : Only NoF w w17 := (Only.trans' o6 o15)
 have hC24 := rHouses_v_ (NtV.k t O19) hl
 refine LC Z rfl rfl Tryz.call37 (hC24) rfl ?_
 rintro e w25 ⟨A20, c21, rfl, r22, o23⟩; refine ⟨_, rfl, ?_⟩
 clear Z az; intro az Z
 have hHl := hseq_len l
 refine L (r_as Z rfl) Z rfl ?_; clear Z az; intro az Z
 refine k18 _ _ (wp_seq_k fun _ k26 => ?_)
 refine wp_seq_k fun _ k27 => wp_region_lit ?_
 refine L (r_as Z rfl) Z rfl ?_; clear Z az; intro az Z
 refine k27 _ _ ?_
 refine wp_block ?_
 have hS28 := SliceOf.lt2 (K := KN0) hS12
 have hq29 := ownF_lt r5
 refine wp_loop_m (fun mz az W => ∃ i : Nat, ∃ O : List RM, ∃ Ao : Option Addr, ∃ co : Nat, mz = (hseq (joinN l)).length - i ∧ Fr 50 [(4, .slice A8 (P10.length) c9), (5, .slice A20 ((hseq (joinN l)).length) c21), (6, .int .i64 ((i : Int))), (3, .slice Ao (O.length) co)] az ∧ (i ≤ (hseq (joinN l)).length) ∧ (O = ((List.take i (hseq (joinN l))).filter fun h => decide (0 < (((ofN P10 h).length : Nat) : Int))).map fun h => (⟨h, (((ofN P10 h).length : Nat) : Int)⟩ : RM)) ∧ (∀ r ∈ O, KRef.ok r) ∧ (∀ k, ownF (.slice Ao O.length co) k → ¬ (geB w4.heap.size k ∧ k < w17.heap.size)) ∧ Only NoF w W ∧ W.ownsRow w.heap.size 59 2 (.slice Ao O.length co) O.length (List.flatMap KRef.cells O) ∧ W.ownsRow w.heap.size 3 1 (.slice A20 ((hseq (joinN l)).length) c21) (hseq (joinN l)).length (List.flatMap KInt.cells (hseq (joinN l))) ∧ SliceOf (fun k => geB w4.heap.size k ∧ k < w17.heap.size) 5 KN0.R W (.slice A8 (P10.length) c9) P10 ∧ w17.heap.size ≤ W.heap.size) ?_ ?_
 ·
  have O30 : Only NoF w w25 := (Only.trans' O19 o23)
  have r31 := (ow_k (ow_k r5 o15) o23)
  exact ⟨_, 0, [], A3, 0, rfl, Z.cut ⟨rfl, rfl, rfl, rfl, trivial⟩, Nat.zero_le _, rfl, (fun r hr => by cases hr), (fun k h hk => absurd (hq29 k h) (Nat.not_lt.2 hk.1)), O30, r31, (ow_low r22 (size_only O19)), (SliceOf.kp hS28 o23 (fun _ _ h => h) (fun _ _ _ _ h => h)), (size_only o23)⟩
 clear Z az
 rintro mz az w32 ⟨i, O, Ao, co, hm34, Z, hi, hO, hOk, hsep, o33, rO, rH, hNs, hge8⟩
 have hOl : O.length ≤ 400 := by rw [hO, List.length_map]; exact Nat.le_trans (List.length_filter_le _ _) (by rw [List.length_take]; omega)
 refine wp_seq_k fun _ k35 => ?_
 refine wp_seq_k fun _ k36 => wp_region_lit ?_
 refine L (r_mv Z rfl) Z rfl ?_; clear Z az; intro az Z
 refine L (r_mv Z rfl) Z rfl ?_; clear Z az; intro az Z
 refine L (r_lenL Tryz.underlying30 Z rfl) Z rfl ?_; clear Z az; intro az Z
 refine L (r_ltI Z rfl rfl) Z rfl ?_; clear Z az; intro az Z
 refine k36 _ _ ?_
 refine br Z rfl (fun hc37 => ?_) (fun hc37 => ?_)
 ·
  have p38 := of_decide_eq_true hc37
  refine wp_skip ?_
  refine k35 _ _ (wp_seq_k fun _ k39 => ?_)
  refine wp_block ?_
  refine wp_seq_k fun _ k40 => wp_region_lit ?_
  refine L (r_as Z rfl) Z rfl ?_; clear Z az; intro az Z
  refine k40 _ _ (wp_seq_k fun _ k41 => ?_)
  refine wp_seq_k fun _ k42 => wp_region_lit ?_
  refine L (r_as Z rfl) Z rfl ?_; clear Z az; intro az Z
  refine k42 _ _ ?_
  refine wp_block ?_
  have h43 := Row.own KInt rH (hseq_ok l)
  have hk44 : i < ((hseq (joinN l))).length := by omega
  obtain ⟨m45, hm46, ok47, hA48⟩ := Row.el KInt h43 hk44
  have E49 : ∀ W, Only NoF w32 W → CA W (eA A20 1 (i)) [.int .i64 (m45)] := Row.ce KInt h43 hm46 rfl
  refine wp_loop_m (fun mz az W => ∃ k : Nat, ∃ z : Int, mz = P10.length - k ∧ Fr 50 [(3, .slice Ao (O.length) co), (4, .slice A8 (P10.length) c9), (5, .slice A20 ((hseq (joinN l)).length) c21), (6, .int .i64 ((i : Int))), (8, .int .i64 ((k : Int))), (7, .int .i64 (z))] az ∧ (k ≤ P10.length) ∧ (z = (((ofN (List.take k P10) m45).length : Nat) : Int)) ∧ (0 ≤ z ∧ z ≤ (k : Int)) ∧ Only NoF w32 W) ?_ ?_
  ·
   exact ⟨_, 0, 0, rfl, Z.cut ⟨rfl, rfl, rfl, rfl, rfl, rfl, trivial⟩, Nat.zero_le _, rfl, (by omega), (Only.refl NoF w32)⟩
  clear Z az
  rintro mz az w50 ⟨k, z, hm52, Z, hk, hz, hzb, o51⟩
  refine wp_seq_k fun _ k53 => ?_
  refine wp_seq_k fun _ k54 => wp_region_lit ?_
  refine L (r_mv Z rfl) Z rfl ?_; clear Z az; intro az Z
  refine L (r_mv Z rfl) Z rfl ?_; clear Z az; intro az Z
  refine L (r_lenL Tryz.underlying22 Z rfl) Z rfl ?_; clear Z az; intro az Z
  refine L (r_ltI Z rfl rfl) Z rfl ?_; clear Z az; intro az Z
  refine k54 _ _ ?_
  refine br Z rfl (fun hc55 => ?_) (fun hc55 => ?_)
  ·
   have p56 := of_decide_eq_true hc55
   refine wp_skip ?_
   refine k53 _ _ (wp_seq_k fun _ k57 => ?_)
   refine wp_block ?_
   refine wp_seq_k fun _ k58 => ?_
   refine reg_q [(true, 0), (true, 1), (true, 2), (true, 3), (true, 4), (true, 5), (true, 6), (true, 7), (true, 8), (true, 9)] (by kernel_rfl) (by kernel_rfl) (fun _ _ _ _ _ h => h) fun w59 o60 => ?_
   refine M (r_mv Z rfl) Z rfl rfl ?_; clear Z az; intro az Z
   refine M (r_mv Z rfl) Z rfl rfl ?_; clear Z az; intro az Z
   have hk61 : k < (P10).length := by omega
   have O67 : Only NoF w32 w59 := (Only.trans' o51 o60)
   have h68 := (SliceOf.kp hNs O67 (fun _ _ h => h) (fun _ _ _ _ h => h))
   obtain ⟨m62, hm63, ok64, hA65⟩ := Row.el KN0 h68 hk61
   have E66 : ∀ W, Only NoF w59 W → CA W (eA A8 5 (k)) [.int .i64 (m62.h), .int .i64 (m62.n), .int .i64 (m62.d), .slice m62.A (m62.l.length) m62.c, strV (m62.s)] := Row.ce KN0 h68 hm63 rfl
   refine M (r_ia (k := k) (size := 5) Tryz.underlying22 Tryz.sizeOf43 Z rfl rfl rfl hk61 hA65) Z rfl rfl ?_; clear Z az; intro az Z
   refine M (r_fa (m' := 0) Tryz.underlying43 rfl Tryz.sizeOf3 rfl Z rfl rfl) Z rfl rfl ?_; clear Z az; intro az Z
   refine M (r_ld Tryz.isAgg3 Z rfl ((E66 _ (Only.refl NoF w59)) 0 _ rfl)) Z rfl rfl ?_; clear Z az; intro az Z
   refine M (r_mv Z rfl) Z rfl rfl ?_; clear Z az; intro az Z
   refine M (r_mv Z rfl) Z rfl rfl ?_; clear Z az; intro az Z
   refine M (r_ia (k := i) (size := 1) Tryz.underlying30 Tryz.sizeOf3 Z rfl rfl rfl hk44 hA48) Z rfl rfl ?_; clear Z az; intro az Z
   refine M (r_ld Tryz.isAgg3 Z rfl (CA.first (E49 _ O67))) Z rfl rfl ?_; clear Z az; intro az Z
   refine M (r_eqI Z rfl rfl) Z rfl rfl ?_; clear Z az; intro az Z
   refine wpMix_nil ?_
   refine k58 _ _ ?_
   refine br Z rfl (fun hc69 => ?_) (fun hc69 => ?_)
   ·
    have p70 := of_decide_eq_true hc69
    refine wp_region_lit ?_
    refine L (r_mv Z rfl) Z rfl ?_; clear Z az; intro az Z
    have i71 : I64 ((z + 1)) := by unfold I64; omega
    refine L (r_addI (r := (z + 1)) Z rfl rfl rfl i71) Z rfl ?_; clear Z az; intro az Z
    refine L (r_as Z rfl) Z rfl ?_; clear Z az; intro az Z
    refine k57 _ _ ?_
    refine wp_region_lit ?_
    refine L (r_mv Z rfl) Z rfl ?_; clear Z az; intro az Z
    have i72 : I64 (((k : Int) + 1)) := by unfold I64; omega
    refine L (r_addI (r := ((k : Int) + 1)) Z rfl rfl rfl i72) Z rfl ?_; clear Z az; intro az Z
    refine L (r_as Z rfl) Z rfl ?_; clear Z az; intro az Z
    exact ⟨_, (by omega), k + 1, _, rfl, Z.cut ⟨rfl, rfl, rfl, rfl, rfl, rfl, trivial⟩, (by omega), (oc_yes hm63 hc69 hz), (by omega), O67⟩
   ·
    have p73 := of_decide_eq_false hc69
    refine wp_skip ?_
    refine k57 _ _ ?_
    refine wp_region_lit ?_
    refine L (r_mv Z rfl) Z rfl ?_; clear Z az; intro az Z
    have i74 : I64 (((k : Int) + 1)) := by unfold I64; omega
    refine L (r_addI (r := ((k : Int) + 1)) Z rfl rfl rfl i74) Z rfl ?_; clear Z az; intro az Z
    refine L (r_as Z rfl) Z rfl ?_; clear Z az; intro az Z
    exact ⟨_, (by omega), k + 1, _, rfl, Z.cut ⟨rfl, rfl, rfl, rfl, rfl, rfl, trivial⟩, (by omega), (oc_no hm63 hc69 hz), (by omega), O67⟩
  ·
   have p75 := of_decide_eq_false hc55
   rw [List.take_of_length_le (by omega)] at hz
   refine wp_exit ?_
   refine th_exit ?_
   refine th_exit ?_
   refine ib_hit ?_
   refine k41 _ _ (wp_seq_k fun _ k76 => wp_region_lit ?_)
   refine L (r_mv Z rfl) Z rfl ?_; clear Z az; intro az Z
   refine L (r_gtI Z rfl rfl) Z rfl ?_; clear Z az; intro az Z
   refine k76 _ _ ?_
   refine br Z rfl (fun hc77 => ?_) (fun hc77 => ?_)
   ·
    have p78 := of_decide_eq_true hc77
    refine wp_region_lit ?_
    refine L (r_mv Z rfl) Z rfl ?_; clear Z az; intro az Z
    refine L (r_mv Z rfl) Z rfl ?_; clear Z az; intro az Z
    refine L (r_mv Z rfl) Z rfl ?_; clear Z az; intro az Z
    refine L (r_ia (k := i) (size := 1) Tryz.underlying30 Tryz.sizeOf3 Z rfl rfl rfl hk44 hA48) Z rfl ?_; clear Z az; intro az Z
    refine L (r_ld Tryz.isAgg3 Z rfl (CA.first (E49 _ o51))) Z rfl ?_; clear Z az; intro az Z
    refine L (r_mv Z rfl) Z rfl ?_; clear Z az; intro az Z
    refine L (r_bd (v := .agg #[.int .i64 (m45), .int .i64 (z)]) (build_Ref2 _ _) Z rfl) Z rfl ?_; clear Z az; intro az Z
    obtain ⟨A79, w80, hw, hA, r81, o82⟩ := Row.made (w := w50) KRef (e := 59) ([(⟨m45, z⟩ : RM)] : List RM) (by simp only [List.length_cons, List.length_nil]; unfold maxLen; omega)
    refine L (r_bs (z := .agg #[.int .i64 (0), .int .i64 (0)]) (size := 2) (vs := [(0, .agg #[.int .i64 (m45), .int .i64 (z)])]) (cs := List.flatMap KRef.cells [(⟨m45, z⟩ : RM)]) Tryz.underlying35 Tryz.sizeOf59 Tryz.zeroValue59 rfl (Fr.evalps Z rfl) (by kernel_rfl)) Z rfl ?_
    rw [← hw, ← hA]; clear Z az; intro az Z
    clear hw hA
    have ok83 : ∀ zq ∈ ([(⟨m45, z⟩ : RM)] : List RM), KRef.ok zq := by intro zq hx; simp only [List.mem_cons, List.not_mem_nil, or_false] at hx; rcases hx with rfl <;> first | exact (show KRef.ok _ from ⟨hseq_ok l _ (List.mem_of_getElem? hm46), by show I64 (z); unfold I64; omega⟩)
    have r84 := (ow_k (ow_k rO o51) o82)
    have h85 := SliceOf.pl (Row.own KRef r81 ok83)
    have hb93 : (List.length (O) + List.length ([(⟨m45, z⟩ : RM)])) * 16 ≤ 140737488355328 := by (simp only [List.length_append, List.length_cons, List.length_nil]; omega)
    have O94 : Only NoF w w80 := (Only.trans' (Only.trans' o33 o51) o82)
    obtain ⟨A86, c87, w88, hr89, r90, o91, al92⟩ := Row.app (P := Tryz.prog) (l := O) (l2 := [(⟨m45, z⟩ : RM)]) KRef elemRef r84 h85 hb93 (by unfold maxLen; omega) (size_only O94)
    refine L (r_app hr89 Z rfl rfl) Z rfl ?_; clear Z az; intro az Z
    have ok95 : ∀ zq ∈ (O ++ [(⟨m45, z⟩ : RM)]), KRef.ok zq := (fun x hx => (List.mem_append.1 hx).elim (hOk x) ((Row.oks KRef h85) x))
    have h96 := Row.own KRef r90 ok95
    refine L (r_as Z rfl) Z rfl ?_; clear Z az; intro az Z
    refine k39 _ _ ?_
    refine wp_region_lit ?_
    refine L (r_mv Z rfl) Z rfl ?_; clear Z az; intro az Z
    have i97 : I64 (((i : Int) + 1)) := by unfold I64; omega
    refine L (r_addI (r := ((i : Int) + 1)) Z rfl rfl rfl i97) Z rfl ?_; clear Z az; intro az Z
    refine L (r_as Z rfl) Z rfl ?_; clear Z az; intro az Z
    have O98 : Only NoF w32 w80 := (Only.trans' o51 o82)
    have O99 : Only NoF w w88 := (o_sg O94 o91 (Nat.le_refl _) (ownF_ge rO))
    have r100 := (ow_only (ow_k (ow_k rH o51) o82) o91 (ow_ne (ow_k (ow_k rH o51) o82) r84 (by decide)))
    have h101 := (SliceOf.kp (SliceOf.kp hNs O98 (fun _ _ h => h) (fun _ _ _ _ h => h)) o91 (fun k hk h => hsep k h hk) (fun _ _ _ _ h => h))
    have O102 := (Only.trans (Only.trans (Only.trans (Only.refl (fun _ => True) w32) o51 (fun _ _ => .inl trivial)) o82 (fun _ _ => .inl trivial)) o91 (fun _ _ => .inl trivial))
    exact ⟨_, (by omega), i + 1, (O ++ [(⟨m45, z⟩ : RM)]), A86, c87, rfl, Z.cut ⟨rfl, rfl, rfl, rfl, trivial⟩, (by omega), (hd2_yes hm46 hz hc77 hO), ok95, (fun k h hk => (app_Fg al92 h).elim (fun h => hsep k h hk) (fun h => by rw [h] at hk; exact absurd hk.2 (Nat.not_lt.2 (Nat.le_trans hge8 (size_only O98))))), O99, r90, r100, h101, (Nat.le_trans hge8 (size_only O102))⟩
   ·
    have p103 := of_decide_eq_false hc77
    refine wp_skip ?_
    refine k39 _ _ ?_
    refine wp_region_lit ?_
    refine L (r_mv Z rfl) Z rfl ?_; clear Z az; intro az Z
    have i104 : I64 (((i : Int) + 1)) := by unfold I64; omega
    refine L (r_addI (r := ((i : Int) + 1)) Z rfl rfl rfl i104) Z rfl ?_; clear Z az; intro az Z
    refine L (r_as Z rfl) Z rfl ?_; clear Z az; intro az Z
    have O105 : Only NoF w w50 := (Only.trans' o33 o51)
    have r106 := (ow_k rO o51)
    have r107 := (ow_k rH o51)
    have h108 := (SliceOf.kp hNs o51 (fun _ _ h => h) (fun _ _ _ _ h => h))
    exact ⟨_, (by omega), i + 1, O, Ao, co, rfl, Z.cut ⟨rfl, rfl, rfl, rfl, trivial⟩, (by omega), (hd2_no hm46 hz hc77 hO), hOk, hsep, O105, r106, r107, h108, (Nat.le_trans hge8 (size_only o51))⟩
 ·
  have p109 := of_decide_eq_false hc37
  refine wp_exit ?_
  refine th_exit ?_
  refine th_exit ?_
  refine ib_hit ?_
  refine k26 _ _ (wp_seq_k fun _ k110 => wp_region_lit ?_)
  refine L (r_mv Z rfl) Z rfl ?_; clear Z az; intro az Z
  refine L (r_as Z rfl) Z rfl ?_; clear Z az; intro az Z
  refine k110 _ _ ?_
  refine wp_ret ?_
  show bodyPost _ _ _ .ret _ _
  refine ret_of (vs := [.slice Ao (O.length) co]) Z Tryz.results21 ⟨rfl, trivial⟩ ?_
  rw [List.take_of_length_le (by omega)] at hO; rw [show headsN (joinN l) = O by rw [hO]; exact heads_seq hP11]; exact ⟨_, _, rfl, ow_low rO (Nat.le_refl _), hOk, o33⟩
end
section
open Go.RowKit
theorem tells39_ {w : World} (hG : Gr w) {La : List NM} {A1 : Option Addr} {c1 : Nat} (t1 : NtV w (.slice A1 La.length c1) La) {Lb : List NM} {A2 : Option Addr} {c2 : Nat} (t2 : NtV w (.slice A2 Lb.length c2) Lb) (house : Int) : Calls Tryz.prog 3 [.slice A1 (La.length) c1, .slice A2 (Lb.length) c2, .int .i64 (house)].toArray w (Fix (.bool true) w) := by
 refine calls_start Tryz.func3 rfl rfl ?_
 intro az Z
 rw [Tryz.ntmps3] at Z
 refine wp_seq_k fun _ k1 => wp_region_lit ?_
 refine L (r_as Z rfl) Z rfl ?_; clear Z az; intro az Z
 refine k1 _ _ (wp_seq_k fun _ k2 => wp_region_lit ?_)
 have G3 := Gr.k hG (Only.refl NoF w)
 refine LCV (v := .bool (true)) Z rfl rfl Tryz.call5 (small39_v G3) rfl fun w4 o5 => ?_; clear Z az; intro az Z
 refine L (r_as Z rfl) Z rfl ?_; clear Z az; intro az Z
 refine k2 _ _ (wp_seq_k fun _ k6 => ?_)
 refine wp_seq_k fun _ k7 => wp_region_lit ?_
 refine L (r_mv Z rfl) Z rfl ?_; clear Z az; intro az Z
 refine LCV (v := .bool (few39 La 40)) Z rfl rfl Tryz.call6 (few39_v_ (NtV.k t1 o5) 40) rfl fun w8 o9 => ?_; clear Z az; intro az Z
 refine L (r_not Z rfl) Z rfl ?_; clear Z az; intro az Z
 refine L (r_mv Z rfl) Z rfl ?_; clear Z az; intro az Z
 refine LG Z rfl rfl gd_f (fun hb => r_mv Z rfl) rfl ?_; clear Z az; intro az Z
 have O10 : Only NoF w w8 := (Only.trans' o5 o9)
 refine LGV (v := .bool (few39 Lb 40)) Z rfl rfl gd_f rfl (fun hb => (evs_c (evg hb rfl) (evs_c rfl rfl))) Tryz.call6 (fun hb => few39_v_ (NtV.k t2 O10) 40) rfl fun w11 o12 => ?_; clear Z az; intro az Z
 refine LG Z rfl rfl gd_f (fun hb => r_not Z (evg hb rfl)) rfl ?_; clear Z az; intro az Z
 refine L (r_or Z rfl rfl rfl) Z rfl ?_; clear Z az; intro az Z
 refine k7 _ _ ?_
 refine br Z rfl (fun hc13 => ?_) (fun hc13 => ?_)
 ·
  have d14 := hc13
  refine wp_seq_k fun _ k15 => wp_region_lit ?_
  refine L (r_mv Z rfl) Z rfl ?_; clear Z az; intro az Z
  refine L (r_as Z rfl) Z rfl ?_; clear Z az; intro az Z
  refine k15 _ _ ?_
  refine wp_ret ?_
  show bodyPost _ _ _ .ret _ _
  refine ret_of (vs := [.bool (true)]) Z Tryz.results3 ⟨rfl, trivial⟩ ?_
  have O16 : Only NoF w w11 := (Only.trans' O10 o12)
  exact ⟨rfl, O16⟩
 ·
  have q17 : few39 La 40 = true := (nt_f (or_f hc13).1)
  have q18 : few39 Lb 40 = true := (nt_f (or_f hc13).2)
  have hlLa := few_le q17
  have hlLb := few_le q18
  refine wp_skip ?_
  refine k6 _ _ (wp_seq_k fun _ k19 => wp_region_lit ?_)
  refine L (r_mv Z rfl) Z rfl ?_; clear Z az; intro az Z
  refine L (r_mv Z rfl) Z rfl ?_; clear Z az; intro az Z
  have O32 : Only NoF w w11 := (Only.trans' O10 o12)
  have G31 := Gr.k hG O32
  have hC33 := Talk_v_ G31 (NtV.k t1 O32) (NtV.k t2 O32) (by first | omega | (simp only [List.length_cons, List.length_nil]; omega)) (by first | omega | (simp only [List.length_cons, List.length_nil]; omega))
  refine LC Z rfl rfl Tryz.call7 (hC33) rfl ?_
  rintro e w34 ⟨A20, c21, L22, A23, c24, L25, rfl, hL26, hL27, hN28, hN29, o30⟩; refine ⟨_, rfl, ?_⟩
  clear Z az; intro az Z
  have nt35 : NtV w34 (.slice A20 (L22.length) c21) L22 := ⟨SliceOf.pl hN28.1, OkNs.pl hN28.2⟩
  have hm36 : L22.length ≤ 1000000 := (lss_lim hL26 (by first | omega | (simp only [List.length_cons, List.length_nil]; omega)))
  have nt37 : NtV w34 (.slice A23 (L25.length) c24) L25 := ⟨SliceOf.pl hN29.1, OkNs.pl hN29.2⟩
  have hm38 : L25.length ≤ 1000000 := (lss_lim hL27 (by first | omega | (simp only [List.length_cons, List.length_nil]; omega)))
  refine L (r_mv Z rfl) Z rfl ?_; clear Z az; intro az Z
  refine L (r_ex Z rfl rfl) Z rfl ?_; clear Z az; intro az Z
  refine L (r_ex Z rfl rfl) Z rfl ?_; clear Z az; intro az Z
  refine L (r_as Z rfl) Z rfl ?_; clear Z az; intro az Z
  refine L (r_as Z rfl) Z rfl ?_; clear Z az; intro az Z
  refine k19 _ _ (wp_seq_k fun _ k39 => wp_region_lit ?_)
  refine L (r_mv Z rfl) Z rfl ?_; clear Z az; intro az Z
  refine L (r_mv Z rfl) Z rfl ?_; clear Z az; intro az Z
  have O51 : Only NoF w w34 := (Only.trans' O32 o30)
  have hC52 := rTalk_v_ (NtV.k t1 O51) (NtV.k t2 O51) (by omega) (by omega)
  refine LC Z rfl rfl Tryz.call8 (hC52) rfl ?_
  rintro e w53 ⟨A40, c41, P42, A43, c44, Q45, rfl, hP46, hQ47, nt48, nt49, o50⟩; refine ⟨_, rfl, ?_⟩
  clear Z az; intro az Z
  refine L (r_mv Z rfl) Z rfl ?_; clear Z az; intro az Z
  refine L (r_ex Z rfl rfl) Z rfl ?_; clear Z az; intro az Z
  refine L (r_ex Z rfl rfl) Z rfl ?_; clear Z az; intro az Z
  refine L (r_as Z rfl) Z rfl ?_; clear Z az; intro az Z
  refine L (r_as Z rfl) Z rfl ?_; clear Z az; intro az Z
  refine k39 _ _ (wp_seq_k fun _ k54 => wp_region_lit ?_)
  refine L (r_mv Z rfl) Z rfl ?_; clear Z az; intro az Z
  refine L (r_mv Z rfl) Z rfl ?_; clear Z az; intro az Z
  have O56 : Only NoF w w53 := (Only.trans' O51 o50)
  have G55 := Gr.k hG O56
  have hC64 := Join_v_ G55 (NtV.k t1 O56) (NtV.k t2 O56) (by first | omega | (simp only [List.length_cons, List.length_nil]; omega))
  refine LC Z rfl rfl Tryz.call10 (hC64) rfl ?_
  rintro e w65 ⟨A57, c58, L59, rfl, hL60, hS61, hN62, o63⟩; refine ⟨_, rfl, ?_⟩
  clear Z az; intro az Z
  have nt66 : NtV w65 (.slice A57 (L59.length) c58) L59 := ⟨SliceOf.pl hS61, OkNs.pl hN62⟩
  have hm67 : L59.length ≤ 1000000 := (by have h0 := congrArg List.length hL60; rw [List.length_map] at h0; rw [h0]; exact Nat.le_trans (joinN_le _) (by (try simp only [List.length_append, List.length_cons, List.length_nil]); omega))
  refine L (r_mv Z rfl) Z rfl ?_; clear Z az; intro az Z
  refine L (r_mv Z rfl) Z rfl ?_; clear Z az; intro az Z
  have O76 : Only NoF w w65 := (Only.trans' O56 o63)
  have hC77 := rJoin_v_ (NtV.k t1 O76) (NtV.k t2 O76) (by omega) (by omega)
  refine LC Z rfl rfl Tryz.call11 (hC77) rfl ?_
  rintro e w78 ⟨A68, c69, P70, rfl, hP71, hS72, hN73, hM74, o75⟩; refine ⟨_, rfl, ?_⟩
  clear Z az; intro az Z
  have nt79 : NtV w78 (.slice A68 (P70.length) c69) P70 := ⟨SliceOf.pl hS72, hN73⟩
  refine LCV (v := .bool (true)) Z rfl rfl Tryz.call9 (fix_eq (congrArg Value.bool (decide_eq_true (hL60.trans hP71.symm))) (rSameChain_v (NtV.notes (NtV.k nt66 o75)) (NtV.notes nt79))) rfl fun w80 o81 => ?_; clear Z az; intro az Z
  refine L (r_mv Z rfl) Z rfl ?_; clear Z az; intro az Z
  refine LT Z rfl rfl (r_mv Z rfl) rfl ?_; clear Z az; intro az Z
  have O83 : Only NoF w w80 := (Only.trans' (Only.trans' O76 o75) o81)
  have G82 := Gr.k hG O83
  have hC88 := Forks_v_ G82 (NtV.k t1 O83) (by first | omega | (simp only [List.length_cons, List.length_nil]; omega))
  refine LCT Z rfl rfl rfl rfl Tryz.call13 (hC88) rfl ?_
  rintro e w89 ⟨A84, c85, rfl, r86, o87⟩; refine ⟨_, rfl, ?_⟩
  clear Z az; intro az Z
  refine LT Z rfl rfl (r_mv Z rfl) rfl ?_; clear Z az; intro az Z
  have O90 : Only NoF w w89 := (Only.trans' O83 o87)
  have hC95 := rForks_v_ (NtV.k t1 O90) (by omega)
  refine LCT Z rfl rfl rfl rfl Tryz.call14 (hC95) rfl ?_
  rintro e w96 ⟨A91, c92, rfl, r93, o94⟩; refine ⟨_, rfl, ?_⟩
  clear Z az; intro az Z
  have h97 := Row.own KInt r86 (forks_ok _)
  have h98 := (SliceOf.kp h97 o94 (fun _ _ h => h) (fun _ _ _ _ h => h))
  have h99 := SliceOf.pl h98
  have h100 := Row.own KInt r93 (forks_ok _)
  have h101 := SliceOf.pl h100
  refine LGV (v := .bool (true)) Z rfl rfl gd_t rfl (fun hb => rfl) Tryz.call12 (fun hb => fix_eq (congrArg Value.bool (decide_eq_true rfl)) (sameI_v_ h99 h101)) rfl fun w102 o103 => ?_; clear Z az; intro az Z
  refine L (r_pick Z rfl rfl rfl) Z rfl ?_; clear Z az; intro az Z
  refine L (r_mv Z rfl) Z rfl ?_; clear Z az; intro az Z
  refine LT Z rfl rfl (r_mv Z rfl) rfl ?_; clear Z az; intro az Z
  refine LT Z rfl rfl (r_mv Z rfl) rfl ?_; clear Z az; intro az Z
  have O105 : Only NoF w w102 := (Only.trans' (Only.trans' O90 o94) o103)
  have G104 := Gr.k hG O105
  have hC113 := Past_v_ G104 (NtV.k t1 O105) (by first | omega | (simp only [List.length_cons, List.length_nil]; omega)) house
  refine LCT Z rfl rfl rfl rfl Tryz.call15 (hC113) rfl ?_
  rintro e w114 ⟨A106, c107, L108, rfl, hL109, hS110, hN111, o112⟩; refine ⟨_, rfl, ?_⟩
  clear Z az; intro az Z
  have nt115 : NtV w114 (.slice A106 (L108.length) c107) L108 := ⟨SliceOf.pl hS110, OkNs.pl hN111⟩
  have hm116 : L108.length ≤ 1000000 := (pst_lim hL109)
  refine LT Z rfl rfl (r_mv Z rfl) rfl ?_; clear Z az; intro az Z
  refine LT Z rfl rfl (r_mv Z rfl) rfl ?_; clear Z az; intro az Z
  have O125 : Only NoF w w114 := (Only.trans' O105 o112)
  have hC126 := rPast_v_ (NtV.k t1 O125) (by omega) house
  refine LCT Z rfl rfl rfl rfl Tryz.call16 (hC126) rfl ?_
  rintro e w127 ⟨A117, c118, P119, rfl, hP120, hS121, hN122, hM123, o124⟩; refine ⟨_, rfl, ?_⟩
  clear Z az; intro az Z
  have nt128 : NtV w127 (.slice A117 (P119.length) c118) P119 := ⟨SliceOf.pl hS121, hN122⟩
  refine LGV (v := .bool (true)) Z rfl rfl gd_t rfl (fun hb => rfl) Tryz.call9 (fun hb => fix_eq (congrArg Value.bool (decide_eq_true (hL109.trans hP120.symm))) (rSameChain_v (NtV.notes (NtV.k nt115 o124)) (NtV.notes nt128))) rfl fun w129 o130 => ?_; clear Z az; intro az Z
  refine L (r_pick Z rfl rfl rfl) Z rfl ?_; clear Z az; intro az Z
  refine L (r_mv Z rfl) Z rfl ?_; clear Z az; intro az Z
  refine LT Z rfl rfl (r_mv Z rfl) rfl ?_; clear Z az; intro az Z
  refine LT Z rfl rfl (r_mv Z rfl) rfl ?_; clear Z az; intro az Z
  have O131 : Only NoF w34 w129 := (Only.trans' (Only.trans' (Only.trans' (Only.trans' (Only.trans' (Only.trans' (Only.trans' (Only.trans' (Only.trans' o50 o63) o75) o81) o87) o94) o103) o112) o124) o130)
  have O132 : Only NoF w53 w129 := (Only.trans' (Only.trans' (Only.trans' (Only.trans' (Only.trans' (Only.trans' (Only.trans' (Only.trans' o63 o75) o81) o87) o94) o103) o112) o124) o130)
  refine LGV (v := .bool (true)) Z rfl rfl gd_t rfl (fun hb => rfl) Tryz.call9 (fun hb => fix_eq (congrArg Value.bool (decide_eq_true (hL26.trans hP46.symm))) (rSameChain_v (NtV.notes (NtV.k nt35 O131)) (NtV.notes (NtV.k nt48 O132)))) rfl fun w133 o134 => ?_; clear Z az; intro az Z
  refine L (r_pick Z rfl rfl rfl) Z rfl ?_; clear Z az; intro az Z
  refine L (r_mv Z rfl) Z rfl ?_; clear Z az; intro az Z
  refine LT Z rfl rfl (r_mv Z rfl) rfl ?_; clear Z az; intro az Z
  refine LT Z rfl rfl (r_mv Z rfl) rfl ?_; clear Z az; intro az Z
  have O135 : Only NoF w34 w133 := (Only.trans' O131 o134)
  have O136 : Only NoF w53 w133 := (Only.trans' O132 o134)
  refine LGV (v := .bool (true)) Z rfl rfl gd_t rfl (fun hb => rfl) Tryz.call9 (fun hb => fix_eq (congrArg Value.bool (decide_eq_true (hL27.trans hQ47.symm))) (rSameChain_v (NtV.notes (NtV.k nt37 O135)) (NtV.notes (NtV.k nt49 O136)))) rfl fun w137 o138 => ?_; clear Z az; intro az Z
  refine L (r_pick Z rfl rfl rfl) Z rfl ?_; clear Z az; intro az Z
  refine L (r_as Z rfl) Z rfl ?_; clear Z az; intro az Z
  refine k54 _ _ (wp_seq_k fun _ k139 => wp_region_lit ?_)
  refine L (r_mv Z rfl) Z rfl ?_; clear Z az; intro az Z
  refine L (r_mv Z rfl) Z rfl ?_; clear Z az; intro az Z
  refine LT Z rfl rfl (r_mv Z rfl) rfl ?_; clear Z az; intro az Z
  refine L (r_pick Z rfl rfl rfl) Z rfl ?_; clear Z az; intro az Z
  refine L (r_mv Z rfl) Z rfl ?_; clear Z az; intro az Z
  refine LT Z rfl rfl (r_mv Z rfl) rfl ?_; clear Z az; intro az Z
  have O141 : Only NoF w w137 := (Only.trans' (Only.trans' (Only.trans' (Only.trans' O125 o124) o130) o134) o138)
  have G140 := Gr.k hG O141
  have hC149 := Order_v_ G140 (NtV.k t1 O141) (by first | omega | (simp only [List.length_cons, List.length_nil]; omega))
  refine LCT Z rfl rfl rfl rfl Tryz.call17 (hC149) rfl ?_
  rintro e w150 ⟨A142, c143, L144, rfl, hL145, hS146, hN147, o148⟩; refine ⟨_, rfl, ?_⟩
  clear Z az; intro az Z
  have nt151 : NtV w150 (.slice A142 (L144.length) c143) L144 := ⟨SliceOf.pl hS146, OkNs.pl hN147⟩
  have hm152 : L144.length ≤ 1000000 := (ord_lim hL145 (by first | omega | (simp only [List.length_cons, List.length_nil]; omega)))
  refine LT Z rfl rfl (r_mv Z rfl) rfl ?_; clear Z az; intro az Z
  have O161 : Only NoF w w150 := (Only.trans' O141 o148)
  have hC162 := rOrder_v_ (NtV.k t1 O161) (by omega)
  refine LCT Z rfl rfl rfl rfl Tryz.call18 (hC162) rfl ?_
  rintro e w163 ⟨A153, c154, P155, rfl, hP156, hS157, hN158, hM159, o160⟩; refine ⟨_, rfl, ?_⟩
  clear Z az; intro az Z
  have nt164 : NtV w163 (.slice A153 (P155.length) c154) P155 := ⟨SliceOf.pl hS157, hN158⟩
  refine LGV (v := .bool (true)) Z rfl rfl gd_t rfl (fun hb => rfl) Tryz.call9 (fun hb => fix_eq (congrArg Value.bool (decide_eq_true (hL145.trans hP156.symm))) (rSameChain_v (NtV.notes (NtV.k nt151 o160)) (NtV.notes nt164))) rfl fun w165 o166 => ?_; clear Z az; intro az Z
  refine L (r_pick Z rfl rfl rfl) Z rfl ?_; clear Z az; intro az Z
  refine L (r_mv Z rfl) Z rfl ?_; clear Z az; intro az Z
  refine LT Z rfl rfl (r_mv Z rfl) rfl ?_; clear Z az; intro az Z
  have O168 : Only NoF w w165 := (Only.trans' (Only.trans' O161 o160) o166)
  have G167 := Gr.k hG O168
  have hC174 := Heads_v_ G167 (NtV.k t1 O168) (by first | omega | (simp only [List.length_cons, List.length_nil]; omega))
  refine LCT Z rfl rfl rfl rfl Tryz.call20 (hC174) rfl ?_
  rintro e w175 ⟨A169, c170, rfl, r171, ok173, o172⟩; refine ⟨_, rfl, ?_⟩
  clear Z az; intro az Z
  have hb176 : (headsN (joinN La)).length ≤ 1000000 := heads_bnd (by first | omega | (simp only [List.length_cons, List.length_nil]; omega))
  refine LT Z rfl rfl (r_mv Z rfl) rfl ?_; clear Z az; intro az Z
  have O177 : Only NoF w w175 := (Only.trans' O168 o172)
  have hC183 := rHeads_v_ (NtV.k t1 O177) (by omega)
  refine LCT Z rfl rfl rfl rfl Tryz.call21 (hC183) rfl ?_
  rintro e w184 ⟨A178, c179, rfl, r180, ok182, o181⟩; refine ⟨_, rfl, ?_⟩
  clear Z az; intro az Z
  have h185 := Row.own KRef r171 ok173
  have h186 := (SliceOf.kp h185 o181 (fun _ _ h => h) (fun _ _ _ _ h => h))
  have h187 := SliceOf.pl h186
  have h188 := Row.own KRef r180 ok182
  have h189 := SliceOf.pl h188
  refine LGV (v := .bool (true)) Z rfl rfl gd_t rfl (fun hb => rfl) Tryz.call19 (fun hb => fix_eq (congrArg Value.bool (decide_eq_true rfl)) (rSameRefs_v_ h187 h189)) rfl fun w190 o191 => ?_; clear Z az; intro az Z
  refine L (r_pick Z rfl rfl rfl) Z rfl ?_; clear Z az; intro az Z
  refine L (r_mv Z rfl) Z rfl ?_; clear Z az; intro az Z
  refine LT Z rfl rfl (r_mv Z rfl) rfl ?_; clear Z az; intro az Z
  have O193 : Only NoF w w190 := (Only.trans' (Only.trans' O177 o181) o191)
  have G192 := Gr.k hG O193
  have hC199 := Missing_v_ G192 (NtV.k t1 O193) (by first | omega | (simp only [List.length_cons, List.length_nil]; omega))
  refine LCT Z rfl rfl rfl rfl Tryz.call22 (hC199) rfl ?_
  rintro e w200 ⟨A194, c195, rfl, r196, ok198, o197⟩; refine ⟨_, rfl, ?_⟩
  clear Z az; intro az Z
  have hb201 : (missN (joinN La)).length ≤ 400 := miss_len _
  refine LT Z rfl rfl (r_mv Z rfl) rfl ?_; clear Z az; intro az Z
  have O202 : Only NoF w w200 := (Only.trans' O193 o197)
  have hC208 := rMissing_v_ (NtV.k t1 O202) (by omega)
  refine LCT Z rfl rfl rfl rfl Tryz.call23 (hC208) rfl ?_
  rintro e w209 ⟨A203, c204, rfl, r205, ok207, o206⟩; refine ⟨_, rfl, ?_⟩
  clear Z az; intro az Z
  have h210 := Row.own KRef r196 ok198
  have h211 := (SliceOf.kp h210 o206 (fun _ _ h => h) (fun _ _ _ _ h => h))
  have h212 := SliceOf.pl h211
  have h213 := Row.own KRef r205 ok207
  have h214 := SliceOf.pl h213
  refine LGV (v := .bool (true)) Z rfl rfl gd_t rfl (fun hb => rfl) Tryz.call19 (fun hb => fix_eq (congrArg Value.bool (decide_eq_true rfl)) (rSameRefs_v_ h212 h214)) rfl fun w215 o216 => ?_; clear Z az; intro az Z
  refine L (r_pick Z rfl rfl rfl) Z rfl ?_; clear Z az; intro az Z
  refine L (r_as Z rfl) Z rfl ?_; clear Z az; intro az Z
  refine k139 _ _ ?_
  refine wp_ret ?_
  show bodyPost _ _ _ .ret _ _
  refine ret_of (vs := [.bool (true)]) Z Tryz.results3 ⟨rfl, trivial⟩ ?_
  have O217 : Only NoF w w215 := (Only.trans' (Only.trans' O202 o206) o216)
  exact ⟨rfl, O217⟩
theorem tells39_v {w : World} (hG : Gr w) {v1 v2 : Value} {La Lb : List NM} (f1 : NotesV w w v1 La) (f2 : NotesV w w v2 Lb) (house : Int) : Calls Tryz.prog 3 #[v1, v2, .int .i64 house] w (Fix (.bool true) w) := by
 obtain ⟨A1, c1, rfl, _⟩ := SliceOf.shape f1
 obtain ⟨A2, c2, rfl, _⟩ := SliceOf.shape f2
 exact tells39_ hG (NtV.of f1) (NtV.of f2) house
end
end Go.Proofs.YtdcbjedkddgfkaaGreatDoor
