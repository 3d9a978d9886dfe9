/-
  The seal: below, known, Right, walked. No condition.
-/
import Derived.Test.YtgmnoianhonihaaDoorSNt
namespace Go.Proofs.YtgmnoianhonihaaDoor
set_option linter.unusedVariables false
set_option linter.unusedSimpArgs false
set_option linter.unusedSectionVars false
open Go.RowKit

set_option maxRecDepth 20000 in
set_option maxHeartbeats 4000000 in
theorem below_v (w : World) (n k : Int) : Calls Tryd.prog 87 [.int .i64 n, .int .i64 k].toArray w (Fix (.bool (bel n k)) w) := by
  refine calls_start Tryd.func87 rfl rfl ?_
  intro az Hz
  rw [Tryd.ntmps87] at Hz
  refine wp_seq_k fun K1 hK1 => ?_
  -- seal.go:12
  refine wp_region_lit ?_
  refine L (r_as Hz rfl) Hz rfl ?_
  clear Hz az; intro az Hz
  refine hK1 _ _ ?_
  refine wp_seq_k fun K2 hK2 => ?_
  -- seal.go:12
  refine wp_region_lit ?_
  refine L (r_mv Hz rfl) Hz rfl ?_
  clear Hz az; intro az Hz
  refine L (r_geI Hz rfl rfl) Hz rfl ?_
  clear Hz az; intro az Hz
  refine L (r_mv Hz rfl) Hz rfl ?_
  clear Hz az; intro az Hz
  refine LG Hz rfl rfl gd_t (fun hb => r_mv Hz rfl) rfl ?_
  clear Hz az; intro az Hz
  refine LG Hz rfl rfl gd_t (fun hb => r_mv Hz rfl) rfl ?_
  clear Hz az; intro az Hz
  refine LG Hz rfl rfl gd_t (fun hb => r_ltI Hz (evg hb rfl) (evg hb rfl)) rfl ?_
  clear Hz az; intro az Hz
  refine L (r_and Hz rfl rfl rfl) Hz rfl ?_
  clear Hz az; intro az Hz
  refine L (r_as Hz rfl) Hz rfl ?_
  clear Hz az; intro az Hz
  refine hK2 _ _ ?_
  refine wp_ret ?_
  show bodyPost _ _ _ .ret _ _
  refine ret_of (vs := [.bool (((decide (0 ≤ n)) && (decide (n < k))))]) Hz Tryd.results87 ⟨rfl, trivial⟩ ?_
  exact ⟨rfl, (Only.refl NoF w)⟩

set_option maxRecDepth 20000 in
set_option maxHeartbeats 4000000 in
theorem known_v (w : World) (h n : Int) : Calls Tryd.prog 86 [.int .i64 h, .int .i64 n].toArray w (Fix (.bool (kn h n)) w) := by
  refine calls_start Tryd.func86 rfl rfl ?_
  intro az Hz
  rw [Tryd.ntmps86] at Hz
  refine wp_seq_k fun K1 hK1 => ?_
  -- seal.go:15
  refine wp_region_lit ?_
  refine L (r_as Hz rfl) Hz rfl ?_
  clear Hz az; intro az Hz
  refine hK1 _ _ ?_
  refine wp_seq_k fun K2 hK2 => ?_
  -- seal.go:15
  refine wp_region_lit ?_
  refine L (r_mv Hz rfl) Hz rfl ?_
  clear Hz az; intro az Hz
  refine LCV (v := .bool (bel h 400)) Hz rfl rfl Tryd.call87 (below_v _ h 400) rfl fun w3 o4 => ?_
  clear Hz az; intro az Hz
  refine L (r_mv Hz rfl) Hz rfl ?_
  clear Hz az; intro az Hz
  refine LG Hz rfl rfl gd_t (fun hb => r_mv Hz rfl) rfl ?_
  clear Hz az; intro az Hz
  refine LGV (v := .bool (bel n 400)) Hz rfl rfl gd_t rfl (fun hb => (evs_c (evg hb rfl) (evs_c rfl rfl))) Tryd.call87 (fun hb => below_v _ n 400) rfl fun w5 o6 => ?_
  clear Hz az; intro az Hz
  refine L (r_and Hz rfl rfl rfl) Hz rfl ?_
  clear Hz az; intro az Hz
  refine L (r_as Hz rfl) Hz rfl ?_
  clear Hz az; intro az Hz
  refine hK2 _ _ ?_
  refine wp_ret ?_
  show bodyPost _ _ _ .ret _ _
  refine ret_of (vs := [.bool (((bel h 400) && (bel n 400)))]) Hz Tryd.results86 ⟨rfl, trivial⟩ ?_
  have O7 : Only NoF w w5 := (Only.trans' o4 o6)
  exact ⟨rfl, O7⟩

set_option maxRecDepth 20000 in
set_option maxHeartbeats 4000000 in
theorem Right_v {w : World} {m : NM} (h1 : RefsV w (.slice m.A m.l.length m.c) m.l) : Calls Tryd.prog 62 [.agg #[.int .i64 m.h, .int .i64 m.n, .int .i64 m.d, .slice m.A m.l.length m.c, strV m.s]].toArray w (Fix (.bool (right m)) w) := by
  refine calls_start Tryd.func62 rfl rfl ?_
  intro az Hz
  rw [Tryd.ntmps62] at Hz
  refine wp_seq_k fun K1 hK1 => ?_
  -- seal.go:18
  refine wp_region_lit ?_
  refine LBox Hz rfl rfl rfl ?_
  clear Hz az; intro g2 w3 hg6 hl7 o4 B5 az Hz
  refine L (r_as Hz rfl) Hz rfl ?_
  clear Hz az; intro az Hz
  refine hK1 _ _ ?_
  refine wp_seq_k fun K8 hK8 => ?_
  refine wp_seq_k fun K9 hK9 => ?_
  -- seal.go:19
  refine wp_region_lit ?_
  refine L (r_fa (m' := 0) Tryd.underlying54 rfl Tryd.sizeOf3 rfl Hz rfl rfl) Hz rfl ?_
  clear Hz az; intro az Hz
  refine L (r_ld Tryd.isAgg3 Hz rfl ((Blk.ca B5) 0 _ rfl)) Hz rfl ?_
  clear Hz az; intro az Hz
  refine L (r_fa (m' := 1) Tryd.underlying54 rfl Tryd.sizeOf3 rfl Hz rfl rfl) Hz rfl ?_
  clear Hz az; intro az Hz
  refine L (r_ld Tryd.isAgg3 Hz rfl ((Blk.ca B5) 1 _ rfl)) Hz rfl ?_
  clear Hz az; intro az Hz
  refine LCV (v := .bool (kn m.h m.n)) Hz rfl rfl Tryd.call86 (known_v _ m.h m.n) rfl fun w10 o11 => ?_
  clear Hz az; intro az Hz
  refine L (r_not Hz rfl) Hz rfl ?_
  clear Hz az; intro az Hz
  refine L (r_mv Hz rfl) Hz rfl ?_
  clear Hz az; intro az Hz
  refine LG Hz rfl rfl gd_f (fun hb => r_fa (m' := 2) Tryd.underlying54 rfl Tryd.sizeOf3 rfl Hz rfl rfl) rfl ?_
  clear Hz az; intro az Hz
  have B12 := (Blk.k B5 o11)
  refine LG Hz rfl rfl gd_f (fun hb => r_ld Tryd.isAgg3 Hz (evg hb rfl) ((Blk.ca B12) 2 _ rfl)) rfl ?_
  clear Hz az; intro az Hz
  refine LGV (v := .bool (bel m.d 100001)) Hz rfl rfl gd_f rfl (fun hb => (evs_c (evg hb rfl) (evs_c rfl rfl))) Tryd.call87 (fun hb => below_v _ m.d 100001) rfl fun w13 o14 => ?_
  clear Hz az; intro az Hz
  refine LG Hz rfl rfl gd_f (fun hb => r_not Hz (evg hb rfl)) rfl ?_
  clear Hz az; intro az Hz
  refine L (r_or Hz rfl rfl rfl) Hz rfl ?_
  clear Hz az; intro az Hz
  refine L (r_mv Hz rfl) Hz rfl ?_
  clear Hz az; intro az Hz
  refine LG Hz rfl rfl gd_f (fun hb => r_fa (m' := 4) Tryd.underlying54 rfl Tryd.sizeOf9 rfl Hz rfl rfl) rfl ?_
  clear Hz az; intro az Hz
  have B15 := (Blk.k B12 o14)
  refine LG Hz rfl rfl gd_f (fun hb => r_ld Tryd.isAgg9 Hz (evg hb rfl) ((Blk.ca B15) 4 _ rfl)) rfl ?_
  clear Hz az; intro az Hz
  refine LG Hz rfl rfl gd_f (fun hb => r_lenS Tryd.underlying9 Hz (evg hb rfl)) rfl ?_
  clear Hz az; intro az Hz
  refine LG Hz rfl rfl gd_f (fun hb => r_gtI Hz (evg hb rfl) rfl) rfl ?_
  clear Hz az; intro az Hz
  refine L (r_or Hz rfl rfl rfl) Hz rfl ?_
  clear Hz az; intro az Hz
  refine L (r_mv Hz rfl) Hz rfl ?_
  clear Hz az; intro az Hz
  refine LG Hz rfl rfl gd_f (fun hb => r_fa (m' := 3) Tryd.underlying54 rfl Tryd.sizeOf52 rfl Hz rfl rfl) rfl ?_
  clear Hz az; intro az Hz
  refine LG Hz rfl rfl gd_f (fun hb => r_ld Tryd.isAgg52 Hz (evg hb rfl) ((Blk.ca B15) 3 _ rfl)) rfl ?_
  clear Hz az; intro az Hz
  refine LG Hz rfl rfl gd_f (fun hb => r_lenL Tryd.underlying52 Hz (evg hb rfl)) rfl ?_
  clear Hz az; intro az Hz
  refine LG Hz rfl rfl gd_f (fun hb => r_gtI Hz (evg hb rfl) rfl) rfl ?_
  clear Hz az; intro az Hz
  refine L (r_or Hz rfl rfl rfl) Hz rfl ?_
  clear Hz az; intro az Hz
  refine hK9 _ _ ?_
  refine br Hz rfl (fun hc16 => ?_) (fun hc16 => ?_)
  · -- if0
    have d17 := hc16
    refine wp_seq_k fun K18 hK18 => ?_
    -- seal.go:20
    refine wp_region_lit ?_
    refine L (r_as Hz rfl) Hz rfl ?_
    clear Hz az; intro az Hz
    refine hK18 _ _ ?_
    refine wp_ret ?_
    show bodyPost _ _ _ .ret _ _
    refine ret_of (vs := [.bool (false)]) Hz Tryd.results62 ⟨rfl, trivial⟩ ?_
    have O19 : Only NoF w w13 := (Only.trans' (Only.trans' o4 o11) o14)
    rw [right_bad (m := m) hc16]; exact ⟨rfl, O19⟩
  · -- else0
    have q20 : kn m.h m.n = true := (nt_f (or_f (or_f (or_f hc16).1).1).1)
    have q21 : bel m.d 100001 = true := (nt_f (or_f (or_f (or_f hc16).1).1).2)
    have p22 := of_decide_eq_false (or_f (or_f hc16).1).2
    have p23 := of_decide_eq_false (or_f hc16).2
    refine wp_skip ?_
    refine hK8 _ _ ?_
    refine wp_seq_k fun K24 hK24 => ?_
    -- seal.go:22
    refine wp_region_lit ?_
    refine L (r_bd (v := .agg #[.int .i64 ((-1)), .int .i64 (0)]) (build_Ref1 _) Hz rfl) Hz rfl ?_
    clear Hz az; intro az Hz
    refine LAl (v := .agg #[.int .i64 (0), .int .i64 (0)]) Tryd.zeroValue71 Hz rfl rfl ?_
    clear Hz az; intro g25 w26 hg29 hl30 o27 B28 az Hz
    refine LSt (cs' := [.int .i64 ((-1)), .int .i64 (0)]) Tryd.sizeOf71 Hz rfl rfl rfl rfl rfl ⟨rfl, rfl, trivial⟩ B28 rfl rfl fun w31 s32 B33 => ?_
    refine hK24 _ _ ?_
    refine wp_seq_k fun K34 hK34 => ?_
    refine wp_seq_k fun K35 hK35 => ?_
    -- seal.go:23
    refine wp_region_lit ?_
    refine L (r_fa (m' := 3) Tryd.underlying54 rfl Tryd.sizeOf52 rfl Hz rfl rfl) Hz rfl ?_
    clear Hz az; intro az Hz
    have O37 : Only NoF w3 w13 := (Only.trans' o11 o14)
    have ne36 : g2 ≠ g25 := (ne_of hl7 (Nat.le_trans (size_only O37) hg29))
    have B38 := (Blk.st (Blk.k B15 o27) s32 ne36)
    refine L (r_ld Tryd.isAgg52 Hz rfl ((Blk.ca B38) 3 _ rfl)) Hz rfl ?_
    clear Hz az; intro az Hz
    refine L (r_lenL Tryd.underlying52 Hz rfl) Hz rfl ?_
    clear Hz az; intro az Hz
    refine L (r_mv Hz rfl) Hz rfl ?_
    clear Hz az; intro az Hz
    refine hK35 _ _ ?_
    refine wp_block ?_
    have ne39 : g25 ≠ g2 := (ne_of hl7 (Nat.le_trans (size_only O37) hg29)).symm
    refine wp_loop_m (fun mz az W => ∃ k : Nat, ∃ p : RM, mz = m.l.length - k ∧ Fr 84 [(1, .pointer (some ((⟨g2, 0, none⟩ : Addr)))), (3, .pointer (some ((⟨g25, 0, none⟩ : Addr)))), (33, .slice m.A (m.l.length) m.c), (34, .int .i64 (((m.l.length : Nat) : Int))), (35, .int .i64 ((k : Int)))] az ∧ (k ≤ m.l.length) ∧ (refsOk m.h m.n ⟨-1, 0⟩ m.l = refsOk m.h m.n p (m.l.drop k)) ∧ Only NoF w W ∧ Blk W g25 71 [.int .i64 (p.h), .int .i64 (p.n)].toArray ∧ Blk W g2 54 [.int .i64 (m.h), .int .i64 (m.n), .int .i64 (m.d), .slice m.A (m.l.length) m.c, strV (m.s)].toArray) ?_ ?_
    · -- start
      have O40 : Only NoF w w13 := (Only.trans' (Only.trans' o4 o11) o14)
      have O41 : Only NoF w w31 := (o_sg (Only.trans' (Only.trans' (Only.trans' o4 o11) o14) o27) s32 (size_only O40) (oneF_ge hg29))
      exact ⟨_, 0, ⟨-1, 0⟩, rfl, Hz.cut ⟨rfl, rfl, rfl, rfl, rfl, trivial⟩, Nat.zero_le _, rfl, O41, B33, B38⟩
    clear Hz az
    rintro mz az w42 ⟨k, p, hm44, Hz, hk, hrf, o43, B45, B46⟩
    have O47 : Only NoF w w13 := (Only.trans' (Only.trans' o4 o11) o14)
    refine wp_seq_k fun K48 hK48 => ?_
    -- seal.go:23
    refine wp_region_lit ?_
    refine L (r_ltI Hz rfl rfl) Hz rfl ?_
    clear Hz az; intro az Hz
    refine hK48 _ _ ?_
    refine wp_seq_k fun K49 hK49 => ?_
    refine br Hz rfl (fun hc50 => ?_) (fun hc50 => ?_)
    · -- if1
      have p51 := of_decide_eq_true hc50
      refine wp_skip ?_
      refine hK49 _ _ ?_
      refine wp_seq_k fun K52 hK52 => ?_
      refine wp_block ?_
      refine wp_seq_k fun K53 hK53 => ?_
      -- seal.go:23
      refine wp_region_lit ?_
      have hk54 : k < (m.l).length := by omega
      have h60 := (SliceOf.kp h1 o43 (fun _ _ h => h) (fun _ _ _ _ h => h))
      obtain ⟨m55, hm56, ok57, hA58⟩ := Row.el KRef h60 hk54
      have E59 : ∀ W, Only NoF w42 W → CA W (eA m.A 2 (k)) [.int .i64 (m55.h), .int .i64 (m55.n)] := Row.ce KRef h60 hm56 rfl
      refine L (r_ia (k := k) (size := 2) Tryd.underlying52 Tryd.sizeOf71 Hz rfl rfl rfl hk54 hA58) Hz rfl ?_
      clear Hz az; intro az Hz
      refine L (r_ldA Tryd.isAgg71 Tryd.sizeOf71 Hz rfl (E59 _ (Only.refl NoF w42)) rfl) Hz rfl ?_
      clear Hz az; intro az Hz
      refine LAl (v := .agg #[.int .i64 (0), .int .i64 (0)]) Tryd.zeroValue71 Hz rfl rfl ?_
      clear Hz az; intro g61 w62 hg65 hl66 o63 B64 az Hz
      refine LSt (cs' := [.int .i64 (m55.h), .int .i64 (m55.n)]) Tryd.sizeOf71 Hz rfl rfl rfl rfl rfl ⟨rfl, rfl, trivial⟩ B64 rfl rfl fun w67 s68 B69 => ?_
      refine hK53 _ _ ?_
      refine wp_seq_k fun K70 hK70 => ?_
      -- seal.go:24
      refine wp_region_lit ?_
      refine L (r_fa (m' := 0) Tryd.underlying71 rfl Tryd.sizeOf3 rfl Hz rfl rfl) Hz rfl ?_
      clear Hz az; intro az Hz
      refine L (r_ld Tryd.isAgg3 Hz rfl ((Blk.ca B69) 0 _ rfl)) Hz rfl ?_
      clear Hz az; intro az Hz
      refine L (r_fa (m' := 0) Tryd.underlying71 rfl Tryd.sizeOf3 rfl Hz rfl rfl) Hz rfl ?_
      clear Hz az; intro az Hz
      have ne71 : g25 ≠ g61 := (ne_of (Blk.lt B45) hg65)
      have B72 := (Blk.st (Blk.k B45 o63) s68 ne71)
      refine L (r_ld Tryd.isAgg3 Hz rfl ((Blk.ca B72) 0 _ rfl)) Hz rfl ?_
      clear Hz az; intro az Hz
      refine L (r_gtI Hz rfl rfl) Hz rfl ?_
      clear Hz az; intro az Hz
      refine L (r_mv Hz rfl) Hz rfl ?_
      clear Hz az; intro az Hz
      refine LG Hz rfl rfl gd_f (fun hb => r_fa (m' := 0) Tryd.underlying71 rfl Tryd.sizeOf3 rfl Hz rfl rfl) rfl ?_
      clear Hz az; intro az Hz
      refine LG Hz rfl rfl gd_f (fun hb => r_ld Tryd.isAgg3 Hz (evg hb rfl) ((Blk.ca B69) 0 _ rfl)) rfl ?_
      clear Hz az; intro az Hz
      refine LG Hz rfl rfl gd_f (fun hb => r_fa (m' := 0) Tryd.underlying71 rfl Tryd.sizeOf3 rfl Hz rfl rfl) rfl ?_
      clear Hz az; intro az Hz
      refine LG Hz rfl rfl gd_f (fun hb => r_ld Tryd.isAgg3 Hz (evg hb rfl) ((Blk.ca B72) 0 _ rfl)) rfl ?_
      clear Hz az; intro az Hz
      refine LG Hz rfl rfl gd_f (fun hb => r_eqI Hz (evg hb rfl) (evg hb rfl)) rfl ?_
      clear Hz az; intro az Hz
      refine LG Hz rfl rfl gd_f (fun hb => r_mv Hz (evg hb rfl)) rfl ?_
      clear Hz az; intro az Hz
      refine LG Hz rfl rfl gd_gt (fun hb => r_fa (m' := 1) Tryd.underlying71 rfl Tryd.sizeOf3 rfl Hz rfl rfl) rfl ?_
      clear Hz az; intro az Hz
      refine LG Hz rfl rfl gd_gt (fun hb => r_ld Tryd.isAgg3 Hz (evg hb rfl) ((Blk.ca B69) 1 _ rfl)) rfl ?_
      clear Hz az; intro az Hz
      refine LG Hz rfl rfl gd_gt (fun hb => r_fa (m' := 1) Tryd.underlying71 rfl Tryd.sizeOf3 rfl Hz rfl rfl) rfl ?_
      clear Hz az; intro az Hz
      refine LG Hz rfl rfl gd_gt (fun hb => r_ld Tryd.isAgg3 Hz (evg hb rfl) ((Blk.ca B72) 1 _ rfl)) rfl ?_
      clear Hz az; intro az Hz
      refine LG Hz rfl rfl gd_gt (fun hb => r_gtI Hz (evg hb rfl) (evg hb rfl)) rfl ?_
      clear Hz az; intro az Hz
      refine LG Hz rfl rfl gd_f (fun hb => r_and Hz (evg hb rfl) (evgc hb rfl) rfl) rfl ?_
      clear Hz az; intro az Hz
      refine L (r_or Hz rfl rfl rfl) Hz rfl ?_
      clear Hz az; intro az Hz
      refine L (r_as Hz rfl) Hz rfl ?_
      clear Hz az; intro az Hz
      refine hK70 _ _ ?_
      refine wp_seq_k fun K73 hK73 => ?_
      refine wp_seq_k fun K74 hK74 => ?_
      -- seal.go:25
      refine wp_region_lit ?_
      refine L (r_fa (m' := 0) Tryd.underlying71 rfl Tryd.sizeOf3 rfl Hz rfl rfl) Hz rfl ?_
      clear Hz az; intro az Hz
      refine L (r_ld Tryd.isAgg3 Hz rfl ((Blk.ca B69) 0 _ rfl)) Hz rfl ?_
      clear Hz az; intro az Hz
      refine L (r_fa (m' := 1) Tryd.underlying71 rfl Tryd.sizeOf3 rfl Hz rfl rfl) Hz rfl ?_
      clear Hz az; intro az Hz
      refine L (r_ld Tryd.isAgg3 Hz rfl ((Blk.ca B69) 1 _ rfl)) Hz rfl ?_
      clear Hz az; intro az Hz
      refine LCV (v := .bool (kn m55.h m55.n)) Hz rfl rfl Tryd.call86 (known_v _ m55.h m55.n) rfl fun w75 o76 => ?_
      clear Hz az; intro az Hz
      refine L (r_not Hz rfl) Hz rfl ?_
      clear Hz az; intro az Hz
      refine L (r_mv Hz rfl) Hz rfl ?_
      clear Hz az; intro az Hz
      refine LG Hz rfl rfl gd_f (fun hb => r_mv Hz rfl) rfl ?_
      clear Hz az; intro az Hz
      refine LG Hz rfl rfl gd_f (fun hb => r_not Hz (evg hb rfl)) rfl ?_
      clear Hz az; intro az Hz
      refine L (r_or Hz rfl rfl rfl) Hz rfl ?_
      clear Hz az; intro az Hz
      refine L (r_mv Hz rfl) Hz rfl ?_
      clear Hz az; intro az Hz
      refine LG Hz rfl rfl gd_f (fun hb => r_fa (m' := 0) Tryd.underlying71 rfl Tryd.sizeOf3 rfl Hz rfl rfl) rfl ?_
      clear Hz az; intro az Hz
      have B77 := (Blk.k B69 o76)
      refine LG Hz rfl rfl gd_f (fun hb => r_ld Tryd.isAgg3 Hz (evg hb rfl) ((Blk.ca B77) 0 _ rfl)) rfl ?_
      clear Hz az; intro az Hz
      refine LG Hz rfl rfl gd_f (fun hb => r_fa (m' := 0) Tryd.underlying54 rfl Tryd.sizeOf3 rfl Hz rfl rfl) rfl ?_
      clear Hz az; intro az Hz
      have ne78 : g2 ≠ g61 := (ne_of (Blk.lt B46) hg65)
      have B79 := (Blk.k (Blk.st (Blk.k B46 o63) s68 ne78) o76)
      refine LG Hz rfl rfl gd_f (fun hb => r_ld Tryd.isAgg3 Hz (evg hb rfl) ((Blk.ca B79) 0 _ rfl)) rfl ?_
      clear Hz az; intro az Hz
      refine LG Hz rfl rfl gd_f (fun hb => r_eqI Hz (evg hb rfl) (evg hb rfl)) rfl ?_
      clear Hz az; intro az Hz
      refine LG Hz rfl rfl gd_f (fun hb => r_mv Hz (evg hb rfl)) rfl ?_
      clear Hz az; intro az Hz
      refine LG Hz rfl rfl gd_gt (fun hb => r_fa (m' := 1) Tryd.underlying71 rfl Tryd.sizeOf3 rfl Hz rfl rfl) rfl ?_
      clear Hz az; intro az Hz
      refine LG Hz rfl rfl gd_gt (fun hb => r_ld Tryd.isAgg3 Hz (evg hb rfl) ((Blk.ca B77) 1 _ rfl)) rfl ?_
      clear Hz az; intro az Hz
      refine LG Hz rfl rfl gd_gt (fun hb => r_fa (m' := 1) Tryd.underlying54 rfl Tryd.sizeOf3 rfl Hz rfl rfl) rfl ?_
      clear Hz az; intro az Hz
      refine LG Hz rfl rfl gd_gt (fun hb => r_ld Tryd.isAgg3 Hz (evg hb rfl) ((Blk.ca B79) 1 _ rfl)) rfl ?_
      clear Hz az; intro az Hz
      refine LG Hz rfl rfl gd_gt (fun hb => r_geI Hz (evg hb rfl) (evg hb rfl)) rfl ?_
      clear Hz az; intro az Hz
      refine LG Hz rfl rfl gd_f (fun hb => r_and Hz (evg hb rfl) (evgc hb rfl) rfl) rfl ?_
      clear Hz az; intro az Hz
      refine L (r_or Hz rfl rfl rfl) Hz rfl ?_
      clear Hz az; intro az Hz
      refine hK74 _ _ ?_
      refine br Hz rfl (fun hc80 => ?_) (fun hc80 => ?_)
      · -- if2
        have d81 := hc80
        refine wp_seq_k fun K82 hK82 => ?_
        -- seal.go:26
        refine wp_region_lit ?_
        refine L (r_as Hz rfl) Hz rfl ?_
        clear Hz az; intro az Hz
        refine hK82 _ _ ?_
        refine wp_ret ?_
        show bodyPost _ _ _ .ret _ _
        refine ret_of (vs := [.bool (false)]) Hz Tryd.results62 ⟨rfl, trivial⟩ ?_
        have O83 : Only NoF w w75 := (Only.trans' (o_sg (Only.trans' o43 o63) s68 (size_only o43) (oneF_ge hg65)) o76)
        have hro : refOk m.h m.n p m55 = false := congrArg (fun b => !b) hc80
        rw [right_of (m := m) (b := false) hc16 hrf (by rw [refsOk_drop hm56, hro, Bool.false_and])]; exact ⟨rfl, O83⟩
      · -- else2
        have q84 : kn m55.h m55.n = true := (nt_f (or_f (or_f hc80).1).1)
        have d85 := (nt_f (or_f (or_f hc80).1).2)
        have d86 := (or_f hc80).2
        refine wp_skip ?_
        refine hK73 _ _ ?_
        -- seal.go:28
        refine wp_region_lit ?_
        refine L (r_ldA Tryd.isAgg71 Tryd.sizeOf71 Hz rfl (Blk.ca B77) rfl) Hz rfl ?_
        clear Hz az; intro az Hz
        have B87 := (Blk.k B72 o76)
        refine LSt (cs' := [.int .i64 (m55.h), .int .i64 (m55.n)]) Tryd.sizeOf71 Hz rfl rfl rfl rfl rfl ⟨rfl, rfl, trivial⟩ B87 rfl rfl fun w88 s89 B90 => ?_
        refine hK52 _ _ ?_
        -- seal.go:23
        refine wp_region_lit ?_
        have i91 : I64 (((k : Int) + 1)) := by unfold I64; omega
        refine L (r_addI (r := ((k : Int) + 1)) Hz rfl rfl rfl i91) Hz rfl ?_
        clear Hz az; intro az Hz
        refine L (r_mv Hz rfl) Hz rfl ?_
        clear Hz az; intro az Hz
        have hro : refOk m.h m.n p m55 = true := congrArg (fun b => !b) hc80
        have O92 : Only NoF w w88 := (o_sg (Only.trans' (o_sg (Only.trans' o43 o63) s68 (size_only o43) (oneF_ge hg65)) o76) s89 (Nat.le_refl _) (oneF_ge (Nat.le_trans (size_only O47) hg29)))
        have B93 := (Blk.st B79 s89 ne36)
        exact ⟨_, (by omega), k + 1, m55, rfl, Hz.cut ⟨rfl, rfl, rfl, rfl, rfl, trivial⟩, (by omega), (by rw [hrf, refsOk_drop hm56, hro, Bool.true_and]), O92, B90, B93⟩
    · -- else1
      have p94 := of_decide_eq_false hc50
      refine wp_exit ?_
      refine th_exit ?_
      refine th_exit ?_
      refine ib_hit ?_
      refine hK34 _ _ ?_
      refine wp_seq_k fun K95 hK95 => ?_
      -- seal.go:30
      refine wp_region_lit ?_
      refine L (r_as Hz rfl) Hz rfl ?_
      clear Hz az; intro az Hz
      refine hK95 _ _ ?_
      refine wp_ret ?_
      show bodyPost _ _ _ .ret _ _
      refine ret_of (vs := [.bool (true)]) Hz Tryd.results62 ⟨rfl, trivial⟩ ?_
      rw [right_of (m := m) (b := true) hc16 hrf (by rw [List.drop_of_length_le (by omega)]; rfl)]; exact ⟨rfl, o43⟩
end Go.Proofs.YtgmnoianhonihaaDoor
