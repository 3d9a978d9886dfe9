/-
  The wire's laws: few, write, SameNums, SameTexts, equal, walked. Condition of the bounds: those of 'few'.
-/
import Derived.Test.YtgmnoianhonihaaDoorWVal
namespace Go.Proofs.YtgmnoianhonihaaDoor
set_option linter.unusedVariables false
set_option linter.unusedSimpArgs false
set_option linter.unusedSectionVars false
open Go.RowKit

theorem few_cond {a b c : Nat} (h : ((decide ((400 : Int) < (a : Int)) || decide ((400 : Int) < (b : Int))) || decide ((400 : Int) < (c : Int))) = false) : a ≤ 400 ∧ b ≤ 400 ∧ c ≤ 400 := by
  simp only [Bool.or_eq_false_iff, decide_eq_false_iff_not] at h
  omega
theorem few_one {m : VM} (h : ((decide ((400 : Int) < ((m.l.length : Nat) : Int)) || decide ((400 : Int) < ((m.t.length : Nat) : Int))) || decide ((400 : Int) < ((m.s.length : Nat) : Int))) = false) (ht : ∀ y ∈ m.t, y.length ≤ 400) : FewOne m := by
  obtain ⟨h1, h2, h3⟩ := few_cond h
  exact ⟨h1, h2, h3, ht⟩
theorem same_step {α : Type} [DecidableEq α] {l l2 : List α} {k : Nat} {x y : α} (h1 : l[k]? = some x) (h2 : l2[k]? = some y) (h : l.take k = l2.take k) (he : (!decide (x = y)) = false) : l.take (k + 1) = l2.take (k + 1) := by
  rw [take_succ_get h1, take_succ_get h2, h, of_decide_eq_true (nt_f he)]
theorem same_ne {α : Type} [DecidableEq α] {l l2 : List α} {k : Nat} {x y : α} (h1 : l[k]? = some x) (h2 : l2[k]? = some y) (he : (!decide (x = y)) = true) : l ≠ l2 := by
  intro h
  rw [h, h2] at h1
  exact of_decide_eq_false (nt_t he) (Option.some.inj h1).symm
set_option maxRecDepth 20000 in
set_option maxHeartbeats 4000000 in
theorem few_v_ {w : World} {l : List VM} {A1 : Option Addr} {c1 : Nat} (f1 : ValsV w w (.slice A1 l.length c1) l) : Calls Tryd.prog 16 [.slice A1 l.length c1].toArray w (Tells (FewV l) w) := by
  refine calls_start Tryd.func16 rfl rfl ?_
  intro az Hz
  rw [Tryd.ntmps16] at Hz
  refine wp_seq_k fun K1 hK1 => ?_
  -- law.go:78
  refine wp_region_lit ?_
  refine L (r_as Hz rfl) Hz rfl ?_
  clear Hz az; intro az Hz
  refine hK1 _ _ ?_
  refine wp_seq_k fun K2 hK2 => ?_
  refine wp_seq_k fun K3 hK3 => ?_
  -- law.go:79
  refine wp_region_lit ?_
  refine L (r_mv Hz rfl) Hz rfl ?_
  clear Hz az; intro az Hz
  refine L (r_lenL Tryd.underlying28 Hz rfl) Hz rfl ?_
  clear Hz az; intro az Hz
  refine L (r_gtI Hz rfl rfl) Hz rfl ?_
  clear Hz az; intro az Hz
  refine hK3 _ _ ?_
  refine br Hz rfl (fun hc4 => ?_) (fun hc4 => ?_)
  · -- if0
    have p5 := of_decide_eq_true hc4
    refine wp_seq_k fun K6 hK6 => ?_
    -- law.go:80
    refine wp_region_lit ?_
    refine L (r_as Hz rfl) Hz rfl ?_
    clear Hz az; intro az Hz
    refine hK6 _ _ ?_
    refine wp_ret ?_
    show bodyPost _ _ _ .ret _ _
    refine ret_of (vs := [.bool (false)]) Hz Tryd.results16 ⟨rfl, trivial⟩ ?_
    exact ⟨false, rfl, (fun h => by cases h), (Only.refl NoF w)⟩
  · -- else0
    have p7 := of_decide_eq_false hc4
    refine wp_skip ?_
    refine hK2 _ _ ?_
    refine wp_seq_k fun K8 hK8 => ?_
    -- law.go:82
    refine wp_region_lit ?_
    refine L (r_as Hz rfl) Hz rfl ?_
    clear Hz az; intro az Hz
    refine hK8 _ _ ?_
    refine wp_seq_k fun K9 hK9 => ?_
    refine wp_seq_k fun K10 hK10 => ?_
    -- law.go:83
    refine wp_region_lit ?_
    refine L (r_as Hz rfl) Hz rfl ?_
    clear Hz az; intro az Hz
    refine hK10 _ _ ?_
    refine wp_block ?_
    refine wp_loop_m (fun mz az W => ∃ i : Nat, ∃ N : Int, mz = l.length - i ∧ Fr 95 [(0, .slice A1 (l.length) c1), (4, .int .i64 ((i : Int))), (3, .int .i64 (N))] az ∧ (i ≤ l.length) ∧ (∀ m ∈ l.take i, FewOne m) ∧ (0 ≤ N ∧ N ≤ (i : Int) * 200000) ∧ Only NoF w W) ?_ ?_
    · -- start
      exact ⟨_, 0, 0, rfl, Hz.cut ⟨rfl, rfl, rfl, trivial⟩, Nat.zero_le _, (fun m hm => by cases hm), (by omega), (Only.refl NoF w)⟩
    clear Hz az
    rintro mz az w11 ⟨i, N, hm13, Hz, hi, hall, hN, o12⟩
    refine wp_seq_k fun K14 hK14 => ?_
    refine wp_seq_k fun K15 hK15 => ?_
    -- law.go:83
    refine wp_region_lit ?_
    refine L (r_mv Hz rfl) Hz rfl ?_
    clear Hz az; intro az Hz
    refine L (r_mv Hz rfl) Hz rfl ?_
    clear Hz az; intro az Hz
    refine L (r_lenL Tryd.underlying28 Hz rfl) Hz rfl ?_
    clear Hz az; intro az Hz
    refine L (r_ltI Hz rfl rfl) Hz rfl ?_
    clear Hz az; intro az Hz
    refine hK15 _ _ ?_
    refine br Hz rfl (fun hc16 => ?_) (fun hc16 => ?_)
    · -- if1
      have p17 := of_decide_eq_true hc16
      refine wp_skip ?_
      refine hK14 _ _ ?_
      refine wp_seq_k fun K18 hK18 => ?_
      refine wp_block ?_
      refine wp_seq_k fun K19 hK19 => ?_
      refine wp_seq_k fun K20 hK20 => ?_
      -- law.go:84
      refine wp_region_lit ?_
      refine L (r_mv Hz rfl) Hz rfl ?_
      clear Hz az; intro az Hz
      refine L (r_mv Hz rfl) Hz rfl ?_
      clear Hz az; intro az Hz
      have hk21 : i < (l).length := by omega
      have h27 := (SliceOf.kp f1 o12 (fun _ _ h => h) (fun _ _ _ _ h => h))
      obtain ⟨m22, hm23, ok24, hA25⟩ := Row.el (KVal w) h27 hk21
      have E26 : ∀ W, Only NoF w11 W → CA W (eA A1 5 (i)) [.int .i64 (m22.k), .int .i64 (m22.n), strV (m22.s), .slice m22.A (m22.l.length) m22.c, .slice m22.B (m22.t.length) m22.d] := Row.ce (KVal w) h27 hm23 rfl
      refine L (r_ia (k := i) (size := 5) Tryd.underlying28 Tryd.sizeOf25 Hz rfl rfl rfl hk21 hA25) Hz rfl ?_
      clear Hz az; intro az Hz
      refine L (r_fa (m' := 3) Tryd.underlying25 rfl Tryd.sizeOf22 rfl Hz rfl rfl) Hz rfl ?_
      clear Hz az; intro az Hz
      refine L (r_ld Tryd.isAgg22 Hz rfl ((E26 _ (Only.refl NoF w11)) 3 _ rfl)) Hz rfl ?_
      clear Hz az; intro az Hz
      refine L (r_lenL Tryd.underlying22 Hz rfl) Hz rfl ?_
      clear Hz az; intro az Hz
      refine L (r_gtI Hz rfl rfl) Hz rfl ?_
      clear Hz az; intro az Hz
      refine L (r_mv Hz rfl) Hz rfl ?_
      clear Hz az; intro az Hz
      refine LG Hz rfl rfl gd_f (fun hb => r_mv Hz rfl) rfl ?_
      clear Hz az; intro az Hz
      refine LG Hz rfl rfl gd_f (fun hb => r_mv Hz rfl) rfl ?_
      clear Hz az; intro az Hz
      refine LG Hz rfl rfl gd_f (fun hb => r_ia (k := i) (size := 5) Tryd.underlying28 Tryd.sizeOf25 Hz (evg hb rfl) (evg hb rfl) rfl hk21 hA25) rfl ?_
      clear Hz az; intro az Hz
      refine LG Hz rfl rfl gd_f (fun hb => r_fa (m' := 4) Tryd.underlying25 rfl Tryd.sizeOf23 rfl Hz (evg hb rfl) rfl) rfl ?_
      clear Hz az; intro az Hz
      refine LG Hz rfl rfl gd_f (fun hb => r_ld Tryd.isAgg23 Hz (evg hb rfl) ((E26 _ (Only.refl NoF w11)) 4 _ rfl)) rfl ?_
      clear Hz az; intro az Hz
      refine LG Hz rfl rfl gd_f (fun hb => r_lenL Tryd.underlying23 Hz (evg hb rfl)) rfl ?_
      clear Hz az; intro az Hz
      refine LG Hz rfl rfl gd_f (fun hb => r_gtI Hz (evg hb rfl) rfl) rfl ?_
      clear Hz az; intro az Hz
      refine L (r_or Hz rfl rfl rfl) Hz rfl ?_
      clear Hz az; intro az Hz
      refine L (r_mv Hz rfl) Hz rfl ?_
      clear Hz az; intro az Hz
      refine LG Hz rfl rfl gd_f (fun hb => r_mv Hz rfl) rfl ?_
      clear Hz az; intro az Hz
      refine LG Hz rfl rfl gd_f (fun hb => r_mv Hz rfl) rfl ?_
      clear Hz az; intro az Hz
      refine LG Hz rfl rfl gd_f (fun hb => r_ia (k := i) (size := 5) Tryd.underlying28 Tryd.sizeOf25 Hz (evg hb rfl) (evg hb rfl) rfl hk21 hA25) rfl ?_
      clear Hz az; intro az Hz
      refine LG Hz rfl rfl gd_f (fun hb => r_fa (m' := 2) Tryd.underlying25 rfl Tryd.sizeOf9 rfl Hz (evg hb rfl) rfl) rfl ?_
      clear Hz az; intro az Hz
      refine LG Hz rfl rfl gd_f (fun hb => r_ld Tryd.isAgg9 Hz (evg hb rfl) ((E26 _ (Only.refl NoF w11)) 2 _ rfl)) rfl ?_
      clear Hz az; intro az Hz
      refine LG Hz rfl rfl gd_f (fun hb => r_lenS Tryd.underlying9 Hz (evg hb rfl)) rfl ?_
      clear Hz az; intro az Hz
      refine LG Hz rfl rfl gd_f (fun hb => r_gtI Hz (evg hb rfl) rfl) rfl ?_
      clear Hz az; intro az Hz
      refine L (r_or Hz rfl rfl rfl) Hz rfl ?_
      clear Hz az; intro az Hz
      refine hK20 _ _ ?_
      refine br Hz rfl (fun hc28 => ?_) (fun hc28 => ?_)
      · -- if2
        have d29 := hc28
        refine wp_seq_k fun K30 hK30 => ?_
        -- law.go:85
        refine wp_region_lit ?_
        refine L (r_as Hz rfl) Hz rfl ?_
        clear Hz az; intro az Hz
        refine hK30 _ _ ?_
        refine wp_ret ?_
        show bodyPost _ _ _ .ret _ _
        refine ret_of (vs := [.bool (false)]) Hz Tryd.results16 ⟨rfl, trivial⟩ ?_
        exact ⟨false, rfl, (fun h => by cases h), o12⟩
      · -- else2
        have p31 := of_decide_eq_false (or_f (or_f hc28).1).1
        have p32 := of_decide_eq_false (or_f (or_f hc28).1).2
        have p33 := of_decide_eq_false (or_f hc28).2
        refine wp_skip ?_
        refine hK19 _ _ ?_
        refine wp_seq_k fun K34 hK34 => ?_
        -- law.go:87
        refine reg_q [(true, 0), (true, 1), (true, 2), (true, 3), (true, 4), (true, 5), (true, 6), (true, 7), (true, 8), (true, 9), (true, 10), (true, 11), (true, 12), (true, 13), (true, 14), (true, 15), (true, 16), (true, 17), (true, 18), (true, 19), (true, 20), (true, 21), (true, 22)] (by kernel_rfl) (by kernel_rfl) (fun _ _ _ _ _ h => h) fun w35 o36 => ?_
        refine M (r_mv Hz rfl) Hz rfl rfl ?_
        clear Hz az; intro az Hz
        refine M (r_mv Hz rfl) Hz rfl rfl ?_
        clear Hz az; intro az Hz
        refine M (r_mv Hz rfl) Hz rfl rfl ?_
        clear Hz az; intro az Hz
        refine M (r_ia (k := i) (size := 5) Tryd.underlying28 Tryd.sizeOf25 Hz rfl rfl rfl hk21 hA25) Hz rfl rfl ?_
        clear Hz az; intro az Hz
        refine M (r_fa (m' := 2) Tryd.underlying25 rfl Tryd.sizeOf9 rfl Hz rfl rfl) Hz rfl rfl ?_
        clear Hz az; intro az Hz
        refine M (r_ld Tryd.isAgg9 Hz rfl ((E26 _ o36) 2 _ rfl)) Hz rfl rfl ?_
        clear Hz az; intro az Hz
        refine M (r_lenS Tryd.underlying9 Hz rfl) Hz rfl rfl ?_
        clear Hz az; intro az Hz
        have i37 : I64 ((N + ((List.length (m22.s) : Nat) : Int))) := by unfold I64; have hc2 := few_cond hc28; omega
        refine M (r_addI (r := (N + ((List.length (m22.s) : Nat) : Int))) Hz rfl rfl rfl i37) Hz rfl rfl ?_
        clear Hz az; intro az Hz
        refine M (r_mv Hz rfl) Hz rfl rfl ?_
        clear Hz az; intro az Hz
        refine M (r_mv Hz rfl) Hz rfl rfl ?_
        clear Hz az; intro az Hz
        refine M (r_ia (k := i) (size := 5) Tryd.underlying28 Tryd.sizeOf25 Hz rfl rfl rfl hk21 hA25) Hz rfl rfl ?_
        clear Hz az; intro az Hz
        refine M (r_fa (m' := 3) Tryd.underlying25 rfl Tryd.sizeOf22 rfl Hz rfl rfl) Hz rfl rfl ?_
        clear Hz az; intro az Hz
        refine M (r_ld Tryd.isAgg22 Hz rfl ((E26 _ o36) 3 _ rfl)) Hz rfl rfl ?_
        clear Hz az; intro az Hz
        refine M (r_lenL Tryd.underlying22 Hz rfl) Hz rfl rfl ?_
        clear Hz az; intro az Hz
        have i38 : I64 (((N + ((List.length (m22.s) : Nat) : Int)) + ((m22.l.length : Nat) : Int))) := by unfold I64; have hc2 := few_cond hc28; omega
        refine M (r_addI (r := ((N + ((List.length (m22.s) : Nat) : Int)) + ((m22.l.length : Nat) : Int))) Hz rfl rfl rfl i38) Hz rfl rfl ?_
        clear Hz az; intro az Hz
        refine M (r_mv Hz rfl) Hz rfl rfl ?_
        clear Hz az; intro az Hz
        refine M (r_mv Hz rfl) Hz rfl rfl ?_
        clear Hz az; intro az Hz
        refine M (r_ia (k := i) (size := 5) Tryd.underlying28 Tryd.sizeOf25 Hz rfl rfl rfl hk21 hA25) Hz rfl rfl ?_
        clear Hz az; intro az Hz
        refine M (r_fa (m' := 4) Tryd.underlying25 rfl Tryd.sizeOf23 rfl Hz rfl rfl) Hz rfl rfl ?_
        clear Hz az; intro az Hz
        refine M (r_ld Tryd.isAgg23 Hz rfl ((E26 _ o36) 4 _ rfl)) Hz rfl rfl ?_
        clear Hz az; intro az Hz
        refine M (r_lenL Tryd.underlying23 Hz rfl) Hz rfl rfl ?_
        clear Hz az; intro az Hz
        have i39 : I64 ((((N + ((List.length (m22.s) : Nat) : Int)) + ((m22.l.length : Nat) : Int)) + ((m22.t.length : Nat) : Int))) := by unfold I64; have hc2 := few_cond hc28; omega
        refine M (r_addI (r := (((N + ((List.length (m22.s) : Nat) : Int)) + ((m22.l.length : Nat) : Int)) + ((m22.t.length : Nat) : Int))) Hz rfl rfl rfl i39) Hz rfl rfl ?_
        clear Hz az; intro az Hz
        refine M (r_as Hz rfl) Hz rfl rfl ?_
        clear Hz az; intro az Hz
        refine wpMix_nil ?_
        refine hK34 _ _ ?_
        refine wp_seq_k fun K40 hK40 => ?_
        -- law.go:88
        refine wp_region_lit ?_
        refine L (r_as Hz rfl) Hz rfl ?_
        clear Hz az; intro az Hz
        refine hK40 _ _ ?_
        refine wp_block ?_
        have hc2 := few_cond hc28
        refine wp_loop_m (fun mz az W => ∃ q : Nat, ∃ M : Int, mz = m22.t.length - q ∧ Fr 95 [(0, .slice A1 (l.length) c1), (4, .int .i64 ((i : Int))), (5, .int .i64 ((q : Int))), (3, .int .i64 (M))] az ∧ (q ≤ m22.t.length) ∧ (∀ y ∈ m22.t.take q, y.length ≤ 400) ∧ (0 ≤ M ∧ M ≤ (i : Int) * 200000 + 1200 + (q : Int) * 400) ∧ Only NoF w35 W) ?_ ?_
        · -- start
          exact ⟨_, 0, (((N + ((List.length (m22.s) : Nat) : Int)) + ((m22.l.length : Nat) : Int)) + ((m22.t.length : Nat) : Int)), rfl, Hz.cut ⟨rfl, rfl, rfl, rfl, trivial⟩, Nat.zero_le _, (fun y hy => by cases hy), (by omega), (Only.refl NoF w35)⟩
        clear Hz az
        rintro mz az w41 ⟨q, M, hm43, Hz, hq, htx, hM, o42⟩
        refine wp_seq_k fun K44 hK44 => ?_
        refine wp_seq_k fun K45 hK45 => ?_
        -- law.go:88
        refine wp_region_lit ?_
        refine L (r_mv Hz rfl) Hz rfl ?_
        clear Hz az; intro az Hz
        refine L (r_mv Hz rfl) Hz rfl ?_
        clear Hz az; intro az Hz
        refine L (r_mv Hz rfl) Hz rfl ?_
        clear Hz az; intro az Hz
        refine L (r_ia (k := i) (size := 5) Tryd.underlying28 Tryd.sizeOf25 Hz rfl rfl rfl hk21 hA25) Hz rfl ?_
        clear Hz az; intro az Hz
        refine L (r_fa (m' := 4) Tryd.underlying25 rfl Tryd.sizeOf23 rfl Hz rfl rfl) Hz rfl ?_
        clear Hz az; intro az Hz
        have O46 : Only NoF w11 w41 := (Only.trans' o36 o42)
        refine L (r_ld Tryd.isAgg23 Hz rfl ((E26 _ O46) 4 _ rfl)) Hz rfl ?_
        clear Hz az; intro az Hz
        refine L (r_lenL Tryd.underlying23 Hz rfl) Hz rfl ?_
        clear Hz az; intro az Hz
        refine L (r_ltI Hz rfl rfl) Hz rfl ?_
        clear Hz az; intro az Hz
        refine hK45 _ _ ?_
        refine br Hz rfl (fun hc47 => ?_) (fun hc47 => ?_)
        · -- if3
          have p48 := of_decide_eq_true hc47
          refine wp_skip ?_
          refine hK44 _ _ ?_
          refine wp_seq_k fun K49 hK49 => ?_
          refine wp_block ?_
          refine wp_seq_k fun K50 hK50 => ?_
          refine wp_seq_k fun K51 hK51 => ?_
          -- law.go:89
          refine wp_region_lit ?_
          refine L (r_mv Hz rfl) Hz rfl ?_
          clear Hz az; intro az Hz
          refine L (r_mv Hz rfl) Hz rfl ?_
          clear Hz az; intro az Hz
          refine L (r_ia (k := i) (size := 5) Tryd.underlying28 Tryd.sizeOf25 Hz rfl rfl rfl hk21 hA25) Hz rfl ?_
          clear Hz az; intro az Hz
          refine L (r_fa (m' := 4) Tryd.underlying25 rfl Tryd.sizeOf23 rfl Hz rfl rfl) Hz rfl ?_
          clear Hz az; intro az Hz
          refine L (r_ld Tryd.isAgg23 Hz rfl ((E26 _ O46) 4 _ rfl)) Hz rfl ?_
          clear Hz az; intro az Hz
          refine L (r_mv Hz rfl) Hz rfl ?_
          clear Hz az; intro az Hz
          have hk52 : q < (m22.t).length := by omega
          have O58 : Only NoF w w41 := (Only.trans' (Only.trans' o12 o36) o42)
          have h59 := (SliceOf.kp ok24.2.2.2.2 O58 (fun _ _ h => h) (fun _ _ _ _ h => h))
          obtain ⟨m53, hm54, ok55, hA56⟩ := Row.el KStr h59 hk52
          have E57 : ∀ W, Only NoF w41 W → CA W (eA m22.B 1 (q)) [strV (m53)] := Row.ce KStr h59 hm54 rfl
          refine L (r_ia (k := q) (size := 1) Tryd.underlying23 Tryd.sizeOf9 Hz rfl rfl rfl hk52 hA56) Hz rfl ?_
          clear Hz az; intro az Hz
          refine L (r_ld Tryd.isAgg9 Hz rfl (CA.first (E57 _ (Only.refl NoF w41)))) Hz rfl ?_
          clear Hz az; intro az Hz
          refine L (r_lenS Tryd.underlying9 Hz rfl) Hz rfl ?_
          clear Hz az; intro az Hz
          refine L (r_gtI Hz rfl rfl) Hz rfl ?_
          clear Hz az; intro az Hz
          refine hK51 _ _ ?_
          refine br Hz rfl (fun hc60 => ?_) (fun hc60 => ?_)
          · -- if4
            have p61 := of_decide_eq_true hc60
            refine wp_seq_k fun K62 hK62 => ?_
            -- law.go:90
            refine wp_region_lit ?_
            refine L (r_as Hz rfl) Hz rfl ?_
            clear Hz az; intro az Hz
            refine hK62 _ _ ?_
            refine wp_ret ?_
            show bodyPost _ _ _ .ret _ _
            refine ret_of (vs := [.bool (false)]) Hz Tryd.results16 ⟨rfl, trivial⟩ ?_
            exact ⟨false, rfl, (fun h => by cases h), O58⟩
          · -- else4
            have p63 := of_decide_eq_false hc60
            refine wp_skip ?_
            refine hK50 _ _ ?_
            -- law.go:92
            refine wp_region_lit ?_
            refine L (r_mv Hz rfl) Hz rfl ?_
            clear Hz az; intro az Hz
            refine L (r_mv Hz rfl) Hz rfl ?_
            clear Hz az; intro az Hz
            refine L (r_mv Hz rfl) Hz rfl ?_
            clear Hz az; intro az Hz
            refine L (r_ia (k := i) (size := 5) Tryd.underlying28 Tryd.sizeOf25 Hz rfl rfl rfl hk21 hA25) Hz rfl ?_
            clear Hz az; intro az Hz
            refine L (r_fa (m' := 4) Tryd.underlying25 rfl Tryd.sizeOf23 rfl Hz rfl rfl) Hz rfl ?_
            clear Hz az; intro az Hz
            refine L (r_ld Tryd.isAgg23 Hz rfl ((E26 _ O46) 4 _ rfl)) Hz rfl ?_
            clear Hz az; intro az Hz
            refine L (r_mv Hz rfl) Hz rfl ?_
            clear Hz az; intro az Hz
            refine L (r_ia (k := q) (size := 1) Tryd.underlying23 Tryd.sizeOf9 Hz rfl rfl rfl hk52 hA56) Hz rfl ?_
            clear Hz az; intro az Hz
            refine L (r_ld Tryd.isAgg9 Hz rfl (CA.first (E57 _ (Only.refl NoF w41)))) Hz rfl ?_
            clear Hz az; intro az Hz
            refine L (r_lenS Tryd.underlying9 Hz rfl) Hz rfl ?_
            clear Hz az; intro az Hz
            have i64 : I64 ((M + ((List.length (m53) : Nat) : Int))) := by unfold I64; have hc2 := few_cond hc28; omega
            refine L (r_addI (r := (M + ((List.length (m53) : Nat) : Int))) Hz rfl rfl rfl i64) Hz rfl ?_
            clear Hz az; intro az Hz
            refine L (r_as Hz rfl) Hz rfl ?_
            clear Hz az; intro az Hz
            refine hK49 _ _ ?_
            -- law.go:88
            refine wp_region_lit ?_
            refine L (r_mv Hz rfl) Hz rfl ?_
            clear Hz az; intro az Hz
            have i65 : I64 (((q : Int) + 1)) := by unfold I64; have hc2 := few_cond hc28; omega
            refine L (r_addI (r := ((q : Int) + 1)) Hz rfl rfl rfl i65) Hz rfl ?_
            clear Hz az; intro az Hz
            refine L (r_as Hz rfl) Hz rfl ?_
            clear Hz az; intro az Hz
            exact ⟨_, (by omega), q + 1, (M + ((List.length (m53) : Nat) : Int)), rfl, Hz.cut ⟨rfl, rfl, rfl, rfl, trivial⟩, (by omega), (txt_step hm54 htx (by omega)), (by omega), o42⟩
        · -- else3
          have p66 := of_decide_eq_false hc47
          refine wp_exit ?_
          refine th_exit ?_
          refine th_exit ?_
          refine ib_hit ?_
          refine hK18 _ _ ?_
          -- law.go:83
          refine wp_region_lit ?_
          refine L (r_mv Hz rfl) Hz rfl ?_
          clear Hz az; intro az Hz
          have i67 : I64 (((i : Int) + 1)) := by unfold I64; have hc2 := few_cond hc28; omega
          refine L (r_addI (r := ((i : Int) + 1)) Hz rfl rfl rfl i67) Hz rfl ?_
          clear Hz az; intro az Hz
          refine L (r_as Hz rfl) Hz rfl ?_
          clear Hz az; intro az Hz
          have O68 : Only NoF w w41 := (Only.trans' (Only.trans' o12 o36) o42)
          exact ⟨_, (by omega), i + 1, M, rfl, Hz.cut ⟨rfl, rfl, rfl, trivial⟩, (by omega), (few_step hm23 hall (few_one hc28 (by rw [List.take_of_length_le (by omega)] at htx; exact htx))), (by omega), O68⟩
    · -- else1
      have p69 := of_decide_eq_false hc16
      refine wp_exit ?_
      refine th_exit ?_
      refine th_exit ?_
      refine ib_hit ?_
      refine hK9 _ _ ?_
      refine wp_seq_k fun K70 hK70 => ?_
      -- law.go:95
      refine wp_region_lit ?_
      refine L (r_mv Hz rfl) Hz rfl ?_
      clear Hz az; intro az Hz
      refine L (r_leI Hz rfl rfl) Hz rfl ?_
      clear Hz az; intro az Hz
      refine L (r_as Hz rfl) Hz rfl ?_
      clear Hz az; intro az Hz
      refine hK70 _ _ ?_
      refine wp_ret ?_
      show bodyPost _ _ _ .ret _ _
      refine ret_of (vs := [.bool (decide (N ≤ 400))]) Hz Tryd.results16 ⟨rfl, trivial⟩ ?_
      rw [List.take_of_length_le (by omega)] at hall
      exact ⟨_, rfl, fun _ => ⟨by omega, hall⟩, o12⟩

set_option maxRecDepth 20000 in
set_option maxHeartbeats 4000000 in
theorem write_v {w : World} {m : VM} (hG : Gr w) (h1 : IntsV w (.slice m.A m.l.length m.c) m.l) (h2 : StrsV w (.slice m.B m.t.length m.d) m.t) (hok : OkM m) (hf : FewOne m) : Calls Tryd.prog 36 [.agg #[.int .i64 m.k, .int .i64 m.n, strV m.s, .slice m.A m.l.length m.c, .slice m.B m.t.length m.d]].toArray w (Fix (strV (wrE m)) w) := by
  refine calls_start Tryd.func36 rfl rfl ?_
  intro az Hz
  rw [Tryd.ntmps36] at Hz
  refine wp_seq_k fun K1 hK1 => ?_
  -- law.go:48
  refine wp_region_lit ?_
  refine LBox Hz rfl rfl rfl ?_
  clear Hz az; intro g2 w3 hg6 hl7 o4 B5 az Hz
  refine L (r_as Hz rfl) Hz rfl ?_
  clear Hz az; intro az Hz
  refine hK1 _ _ ?_
  refine wp_seq_k fun K8 hK8 => ?_
  refine wp_seq_k fun K9 hK9 => ?_
  -- law.go:49
  refine wp_region_lit ?_
  refine L (r_ldA Tryd.isAgg25 Tryd.sizeOf25 Hz rfl (Blk.ca B5) rfl) Hz rfl ?_
  clear Hz az; intro az Hz
  refine LCV (v := .int .i64 ((Wr.kind m.k))) Hz rfl rfl Tryd.call28 (kind_v _ m.k _ _ _ _ hok.1) rfl fun w10 o11 => ?_
  clear Hz az; intro az Hz
  refine hK9 _ _ ?_
  refine wp_block ?_
  refine wp_seq_k fun K12 hK12 => ?_
  -- law.go:50
  refine wp_region_lit ?_
  refine L (r_eqI Hz rfl rfl) Hz rfl ?_
  clear Hz az; intro az Hz
  refine L (r_as Hz rfl) Hz rfl ?_
  clear Hz az; intro az Hz
  refine hK12 _ _ ?_
  refine br Hz rfl (fun hc13 => ?_) (fun hc13 => ?_)
  · -- if0
    have p14 := of_decide_eq_true hc13
    refine wp_seq_k fun K15 hK15 => ?_
    -- law.go:51
    refine wp_region_lit ?_
    refine L (r_fa (m' := 1) Tryd.underlying25 rfl Tryd.sizeOf3 rfl Hz rfl rfl) Hz rfl ?_
    clear Hz az; intro az Hz
    have B16 := (Blk.k B5 o11)
    refine L (r_ld Tryd.isAgg3 Hz rfl ((Blk.ca B16) 1 _ rfl)) Hz rfl ?_
    clear Hz az; intro az Hz
    refine LCV (v := .int .i64 ((Wr.absN m.n))) Hz rfl rfl Tryd.call77 (absN_v _ m.n hok.2.1) rfl fun w17 o18 => ?_
    clear Hz az; intro az Hz
    have O20 : Only NoF w w17 := (Only.trans' (Only.trans' o4 o11) o18)
    have G19 := Gr.k hG O20
    refine LCV (v := strV (Wr.numE (Wr.absN m.n))) Hz rfl rfl Tryd.call17 (Num_v G19 (Wr.absN m.n) (absN_ok hok.2.1).1) rfl fun w21 o22 => ?_
    clear Hz az; intro az Hz
    refine L (r_as Hz rfl) Hz rfl ?_
    clear Hz az; intro az Hz
    refine hK15 _ _ ?_
    refine wp_ret ?_
    show bodyPost _ _ _ .ret _ _
    refine ret_of (vs := [strV (Wr.numE (Wr.absN m.n))]) Hz Tryd.results36 ⟨rfl, trivial⟩ ?_
    unfold wrE; rw [if_pos (of_decide_eq_true hc13)]
    have O23 : Only NoF w w21 := (Only.trans' O20 o22)
    exact ⟨rfl, O23⟩
  · -- else0
    have p24 := of_decide_eq_false hc13
    refine wp_seq_k fun K25 hK25 => ?_
    -- law.go:52
    refine wp_region_lit ?_
    refine L (r_eqI Hz rfl rfl) Hz rfl ?_
    clear Hz az; intro az Hz
    refine L (r_as Hz rfl) Hz rfl ?_
    clear Hz az; intro az Hz
    refine hK25 _ _ ?_
    refine br Hz rfl (fun hc26 => ?_) (fun hc26 => ?_)
    · -- if1
      have p27 := of_decide_eq_true hc26
      refine wp_seq_k fun K28 hK28 => ?_
      -- law.go:53
      refine wp_region_lit ?_
      refine L (r_fa (m' := 1) Tryd.underlying25 rfl Tryd.sizeOf3 rfl Hz rfl rfl) Hz rfl ?_
      clear Hz az; intro az Hz
      have B29 := (Blk.k B5 o11)
      refine L (r_ld Tryd.isAgg3 Hz rfl ((Blk.ca B29) 1 _ rfl)) Hz rfl ?_
      clear Hz az; intro az Hz
      have O31 : Only NoF w w10 := (Only.trans' o4 o11)
      have G30 := Gr.k hG O31
      refine LCV (v := strV (Wr.intE m.n)) Hz rfl rfl Tryd.call19 (Int_v G30 m.n hok.2.1) rfl fun w32 o33 => ?_
      clear Hz az; intro az Hz
      refine L (r_as Hz rfl) Hz rfl ?_
      clear Hz az; intro az Hz
      refine hK28 _ _ ?_
      refine wp_ret ?_
      show bodyPost _ _ _ .ret _ _
      refine ret_of (vs := [strV (Wr.intE m.n)]) Hz Tryd.results36 ⟨rfl, trivial⟩ ?_
      unfold wrE; rw [if_neg (of_decide_eq_false hc13), if_pos (of_decide_eq_true hc26)]
      have O34 : Only NoF w w32 := (Only.trans' O31 o33)
      exact ⟨rfl, O34⟩
    · -- else1
      have p35 := of_decide_eq_false hc26
      refine wp_seq_k fun K36 hK36 => ?_
      -- law.go:54
      refine wp_region_lit ?_
      refine L (r_eqI Hz rfl rfl) Hz rfl ?_
      clear Hz az; intro az Hz
      refine L (r_as Hz rfl) Hz rfl ?_
      clear Hz az; intro az Hz
      refine hK36 _ _ ?_
      refine br Hz rfl (fun hc37 => ?_) (fun hc37 => ?_)
      · -- if2
        have p38 := of_decide_eq_true hc37
        refine wp_seq_k fun K39 hK39 => ?_
        -- law.go:55
        refine wp_region_lit ?_
        refine L (r_fa (m' := 2) Tryd.underlying25 rfl Tryd.sizeOf9 rfl Hz rfl rfl) Hz rfl ?_
        clear Hz az; intro az Hz
        have B40 := (Blk.k B5 o11)
        refine L (r_ld Tryd.isAgg9 Hz rfl ((Blk.ca B40) 2 _ rfl)) Hz rfl ?_
        clear Hz az; intro az Hz
        have O42 : Only NoF w w10 := (Only.trans' o4 o11)
        have G41 := Gr.k hG O42
        refine LCV (v := strV (Wr.textE m.s)) Hz rfl rfl Tryd.call21 (Text_v G41 m.s (by have := hf.2.2.1; omega)) rfl fun w43 o44 => ?_
        clear Hz az; intro az Hz
        refine L (r_as Hz rfl) Hz rfl ?_
        clear Hz az; intro az Hz
        refine hK39 _ _ ?_
        refine wp_ret ?_
        show bodyPost _ _ _ .ret _ _
        refine ret_of (vs := [strV (Wr.textE m.s)]) Hz Tryd.results36 ⟨rfl, trivial⟩ ?_
        unfold wrE; rw [if_neg (of_decide_eq_false hc13), if_neg (of_decide_eq_false hc26), if_pos (of_decide_eq_true hc37)]
        have O45 : Only NoF w w43 := (Only.trans' O42 o44)
        exact ⟨rfl, O45⟩
      · -- else2
        have p46 := of_decide_eq_false hc37
        refine wp_seq_k fun K47 hK47 => ?_
        -- law.go:56
        refine wp_region_lit ?_
        refine L (r_eqI Hz rfl rfl) Hz rfl ?_
        clear Hz az; intro az Hz
        refine L (r_as Hz rfl) Hz rfl ?_
        clear Hz az; intro az Hz
        refine hK47 _ _ ?_
        refine br Hz rfl (fun hc48 => ?_) (fun hc48 => ?_)
        · -- if3
          have p49 := of_decide_eq_true hc48
          refine wp_seq_k fun K50 hK50 => ?_
          -- law.go:57
          refine wp_region_lit ?_
          refine L (r_fa (m' := 3) Tryd.underlying25 rfl Tryd.sizeOf22 rfl Hz rfl rfl) Hz rfl ?_
          clear Hz az; intro az Hz
          have B51 := (Blk.k B5 o11)
          refine L (r_ld Tryd.isAgg22 Hz rfl ((Blk.ca B51) 3 _ rfl)) Hz rfl ?_
          clear Hz az; intro az Hz
          have O53 : Only NoF w w10 := (Only.trans' o4 o11)
          have G52 := Gr.k hG O53
          have h54 := (SliceOf.kp h1 O53 (fun _ _ h => h) (fun _ _ _ _ h => h))
          refine LCV (v := strV (Wr.numsE m.l)) Hz rfl rfl Tryd.call23 (Nums_v G52 h54 (by have := hf.1; omega) (by have := (wrE_len hok hf).2.1; omega)) rfl fun w55 o56 => ?_
          clear Hz az; intro az Hz
          refine L (r_as Hz rfl) Hz rfl ?_
          clear Hz az; intro az Hz
          refine hK50 _ _ ?_
          refine wp_ret ?_
          show bodyPost _ _ _ .ret _ _
          refine ret_of (vs := [strV (Wr.numsE m.l)]) Hz Tryd.results36 ⟨rfl, trivial⟩ ?_
          unfold wrE; rw [if_neg (of_decide_eq_false hc13), if_neg (of_decide_eq_false hc26), if_neg (of_decide_eq_false hc37), if_pos (of_decide_eq_true hc48)]
          have O57 : Only NoF w w55 := (Only.trans' O53 o56)
          exact ⟨rfl, O57⟩
        · -- else3
          have p58 := of_decide_eq_false hc48
          refine wp_skip ?_
          refine hK8 _ _ ?_
          refine wp_seq_k fun K59 hK59 => ?_
          -- law.go:59
          refine wp_region_lit ?_
          refine L (r_fa (m' := 4) Tryd.underlying25 rfl Tryd.sizeOf23 rfl Hz rfl rfl) Hz rfl ?_
          clear Hz az; intro az Hz
          have B60 := (Blk.k B5 o11)
          refine L (r_ld Tryd.isAgg23 Hz rfl ((Blk.ca B60) 4 _ rfl)) Hz rfl ?_
          clear Hz az; intro az Hz
          have O62 : Only NoF w w10 := (Only.trans' o4 o11)
          have G61 := Gr.k hG O62
          have h63 := (SliceOf.kp h2 O62 (fun _ _ h => h) (fun _ _ _ _ h => h))
          refine LCV (v := strV (Wr.textsE m.t)) Hz rfl rfl Tryd.call25 (Texts_v G61 h63 (by have := hf.2.1; omega) (by have := (wrE_len hok hf).2.2; omega)) rfl fun w64 o65 => ?_
          clear Hz az; intro az Hz
          refine L (r_as Hz rfl) Hz rfl ?_
          clear Hz az; intro az Hz
          refine hK59 _ _ ?_
          refine wp_ret ?_
          show bodyPost _ _ _ .ret _ _
          refine ret_of (vs := [strV (Wr.textsE m.t)]) Hz Tryd.results36 ⟨rfl, trivial⟩ ?_
          unfold wrE; rw [if_neg (of_decide_eq_false hc13), if_neg (of_decide_eq_false hc26), if_neg (of_decide_eq_false hc37), if_neg (of_decide_eq_false hc48)]
          have O66 : Only NoF w w64 := (Only.trans' O62 o65)
          exact ⟨rfl, O66⟩

set_option maxRecDepth 20000 in
set_option maxHeartbeats 4000000 in
theorem SameNums_v_ {w : World} {l l2 : List Int} {A1 A2 : Option Addr} {c1 c2 : Nat} (f1 : IntsV w (.slice A1 l.length c1) l) (f2 : IntsV w (.slice A2 l2.length c2) l2) : Calls Tryd.prog 42 [.slice A1 l.length c1, .slice A2 l2.length c2].toArray w (Fix (.bool (decide (l = l2))) w) := by
  have hbd1 := Nat.le_trans (SliceOf.cap_ f1) (SliceOf.lens f1).2
  refine calls_start Tryd.func42 rfl rfl ?_
  intro az Hz
  rw [Tryd.ntmps42] at Hz
  refine wp_seq_k fun K1 hK1 => ?_
  -- ref.go:189
  refine wp_region_lit ?_
  refine L (r_as Hz rfl) Hz rfl ?_
  clear Hz az; intro az Hz
  refine hK1 _ _ ?_
  refine wp_seq_k fun K2 hK2 => ?_
  refine wp_seq_k fun K3 hK3 => ?_
  -- ref.go:190
  refine wp_region_lit ?_
  refine L (r_mv Hz rfl) Hz rfl ?_
  clear Hz az; intro az Hz
  refine L (r_lenL Tryd.underlying22 Hz rfl) Hz rfl ?_
  clear Hz az; intro az Hz
  refine L (r_mv Hz rfl) Hz rfl ?_
  clear Hz az; intro az Hz
  refine L (r_lenL Tryd.underlying22 Hz rfl) Hz rfl ?_
  clear Hz az; intro az Hz
  refine L (r_neI Hz rfl rfl) Hz rfl ?_
  clear Hz az; intro az Hz
  refine hK3 _ _ ?_
  refine br Hz rfl (fun hc4 => ?_) (fun hc4 => ?_)
  · -- if0
    have p5 := of_decide_eq_false (nt_t hc4)
    refine wp_seq_k fun K6 hK6 => ?_
    -- ref.go:191
    refine wp_region_lit ?_
    refine L (r_as Hz rfl) Hz rfl ?_
    clear Hz az; intro az Hz
    refine hK6 _ _ ?_
    refine wp_ret ?_
    show bodyPost _ _ _ .ret _ _
    refine ret_of (vs := [.bool (false)]) Hz Tryd.results42 ⟨rfl, trivial⟩ ?_
    rw [decide_eq_false (fun h => by have := congrArg List.length h; omega)]; exact ⟨rfl, (Only.refl NoF w)⟩
  · -- else0
    have p7 := of_decide_eq_true (nt_f hc4)
    refine wp_skip ?_
    refine hK2 _ _ ?_
    refine wp_seq_k fun K8 hK8 => ?_
    refine wp_seq_k fun K9 hK9 => ?_
    -- ref.go:193
    refine wp_region_lit ?_
    refine L (r_as Hz rfl) Hz rfl ?_
    clear Hz az; intro az Hz
    refine hK9 _ _ ?_
    refine wp_block ?_
    refine wp_loop_m (fun mz az W => ∃ k : Nat, mz = l.length - k ∧ Fr 26 [(0, .slice A1 (l.length) c1), (1, .slice A2 (l2.length) c2), (5, .int .i64 ((k : Int)))] az ∧ (k ≤ l.length) ∧ (l.take k = l2.take k) ∧ Only NoF w W) ?_ ?_
    · -- start
      exact ⟨_, 0, rfl, Hz.cut ⟨rfl, rfl, rfl, trivial⟩, Nat.zero_le _, rfl, (Only.refl NoF w)⟩
    clear Hz az
    rintro mz az w10 ⟨k, hm12, Hz, hk, heq, o11⟩
    refine wp_seq_k fun K13 hK13 => ?_
    refine wp_seq_k fun K14 hK14 => ?_
    -- ref.go:193
    refine wp_region_lit ?_
    refine L (r_mv Hz rfl) Hz rfl ?_
    clear Hz az; intro az Hz
    refine L (r_mv Hz rfl) Hz rfl ?_
    clear Hz az; intro az Hz
    refine L (r_lenL Tryd.underlying22 Hz rfl) Hz rfl ?_
    clear Hz az; intro az Hz
    refine L (r_ltI Hz rfl rfl) Hz rfl ?_
    clear Hz az; intro az Hz
    refine hK14 _ _ ?_
    refine br Hz rfl (fun hc15 => ?_) (fun hc15 => ?_)
    · -- if1
      have p16 := of_decide_eq_true hc15
      refine wp_skip ?_
      refine hK13 _ _ ?_
      refine wp_seq_k fun K17 hK17 => ?_
      refine wp_block ?_
      refine wp_seq_k fun K18 hK18 => ?_
      -- ref.go:194
      refine reg_q [(true, 0), (true, 1), (true, 2), (true, 3), (true, 4), (true, 5), (true, 6), (true, 7), (true, 8)] (by kernel_rfl) (by kernel_rfl) (fun _ _ _ _ _ h => h) fun w19 o20 => ?_
      refine M (r_mv Hz rfl) Hz rfl rfl ?_
      clear Hz az; intro az Hz
      refine M (r_mv Hz rfl) Hz rfl rfl ?_
      clear Hz az; intro az Hz
      have hk21 : k < (l).length := by omega
      have O27 : Only NoF w w19 := (Only.trans' o11 o20)
      have h28 := (SliceOf.kp f1 O27 (fun _ _ h => h) (fun _ _ _ _ h => h))
      obtain ⟨m22, hm23, ok24, hA25⟩ := Row.el KInt h28 hk21
      have E26 : ∀ W, Only NoF w19 W → CA W (eA A1 1 (k)) [.int .i64 (m22)] := Row.ce KInt h28 hm23 rfl
      refine M (r_ia (k := k) (size := 1) Tryd.underlying22 Tryd.sizeOf3 Hz rfl rfl rfl hk21 hA25) Hz rfl rfl ?_
      clear Hz az; intro az Hz
      refine M (r_ld Tryd.isAgg3 Hz rfl (CA.first (E26 _ (Only.refl NoF w19)))) Hz rfl rfl ?_
      clear Hz az; intro az Hz
      refine M (r_mv Hz rfl) Hz rfl rfl ?_
      clear Hz az; intro az Hz
      refine M (r_mv Hz rfl) Hz rfl rfl ?_
      clear Hz az; intro az Hz
      have hk29 : k < (l2).length := by omega
      have h35 := (SliceOf.kp f2 O27 (fun _ _ h => h) (fun _ _ _ _ h => h))
      obtain ⟨m30, hm31, ok32, hA33⟩ := Row.el KInt h35 hk29
      have E34 : ∀ W, Only NoF w19 W → CA W (eA A2 1 (k)) [.int .i64 (m30)] := Row.ce KInt h35 hm31 rfl
      refine M (r_ia (k := k) (size := 1) Tryd.underlying22 Tryd.sizeOf3 Hz rfl rfl rfl hk29 hA33) Hz rfl rfl ?_
      clear Hz az; intro az Hz
      refine M (r_ld Tryd.isAgg3 Hz rfl (CA.first (E34 _ (Only.refl NoF w19)))) Hz rfl rfl ?_
      clear Hz az; intro az Hz
      refine M (r_neI Hz rfl rfl) Hz rfl rfl ?_
      clear Hz az; intro az Hz
      refine wpMix_nil ?_
      refine hK18 _ _ ?_
      refine br Hz rfl (fun hc36 => ?_) (fun hc36 => ?_)
      · -- if2
        have p37 := of_decide_eq_false (nt_t hc36)
        refine wp_seq_k fun K38 hK38 => ?_
        -- ref.go:195
        refine wp_region_lit ?_
        refine L (r_as Hz rfl) Hz rfl ?_
        clear Hz az; intro az Hz
        refine hK38 _ _ ?_
        refine wp_ret ?_
        show bodyPost _ _ _ .ret _ _
        refine ret_of (vs := [.bool (false)]) Hz Tryd.results42 ⟨rfl, trivial⟩ ?_
        rw [decide_eq_false (same_ne hm23 hm31 hc36)]; exact ⟨rfl, O27⟩
      · -- else2
        have p39 := of_decide_eq_true (nt_f hc36)
        refine wp_skip ?_
        refine hK17 _ _ ?_
        -- ref.go:193
        refine wp_region_lit ?_
        refine L (r_mv Hz rfl) Hz rfl ?_
        clear Hz az; intro az Hz
        have i40 : I64 (((k : Int) + 1)) := by unfold I64; omega
        refine L (r_addI (r := ((k : Int) + 1)) Hz rfl rfl rfl i40) Hz rfl ?_
        clear Hz az; intro az Hz
        refine L (r_as Hz rfl) Hz rfl ?_
        clear Hz az; intro az Hz
        exact ⟨_, (by omega), k + 1, rfl, Hz.cut ⟨rfl, rfl, rfl, trivial⟩, (by omega), (same_step hm23 hm31 heq hc36), O27⟩
    · -- else1
      have p41 := of_decide_eq_false hc15
      refine wp_exit ?_
      refine th_exit ?_
      refine th_exit ?_
      refine ib_hit ?_
      refine hK8 _ _ ?_
      refine wp_seq_k fun K42 hK42 => ?_
      -- ref.go:198
      refine wp_region_lit ?_
      refine L (r_as Hz rfl) Hz rfl ?_
      clear Hz az; intro az Hz
      refine hK42 _ _ ?_
      refine wp_ret ?_
      show bodyPost _ _ _ .ret _ _
      refine ret_of (vs := [.bool (true)]) Hz Tryd.results42 ⟨rfl, trivial⟩ ?_
      have hk2 : l.length = l2.length := by omega
      rw [List.take_of_length_le (by omega), List.take_of_length_le (by omega)] at heq
      rw [decide_eq_true heq]; exact ⟨rfl, o11⟩

theorem SameNums_v {w : World} {v v2 : Value} {l l2 : List Int} (h : IntsV w v l) (h2 : IntsV w v2 l2) : Calls Tryd.prog 42 #[v, v2] w (Fix (.bool (decide (l = l2))) w) := by
  obtain ⟨A1, c1, rfl, _⟩ := SliceOf.shape h
  obtain ⟨A2, c2, rfl, _⟩ := SliceOf.shape h2
  exact SameNums_v_ h h2

set_option maxRecDepth 20000 in
set_option maxHeartbeats 4000000 in
theorem SameTexts_v_ {w : World} {l l2 : List Str} {A1 A2 : Option Addr} {c1 c2 : Nat} (f1 : StrsV w (.slice A1 l.length c1) l) (f2 : StrsV w (.slice A2 l2.length c2) l2) : Calls Tryd.prog 44 [.slice A1 l.length c1, .slice A2 l2.length c2].toArray w (Fix (.bool (decide (l = l2))) w) := by
  have hbd1 := Nat.le_trans (SliceOf.cap_ f1) (SliceOf.lens f1).2
  refine calls_start Tryd.func44 rfl rfl ?_
  intro az Hz
  rw [Tryd.ntmps44] at Hz
  refine wp_seq_k fun K1 hK1 => ?_
  -- ref.go:202
  refine wp_region_lit ?_
  refine L (r_as Hz rfl) Hz rfl ?_
  clear Hz az; intro az Hz
  refine hK1 _ _ ?_
  refine wp_seq_k fun K2 hK2 => ?_
  refine wp_seq_k fun K3 hK3 => ?_
  -- ref.go:203
  refine wp_region_lit ?_
  refine L (r_mv Hz rfl) Hz rfl ?_
  clear Hz az; intro az Hz
  refine L (r_lenL Tryd.underlying23 Hz rfl) Hz rfl ?_
  clear Hz az; intro az Hz
  refine L (r_mv Hz rfl) Hz rfl ?_
  clear Hz az; intro az Hz
  refine L (r_lenL Tryd.underlying23 Hz rfl) Hz rfl ?_
  clear Hz az; intro az Hz
  refine L (r_neI Hz rfl rfl) Hz rfl ?_
  clear Hz az; intro az Hz
  refine hK3 _ _ ?_
  refine br Hz rfl (fun hc4 => ?_) (fun hc4 => ?_)
  · -- if0
    have p5 := of_decide_eq_false (nt_t hc4)
    refine wp_seq_k fun K6 hK6 => ?_
    -- ref.go:204
    refine wp_region_lit ?_
    refine L (r_as Hz rfl) Hz rfl ?_
    clear Hz az; intro az Hz
    refine hK6 _ _ ?_
    refine wp_ret ?_
    show bodyPost _ _ _ .ret _ _
    refine ret_of (vs := [.bool (false)]) Hz Tryd.results44 ⟨rfl, trivial⟩ ?_
    rw [decide_eq_false (fun h => by have := congrArg List.length h; omega)]; exact ⟨rfl, (Only.refl NoF w)⟩
  · -- else0
    have p7 := of_decide_eq_true (nt_f hc4)
    refine wp_skip ?_
    refine hK2 _ _ ?_
    refine wp_seq_k fun K8 hK8 => ?_
    refine wp_seq_k fun K9 hK9 => ?_
    -- ref.go:206
    refine wp_region_lit ?_
    refine L (r_as Hz rfl) Hz rfl ?_
    clear Hz az; intro az Hz
    refine hK9 _ _ ?_
    refine wp_block ?_
    refine wp_loop_m (fun mz az W => ∃ k : Nat, mz = l.length - k ∧ Fr 26 [(0, .slice A1 (l.length) c1), (1, .slice A2 (l2.length) c2), (5, .int .i64 ((k : Int)))] az ∧ (k ≤ l.length) ∧ (l.take k = l2.take k) ∧ Only NoF w W) ?_ ?_
    · -- start
      exact ⟨_, 0, rfl, Hz.cut ⟨rfl, rfl, rfl, trivial⟩, Nat.zero_le _, rfl, (Only.refl NoF w)⟩
    clear Hz az
    rintro mz az w10 ⟨k, hm12, Hz, hk, heq, o11⟩
    refine wp_seq_k fun K13 hK13 => ?_
    refine wp_seq_k fun K14 hK14 => ?_
    -- ref.go:206
    refine wp_region_lit ?_
    refine L (r_mv Hz rfl) Hz rfl ?_
    clear Hz az; intro az Hz
    refine L (r_mv Hz rfl) Hz rfl ?_
    clear Hz az; intro az Hz
    refine L (r_lenL Tryd.underlying23 Hz rfl) Hz rfl ?_
    clear Hz az; intro az Hz
    refine L (r_ltI Hz rfl rfl) Hz rfl ?_
    clear Hz az; intro az Hz
    refine hK14 _ _ ?_
    refine br Hz rfl (fun hc15 => ?_) (fun hc15 => ?_)
    · -- if1
      have p16 := of_decide_eq_true hc15
      refine wp_skip ?_
      refine hK13 _ _ ?_
      refine wp_seq_k fun K17 hK17 => ?_
      refine wp_block ?_
      refine wp_seq_k fun K18 hK18 => ?_
      -- ref.go:207
      refine reg_q [(true, 0), (true, 1), (true, 2), (true, 3), (true, 4), (true, 5), (true, 6), (true, 7), (true, 8)] (by kernel_rfl) (by kernel_rfl) (fun _ _ _ _ _ h => h) fun w19 o20 => ?_
      refine M (r_mv Hz rfl) Hz rfl rfl ?_
      clear Hz az; intro az Hz
      refine M (r_mv Hz rfl) Hz rfl rfl ?_
      clear Hz az; intro az Hz
      have hk21 : k < (l).length := by omega
      have O27 : Only NoF w w19 := (Only.trans' o11 o20)
      have h28 := (SliceOf.kp f1 O27 (fun _ _ h => h) (fun _ _ _ _ h => h))
      obtain ⟨m22, hm23, ok24, hA25⟩ := Row.el KStr h28 hk21
      have E26 : ∀ W, Only NoF w19 W → CA W (eA A1 1 (k)) [strV (m22)] := Row.ce KStr h28 hm23 rfl
      refine M (r_ia (k := k) (size := 1) Tryd.underlying23 Tryd.sizeOf9 Hz rfl rfl rfl hk21 hA25) Hz rfl rfl ?_
      clear Hz az; intro az Hz
      refine M (r_ld Tryd.isAgg9 Hz rfl (CA.first (E26 _ (Only.refl NoF w19)))) Hz rfl rfl ?_
      clear Hz az; intro az Hz
      refine M (r_mv Hz rfl) Hz rfl rfl ?_
      clear Hz az; intro az Hz
      refine M (r_mv Hz rfl) Hz rfl rfl ?_
      clear Hz az; intro az Hz
      have hk29 : k < (l2).length := by omega
      have h35 := (SliceOf.kp f2 O27 (fun _ _ h => h) (fun _ _ _ _ h => h))
      obtain ⟨m30, hm31, ok32, hA33⟩ := Row.el KStr h35 hk29
      have E34 : ∀ W, Only NoF w19 W → CA W (eA A2 1 (k)) [strV (m30)] := Row.ce KStr h35 hm31 rfl
      refine M (r_ia (k := k) (size := 1) Tryd.underlying23 Tryd.sizeOf9 Hz rfl rfl rfl hk29 hA33) Hz rfl rfl ?_
      clear Hz az; intro az Hz
      refine M (r_ld Tryd.isAgg9 Hz rfl (CA.first (E34 _ (Only.refl NoF w19)))) Hz rfl rfl ?_
      clear Hz az; intro az Hz
      refine M (r_neS Hz rfl rfl) Hz rfl rfl ?_
      clear Hz az; intro az Hz
      refine wpMix_nil ?_
      refine hK18 _ _ ?_
      refine br Hz rfl (fun hc36 => ?_) (fun hc36 => ?_)
      · -- if2
        have p37 := of_decide_eq_false (nt_t hc36)
        refine wp_seq_k fun K38 hK38 => ?_
        -- ref.go:208
        refine wp_region_lit ?_
        refine L (r_as Hz rfl) Hz rfl ?_
        clear Hz az; intro az Hz
        refine hK38 _ _ ?_
        refine wp_ret ?_
        show bodyPost _ _ _ .ret _ _
        refine ret_of (vs := [.bool (false)]) Hz Tryd.results44 ⟨rfl, trivial⟩ ?_
        rw [decide_eq_false (same_ne hm23 hm31 hc36)]; exact ⟨rfl, O27⟩
      · -- else2
        have p39 := of_decide_eq_true (nt_f hc36)
        refine wp_skip ?_
        refine hK17 _ _ ?_
        -- ref.go:206
        refine wp_region_lit ?_
        refine L (r_mv Hz rfl) Hz rfl ?_
        clear Hz az; intro az Hz
        have i40 : I64 (((k : Int) + 1)) := by unfold I64; omega
        refine L (r_addI (r := ((k : Int) + 1)) Hz rfl rfl rfl i40) Hz rfl ?_
        clear Hz az; intro az Hz
        refine L (r_as Hz rfl) Hz rfl ?_
        clear Hz az; intro az Hz
        exact ⟨_, (by omega), k + 1, rfl, Hz.cut ⟨rfl, rfl, rfl, trivial⟩, (by omega), (same_step hm23 hm31 heq hc36), O27⟩
    · -- else1
      have p41 := of_decide_eq_false hc15
      refine wp_exit ?_
      refine th_exit ?_
      refine th_exit ?_
      refine ib_hit ?_
      refine hK8 _ _ ?_
      refine wp_seq_k fun K42 hK42 => ?_
      -- ref.go:211
      refine wp_region_lit ?_
      refine L (r_as Hz rfl) Hz rfl ?_
      clear Hz az; intro az Hz
      refine hK42 _ _ ?_
      refine wp_ret ?_
      show bodyPost _ _ _ .ret _ _
      refine ret_of (vs := [.bool (true)]) Hz Tryd.results44 ⟨rfl, trivial⟩ ?_
      have hk2 : l.length = l2.length := by omega
      rw [List.take_of_length_le (by omega), List.take_of_length_le (by omega)] at heq
      rw [decide_eq_true heq]; exact ⟨rfl, o11⟩

theorem SameTexts_v {w : World} {v v2 : Value} {l l2 : List Str} (h : StrsV w v l) (h2 : StrsV w v2 l2) : Calls Tryd.prog 44 #[v, v2] w (Fix (.bool (decide (l = l2))) w) := by
  obtain ⟨A1, c1, rfl, _⟩ := SliceOf.shape h
  obtain ⟨A2, c2, rfl, _⟩ := SliceOf.shape h2
  exact SameTexts_v_ h h2

set_option maxRecDepth 20000 in
set_option maxHeartbeats 4000000 in
theorem equal_v {w : World} {g : Nat} {s : Wr.Rd} {m : VM} (hG : Gr w) (hB : Blk w g 78 [strV s.r, .bool s.b].toArray) (hgq : 6 ≤ g) (hl : s.r.length ≤ 1000000000) (hfn : Wr.Fine s) (h1 : SliceOf (neB g) 1 KInt.R w (.slice m.A m.l.length m.c) m.l) (h2 : SliceOf (neB g) 1 KStr.R w (.slice m.B m.t.length m.d) m.t) (hok : OkM m) : Calls Tryd.prog 37 [.pointer (some ⟨g, 0, none⟩), .agg #[.int .i64 m.k, .int .i64 m.n, strV m.s, .slice m.A m.l.length m.c, .slice m.B m.t.length m.d]].toArray w (RdTo g (.bool (eqV m s).1) (eqV m s).2 w) := by
  refine calls_start Tryd.func37 rfl rfl ?_
  intro az Hz
  rw [Tryd.ntmps37] at Hz
  refine wp_seq_k fun K1 hK1 => ?_
  -- law.go:63
  refine wp_region_lit ?_
  refine LBox Hz rfl rfl rfl ?_
  clear Hz az; intro g2 w3 hg6 hl7 o4 B5 az Hz
  refine L (r_as Hz rfl) Hz rfl ?_
  clear Hz az; intro az Hz
  refine hK1 _ _ ?_
  refine wp_seq_k fun K8 hK8 => ?_
  refine wp_seq_k fun K9 hK9 => ?_
  -- law.go:64
  refine wp_region_lit ?_
  refine L (r_ldA Tryd.isAgg25 Tryd.sizeOf25 Hz rfl (Blk.ca B5) rfl) Hz rfl ?_
  clear Hz az; intro az Hz
  refine LCV (v := .int .i64 ((Wr.kind m.k))) Hz rfl rfl Tryd.call28 (kind_v _ m.k _ _ _ _ hok.1) rfl fun w10 o11 => ?_
  clear Hz az; intro az Hz
  refine hK9 _ _ ?_
  refine wp_block ?_
  refine wp_seq_k fun K12 hK12 => ?_
  -- law.go:65
  refine wp_region_lit ?_
  refine L (r_eqI Hz rfl rfl) Hz rfl ?_
  clear Hz az; intro az Hz
  refine L (r_as Hz rfl) Hz rfl ?_
  clear Hz az; intro az Hz
  refine hK12 _ _ ?_
  refine br Hz rfl (fun hc13 => ?_) (fun hc13 => ?_)
  · -- if0
    have p14 := of_decide_eq_true hc13
    refine wp_seq_k fun K15 hK15 => ?_
    -- law.go:66
    refine reg_p (oneF g) 0 [1, 4] (.rd 0 (.rd 2 (.rd 3 (.ex 1 (.ex 4 (.rd 5 (.rd 6 .nil))))))) (by kernel_rfl) (by kernel_rfl) (fun _ _ _ _ _ h => h) fun w16 o17 => ?_
    have B18 := (Blk.k (Blk.k (Blk.k hB o4) o11) o17)
    have B19 := (Blk.k (Blk.k B5 o11) o17)
    refine Pl.MSP (b := false) (by kernel_rfl) (fun W oW => r_mv Hz rfl) Hz rfl rfl ?_
    clear Hz az; intro az Hz
    refine Pl.MSP (b := false) (by kernel_rfl) (fun W oW => r_fa (m' := 1) Tryd.underlying25 rfl Tryd.sizeOf3 rfl Hz rfl rfl) Hz rfl rfl ?_
    clear Hz az; intro az Hz
    have ne20 : g2 ≠ g := (ne_of (Blk.lt hB) hg6).symm
    refine Pl.MSP (b := false) (by kernel_rfl) (fun W oW => r_ld Tryd.isAgg3 Hz rfl ((Blk.ca (Blk.only B19 oW ne20)) 1 _ rfl)) Hz rfl rfl ?_
    clear Hz az; intro az Hz
    have G21 := Gr.only hG (Only.trans (Only.trans (Only.trans (Only.refl (oneF g) w) o4 (fun _ h => h.elim)) o11 (fun _ h => h.elim)) o17 (fun _ h => h.elim)) (fun k hk => by rw [show k = g from hk]; exact hgq)
    refine Pl.MSC Hz rfl rfl rfl Tryd.call29 (rNum_v (s := s) G21 B18 hgq (by omega)) rfl ?_
    rintro e w22 ⟨rfl, B23, o24⟩
    refine ⟨_, rfl, ⟨fun h => absurd h (by decide), (Only.trans (Only.refl (oneF g) w16) o24 (fun _ h => .inl h))⟩, ?_⟩
    clear Hz az; intro az Hz
    refine Pl.MSV (v := .int .i64 ((Wr.absN m.n))) Hz rfl rfl rfl Tryd.call77 (absN_v _ m.n hok.2.1) rfl (fun w' o' => ⟨fun h => absurd h (by decide), (Only.trans (Only.trans (Only.refl (oneF g) w16) o24 (fun _ h => .inl h)) o' (fun _ h => h.elim))⟩) fun w25 o26 => ?_
    clear Hz az; intro az Hz
    refine Pl.MSP (b := false) (by kernel_rfl) (fun W oW => r_eqI Hz rfl rfl) Hz rfl rfl ?_
    clear Hz az; intro az Hz
    refine Pl.MSP (b := false) (by kernel_rfl) (fun W oW => r_as Hz rfl) Hz rfl rfl ?_
    clear Hz az; intro az Hz
    refine wpPl_nil ?_
    refine hK15 _ _ ?_
    refine wp_ret ?_
    show bodyPost _ _ _ .ret _ _
    refine ret_of (vs := [.bool (decide ((Wr.num s).1 = (Wr.absN m.n)))]) Hz Tryd.results37 ⟨rfl, trivial⟩ ?_
    unfold eqV; rw [if_pos (of_decide_eq_true hc13)]
    have B27 := (Blk.k B23 o26)
    exact ⟨rfl, B27, (Only.trans (Only.trans (Only.trans (Only.trans (Only.trans (Only.refl (oneF g) w) o4 (fun _ h => h.elim)) o11 (fun _ h => h.elim)) o17 (fun _ h => h.elim)) o24 (fun _ h => .inl h)) o26 (fun _ h => h.elim))⟩
  · -- else0
    have p28 := of_decide_eq_false hc13
    refine wp_seq_k fun K29 hK29 => ?_
    -- law.go:67
    refine wp_region_lit ?_
    refine L (r_eqI Hz rfl rfl) Hz rfl ?_
    clear Hz az; intro az Hz
    refine L (r_as Hz rfl) Hz rfl ?_
    clear Hz az; intro az Hz
    refine hK29 _ _ ?_
    refine br Hz rfl (fun hc30 => ?_) (fun hc30 => ?_)
    · -- if1
      have p31 := of_decide_eq_true hc30
      refine wp_seq_k fun K32 hK32 => ?_
      -- law.go:68
      refine reg_p (oneF g) 0 [1] (.rd 0 (.rd 2 (.rd 3 (.ex 1 (.rd 4 (.rd 5 .nil)))))) (by kernel_rfl) (by kernel_rfl) (fun _ _ _ _ _ h => h) fun w33 o34 => ?_
      have B35 := (Blk.k (Blk.k (Blk.k hB o4) o11) o34)
      have B36 := (Blk.k (Blk.k B5 o11) o34)
      refine Pl.MSP (b := true) (by kernel_rfl) (fun W oW => r_mv Hz rfl) Hz rfl rfl ?_
      clear Hz az; intro az Hz
      refine Pl.MSP (b := false) (by kernel_rfl) (fun W oW => r_fa (m' := 1) Tryd.underlying25 rfl Tryd.sizeOf3 rfl Hz rfl rfl) Hz rfl rfl ?_
      clear Hz az; intro az Hz
      have ne37 : g2 ≠ g := (ne_of (Blk.lt hB) hg6).symm
      refine Pl.MSP (b := false) (by kernel_rfl) (fun W oW => r_ld Tryd.isAgg3 Hz rfl ((Blk.ca (Blk.only B36 oW ne37)) 1 _ rfl)) Hz rfl rfl ?_
      clear Hz az; intro az Hz
      have G38 := Gr.only hG (Only.trans (Only.trans (Only.trans (Only.refl (oneF g) w) o4 (fun _ h => h.elim)) o11 (fun _ h => h.elim)) o34 (fun _ h => h.elim)) (fun k hk => by rw [show k = g from hk]; exact hgq)
      refine Pl.MSC Hz rfl rfl rfl Tryd.call30 (rInt_v (s := s) G38 B35 hgq (by omega)) rfl ?_
      rintro e w39 ⟨rfl, B40, o41⟩
      refine ⟨_, rfl, ⟨fun h => absurd h (by decide), (Only.trans (Only.refl (oneF g) w33) o41 (fun _ h => .inl h))⟩, ?_⟩
      clear Hz az; intro az Hz
      refine Pl.MSP (b := false) (by kernel_rfl) (fun W oW => r_eqI Hz rfl rfl) Hz rfl rfl ?_
      clear Hz az; intro az Hz
      refine Pl.MSP (b := false) (by kernel_rfl) (fun W oW => r_as Hz rfl) Hz rfl rfl ?_
      clear Hz az; intro az Hz
      refine wpPl_nil ?_
      refine hK32 _ _ ?_
      refine wp_ret ?_
      show bodyPost _ _ _ .ret _ _
      refine ret_of (vs := [.bool (decide ((Wr.int s).1 = m.n))]) Hz Tryd.results37 ⟨rfl, trivial⟩ ?_
      unfold eqV; rw [if_neg (of_decide_eq_false hc13), if_pos (of_decide_eq_true hc30)]
      exact ⟨rfl, B40, (Only.trans (Only.trans (Only.trans (Only.trans (Only.refl (oneF g) w) o4 (fun _ h => h.elim)) o11 (fun _ h => h.elim)) o34 (fun _ h => h.elim)) o41 (fun _ h => .inl h))⟩
    · -- else1
      have p42 := of_decide_eq_false hc30
      refine wp_seq_k fun K43 hK43 => ?_
      -- law.go:69
      refine wp_region_lit ?_
      refine L (r_eqI Hz rfl rfl) Hz rfl ?_
      clear Hz az; intro az Hz
      refine L (r_as Hz rfl) Hz rfl ?_
      clear Hz az; intro az Hz
      refine hK43 _ _ ?_
      refine br Hz rfl (fun hc44 => ?_) (fun hc44 => ?_)
      · -- if2
        have p45 := of_decide_eq_true hc44
        refine wp_seq_k fun K46 hK46 => ?_
        -- law.go:70
        refine reg_p (oneF g) 0 [1] (.rd 0 (.rd 2 (.rd 3 (.ex 1 (.rd 4 (.rd 5 .nil)))))) (by kernel_rfl) (by kernel_rfl) (fun _ _ _ _ _ h => h) fun w47 o48 => ?_
        have B49 := (Blk.k (Blk.k (Blk.k hB o4) o11) o48)
        have B50 := (Blk.k (Blk.k B5 o11) o48)
        refine Pl.MSP (b := true) (by kernel_rfl) (fun W oW => r_mv Hz rfl) Hz rfl rfl ?_
        clear Hz az; intro az Hz
        refine Pl.MSP (b := false) (by kernel_rfl) (fun W oW => r_fa (m' := 2) Tryd.underlying25 rfl Tryd.sizeOf9 rfl Hz rfl rfl) Hz rfl rfl ?_
        clear Hz az; intro az Hz
        have ne51 : g2 ≠ g := (ne_of (Blk.lt hB) hg6).symm
        refine Pl.MSP (b := false) (by kernel_rfl) (fun W oW => r_ld Tryd.isAgg9 Hz rfl ((Blk.ca (Blk.only B50 oW ne51)) 2 _ rfl)) Hz rfl rfl ?_
        clear Hz az; intro az Hz
        have G52 := Gr.only hG (Only.trans (Only.trans (Only.trans (Only.refl (oneF g) w) o4 (fun _ h => h.elim)) o11 (fun _ h => h.elim)) o48 (fun _ h => h.elim)) (fun k hk => by rw [show k = g from hk]; exact hgq)
        refine Pl.MSC Hz rfl rfl rfl Tryd.call31 (rText_v (s := s) G52 B49 hgq (by omega)) rfl ?_
        rintro e w53 ⟨rfl, B54, o55⟩
        refine ⟨_, rfl, ⟨fun h => absurd h (by decide), (Only.trans (Only.refl (oneF g) w47) o55 (fun _ h => .inl h))⟩, ?_⟩
        clear Hz az; intro az Hz
        refine Pl.MSP (b := false) (by kernel_rfl) (fun W oW => r_eqS Hz rfl rfl) Hz rfl rfl ?_
        clear Hz az; intro az Hz
        refine Pl.MSP (b := false) (by kernel_rfl) (fun W oW => r_as Hz rfl) Hz rfl rfl ?_
        clear Hz az; intro az Hz
        refine wpPl_nil ?_
        refine hK46 _ _ ?_
        refine wp_ret ?_
        show bodyPost _ _ _ .ret _ _
        refine ret_of (vs := [.bool (decide ((Wr.text s).1 = m.s))]) Hz Tryd.results37 ⟨rfl, trivial⟩ ?_
        unfold eqV; rw [if_neg (of_decide_eq_false hc13), if_neg (of_decide_eq_false hc30), if_pos (of_decide_eq_true hc44)]
        exact ⟨rfl, B54, (Only.trans (Only.trans (Only.trans (Only.trans (Only.refl (oneF g) w) o4 (fun _ h => h.elim)) o11 (fun _ h => h.elim)) o48 (fun _ h => h.elim)) o55 (fun _ h => .inl h))⟩
      · -- else2
        have p56 := of_decide_eq_false hc44
        refine wp_seq_k fun K57 hK57 => ?_
        -- law.go:71
        refine wp_region_lit ?_
        refine L (r_eqI Hz rfl rfl) Hz rfl ?_
        clear Hz az; intro az Hz
        refine L (r_as Hz rfl) Hz rfl ?_
        clear Hz az; intro az Hz
        refine hK57 _ _ ?_
        refine br Hz rfl (fun hc58 => ?_) (fun hc58 => ?_)
        · -- if3
          have p59 := of_decide_eq_true hc58
          refine wp_seq_k fun K60 hK60 => ?_
          -- law.go:72
          refine reg_p (oneF g) 0 [1, 4] (.rd 0 (.rd 2 (.rd 3 (.ex 1 (.ex 4 (.rd 5 .nil)))))) (by kernel_rfl) (by kernel_rfl) (fun _ _ _ _ _ h => h) fun w61 o62 => ?_
          have B63 := (Blk.k (Blk.k (Blk.k hB o4) o11) o62)
          have B64 := (Blk.k (Blk.k B5 o11) o62)
          refine Pl.MSP (b := false) (by kernel_rfl) (fun W oW => r_mv Hz rfl) Hz rfl rfl ?_
          clear Hz az; intro az Hz
          refine Pl.MSP (b := false) (by kernel_rfl) (fun W oW => r_fa (m' := 3) Tryd.underlying25 rfl Tryd.sizeOf22 rfl Hz rfl rfl) Hz rfl rfl ?_
          clear Hz az; intro az Hz
          have ne65 : g2 ≠ g := (ne_of (Blk.lt hB) hg6).symm
          refine Pl.MSP (b := false) (by kernel_rfl) (fun W oW => r_ld Tryd.isAgg22 Hz rfl ((Blk.ca (Blk.only B64 oW ne65)) 3 _ rfl)) Hz rfl rfl ?_
          clear Hz az; intro az Hz
          have G73 := Gr.only hG (Only.trans (Only.trans (Only.trans (Only.refl (oneF g) w) o4 (fun _ h => h.elim)) o11 (fun _ h => h.elim)) o62 (fun _ h => h.elim)) (fun k hk => by rw [show k = g from hk]; exact hgq)
          refine Pl.MSC Hz rfl rfl rfl Tryd.call32 (rNums_v (s := s) G73 B63 hgq (by omega) hfn) rfl ?_
          rintro e w66 ⟨A69, c70, rfl, r71, k72, B67, o68⟩
          refine ⟨_, rfl, ⟨fun h => absurd h (by decide), (Only.trans (Only.refl (oneF g) w61) o68 (fun _ h => .inl h))⟩, ?_⟩
          clear Hz az; intro az Hz
          have h74 := Row.own KInt r71 k72
          have h75 := SliceOf.pl h74
          have O76 : Only NoF w w61 := (Only.trans' (Only.trans' o4 o11) o62)
          have h77 := (SliceOf.kp (SliceOf.kp h1 O76 (fun _ _ h => h) (fun _ _ _ _ h => h)) o68 (fun k hk h => hk h) (fun _ _ _ _ h => h))
          have h78 := SliceOf.pl h77
          refine Pl.MSV (v := .bool (decide ((Wr.nums s).1 = m.l))) Hz rfl rfl rfl Tryd.call42 (SameNums_v h75 h78) rfl (fun w' o' => ⟨fun h => absurd h (by decide), (Only.trans (Only.trans (Only.refl (oneF g) w61) o68 (fun _ h => .inl h)) o' (fun _ h => h.elim))⟩) fun w79 o80 => ?_
          clear Hz az; intro az Hz
          refine Pl.MSP (b := false) (by kernel_rfl) (fun W oW => r_as Hz rfl) Hz rfl rfl ?_
          clear Hz az; intro az Hz
          refine wpPl_nil ?_
          refine hK60 _ _ ?_
          refine wp_ret ?_
          show bodyPost _ _ _ .ret _ _
          refine ret_of (vs := [.bool (decide ((Wr.nums s).1 = m.l))]) Hz Tryd.results37 ⟨rfl, trivial⟩ ?_
          unfold eqV; rw [if_neg (of_decide_eq_false hc13), if_neg (of_decide_eq_false hc30), if_neg (of_decide_eq_false hc44), if_pos (of_decide_eq_true hc58)]
          have B81 := (Blk.k B67 o80)
          exact ⟨rfl, B81, (Only.trans (Only.trans (Only.trans (Only.trans (Only.trans (Only.refl (oneF g) w) o4 (fun _ h => h.elim)) o11 (fun _ h => h.elim)) o62 (fun _ h => h.elim)) o68 (fun _ h => .inl h)) o80 (fun _ h => h.elim))⟩
        · -- else3
          have p82 := of_decide_eq_false hc58
          refine wp_skip ?_
          refine hK8 _ _ ?_
          refine wp_seq_k fun K83 hK83 => ?_
          -- law.go:74
          refine reg_p (oneF g) 0 [1, 4] (.rd 0 (.rd 2 (.rd 3 (.ex 1 (.ex 4 (.rd 5 .nil)))))) (by kernel_rfl) (by kernel_rfl) (fun _ _ _ _ _ h => h) fun w84 o85 => ?_
          have B86 := (Blk.k (Blk.k (Blk.k hB o4) o11) o85)
          have B87 := (Blk.k (Blk.k B5 o11) o85)
          refine Pl.MSP (b := false) (by kernel_rfl) (fun W oW => r_mv Hz rfl) Hz rfl rfl ?_
          clear Hz az; intro az Hz
          refine Pl.MSP (b := false) (by kernel_rfl) (fun W oW => r_fa (m' := 4) Tryd.underlying25 rfl Tryd.sizeOf23 rfl Hz rfl rfl) Hz rfl rfl ?_
          clear Hz az; intro az Hz
          have ne88 : g2 ≠ g := (ne_of (Blk.lt hB) hg6).symm
          refine Pl.MSP (b := false) (by kernel_rfl) (fun W oW => r_ld Tryd.isAgg23 Hz rfl ((Blk.ca (Blk.only B87 oW ne88)) 4 _ rfl)) Hz rfl rfl ?_
          clear Hz az; intro az Hz
          have G96 := Gr.only hG (Only.trans (Only.trans (Only.trans (Only.refl (oneF g) w) o4 (fun _ h => h.elim)) o11 (fun _ h => h.elim)) o85 (fun _ h => h.elim)) (fun k hk => by rw [show k = g from hk]; exact hgq)
          refine Pl.MSC Hz rfl rfl rfl Tryd.call33 (rTexts_v (s := s) G96 B86 hgq (by omega) hfn) rfl ?_
          rintro e w89 ⟨A92, c93, rfl, r94, k95, B90, o91⟩
          refine ⟨_, rfl, ⟨fun h => absurd h (by decide), (Only.trans (Only.refl (oneF g) w84) o91 (fun _ h => .inl h))⟩, ?_⟩
          clear Hz az; intro az Hz
          have h97 := Row.own KStr r94 k95
          have h98 := SliceOf.pl h97
          have O99 : Only NoF w w84 := (Only.trans' (Only.trans' o4 o11) o85)
          have h100 := (SliceOf.kp (SliceOf.kp h2 O99 (fun _ _ h => h) (fun _ _ _ _ h => h)) o91 (fun k hk h => hk h) (fun _ _ _ _ h => h))
          have h101 := SliceOf.pl h100
          refine Pl.MSV (v := .bool (decide ((Wr.texts s).1 = m.t))) Hz rfl rfl rfl Tryd.call44 (SameTexts_v h98 h101) rfl (fun w' o' => ⟨fun h => absurd h (by decide), (Only.trans (Only.trans (Only.refl (oneF g) w84) o91 (fun _ h => .inl h)) o' (fun _ h => h.elim))⟩) fun w102 o103 => ?_
          clear Hz az; intro az Hz
          refine Pl.MSP (b := false) (by kernel_rfl) (fun W oW => r_as Hz rfl) Hz rfl rfl ?_
          clear Hz az; intro az Hz
          refine wpPl_nil ?_
          refine hK83 _ _ ?_
          refine wp_ret ?_
          show bodyPost _ _ _ .ret _ _
          refine ret_of (vs := [.bool (decide ((Wr.texts s).1 = m.t))]) Hz Tryd.results37 ⟨rfl, trivial⟩ ?_
          unfold eqV; rw [if_neg (of_decide_eq_false hc13), if_neg (of_decide_eq_false hc30), if_neg (of_decide_eq_false hc44), if_neg (of_decide_eq_false hc58)]
          have B104 := (Blk.k B90 o103)
          exact ⟨rfl, B104, (Only.trans (Only.trans (Only.trans (Only.trans (Only.trans (Only.refl (oneF g) w) o4 (fun _ h => h.elim)) o11 (fun _ h => h.elim)) o85 (fun _ h => h.elim)) o91 (fun _ h => .inl h)) o103 (fun _ h => h.elim))⟩

theorem few_v {w : World} {v : Value} {l : List VM} (h : ValsV w w v l) : Calls Tryd.prog 16 #[v] w (Tells (FewV l) w) := by
  obtain ⟨A1, c1, rfl, _⟩ := SliceOf.shape h
  exact few_v_ h
end Go.Proofs.YtgmnoianhonihaaDoor
