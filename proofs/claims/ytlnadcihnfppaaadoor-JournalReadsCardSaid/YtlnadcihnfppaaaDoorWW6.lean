/-
  The wire's laws: few, write, SameNums, SameTexts, equal, walked. Condition of the bounds: those of 'few'.
-/
import Derived.Test.YtlnadcihnfppaaaDoorWVal
namespace Go.Proofs.YtlnadcihnfppaaaDoor
set_option linter.unusedVariables false
set_option linter.unusedSimpArgs false
set_option linter.unusedSectionVars false
open Go.RowKit

theorem few_cond {a b c : Nat} (h : ((decide ((400 : Int) < (a : Int)) || decide ((400 : Int) < (b : Int))) || decide ((400 : Int) < (c : Int))) = false) : a ≤ 400 ∧ b ≤ 400 ∧ c ≤ 400 := by
  simp only [Bool.or_eq_false_iff, decide_eq_false_iff_not] at h
  omega
theorem few_one {m : VM} (h : ((decide ((400 : Int) < ((m.l.length : Nat) : Int)) || decide ((400 : Int) < ((m.t.length : Nat) : Int))) || decide ((400 : Int) < ((m.s.length : Nat) : Int))) = false) (ht : ∀ y ∈ m.t, y.length ≤ 400) : FewOne m := by
  obtain ⟨h1, h2, h3⟩ := few_cond h
  exact ⟨h1, h2, h3, ht⟩
theorem same_step {α : Type} [DecidableEq α] {l l2 : List α} {k : Nat} {x y : α} (h1 : l[k]? = some x) (h2 : l2[k]? = some y) (h : l.take k = l2.take k) (he : (!decide (x = y)) = false) : l.take (k + 1) = l2.take (k + 1) := by
  rw [take_succ_get h1, take_succ_get h2, h, of_decide_eq_true (nt_f he)]
theorem same_ne {α : Type} [DecidableEq α] {l l2 : List α} {k : Nat} {x y : α} (h1 : l[k]? = some x) (h2 : l2[k]? = some y) (he : (!decide (x = y)) = true) : l ≠ l2 := by
  intro h
  rw [h, h2] at h1
  exact of_decide_eq_false (nt_t he) (Option.some.inj h1).symm
set_option maxRecDepth 20000 in
set_option maxHeartbeats 4000000 in
theorem SameTexts_v_ {w : World} {l l2 : List Str} {A1 A2 : Option Addr} {c1 c2 : Nat} (f1 : StrsV w (.slice A1 l.length c1) l) (f2 : StrsV w (.slice A2 l2.length c2) l2) : Calls Tryd.prog 20 [.slice A1 l.length c1, .slice A2 l2.length c2].toArray w (Fix (.bool (decide (l = l2))) w) := by
  have hbd1 := Nat.le_trans (SliceOf.cap_ f1) (SliceOf.lens f1).2
  refine calls_start Tryd.func20 rfl rfl ?_
  intro az Hz
  rw [Tryd.ntmps20] at Hz
  refine wp_seq_k fun K1 hK1 => ?_
  -- ref.go:202
  refine wp_region_lit ?_
  refine L (r_as Hz rfl) Hz rfl ?_
  clear Hz az; intro az Hz
  refine hK1 _ _ ?_
  refine wp_seq_k fun K2 hK2 => ?_
  refine wp_seq_k fun K3 hK3 => ?_
  -- ref.go:203
  refine wp_region_lit ?_
  refine L (r_mv Hz rfl) Hz rfl ?_
  clear Hz az; intro az Hz
  refine L (r_lenL Tryd.underlying30 Hz rfl) Hz rfl ?_
  clear Hz az; intro az Hz
  refine L (r_mv Hz rfl) Hz rfl ?_
  clear Hz az; intro az Hz
  refine L (r_lenL Tryd.underlying30 Hz rfl) Hz rfl ?_
  clear Hz az; intro az Hz
  refine L (r_neI Hz rfl rfl) Hz rfl ?_
  clear Hz az; intro az Hz
  refine hK3 _ _ ?_
  refine br Hz rfl (fun hc4 => ?_) (fun hc4 => ?_)
  · -- if0
    have p5 := of_decide_eq_false (nt_t hc4)
    refine wp_seq_k fun K6 hK6 => ?_
    -- ref.go:204
    refine wp_region_lit ?_
    refine L (r_as Hz rfl) Hz rfl ?_
    clear Hz az; intro az Hz
    refine hK6 _ _ ?_
    refine wp_ret ?_
    show bodyPost _ _ _ .ret _ _
    refine ret_of (vs := [.bool (false)]) Hz Tryd.results20 ⟨rfl, trivial⟩ ?_
    rw [decide_eq_false (fun h => by have := congrArg List.length h; omega)]; exact ⟨rfl, (Only.refl NoF w)⟩
  · -- else0
    have p7 := of_decide_eq_true (nt_f hc4)
    refine wp_skip ?_
    refine hK2 _ _ ?_
    refine wp_seq_k fun K8 hK8 => ?_
    refine wp_seq_k fun K9 hK9 => ?_
    -- ref.go:206
    refine wp_region_lit ?_
    refine L (r_as Hz rfl) Hz rfl ?_
    clear Hz az; intro az Hz
    refine hK9 _ _ ?_
    refine wp_block ?_
    refine wp_loop_m (fun mz az W => ∃ k : Nat, mz = l.length - k ∧ Fr 26 [(0, .slice A1 (l.length) c1), (1, .slice A2 (l2.length) c2), (5, .int .i64 ((k : Int)))] az ∧ (k ≤ l.length) ∧ (l.take k = l2.take k) ∧ Only NoF w W) ?_ ?_
    · -- start
      exact ⟨_, 0, rfl, Hz.cut ⟨rfl, rfl, rfl, trivial⟩, Nat.zero_le _, rfl, (Only.refl NoF w)⟩
    clear Hz az
    rintro mz az w10 ⟨k, hm12, Hz, hk, heq, o11⟩
    refine wp_seq_k fun K13 hK13 => ?_
    refine wp_seq_k fun K14 hK14 => ?_
    -- ref.go:206
    refine wp_region_lit ?_
    refine L (r_mv Hz rfl) Hz rfl ?_
    clear Hz az; intro az Hz
    refine L (r_mv Hz rfl) Hz rfl ?_
    clear Hz az; intro az Hz
    refine L (r_lenL Tryd.underlying30 Hz rfl) Hz rfl ?_
    clear Hz az; intro az Hz
    refine L (r_ltI Hz rfl rfl) Hz rfl ?_
    clear Hz az; intro az Hz
    refine hK14 _ _ ?_
    refine br Hz rfl (fun hc15 => ?_) (fun hc15 => ?_)
    · -- if1
      have p16 := of_decide_eq_true hc15
      refine wp_skip ?_
      refine hK13 _ _ ?_
      refine wp_seq_k fun K17 hK17 => ?_
      refine wp_block ?_
      refine wp_seq_k fun K18 hK18 => ?_
      -- ref.go:207
      refine reg_q [(true, 0), (true, 1), (true, 2), (true, 3), (true, 4), (true, 5), (true, 6), (true, 7), (true, 8)] (by kernel_rfl) (by kernel_rfl) (fun _ _ _ _ _ h => h) fun w19 o20 => ?_
      refine M (r_mv Hz rfl) Hz rfl rfl ?_
      clear Hz az; intro az Hz
      refine M (r_mv Hz rfl) Hz rfl rfl ?_
      clear Hz az; intro az Hz
      have hk21 : k < (l).length := by omega
      have O27 : Only NoF w w19 := (Only.trans' o11 o20)
      have h28 := (SliceOf.kp f1 O27 (fun _ _ h => h) (fun _ _ _ _ h => h))
      obtain ⟨m22, hm23, ok24, hA25⟩ := Row.el KStr h28 hk21
      have E26 : ∀ W, Only NoF w19 W → CA W (eA A1 1 (k)) [strV (m22)] := Row.ce KStr h28 hm23 rfl
      refine M (r_ia (k := k) (size := 1) Tryd.underlying30 Tryd.sizeOf9 Hz rfl rfl rfl hk21 hA25) Hz rfl rfl ?_
      clear Hz az; intro az Hz
      refine M (r_ld Tryd.isAgg9 Hz rfl (CA.first (E26 _ (Only.refl NoF w19)))) Hz rfl rfl ?_
      clear Hz az; intro az Hz
      refine M (r_mv Hz rfl) Hz rfl rfl ?_
      clear Hz az; intro az Hz
      refine M (r_mv Hz rfl) Hz rfl rfl ?_
      clear Hz az; intro az Hz
      have hk29 : k < (l2).length := by omega
      have h35 := (SliceOf.kp f2 O27 (fun _ _ h => h) (fun _ _ _ _ h => h))
      obtain ⟨m30, hm31, ok32, hA33⟩ := Row.el KStr h35 hk29
      have E34 : ∀ W, Only NoF w19 W → CA W (eA A2 1 (k)) [strV (m30)] := Row.ce KStr h35 hm31 rfl
      refine M (r_ia (k := k) (size := 1) Tryd.underlying30 Tryd.sizeOf9 Hz rfl rfl rfl hk29 hA33) Hz rfl rfl ?_
      clear Hz az; intro az Hz
      refine M (r_ld Tryd.isAgg9 Hz rfl (CA.first (E34 _ (Only.refl NoF w19)))) Hz rfl rfl ?_
      clear Hz az; intro az Hz
      refine M (r_neS Hz rfl rfl) Hz rfl rfl ?_
      clear Hz az; intro az Hz
      refine wpMix_nil ?_
      refine hK18 _ _ ?_
      refine br Hz rfl (fun hc36 => ?_) (fun hc36 => ?_)
      · -- if2
        have p37 := of_decide_eq_false (nt_t hc36)
        refine wp_seq_k fun K38 hK38 => ?_
        -- ref.go:208
        refine wp_region_lit ?_
        refine L (r_as Hz rfl) Hz rfl ?_
        clear Hz az; intro az Hz
        refine hK38 _ _ ?_
        refine wp_ret ?_
        show bodyPost _ _ _ .ret _ _
        refine ret_of (vs := [.bool (false)]) Hz Tryd.results20 ⟨rfl, trivial⟩ ?_
        rw [decide_eq_false (same_ne hm23 hm31 hc36)]; exact ⟨rfl, O27⟩
      · -- else2
        have p39 := of_decide_eq_true (nt_f hc36)
        refine wp_skip ?_
        refine hK17 _ _ ?_
        -- ref.go:206
        refine wp_region_lit ?_
        refine L (r_mv Hz rfl) Hz rfl ?_
        clear Hz az; intro az Hz
        have i40 : I64 (((k : Int) + 1)) := by unfold I64; omega
        refine L (r_addI (r := ((k : Int) + 1)) Hz rfl rfl rfl i40) Hz rfl ?_
        clear Hz az; intro az Hz
        refine L (r_as Hz rfl) Hz rfl ?_
        clear Hz az; intro az Hz
        exact ⟨_, (by omega), k + 1, rfl, Hz.cut ⟨rfl, rfl, rfl, trivial⟩, (by omega), (same_step hm23 hm31 heq hc36), O27⟩
    · -- else1
      have p41 := of_decide_eq_false hc15
      refine wp_exit ?_
      refine th_exit ?_
      refine th_exit ?_
      refine ib_hit ?_
      refine hK8 _ _ ?_
      refine wp_seq_k fun K42 hK42 => ?_
      -- ref.go:211
      refine wp_region_lit ?_
      refine L (r_as Hz rfl) Hz rfl ?_
      clear Hz az; intro az Hz
      refine hK42 _ _ ?_
      refine wp_ret ?_
      show bodyPost _ _ _ .ret _ _
      refine ret_of (vs := [.bool (true)]) Hz Tryd.results20 ⟨rfl, trivial⟩ ?_
      have hk2 : l.length = l2.length := by omega
      rw [List.take_of_length_le (by omega), List.take_of_length_le (by omega)] at heq
      rw [decide_eq_true heq]; exact ⟨rfl, o11⟩

theorem SameTexts_v {w : World} {v v2 : Value} {l l2 : List Str} (h : StrsV w v l) (h2 : StrsV w v2 l2) : Calls Tryd.prog 20 #[v, v2] w (Fix (.bool (decide (l = l2))) w) := by
  obtain ⟨A1, c1, rfl, _⟩ := SliceOf.shape h
  obtain ⟨A2, c2, rfl, _⟩ := SliceOf.shape h2
  exact SameTexts_v_ h h2

end Go.Proofs.YtlnadcihnfppaaaDoor
