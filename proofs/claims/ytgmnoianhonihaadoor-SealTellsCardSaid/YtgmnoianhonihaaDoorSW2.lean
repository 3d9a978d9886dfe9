/-
  The seal: Same, Convicts, Check, the reference's Few, Plain, Same, Less, walked. No condition.
-/
import Derived.Test.YtgmnoianhonihaaDoorSW1
import Derived.Test.YtgmnoianhonihaaDoorWW7
namespace Go.Proofs.YtgmnoianhonihaaDoor
set_option linter.unusedVariables false
set_option linter.unusedSimpArgs false
set_option linter.unusedSectionVars false
open Go.RowKit

abbrev refV (a : RM) : Value := .agg #[.int .i64 a.h, .int .i64 a.n]
def refLt (a b : RM) : Bool := decide (a.h < b.h) || (decide (a.h = b.h) && decide (a.n < b.n))
theorem guardRef : Tryd.prog.eqGuardType Tryd.prog.depth 71 = false := by kernel_rfl
theorem eqRef (w : World) (k k' : RM) : (Op.equalIn 10000 71 (refV k) (refV k')).run Tryd.prog w = .ok (decide (k = k')) w := by
  have h : (Op.equalIn (9999 + 1) 71 (refV k) (refV k')).run Tryd.prog w = .ok (decide (k = k')) w := by
    obtain ⟨a, b⟩ := k
    obtain ⟨c, d⟩ := k'
    by_cases h1 : a = c <;> by_cases h2 : b = d <;> simp [go_sem, Tryd.underlying71, Tryd.underlying3, h1, h2]
  exact h
theorem eqlRef (w : World) (k k' : RM) : (binOp .eql 71 (refV k) (refV k')).run Tryd.prog w = .ok (.bool (decide (k = k'))) w := by
  rw [run_eql_struct, eqRef]
  rfl
theorem neqRef (w : World) (k k' : RM) : (binOp .neq 71 (refV k) (refV k')).run Tryd.prog w = .ok (.bool (!decide (k = k'))) w := by
  rw [run_neq_struct, eqRef]
  rfl
theorem rSame_eq {m m2 : NM} : ((((decide (m.h = m2.h) && decide (m.n = m2.n)) && decide (m.d = m2.d)) && decide (m.s = m2.s)) && decide (m.l = m2.l)) = same m m2 := by
  unfold same
  rw [Bool.and_right_comm]
theorem build_Note4 (h n d : Int) (t : Str) (w : World) : (Instr.build 54 #[(0, .int .i64 h), (1, .int .i64 n), (2, .int .i64 d), (4, strV t)]).run Tryd.prog w = .ok (.agg #[.int .i64 h, .int .i64 n, .int .i64 d, .slice none 0 0, strV t]) w := by kernel_rfl

/-! ### the bounds -/
def plain (m : NM) : Bool := decide (((m.l.length : Nat) : Int) ≤ 50) && (decide (((m.s.length : Nat) : Int) ≤ 200) || (decide ((7990 : Int) < ((m.s.length : Nat) : Int)) && decide (((m.s.length : Nat) : Int) ≤ 8010)))
theorem plain_step {l : List NM} {i : Nat} {m : NM} (hm : l[i]? = some m) (h : ∀ x ∈ l.take i, plain x = true) (h1 : plain m = true) : ∀ x ∈ l.take (i + 1), plain x = true := by
  rw [take_succ_get hm]
  intro x hx
  rcases List.mem_append.1 hx with hx | hx
  · exact h x hx
  · rw [List.mem_singleton.1 hx]; exact h1
def FewN (l : List NM) (most : Int) : Prop := l.length ≤ 420 ∧ ((l.length : Int) ≤ most ∨ 400 < l.length) ∧ ∀ x ∈ l, plain x = true
theorem few_n {l : List NM} {most : Int} {k : Nat} (hm : most ≤ 400) (hk : k ≤ l.length) (hp : ∀ x ∈ l.take k, plain x = true) (h0 : (decide ((k : Int) < ((l.length : Nat) : Int)) && decide ((k : Int) ≤ 420)) = false)
    (hf : (decide (((l.length : Nat) : Int) ≤ most) || (decide ((400 : Int) < ((l.length : Nat) : Int)) && decide (((l.length : Nat) : Int) ≤ 420))) = true) : FewN l most := by
  simp only [Bool.and_eq_false_iff, decide_eq_false_iff_not] at h0
  simp only [Bool.or_eq_true, Bool.and_eq_true, decide_eq_true_eq] at hf
  refine ⟨by omega, by omega, ?_⟩
  rwa [List.take_of_length_le (by omega)] at hp
/-! ### Check -/
def hdH (l : List NM) : Int := match l with | m :: _ => m.h | [] => 0
theorem hdH_of {l : List NM} {m : NM} (h : l[0]? = some m) : m.h = hdH l := by
  cases l with
  | nil => simp at h
  | cons x l => simp at h; subst h; rfl
def chk (h0 : Int) : Nat → Int → List NM → Int
  | _, _, [] => 0
  | i, d, m :: l => if right m = false then 1 else if m.h ≠ h0 then 19 else if (i : Int) < m.n then 21 else if m.n < (i : Int) then 5 else if m.d < d then 18 else chk h0 (i + 1) m.d l
def check (l : List NM) : Int := if 400 < l.length then 6 else chk (hdH l) 0 0 l
theorem check_many {l : List NM} (h : decide ((400 : Int) < ((l.length : Nat) : Int)) = true) : check l = 6 := by
  unfold check; rw [if_pos (by have := of_decide_eq_true h; omega)]
theorem check_of {l : List NM} {x : Int} (h : decide ((400 : Int) < ((l.length : Nat) : Int)) = false) (hx : chk (hdH l) 0 0 l = x) : check l = x := by
  unfold check; rw [if_neg (by have := of_decide_eq_false h; omega), hx]
section
variable {l : List NM} {k : Nat} {m : NM} {h0 d : Int}
theorem chk_drop (hm : l[k]? = some m) : chk h0 k d (l.drop k) = (if right m = false then 1 else if m.h ≠ h0 then 19 else if (k : Int) < m.n then 21 else if m.n < (k : Int) then 5 else if m.d < d then 18 else chk h0 (k + 1) m.d (l.drop (k + 1))) := by
  obtain ⟨hk, rfl⟩ := List.getElem?_eq_some_iff.1 hm
  rw [List.drop_eq_getElem_cons hk]; rfl
variable (hm : l[k]? = some m)
include hm
theorem chk_2 (h2 : (!right m) = true) : chk h0 k d (l.drop k) = 1 := by
  rw [chk_drop hm, if_pos (nt_t h2)]
theorem chk_3 (h2 : (!right m) = false) (h3 : (!decide (m.h = h0)) = true) : chk h0 k d (l.drop k) = 19 := by
  rw [chk_drop hm, if_neg (by rw [nt_f h2]; decide), if_pos (of_decide_eq_false (nt_t h3))]
theorem chk_4 (h2 : (!right m) = false) (h3 : (!decide (m.h = h0)) = false) (h4 : decide ((k : Int) < m.n) = true) : chk h0 k d (l.drop k) = 21 := by
  rw [chk_drop hm, if_neg (by rw [nt_f h2]; decide), if_neg (fun h => h (of_decide_eq_true (nt_f h3))), if_pos (of_decide_eq_true h4)]
theorem chk_5 (h2 : (!right m) = false) (h3 : (!decide (m.h = h0)) = false) (h4 : decide ((k : Int) < m.n) = false) (h5 : decide (m.n < (k : Int)) = true) : chk h0 k d (l.drop k) = 5 := by
  rw [chk_drop hm, if_neg (by rw [nt_f h2]; decide), if_neg (fun h => h (of_decide_eq_true (nt_f h3))), if_neg (of_decide_eq_false h4), if_pos (of_decide_eq_true h5)]
theorem chk_6 (h2 : (!right m) = false) (h3 : (!decide (m.h = h0)) = false) (h4 : decide ((k : Int) < m.n) = false) (h5 : decide (m.n < (k : Int)) = false) (h6 : decide (m.d < d) = true) : chk h0 k d (l.drop k) = 18 := by
  rw [chk_drop hm, if_neg (by rw [nt_f h2]; decide), if_neg (fun h => h (of_decide_eq_true (nt_f h3))), if_neg (of_decide_eq_false h4), if_neg (of_decide_eq_false h5), if_pos (of_decide_eq_true h6)]
theorem chk_next (h2 : (!right m) = false) (h3 : (!decide (m.h = h0)) = false) (h4 : decide ((k : Int) < m.n) = false) (h5 : decide (m.n < (k : Int)) = false) (h6 : decide (m.d < d) = false) : chk h0 k d (l.drop k) = chk h0 (k + 1) m.d (l.drop (k + 1)) := by
  rw [chk_drop hm, if_neg (by rw [nt_f h2]; decide), if_neg (fun h => h (of_decide_eq_true (nt_f h3))), if_neg (of_decide_eq_false h4), if_neg (of_decide_eq_false h5), if_neg (of_decide_eq_false h6)]
end
set_option maxRecDepth 20000 in
set_option maxHeartbeats 4000000 in
theorem EqRefs_v_ {w : World} {l l2 : List RM} {A1 A2 : Option Addr} {c1 c2 : Nat} (f1 : RefsV w (.slice A1 l.length c1) l) (f2 : RefsV w (.slice A2 l2.length c2) l2) : Calls Tryd.prog 89 [.slice A1 l.length c1, .slice A2 l2.length c2].toArray w (Fix (.bool (decide (l = l2))) w) := by
  have hbd1 := Nat.le_trans (SliceOf.cap_ f1) (SliceOf.lens f1).2
  refine calls_start Tryd.func89 rfl rfl ?_
  intro az Hz
  rw [Tryd.ntmps89] at Hz
  refine wp_seq_k fun K1 hK1 => ?_
  -- slices.go:20
  refine wp_region_lit ?_
  refine L (r_as Hz rfl) Hz rfl ?_
  clear Hz az; intro az Hz
  refine hK1 _ _ ?_
  refine wp_seq_k fun K2 hK2 => ?_
  refine wp_seq_k fun K3 hK3 => ?_
  -- slices.go:21
  refine wp_region_lit ?_
  refine L (r_mv Hz rfl) Hz rfl ?_
  clear Hz az; intro az Hz
  refine L (r_lenL Tryd.underlying52 Hz rfl) Hz rfl ?_
  clear Hz az; intro az Hz
  refine L (r_mv Hz rfl) Hz rfl ?_
  clear Hz az; intro az Hz
  refine L (r_lenL Tryd.underlying52 Hz rfl) Hz rfl ?_
  clear Hz az; intro az Hz
  refine L (r_neI Hz rfl rfl) Hz rfl ?_
  clear Hz az; intro az Hz
  refine hK3 _ _ ?_
  refine br Hz rfl (fun hc4 => ?_) (fun hc4 => ?_)
  · -- if0
    have p5 := of_decide_eq_false (nt_t hc4)
    refine wp_seq_k fun K6 hK6 => ?_
    -- slices.go:22
    refine wp_region_lit ?_
    refine L (r_as Hz rfl) Hz rfl ?_
    clear Hz az; intro az Hz
    refine hK6 _ _ ?_
    refine wp_ret ?_
    show bodyPost _ _ _ .ret _ _
    refine ret_of (vs := [.bool (false)]) Hz Tryd.results89 ⟨rfl, trivial⟩ ?_
    rw [decide_eq_false (fun h => by have := congrArg List.length h; omega)]; exact ⟨rfl, (Only.refl NoF w)⟩
  · -- else0
    have p7 := of_decide_eq_true (nt_f hc4)
    refine wp_skip ?_
    refine hK2 _ _ ?_
    refine wp_seq_k fun K8 hK8 => ?_
    refine wp_seq_k fun K9 hK9 => ?_
    -- slices.go:24
    refine wp_region_lit ?_
    refine L (r_mv Hz rfl) Hz rfl ?_
    clear Hz az; intro az Hz
    refine L (r_lenL Tryd.underlying52 Hz rfl) Hz rfl ?_
    clear Hz az; intro az Hz
    refine L (r_mv Hz rfl) Hz rfl ?_
    clear Hz az; intro az Hz
    refine hK9 _ _ ?_
    refine wp_block ?_
    refine wp_loop_m (fun mz az W => ∃ k : Nat, mz = l.length - k ∧ Fr 26 [(0, .slice A1 (l.length) c1), (1, .slice A2 (l2.length) c2), (12, .int .i64 (((l.length : Nat) : Int))), (13, .int .i64 ((k : Int)))] az ∧ (k ≤ l.length) ∧ (l.take k = l2.take k) ∧ Only NoF w W) ?_ ?_
    · -- start
      exact ⟨_, 0, rfl, Hz.cut ⟨rfl, rfl, rfl, rfl, trivial⟩, Nat.zero_le _, rfl, (Only.refl NoF w)⟩
    clear Hz az
    rintro mz az w10 ⟨k, hm12, Hz, hk, heq, o11⟩
    refine wp_seq_k fun K13 hK13 => ?_
    -- slices.go:24
    refine wp_region_lit ?_
    refine L (r_ltI Hz rfl rfl) Hz rfl ?_
    clear Hz az; intro az Hz
    refine hK13 _ _ ?_
    refine wp_seq_k fun K14 hK14 => ?_
    refine br Hz rfl (fun hc15 => ?_) (fun hc15 => ?_)
    · -- if1
      have p16 := of_decide_eq_true hc15
      refine wp_skip ?_
      refine hK14 _ _ ?_
      refine wp_seq_k fun K17 hK17 => ?_
      refine wp_block ?_
      refine wp_seq_k fun K18 hK18 => ?_
      -- slices.go:24
      refine wp_region_lit ?_
      refine L (r_mv Hz rfl) Hz rfl ?_
      clear Hz az; intro az Hz
      refine L (r_as Hz rfl) Hz rfl ?_
      clear Hz az; intro az Hz
      refine hK18 _ _ ?_
      refine wp_seq_k fun K19 hK19 => ?_
      -- slices.go:25
      refine reg_q [(true, 0), (true, 1), (true, 2), (true, 3), (true, 4), (true, 5), (true, 6), (true, 7), (true, 8)] (by kernel_rfl) (by kernel_rfl) (fun _ _ _ _ _ h => h) fun w20 o21 => ?_
      refine M (r_mv Hz rfl) Hz rfl rfl ?_
      clear Hz az; intro az Hz
      refine M (r_mv Hz rfl) Hz rfl rfl ?_
      clear Hz az; intro az Hz
      have hk22 : k < (l).length := by omega
      have O28 : Only NoF w w20 := (Only.trans' o11 o21)
      have h29 := (SliceOf.kp f1 O28 (fun _ _ h => h) (fun _ _ _ _ h => h))
      obtain ⟨m23, hm24, ok25, hA26⟩ := Row.el KRef h29 hk22
      have E27 : ∀ W, Only NoF w20 W → CA W (eA A1 2 (k)) [.int .i64 (m23.h), .int .i64 (m23.n)] := Row.ce KRef h29 hm24 rfl
      refine M (r_ia (k := k) (size := 2) Tryd.underlying52 Tryd.sizeOf71 Hz rfl rfl rfl hk22 hA26) Hz rfl rfl ?_
      clear Hz az; intro az Hz
      refine M (r_ldA Tryd.isAgg71 Tryd.sizeOf71 Hz rfl (E27 _ (Only.refl NoF w20)) rfl) Hz rfl rfl ?_
      clear Hz az; intro az Hz
      refine M (r_mv Hz rfl) Hz rfl rfl ?_
      clear Hz az; intro az Hz
      refine M (r_mv Hz rfl) Hz rfl rfl ?_
      clear Hz az; intro az Hz
      have hk30 : k < (l2).length := by omega
      have h36 := (SliceOf.kp f2 O28 (fun _ _ h => h) (fun _ _ _ _ h => h))
      obtain ⟨m31, hm32, ok33, hA34⟩ := Row.el KRef h36 hk30
      have E35 : ∀ W, Only NoF w20 W → CA W (eA A2 2 (k)) [.int .i64 (m31.h), .int .i64 (m31.n)] := Row.ce KRef h36 hm32 rfl
      refine M (r_ia (k := k) (size := 2) Tryd.underlying52 Tryd.sizeOf71 Hz rfl rfl rfl hk30 hA34) Hz rfl rfl ?_
      clear Hz az; intro az Hz
      refine M (r_ldA Tryd.isAgg71 Tryd.sizeOf71 Hz rfl (E35 _ (Only.refl NoF w20)) rfl) Hz rfl rfl ?_
      clear Hz az; intro az Hz
      refine M (r_neA guardRef (fun w => neqRef w m23 m31) Hz rfl rfl) Hz rfl rfl ?_
      clear Hz az; intro az Hz
      refine wpMix_nil ?_
      refine hK19 _ _ ?_
      refine br Hz rfl (fun hc37 => ?_) (fun hc37 => ?_)
      · -- if2
        have p38 := of_decide_eq_false (nt_t hc37)
        refine wp_seq_k fun K39 hK39 => ?_
        -- slices.go:26
        refine wp_region_lit ?_
        refine L (r_as Hz rfl) Hz rfl ?_
        clear Hz az; intro az Hz
        refine hK39 _ _ ?_
        refine wp_ret ?_
        show bodyPost _ _ _ .ret _ _
        refine ret_of (vs := [.bool (false)]) Hz Tryd.results89 ⟨rfl, trivial⟩ ?_
        rw [decide_eq_false (same_ne hm24 hm32 hc37)]; exact ⟨rfl, O28⟩
      · -- else2
        have p40 := of_decide_eq_true (nt_f hc37)
        refine wp_skip ?_
        refine hK17 _ _ ?_
        -- slices.go:24
        refine wp_region_lit ?_
        have i41 : I64 (((k : Int) + 1)) := by unfold I64; omega
        refine L (r_addI (r := ((k : Int) + 1)) Hz rfl rfl rfl i41) Hz rfl ?_
        clear Hz az; intro az Hz
        refine L (r_mv Hz rfl) Hz rfl ?_
        clear Hz az; intro az Hz
        exact ⟨_, (by omega), k + 1, rfl, Hz.cut ⟨rfl, rfl, rfl, rfl, trivial⟩, (by omega), (same_step hm24 hm32 heq hc37), O28⟩
    · -- else1
      have p42 := of_decide_eq_false hc15
      refine wp_exit ?_
      refine th_exit ?_
      refine th_exit ?_
      refine ib_hit ?_
      refine hK8 _ _ ?_
      refine wp_seq_k fun K43 hK43 => ?_
      -- slices.go:29
      refine wp_region_lit ?_
      refine L (r_as Hz rfl) Hz rfl ?_
      clear Hz az; intro az Hz
      refine hK43 _ _ ?_
      refine wp_ret ?_
      show bodyPost _ _ _ .ret _ _
      refine ret_of (vs := [.bool (true)]) Hz Tryd.results89 ⟨rfl, trivial⟩ ?_
      have hk2 : l.length = l2.length := by omega
      rw [List.take_of_length_le (by omega), List.take_of_length_le (by omega)] at heq
      rw [decide_eq_true heq]; exact ⟨rfl, o11⟩

set_option maxRecDepth 20000 in
set_option maxHeartbeats 4000000 in
theorem rSameRefs_v_ {w : World} {l l2 : List RM} {A1 A2 : Option Addr} {c1 c2 : Nat} (f1 : RefsV w (.slice A1 l.length c1) l) (f2 : RefsV w (.slice A2 l2.length c2) l2) : Calls Tryd.prog 85 [.slice A1 l.length c1, .slice A2 l2.length c2].toArray w (Fix (.bool (decide (l = l2))) w) := by
  have hbd1 := Nat.le_trans (SliceOf.cap_ f1) (SliceOf.lens f1).2
  refine calls_start Tryd.func85 rfl rfl ?_
  intro az Hz
  rw [Tryd.ntmps85] at Hz
  refine wp_seq_k fun K1 hK1 => ?_
  -- ref.go:35
  refine wp_region_lit ?_
  refine L (r_as Hz rfl) Hz rfl ?_
  clear Hz az; intro az Hz
  refine hK1 _ _ ?_
  refine wp_seq_k fun K2 hK2 => ?_
  refine wp_seq_k fun K3 hK3 => ?_
  -- ref.go:36
  refine wp_region_lit ?_
  refine L (r_mv Hz rfl) Hz rfl ?_
  clear Hz az; intro az Hz
  refine L (r_lenL Tryd.underlying52 Hz rfl) Hz rfl ?_
  clear Hz az; intro az Hz
  refine L (r_mv Hz rfl) Hz rfl ?_
  clear Hz az; intro az Hz
  refine L (r_lenL Tryd.underlying52 Hz rfl) Hz rfl ?_
  clear Hz az; intro az Hz
  refine L (r_neI Hz rfl rfl) Hz rfl ?_
  clear Hz az; intro az Hz
  refine hK3 _ _ ?_
  refine br Hz rfl (fun hc4 => ?_) (fun hc4 => ?_)
  · -- if0
    have p5 := of_decide_eq_false (nt_t hc4)
    refine wp_seq_k fun K6 hK6 => ?_
    -- ref.go:37
    refine wp_region_lit ?_
    refine L (r_as Hz rfl) Hz rfl ?_
    clear Hz az; intro az Hz
    refine hK6 _ _ ?_
    refine wp_ret ?_
    show bodyPost _ _ _ .ret _ _
    refine ret_of (vs := [.bool (false)]) Hz Tryd.results85 ⟨rfl, trivial⟩ ?_
    rw [decide_eq_false (fun h => by have := congrArg List.length h; omega)]; exact ⟨rfl, (Only.refl NoF w)⟩
  · -- else0
    have p7 := of_decide_eq_true (nt_f hc4)
    refine wp_skip ?_
    refine hK2 _ _ ?_
    refine wp_seq_k fun K8 hK8 => ?_
    refine wp_seq_k fun K9 hK9 => ?_
    -- ref.go:39
    refine wp_region_lit ?_
    refine L (r_as Hz rfl) Hz rfl ?_
    clear Hz az; intro az Hz
    refine hK9 _ _ ?_
    refine wp_block ?_
    refine wp_loop_m (fun mz az W => ∃ k : Nat, mz = l.length - k ∧ Fr 26 [(0, .slice A1 (l.length) c1), (1, .slice A2 (l2.length) c2), (5, .int .i64 ((k : Int)))] az ∧ (k ≤ l.length) ∧ (l.take k = l2.take k) ∧ Only NoF w W) ?_ ?_
    · -- start
      exact ⟨_, 0, rfl, Hz.cut ⟨rfl, rfl, rfl, trivial⟩, Nat.zero_le _, rfl, (Only.refl NoF w)⟩
    clear Hz az
    rintro mz az w10 ⟨k, hm12, Hz, hk, heq, o11⟩
    refine wp_seq_k fun K13 hK13 => ?_
    refine wp_seq_k fun K14 hK14 => ?_
    -- ref.go:39
    refine wp_region_lit ?_
    refine L (r_mv Hz rfl) Hz rfl ?_
    clear Hz az; intro az Hz
    refine L (r_mv Hz rfl) Hz rfl ?_
    clear Hz az; intro az Hz
    refine L (r_lenL Tryd.underlying52 Hz rfl) Hz rfl ?_
    clear Hz az; intro az Hz
    refine L (r_ltI Hz rfl rfl) Hz rfl ?_
    clear Hz az; intro az Hz
    refine hK14 _ _ ?_
    refine br Hz rfl (fun hc15 => ?_) (fun hc15 => ?_)
    · -- if1
      have p16 := of_decide_eq_true hc15
      refine wp_skip ?_
      refine hK13 _ _ ?_
      refine wp_seq_k fun K17 hK17 => ?_
      refine wp_block ?_
      refine wp_seq_k fun K18 hK18 => ?_
      -- ref.go:40
      refine reg_q [(true, 0), (true, 1), (true, 2), (true, 3), (true, 4), (true, 5), (true, 6), (true, 7), (true, 8)] (by kernel_rfl) (by kernel_rfl) (fun _ _ _ _ _ h => h) fun w19 o20 => ?_
      refine M (r_mv Hz rfl) Hz rfl rfl ?_
      clear Hz az; intro az Hz
      refine M (r_mv Hz rfl) Hz rfl rfl ?_
      clear Hz az; intro az Hz
      have hk21 : k < (l).length := by omega
      have O27 : Only NoF w w19 := (Only.trans' o11 o20)
      have h28 := (SliceOf.kp f1 O27 (fun _ _ h => h) (fun _ _ _ _ h => h))
      obtain ⟨m22, hm23, ok24, hA25⟩ := Row.el KRef h28 hk21
      have E26 : ∀ W, Only NoF w19 W → CA W (eA A1 2 (k)) [.int .i64 (m22.h), .int .i64 (m22.n)] := Row.ce KRef h28 hm23 rfl
      refine M (r_ia (k := k) (size := 2) Tryd.underlying52 Tryd.sizeOf71 Hz rfl rfl rfl hk21 hA25) Hz rfl rfl ?_
      clear Hz az; intro az Hz
      refine M (r_ldA Tryd.isAgg71 Tryd.sizeOf71 Hz rfl (E26 _ (Only.refl NoF w19)) rfl) Hz rfl rfl ?_
      clear Hz az; intro az Hz
      refine M (r_mv Hz rfl) Hz rfl rfl ?_
      clear Hz az; intro az Hz
      refine M (r_mv Hz rfl) Hz rfl rfl ?_
      clear Hz az; intro az Hz
      have hk29 : k < (l2).length := by omega
      have h35 := (SliceOf.kp f2 O27 (fun _ _ h => h) (fun _ _ _ _ h => h))
      obtain ⟨m30, hm31, ok32, hA33⟩ := Row.el KRef h35 hk29
      have E34 : ∀ W, Only NoF w19 W → CA W (eA A2 2 (k)) [.int .i64 (m30.h), .int .i64 (m30.n)] := Row.ce KRef h35 hm31 rfl
      refine M (r_ia (k := k) (size := 2) Tryd.underlying52 Tryd.sizeOf71 Hz rfl rfl rfl hk29 hA33) Hz rfl rfl ?_
      clear Hz az; intro az Hz
      refine M (r_ldA Tryd.isAgg71 Tryd.sizeOf71 Hz rfl (E34 _ (Only.refl NoF w19)) rfl) Hz rfl rfl ?_
      clear Hz az; intro az Hz
      refine M (r_neA guardRef (fun w => neqRef w m22 m30) Hz rfl rfl) Hz rfl rfl ?_
      clear Hz az; intro az Hz
      refine wpMix_nil ?_
      refine hK18 _ _ ?_
      refine br Hz rfl (fun hc36 => ?_) (fun hc36 => ?_)
      · -- if2
        have p37 := of_decide_eq_false (nt_t hc36)
        refine wp_seq_k fun K38 hK38 => ?_
        -- ref.go:41
        refine wp_region_lit ?_
        refine L (r_as Hz rfl) Hz rfl ?_
        clear Hz az; intro az Hz
        refine hK38 _ _ ?_
        refine wp_ret ?_
        show bodyPost _ _ _ .ret _ _
        refine ret_of (vs := [.bool (false)]) Hz Tryd.results85 ⟨rfl, trivial⟩ ?_
        rw [decide_eq_false (same_ne hm23 hm31 hc36)]; exact ⟨rfl, O27⟩
      · -- else2
        have p39 := of_decide_eq_true (nt_f hc36)
        refine wp_skip ?_
        refine hK17 _ _ ?_
        -- ref.go:39
        refine wp_region_lit ?_
        refine L (r_mv Hz rfl) Hz rfl ?_
        clear Hz az; intro az Hz
        have i40 : I64 (((k : Int) + 1)) := by unfold I64; omega
        refine L (r_addI (r := ((k : Int) + 1)) Hz rfl rfl rfl i40) Hz rfl ?_
        clear Hz az; intro az Hz
        refine L (r_as Hz rfl) Hz rfl ?_
        clear Hz az; intro az Hz
        exact ⟨_, (by omega), k + 1, rfl, Hz.cut ⟨rfl, rfl, rfl, trivial⟩, (by omega), (same_step hm23 hm31 heq hc36), O27⟩
    · -- else1
      have p41 := of_decide_eq_false hc15
      refine wp_exit ?_
      refine th_exit ?_
      refine th_exit ?_
      refine ib_hit ?_
      refine hK8 _ _ ?_
      refine wp_seq_k fun K42 hK42 => ?_
      -- ref.go:44
      refine wp_region_lit ?_
      refine L (r_as Hz rfl) Hz rfl ?_
      clear Hz az; intro az Hz
      refine hK42 _ _ ?_
      refine wp_ret ?_
      show bodyPost _ _ _ .ret _ _
      refine ret_of (vs := [.bool (true)]) Hz Tryd.results85 ⟨rfl, trivial⟩ ?_
      have hk2 : l.length = l2.length := by omega
      rw [List.take_of_length_le (by omega), List.take_of_length_le (by omega)] at heq
      rw [decide_eq_true heq]; exact ⟨rfl, o11⟩

set_option maxRecDepth 20000 in
set_option maxHeartbeats 4000000 in
theorem Same_v {w : World} {m m2 : NM} (h1 : RefsV w (.slice m.A m.l.length m.c) m.l) (h2 : RefsV w (.slice m2.A m2.l.length m2.c) m2.l) : Calls Tryd.prog 64 [.agg #[.int .i64 m.h, .int .i64 m.n, .int .i64 m.d, .slice m.A m.l.length m.c, strV m.s], .agg #[.int .i64 m2.h, .int .i64 m2.n, .int .i64 m2.d, .slice m2.A m2.l.length m2.c, strV m2.s]].toArray w (Fix (.bool (same m m2)) w) := by
  refine calls_start Tryd.func64 rfl rfl ?_
  intro az Hz
  rw [Tryd.ntmps64] at Hz
  refine wp_seq_k fun K1 hK1 => ?_
  -- seal.go:34
  refine wp_region_lit ?_
  refine LBox Hz rfl rfl rfl ?_
  clear Hz az; intro g2 w3 hg6 hl7 o4 B5 az Hz
  refine LBox Hz rfl rfl rfl ?_
  clear Hz az; intro g8 w9 hg12 hl13 o10 B11 az Hz
  refine L (r_as Hz rfl) Hz rfl ?_
  clear Hz az; intro az Hz
  refine hK1 _ _ ?_
  refine wp_seq_k fun K14 hK14 => ?_
  -- seal.go:35
  refine wp_region_lit ?_
  refine L (r_fa (m' := 0) Tryd.underlying54 rfl Tryd.sizeOf3 rfl Hz rfl rfl) Hz rfl ?_
  clear Hz az; intro az Hz
  have B15 := (Blk.k B5 o10)
  refine L (r_ld Tryd.isAgg3 Hz rfl ((Blk.ca B15) 0 _ rfl)) Hz rfl ?_
  clear Hz az; intro az Hz
  refine L (r_fa (m' := 0) Tryd.underlying54 rfl Tryd.sizeOf3 rfl Hz rfl rfl) Hz rfl ?_
  clear Hz az; intro az Hz
  refine L (r_ld Tryd.isAgg3 Hz rfl ((Blk.ca B11) 0 _ rfl)) Hz rfl ?_
  clear Hz az; intro az Hz
  refine L (r_eqI Hz rfl rfl) Hz rfl ?_
  clear Hz az; intro az Hz
  refine L (r_mv Hz rfl) Hz rfl ?_
  clear Hz az; intro az Hz
  refine LG Hz rfl rfl gd_t (fun hb => r_fa (m' := 1) Tryd.underlying54 rfl Tryd.sizeOf3 rfl Hz rfl rfl) rfl ?_
  clear Hz az; intro az Hz
  refine LG Hz rfl rfl gd_t (fun hb => r_ld Tryd.isAgg3 Hz (evg hb rfl) ((Blk.ca B15) 1 _ rfl)) rfl ?_
  clear Hz az; intro az Hz
  refine LG Hz rfl rfl gd_t (fun hb => r_fa (m' := 1) Tryd.underlying54 rfl Tryd.sizeOf3 rfl Hz rfl rfl) rfl ?_
  clear Hz az; intro az Hz
  refine LG Hz rfl rfl gd_t (fun hb => r_ld Tryd.isAgg3 Hz (evg hb rfl) ((Blk.ca B11) 1 _ rfl)) rfl ?_
  clear Hz az; intro az Hz
  refine LG Hz rfl rfl gd_t (fun hb => r_eqI Hz (evg hb rfl) (evg hb rfl)) rfl ?_
  clear Hz az; intro az Hz
  refine L (r_and Hz rfl rfl rfl) Hz rfl ?_
  clear Hz az; intro az Hz
  refine L (r_mv Hz rfl) Hz rfl ?_
  clear Hz az; intro az Hz
  refine LG Hz rfl rfl gd_t (fun hb => r_fa (m' := 2) Tryd.underlying54 rfl Tryd.sizeOf3 rfl Hz rfl rfl) rfl ?_
  clear Hz az; intro az Hz
  refine LG Hz rfl rfl gd_t (fun hb => r_ld Tryd.isAgg3 Hz (evg hb rfl) ((Blk.ca B15) 2 _ rfl)) rfl ?_
  clear Hz az; intro az Hz
  refine LG Hz rfl rfl gd_t (fun hb => r_fa (m' := 2) Tryd.underlying54 rfl Tryd.sizeOf3 rfl Hz rfl rfl) rfl ?_
  clear Hz az; intro az Hz
  refine LG Hz rfl rfl gd_t (fun hb => r_ld Tryd.isAgg3 Hz (evg hb rfl) ((Blk.ca B11) 2 _ rfl)) rfl ?_
  clear Hz az; intro az Hz
  refine LG Hz rfl rfl gd_t (fun hb => r_eqI Hz (evg hb rfl) (evg hb rfl)) rfl ?_
  clear Hz az; intro az Hz
  refine L (r_and Hz rfl rfl rfl) Hz rfl ?_
  clear Hz az; intro az Hz
  refine L (r_mv Hz rfl) Hz rfl ?_
  clear Hz az; intro az Hz
  refine LG Hz rfl rfl gd_t (fun hb => r_fa (m' := 3) Tryd.underlying54 rfl Tryd.sizeOf52 rfl Hz rfl rfl) rfl ?_
  clear Hz az; intro az Hz
  refine LG Hz rfl rfl gd_t (fun hb => r_ld Tryd.isAgg52 Hz (evg hb rfl) ((Blk.ca B15) 3 _ rfl)) rfl ?_
  clear Hz az; intro az Hz
  refine LG Hz rfl rfl gd_t (fun hb => r_fa (m' := 3) Tryd.underlying54 rfl Tryd.sizeOf52 rfl Hz rfl rfl) rfl ?_
  clear Hz az; intro az Hz
  refine LG Hz rfl rfl gd_t (fun hb => r_ld Tryd.isAgg52 Hz (evg hb rfl) ((Blk.ca B11) 3 _ rfl)) rfl ?_
  clear Hz az; intro az Hz
  have O16 : Only NoF w w9 := (Only.trans' o4 o10)
  have h17 := (SliceOf.kp h1 O16 (fun _ _ h => h) (fun _ _ _ _ h => h))
  have h18 := (SliceOf.kp h2 O16 (fun _ _ h => h) (fun _ _ _ _ h => h))
  refine LGV (v := .bool (decide (m.l = m2.l))) Hz rfl rfl gd_t rfl (fun hb => (evs_c (evg hb rfl) (evs_c (evg hb rfl) rfl))) Tryd.call89 (fun hb => EqRefs_v_ h17 h18) rfl fun w19 o20 => ?_
  clear Hz az; intro az Hz
  refine L (r_and Hz rfl rfl rfl) Hz rfl ?_
  clear Hz az; intro az Hz
  refine L (r_mv Hz rfl) Hz rfl ?_
  clear Hz az; intro az Hz
  refine LG Hz rfl rfl gd_t (fun hb => r_fa (m' := 4) Tryd.underlying54 rfl Tryd.sizeOf9 rfl Hz rfl rfl) rfl ?_
  clear Hz az; intro az Hz
  have B21 := (Blk.k B15 o20)
  refine LG Hz rfl rfl gd_t (fun hb => r_ld Tryd.isAgg9 Hz (evg hb rfl) ((Blk.ca B21) 4 _ rfl)) rfl ?_
  clear Hz az; intro az Hz
  refine LG Hz rfl rfl gd_t (fun hb => r_fa (m' := 4) Tryd.underlying54 rfl Tryd.sizeOf9 rfl Hz rfl rfl) rfl ?_
  clear Hz az; intro az Hz
  have B22 := (Blk.k B11 o20)
  refine LG Hz rfl rfl gd_t (fun hb => r_ld Tryd.isAgg9 Hz (evg hb rfl) ((Blk.ca B22) 4 _ rfl)) rfl ?_
  clear Hz az; intro az Hz
  refine LG Hz rfl rfl gd_t (fun hb => r_eqS Hz (evg hb rfl) (evg hb rfl)) rfl ?_
  clear Hz az; intro az Hz
  refine L (r_and Hz rfl rfl rfl) Hz rfl ?_
  clear Hz az; intro az Hz
  refine L (r_as Hz rfl) Hz rfl ?_
  clear Hz az; intro az Hz
  refine hK14 _ _ ?_
  refine wp_ret ?_
  show bodyPost _ _ _ .ret _ _
  refine ret_of (vs := [.bool ((((((decide (m.h = m2.h)) && (decide (m.n = m2.n))) && (decide (m.d = m2.d))) && (decide (m.l = m2.l))) && (decide (m.s = m2.s))))]) Hz Tryd.results64 ⟨rfl, trivial⟩ ?_
  have O23 : Only NoF w w19 := (Only.trans' O16 o20)
  exact ⟨rfl, O23⟩

set_option maxRecDepth 20000 in
set_option maxHeartbeats 4000000 in
theorem rSame_v {w : World} {m m2 : NM} (h1 : RefsV w (.slice m.A m.l.length m.c) m.l) (h2 : RefsV w (.slice m2.A m2.l.length m2.c) m2.l) : Calls Tryd.prog 59 [.agg #[.int .i64 m.h, .int .i64 m.n, .int .i64 m.d, .slice m.A m.l.length m.c, strV m.s], .agg #[.int .i64 m2.h, .int .i64 m2.n, .int .i64 m2.d, .slice m2.A m2.l.length m2.c, strV m2.s]].toArray w (Fix (.bool (same m m2)) w) := by
  refine calls_start Tryd.func59 rfl rfl ?_
  intro az Hz
  rw [Tryd.ntmps59] at Hz
  refine wp_seq_k fun K1 hK1 => ?_
  -- ref.go:48
  refine wp_region_lit ?_
  refine LBox Hz rfl rfl rfl ?_
  clear Hz az; intro g2 w3 hg6 hl7 o4 B5 az Hz
  refine LBox Hz rfl rfl rfl ?_
  clear Hz az; intro g8 w9 hg12 hl13 o10 B11 az Hz
  refine L (r_as Hz rfl) Hz rfl ?_
  clear Hz az; intro az Hz
  refine hK1 _ _ ?_
  refine wp_seq_k fun K14 hK14 => ?_
  -- ref.go:49
  refine wp_region_lit ?_
  refine L (r_fa (m' := 0) Tryd.underlying54 rfl Tryd.sizeOf3 rfl Hz rfl rfl) Hz rfl ?_
  clear Hz az; intro az Hz
  have B15 := (Blk.k B5 o10)
  refine L (r_ld Tryd.isAgg3 Hz rfl ((Blk.ca B15) 0 _ rfl)) Hz rfl ?_
  clear Hz az; intro az Hz
  refine L (r_fa (m' := 0) Tryd.underlying54 rfl Tryd.sizeOf3 rfl Hz rfl rfl) Hz rfl ?_
  clear Hz az; intro az Hz
  refine L (r_ld Tryd.isAgg3 Hz rfl ((Blk.ca B11) 0 _ rfl)) Hz rfl ?_
  clear Hz az; intro az Hz
  refine L (r_eqI Hz rfl rfl) Hz rfl ?_
  clear Hz az; intro az Hz
  refine L (r_mv Hz rfl) Hz rfl ?_
  clear Hz az; intro az Hz
  refine LG Hz rfl rfl gd_t (fun hb => r_fa (m' := 1) Tryd.underlying54 rfl Tryd.sizeOf3 rfl Hz rfl rfl) rfl ?_
  clear Hz az; intro az Hz
  refine LG Hz rfl rfl gd_t (fun hb => r_ld Tryd.isAgg3 Hz (evg hb rfl) ((Blk.ca B15) 1 _ rfl)) rfl ?_
  clear Hz az; intro az Hz
  refine LG Hz rfl rfl gd_t (fun hb => r_fa (m' := 1) Tryd.underlying54 rfl Tryd.sizeOf3 rfl Hz rfl rfl) rfl ?_
  clear Hz az; intro az Hz
  refine LG Hz rfl rfl gd_t (fun hb => r_ld Tryd.isAgg3 Hz (evg hb rfl) ((Blk.ca B11) 1 _ rfl)) rfl ?_
  clear Hz az; intro az Hz
  refine LG Hz rfl rfl gd_t (fun hb => r_eqI Hz (evg hb rfl) (evg hb rfl)) rfl ?_
  clear Hz az; intro az Hz
  refine L (r_and Hz rfl rfl rfl) Hz rfl ?_
  clear Hz az; intro az Hz
  refine L (r_mv Hz rfl) Hz rfl ?_
  clear Hz az; intro az Hz
  refine LG Hz rfl rfl gd_t (fun hb => r_fa (m' := 2) Tryd.underlying54 rfl Tryd.sizeOf3 rfl Hz rfl rfl) rfl ?_
  clear Hz az; intro az Hz
  refine LG Hz rfl rfl gd_t (fun hb => r_ld Tryd.isAgg3 Hz (evg hb rfl) ((Blk.ca B15) 2 _ rfl)) rfl ?_
  clear Hz az; intro az Hz
  refine LG Hz rfl rfl gd_t (fun hb => r_fa (m' := 2) Tryd.underlying54 rfl Tryd.sizeOf3 rfl Hz rfl rfl) rfl ?_
  clear Hz az; intro az Hz
  refine LG Hz rfl rfl gd_t (fun hb => r_ld Tryd.isAgg3 Hz (evg hb rfl) ((Blk.ca B11) 2 _ rfl)) rfl ?_
  clear Hz az; intro az Hz
  refine LG Hz rfl rfl gd_t (fun hb => r_eqI Hz (evg hb rfl) (evg hb rfl)) rfl ?_
  clear Hz az; intro az Hz
  refine L (r_and Hz rfl rfl rfl) Hz rfl ?_
  clear Hz az; intro az Hz
  refine L (r_mv Hz rfl) Hz rfl ?_
  clear Hz az; intro az Hz
  refine LG Hz rfl rfl gd_t (fun hb => r_fa (m' := 4) Tryd.underlying54 rfl Tryd.sizeOf9 rfl Hz rfl rfl) rfl ?_
  clear Hz az; intro az Hz
  refine LG Hz rfl rfl gd_t (fun hb => r_ld Tryd.isAgg9 Hz (evg hb rfl) ((Blk.ca B15) 4 _ rfl)) rfl ?_
  clear Hz az; intro az Hz
  refine LG Hz rfl rfl gd_t (fun hb => r_fa (m' := 4) Tryd.underlying54 rfl Tryd.sizeOf9 rfl Hz rfl rfl) rfl ?_
  clear Hz az; intro az Hz
  refine LG Hz rfl rfl gd_t (fun hb => r_ld Tryd.isAgg9 Hz (evg hb rfl) ((Blk.ca B11) 4 _ rfl)) rfl ?_
  clear Hz az; intro az Hz
  refine LG Hz rfl rfl gd_t (fun hb => r_eqS Hz (evg hb rfl) (evg hb rfl)) rfl ?_
  clear Hz az; intro az Hz
  refine L (r_and Hz rfl rfl rfl) Hz rfl ?_
  clear Hz az; intro az Hz
  refine L (r_mv Hz rfl) Hz rfl ?_
  clear Hz az; intro az Hz
  refine LG Hz rfl rfl gd_t (fun hb => r_fa (m' := 3) Tryd.underlying54 rfl Tryd.sizeOf52 rfl Hz rfl rfl) rfl ?_
  clear Hz az; intro az Hz
  refine LG Hz rfl rfl gd_t (fun hb => r_ld Tryd.isAgg52 Hz (evg hb rfl) ((Blk.ca B15) 3 _ rfl)) rfl ?_
  clear Hz az; intro az Hz
  refine LG Hz rfl rfl gd_t (fun hb => r_fa (m' := 3) Tryd.underlying54 rfl Tryd.sizeOf52 rfl Hz rfl rfl) rfl ?_
  clear Hz az; intro az Hz
  refine LG Hz rfl rfl gd_t (fun hb => r_ld Tryd.isAgg52 Hz (evg hb rfl) ((Blk.ca B11) 3 _ rfl)) rfl ?_
  clear Hz az; intro az Hz
  have O16 : Only NoF w w9 := (Only.trans' o4 o10)
  have h17 := (SliceOf.kp h1 O16 (fun _ _ h => h) (fun _ _ _ _ h => h))
  have h18 := (SliceOf.kp h2 O16 (fun _ _ h => h) (fun _ _ _ _ h => h))
  refine LGV (v := .bool (decide (m.l = m2.l))) Hz rfl rfl gd_t rfl (fun hb => (evs_c (evg hb rfl) (evs_c (evg hb rfl) rfl))) Tryd.call85 (fun hb => rSameRefs_v_ h17 h18) rfl fun w19 o20 => ?_
  clear Hz az; intro az Hz
  refine L (r_and Hz rfl rfl rfl) Hz rfl ?_
  clear Hz az; intro az Hz
  refine L (r_as Hz rfl) Hz rfl ?_
  clear Hz az; intro az Hz
  refine hK14 _ _ ?_
  refine wp_ret ?_
  show bodyPost _ _ _ .ret _ _
  refine ret_of (vs := [.bool ((((((decide (m.h = m2.h)) && (decide (m.n = m2.n))) && (decide (m.d = m2.d))) && (decide (m.s = m2.s))) && (decide (m.l = m2.l))))]) Hz Tryd.results59 ⟨rfl, trivial⟩ ?_
  have O21 : Only NoF w w19 := (Only.trans' O16 o20)
  rw [← rSame_eq]; exact ⟨rfl, O21⟩

set_option maxRecDepth 20000 in
set_option maxHeartbeats 4000000 in
theorem Convicts_v {w : World} {m m2 : NM} (h1 : RefsV w (.slice m.A m.l.length m.c) m.l) (h2 : RefsV w (.slice m2.A m2.l.length m2.c) m2.l) : Calls Tryd.prog 65 [.agg #[.int .i64 m.h, .int .i64 m.n, .int .i64 m.d, .slice m.A m.l.length m.c, strV m.s], .agg #[.int .i64 m2.h, .int .i64 m2.n, .int .i64 m2.d, .slice m2.A m2.l.length m2.c, strV m2.s]].toArray w (Fix (.bool (convicts m m2)) w) := by
  refine calls_start Tryd.func65 rfl rfl ?_
  intro az Hz
  rw [Tryd.ntmps65] at Hz
  refine wp_seq_k fun K1 hK1 => ?_
  -- seal.go:72
  refine wp_region_lit ?_
  refine LBox Hz rfl rfl rfl ?_
  clear Hz az; intro g2 w3 hg6 hl7 o4 B5 az Hz
  refine LBox Hz rfl rfl rfl ?_
  clear Hz az; intro g8 w9 hg12 hl13 o10 B11 az Hz
  refine L (r_as Hz rfl) Hz rfl ?_
  clear Hz az; intro az Hz
  refine hK1 _ _ ?_
  refine wp_seq_k fun K14 hK14 => ?_
  -- seal.go:73
  refine wp_region_lit ?_
  have B15 := (Blk.k B5 o10)
  refine L (r_ldA Tryd.isAgg54 Tryd.sizeOf54 Hz rfl (Blk.ca B15) rfl) Hz rfl ?_
  clear Hz az; intro az Hz
  have O16 : Only NoF w w9 := (Only.trans' o4 o10)
  have h17 := (SliceOf.kp h1 O16 (fun _ _ h => h) (fun _ _ _ _ h => h))
  refine LCV (v := .bool (right m)) Hz rfl rfl Tryd.call62 (Right_v h17) rfl fun w18 o19 => ?_
  clear Hz az; intro az Hz
  refine L (r_mv Hz rfl) Hz rfl ?_
  clear Hz az; intro az Hz
  have B20 := (Blk.k B11 o19)
  refine LG Hz rfl rfl gd_t (fun hb => r_ldA Tryd.isAgg54 Tryd.sizeOf54 Hz rfl (Blk.ca B20) rfl) rfl ?_
  clear Hz az; intro az Hz
  have O21 : Only NoF w w18 := (Only.trans' O16 o19)
  have h22 := (SliceOf.kp h2 O21 (fun _ _ h => h) (fun _ _ _ _ h => h))
  refine LGV (v := .bool (right m2)) Hz rfl rfl gd_t rfl (fun hb => (evs_c (evg hb rfl) rfl)) Tryd.call62 (fun hb => Right_v h22) rfl fun w23 o24 => ?_
  clear Hz az; intro az Hz
  refine L (r_and Hz rfl rfl rfl) Hz rfl ?_
  clear Hz az; intro az Hz
  refine L (r_mv Hz rfl) Hz rfl ?_
  clear Hz az; intro az Hz
  refine LG Hz rfl rfl gd_t (fun hb => r_fa (m' := 0) Tryd.underlying54 rfl Tryd.sizeOf3 rfl Hz rfl rfl) rfl ?_
  clear Hz az; intro az Hz
  have B25 := (Blk.k (Blk.k B15 o19) o24)
  refine LG Hz rfl rfl gd_t (fun hb => r_ld Tryd.isAgg3 Hz (evg hb rfl) ((Blk.ca B25) 0 _ rfl)) rfl ?_
  clear Hz az; intro az Hz
  refine LG Hz rfl rfl gd_t (fun hb => r_fa (m' := 0) Tryd.underlying54 rfl Tryd.sizeOf3 rfl Hz rfl rfl) rfl ?_
  clear Hz az; intro az Hz
  have B26 := (Blk.k B20 o24)
  refine LG Hz rfl rfl gd_t (fun hb => r_ld Tryd.isAgg3 Hz (evg hb rfl) ((Blk.ca B26) 0 _ rfl)) rfl ?_
  clear Hz az; intro az Hz
  refine LG Hz rfl rfl gd_t (fun hb => r_eqI Hz (evg hb rfl) (evg hb rfl)) rfl ?_
  clear Hz az; intro az Hz
  refine L (r_and Hz rfl rfl rfl) Hz rfl ?_
  clear Hz az; intro az Hz
  refine L (r_mv Hz rfl) Hz rfl ?_
  clear Hz az; intro az Hz
  refine LG Hz rfl rfl gd_t (fun hb => r_fa (m' := 1) Tryd.underlying54 rfl Tryd.sizeOf3 rfl Hz rfl rfl) rfl ?_
  clear Hz az; intro az Hz
  refine LG Hz rfl rfl gd_t (fun hb => r_ld Tryd.isAgg3 Hz (evg hb rfl) ((Blk.ca B25) 1 _ rfl)) rfl ?_
  clear Hz az; intro az Hz
  refine LG Hz rfl rfl gd_t (fun hb => r_fa (m' := 1) Tryd.underlying54 rfl Tryd.sizeOf3 rfl Hz rfl rfl) rfl ?_
  clear Hz az; intro az Hz
  refine LG Hz rfl rfl gd_t (fun hb => r_ld Tryd.isAgg3 Hz (evg hb rfl) ((Blk.ca B26) 1 _ rfl)) rfl ?_
  clear Hz az; intro az Hz
  refine LG Hz rfl rfl gd_t (fun hb => r_eqI Hz (evg hb rfl) (evg hb rfl)) rfl ?_
  clear Hz az; intro az Hz
  refine L (r_and Hz rfl rfl rfl) Hz rfl ?_
  clear Hz az; intro az Hz
  refine L (r_mv Hz rfl) Hz rfl ?_
  clear Hz az; intro az Hz
  refine LG Hz rfl rfl gd_t (fun hb => r_ldA Tryd.isAgg54 Tryd.sizeOf54 Hz rfl (Blk.ca B25) rfl) rfl ?_
  clear Hz az; intro az Hz
  refine LG Hz rfl rfl gd_t (fun hb => r_ldA Tryd.isAgg54 Tryd.sizeOf54 Hz rfl (Blk.ca B26) rfl) rfl ?_
  clear Hz az; intro az Hz
  have O27 : Only NoF w w23 := (Only.trans' O21 o24)
  have h28 := (SliceOf.kp h1 O27 (fun _ _ h => h) (fun _ _ _ _ h => h))
  have h29 := (SliceOf.kp h2 O27 (fun _ _ h => h) (fun _ _ _ _ h => h))
  refine LGV (v := .bool (same m m2)) Hz rfl rfl gd_t rfl (fun hb => (evs_c (evg hb rfl) (evs_c (evg hb rfl) rfl))) Tryd.call64 (fun hb => Same_v h28 h29) rfl fun w30 o31 => ?_
  clear Hz az; intro az Hz
  refine LG Hz rfl rfl gd_t (fun hb => r_not Hz (evg hb rfl)) rfl ?_
  clear Hz az; intro az Hz
  refine L (r_and Hz rfl rfl rfl) Hz rfl ?_
  clear Hz az; intro az Hz
  refine L (r_as Hz rfl) Hz rfl ?_
  clear Hz az; intro az Hz
  refine hK14 _ _ ?_
  refine wp_ret ?_
  show bodyPost _ _ _ .ret _ _
  refine ret_of (vs := [.bool ((((((right m) && (right m2)) && (decide (m.h = m2.h))) && (decide (m.n = m2.n))) && (!(same m m2))))]) Hz Tryd.results65 ⟨rfl, trivial⟩ ?_
  have O32 : Only NoF w w30 := (Only.trans' O27 o31)
  exact ⟨rfl, O32⟩

set_option maxRecDepth 20000 in
set_option maxHeartbeats 4000000 in
theorem rLess_v (w : World) (a b : RM) : Calls Tryd.prog 67 [.agg #[.int .i64 a.h, .int .i64 a.n], .agg #[.int .i64 b.h, .int .i64 b.n]].toArray w (Fix (.bool (refLt a b)) w) := by
  refine calls_start Tryd.func67 rfl rfl ?_
  intro az Hz
  rw [Tryd.ntmps67] at Hz
  refine wp_seq_k fun K1 hK1 => ?_
  -- ref.go:13
  refine wp_region_lit ?_
  refine LBox Hz rfl rfl rfl ?_
  clear Hz az; intro g2 w3 hg6 hl7 o4 B5 az Hz
  refine LBox Hz rfl rfl rfl ?_
  clear Hz az; intro g8 w9 hg12 hl13 o10 B11 az Hz
  refine L (r_as Hz rfl) Hz rfl ?_
  clear Hz az; intro az Hz
  refine hK1 _ _ ?_
  refine wp_seq_k fun K14 hK14 => ?_
  -- ref.go:14
  refine wp_region_lit ?_
  refine L (r_fa (m' := 0) Tryd.underlying71 rfl Tryd.sizeOf3 rfl Hz rfl rfl) Hz rfl ?_
  clear Hz az; intro az Hz
  have B15 := (Blk.k B5 o10)
  refine L (r_ld Tryd.isAgg3 Hz rfl ((Blk.ca B15) 0 _ rfl)) Hz rfl ?_
  clear Hz az; intro az Hz
  refine L (r_fa (m' := 0) Tryd.underlying71 rfl Tryd.sizeOf3 rfl Hz rfl rfl) Hz rfl ?_
  clear Hz az; intro az Hz
  refine L (r_ld Tryd.isAgg3 Hz rfl ((Blk.ca B11) 0 _ rfl)) Hz rfl ?_
  clear Hz az; intro az Hz
  refine L (r_ltI Hz rfl rfl) Hz rfl ?_
  clear Hz az; intro az Hz
  refine L (r_mv Hz rfl) Hz rfl ?_
  clear Hz az; intro az Hz
  refine LG Hz rfl rfl gd_f (fun hb => r_fa (m' := 0) Tryd.underlying71 rfl Tryd.sizeOf3 rfl Hz rfl rfl) rfl ?_
  clear Hz az; intro az Hz
  refine LG Hz rfl rfl gd_f (fun hb => r_ld Tryd.isAgg3 Hz (evg hb rfl) ((Blk.ca B15) 0 _ rfl)) rfl ?_
  clear Hz az; intro az Hz
  refine LG Hz rfl rfl gd_f (fun hb => r_fa (m' := 0) Tryd.underlying71 rfl Tryd.sizeOf3 rfl Hz rfl rfl) rfl ?_
  clear Hz az; intro az Hz
  refine LG Hz rfl rfl gd_f (fun hb => r_ld Tryd.isAgg3 Hz (evg hb rfl) ((Blk.ca B11) 0 _ rfl)) rfl ?_
  clear Hz az; intro az Hz
  refine LG Hz rfl rfl gd_f (fun hb => r_eqI Hz (evg hb rfl) (evg hb rfl)) rfl ?_
  clear Hz az; intro az Hz
  refine LG Hz rfl rfl gd_f (fun hb => r_mv Hz (evg hb rfl)) rfl ?_
  clear Hz az; intro az Hz
  refine LG Hz rfl rfl gd_gt (fun hb => r_fa (m' := 1) Tryd.underlying71 rfl Tryd.sizeOf3 rfl Hz rfl rfl) rfl ?_
  clear Hz az; intro az Hz
  refine LG Hz rfl rfl gd_gt (fun hb => r_ld Tryd.isAgg3 Hz (evg hb rfl) ((Blk.ca B15) 1 _ rfl)) rfl ?_
  clear Hz az; intro az Hz
  refine LG Hz rfl rfl gd_gt (fun hb => r_fa (m' := 1) Tryd.underlying71 rfl Tryd.sizeOf3 rfl Hz rfl rfl) rfl ?_
  clear Hz az; intro az Hz
  refine LG Hz rfl rfl gd_gt (fun hb => r_ld Tryd.isAgg3 Hz (evg hb rfl) ((Blk.ca B11) 1 _ rfl)) rfl ?_
  clear Hz az; intro az Hz
  refine LG Hz rfl rfl gd_gt (fun hb => r_ltI Hz (evg hb rfl) (evg hb rfl)) rfl ?_
  clear Hz az; intro az Hz
  refine LG Hz rfl rfl gd_f (fun hb => r_and Hz (evg hb rfl) (evgc hb rfl) rfl) rfl ?_
  clear Hz az; intro az Hz
  refine L (r_or Hz rfl rfl rfl) Hz rfl ?_
  clear Hz az; intro az Hz
  refine L (r_as Hz rfl) Hz rfl ?_
  clear Hz az; intro az Hz
  refine hK14 _ _ ?_
  refine wp_ret ?_
  show bodyPost _ _ _ .ret _ _
  refine ret_of (vs := [.bool (((decide (a.h < b.h)) || ((decide (a.h = b.h)) && (decide (a.n < b.n)))))]) Hz Tryd.results67 ⟨rfl, trivial⟩ ?_
  have O16 : Only NoF w w9 := (Only.trans' o4 o10)
  exact ⟨rfl, O16⟩

set_option maxRecDepth 20000 in
set_option maxHeartbeats 4000000 in
theorem rin_v (w : World) (x a b : Int) : Calls Tryd.prog 88 [.int .i64 x, .int .i64 a, .int .i64 b].toArray w (Fix (.bool (decide (a ≤ x) && decide (x ≤ b))) w) := by
  refine calls_start Tryd.func88 rfl rfl ?_
  intro az Hz
  rw [Tryd.ntmps88] at Hz
  refine wp_seq_k fun K1 hK1 => ?_
  -- ref.go:10
  refine wp_region_lit ?_
  refine L (r_as Hz rfl) Hz rfl ?_
  clear Hz az; intro az Hz
  refine hK1 _ _ ?_
  refine wp_seq_k fun K2 hK2 => ?_
  -- ref.go:10
  refine wp_region_lit ?_
  refine L (r_mv Hz rfl) Hz rfl ?_
  clear Hz az; intro az Hz
  refine L (r_mv Hz rfl) Hz rfl ?_
  clear Hz az; intro az Hz
  refine L (r_geI Hz rfl rfl) Hz rfl ?_
  clear Hz az; intro az Hz
  refine L (r_mv Hz rfl) Hz rfl ?_
  clear Hz az; intro az Hz
  refine LG Hz rfl rfl gd_t (fun hb => r_mv Hz rfl) rfl ?_
  clear Hz az; intro az Hz
  refine LG Hz rfl rfl gd_t (fun hb => r_mv Hz rfl) rfl ?_
  clear Hz az; intro az Hz
  refine LG Hz rfl rfl gd_t (fun hb => r_leI Hz (evg hb rfl) (evg hb rfl)) rfl ?_
  clear Hz az; intro az Hz
  refine L (r_and Hz rfl rfl rfl) Hz rfl ?_
  clear Hz az; intro az Hz
  refine L (r_as Hz rfl) Hz rfl ?_
  clear Hz az; intro az Hz
  refine hK2 _ _ ?_
  refine wp_ret ?_
  show bodyPost _ _ _ .ret _ _
  refine ret_of (vs := [.bool (((decide (a ≤ x)) && (decide (x ≤ b))))]) Hz Tryd.results88 ⟨rfl, trivial⟩ ?_
  exact ⟨rfl, (Only.refl NoF w)⟩

set_option maxRecDepth 20000 in
set_option maxHeartbeats 4000000 in
theorem note_v (w : World) (n d : Int) (t : Str) : Calls Tryd.prog 82 [.int .i64 n, .int .i64 d, strV t].toArray w (Fix (.agg #[.int .i64 2, .int .i64 n, .int .i64 d, .slice none 0 0, strV t]) w) := by
  refine calls_start Tryd.func82 rfl rfl ?_
  intro az Hz
  rw [Tryd.ntmps82] at Hz
  refine wp_seq_k fun K1 hK1 => ?_
  -- law.go:11
  refine wp_region_lit ?_
  refine LAl (v := .agg #[.int .i64 (0), .int .i64 (0), .int .i64 (0), .slice none (0) 0, strV ([])]) Tryd.zeroValue54 Hz rfl rfl ?_
  clear Hz az; intro g2 w3 hg6 hl7 o4 B5 az Hz
  refine hK1 _ _ ?_
  refine wp_seq_k fun K8 hK8 => ?_
  -- law.go:12
  refine wp_region_lit ?_
  refine L (r_mv Hz rfl) Hz rfl ?_
  clear Hz az; intro az Hz
  refine L (r_mv Hz rfl) Hz rfl ?_
  clear Hz az; intro az Hz
  refine L (r_mv Hz rfl) Hz rfl ?_
  clear Hz az; intro az Hz
  refine L (r_bd (v := .agg #[.int .i64 (2), .int .i64 (n), .int .i64 (d), .slice none (0) 0, strV (t)]) (build_Note4 _ _ _ _) Hz rfl) Hz rfl ?_
  clear Hz az; intro az Hz
  refine LSt (cs' := [.int .i64 (2), .int .i64 (n), .int .i64 (d), .slice none (0) 0, strV (t)]) Tryd.sizeOf54 Hz rfl rfl rfl rfl rfl ⟨rfl, rfl, rfl, rfl, rfl, trivial⟩ B5 rfl rfl fun w9 s10 B11 => ?_
  refine hK8 _ _ ?_
  refine wp_ret ?_
  show bodyPost _ _ _ .ret _ _
  refine ret_of (vs := [.agg #[.int .i64 (2), .int .i64 (n), .int .i64 (d), .slice none (0) 0, strV (t)]]) Hz Tryd.results82 ⟨⟨_, rfl, l_ca Tryd.isAgg54 Tryd.sizeOf54 (Blk.ca B11) rfl⟩, trivial⟩ ?_
  have O12 : Only NoF w w9 := (o_sg o4 s10 (Nat.le_refl _) (oneF_ge hg6))
  exact ⟨rfl, O12⟩

set_option maxRecDepth 20000 in
set_option maxHeartbeats 4000000 in
theorem Plain_v {w : World} {m : NM} (h1 : RefsV w (.slice m.A m.l.length m.c) m.l) : Calls Tryd.prog 52 [.agg #[.int .i64 m.h, .int .i64 m.n, .int .i64 m.d, .slice m.A m.l.length m.c, strV m.s]].toArray w (Fix (.bool (plain m)) w) := by
  refine calls_start Tryd.func52 rfl rfl ?_
  intro az Hz
  rw [Tryd.ntmps52] at Hz
  refine wp_seq_k fun K1 hK1 => ?_
  -- ref.go:133
  refine wp_region_lit ?_
  refine LBox Hz rfl rfl rfl ?_
  clear Hz az; intro g2 w3 hg6 hl7 o4 B5 az Hz
  refine L (r_as Hz rfl) Hz rfl ?_
  clear Hz az; intro az Hz
  refine hK1 _ _ ?_
  refine wp_seq_k fun K8 hK8 => ?_
  -- ref.go:134
  refine wp_region_lit ?_
  refine L (r_fa (m' := 3) Tryd.underlying54 rfl Tryd.sizeOf52 rfl Hz rfl rfl) Hz rfl ?_
  clear Hz az; intro az Hz
  refine L (r_ld Tryd.isAgg52 Hz rfl ((Blk.ca B5) 3 _ rfl)) Hz rfl ?_
  clear Hz az; intro az Hz
  refine L (r_lenL Tryd.underlying52 Hz rfl) Hz rfl ?_
  clear Hz az; intro az Hz
  refine L (r_leI Hz rfl rfl) Hz rfl ?_
  clear Hz az; intro az Hz
  refine L (r_mv Hz rfl) Hz rfl ?_
  clear Hz az; intro az Hz
  refine LG Hz rfl rfl gd_t (fun hb => r_fa (m' := 4) Tryd.underlying54 rfl Tryd.sizeOf9 rfl Hz rfl rfl) rfl ?_
  clear Hz az; intro az Hz
  refine LG Hz rfl rfl gd_t (fun hb => r_ld Tryd.isAgg9 Hz (evg hb rfl) ((Blk.ca B5) 4 _ rfl)) rfl ?_
  clear Hz az; intro az Hz
  refine LG Hz rfl rfl gd_t (fun hb => r_lenS Tryd.underlying9 Hz (evg hb rfl)) rfl ?_
  clear Hz az; intro az Hz
  refine LG Hz rfl rfl gd_t (fun hb => r_leI Hz (evg hb rfl) rfl) rfl ?_
  clear Hz az; intro az Hz
  refine LG Hz rfl rfl gd_t (fun hb => r_mv Hz (evg hb rfl)) rfl ?_
  clear Hz az; intro az Hz
  refine LG Hz rfl rfl gd_gf (fun hb => r_fa (m' := 4) Tryd.underlying54 rfl Tryd.sizeOf9 rfl Hz rfl rfl) rfl ?_
  clear Hz az; intro az Hz
  refine LG Hz rfl rfl gd_gf (fun hb => r_ld Tryd.isAgg9 Hz (evg hb rfl) ((Blk.ca B5) 4 _ rfl)) rfl ?_
  clear Hz az; intro az Hz
  refine LG Hz rfl rfl gd_gf (fun hb => r_lenS Tryd.underlying9 Hz (evg hb rfl)) rfl ?_
  clear Hz az; intro az Hz
  refine LG Hz rfl rfl gd_gf (fun hb => r_gtI Hz (evg hb rfl) rfl) rfl ?_
  clear Hz az; intro az Hz
  refine LG Hz rfl rfl gd_gf (fun hb => r_mv Hz (evg hb rfl)) rfl ?_
  clear Hz az; intro az Hz
  refine LG Hz rfl rfl gd_gt (fun hb => r_fa (m' := 4) Tryd.underlying54 rfl Tryd.sizeOf9 rfl Hz rfl rfl) rfl ?_
  clear Hz az; intro az Hz
  refine LG Hz rfl rfl gd_gt (fun hb => r_ld Tryd.isAgg9 Hz (evg hb rfl) ((Blk.ca B5) 4 _ rfl)) rfl ?_
  clear Hz az; intro az Hz
  refine LG Hz rfl rfl gd_gt (fun hb => r_lenS Tryd.underlying9 Hz (evg hb rfl)) rfl ?_
  clear Hz az; intro az Hz
  refine LG Hz rfl rfl gd_gt (fun hb => r_leI Hz (evg hb rfl) rfl) rfl ?_
  clear Hz az; intro az Hz
  refine LG Hz rfl rfl gd_gf (fun hb => r_and Hz (evg hb rfl) (evgc hb rfl) rfl) rfl ?_
  clear Hz az; intro az Hz
  refine LG Hz rfl rfl gd_t (fun hb => r_or Hz (evg hb rfl) rfl (evgc hb rfl)) rfl ?_
  clear Hz az; intro az Hz
  refine L (r_and Hz rfl rfl rfl) Hz rfl ?_
  clear Hz az; intro az Hz
  refine L (r_as Hz rfl) Hz rfl ?_
  clear Hz az; intro az Hz
  refine hK8 _ _ ?_
  refine wp_ret ?_
  show bodyPost _ _ _ .ret _ _
  refine ret_of (vs := [.bool (((decide (((m.l.length : Nat) : Int) ≤ 50)) && ((decide (((List.length (m.s) : Nat) : Int) ≤ 200)) || ((decide (7990 < ((List.length (m.s) : Nat) : Int))) && (decide (((List.length (m.s) : Nat) : Int) ≤ 8010))))))]) Hz Tryd.results52 ⟨rfl, trivial⟩ ?_
  exact ⟨rfl, o4⟩

set_option maxRecDepth 20000 in
set_option maxHeartbeats 4000000 in
theorem rFew_v_ {w : World} {l : List NM} {A1 : Option Addr} {c1 : Nat} (f1 : NotesV w w (.slice A1 l.length c1) l) {most : Int} (hmost : most ≤ 400) : Calls Tryd.prog 51 [.slice A1 l.length c1, .int .i64 most].toArray w (Tells (FewN l most) w) := by
  refine calls_start Tryd.func51 rfl rfl ?_
  intro az Hz
  rw [Tryd.ntmps51] at Hz
  refine wp_seq_k fun K1 hK1 => ?_
  -- ref.go:138
  refine wp_region_lit ?_
  refine L (r_as Hz rfl) Hz rfl ?_
  clear Hz az; intro az Hz
  refine hK1 _ _ ?_
  refine wp_seq_k fun K2 hK2 => ?_
  refine wp_seq_k fun K3 hK3 => ?_
  -- ref.go:139
  refine wp_region_lit ?_
  refine L (r_as Hz rfl) Hz rfl ?_
  clear Hz az; intro az Hz
  refine hK3 _ _ ?_
  refine wp_block ?_
  refine wp_loop_m (fun mz az W => ∃ k : Nat, mz = l.length - k ∧ Fr 36 [(0, .slice A1 (l.length) c1), (1, .int .i64 (most)), (5, .int .i64 ((k : Int)))] az ∧ (k ≤ l.length) ∧ (∀ x ∈ l.take k, plain x = true) ∧ Only NoF w W) ?_ ?_
  · -- start
    exact ⟨_, 0, rfl, Hz.cut ⟨rfl, rfl, rfl, trivial⟩, Nat.zero_le _, (fun x h => by cases h), (Only.refl NoF w)⟩
  clear Hz az
  rintro mz az w4 ⟨k, hm6, Hz, hk, hpl, o5⟩
  refine wp_seq_k fun K7 hK7 => ?_
  refine wp_seq_k fun K8 hK8 => ?_
  -- ref.go:139
  refine wp_region_lit ?_
  refine L (r_mv Hz rfl) Hz rfl ?_
  clear Hz az; intro az Hz
  refine L (r_mv Hz rfl) Hz rfl ?_
  clear Hz az; intro az Hz
  refine L (r_lenL Tryd.underlying51 Hz rfl) Hz rfl ?_
  clear Hz az; intro az Hz
  refine L (r_ltI Hz rfl rfl) Hz rfl ?_
  clear Hz az; intro az Hz
  refine L (r_mv Hz rfl) Hz rfl ?_
  clear Hz az; intro az Hz
  refine LG Hz rfl rfl gd_t (fun hb => r_mv Hz rfl) rfl ?_
  clear Hz az; intro az Hz
  refine LG Hz rfl rfl gd_t (fun hb => r_leI Hz (evg hb rfl) rfl) rfl ?_
  clear Hz az; intro az Hz
  refine L (r_and Hz rfl rfl rfl) Hz rfl ?_
  clear Hz az; intro az Hz
  refine hK8 _ _ ?_
  refine br Hz rfl (fun hc9 => ?_) (fun hc9 => ?_)
  · -- if0
    have p10 := of_decide_eq_true (and_t hc9).1
    have p11 := of_decide_eq_true (and_t hc9).2
    refine wp_skip ?_
    refine hK7 _ _ ?_
    refine wp_seq_k fun K12 hK12 => ?_
    refine wp_block ?_
    refine wp_seq_k fun K13 hK13 => ?_
    -- ref.go:140
    refine wp_region_lit ?_
    refine L (r_mv Hz rfl) Hz rfl ?_
    clear Hz az; intro az Hz
    refine L (r_mv Hz rfl) Hz rfl ?_
    clear Hz az; intro az Hz
    have hk14 : k < (l).length := by omega
    have h20 := (SliceOf.kp f1 o5 (fun _ _ h => h) (fun _ _ _ _ h => h))
    obtain ⟨m15, hm16, ok17, hA18⟩ := Row.el (KNote w) h20 hk14
    have E19 : ∀ W, Only NoF w4 W → CA W (eA A1 5 (k)) [.int .i64 (m15.h), .int .i64 (m15.n), .int .i64 (m15.d), .slice m15.A (m15.l.length) m15.c, strV (m15.s)] := Row.ce (KNote w) h20 hm16 rfl
    refine L (r_ia (k := k) (size := 5) Tryd.underlying51 Tryd.sizeOf54 Hz rfl rfl rfl hk14 hA18) Hz rfl ?_
    clear Hz az; intro az Hz
    refine L (r_ldA Tryd.isAgg54 Tryd.sizeOf54 Hz rfl (E19 _ (Only.refl NoF w4)) rfl) Hz rfl ?_
    clear Hz az; intro az Hz
    have h21 := (SliceOf.kp ok17.2.2.2.1 o5 (fun _ _ h => h) (fun _ _ _ _ h => h))
    refine LCV (v := .bool (plain m15)) Hz rfl rfl Tryd.call52 (Plain_v h21) rfl fun w22 o23 => ?_
    clear Hz az; intro az Hz
    refine L (r_not Hz rfl) Hz rfl ?_
    clear Hz az; intro az Hz
    refine hK13 _ _ ?_
    refine br Hz rfl (fun hc24 => ?_) (fun hc24 => ?_)
    · -- if1
      have q25 : plain m15 = false := (nt_t hc24)
      refine wp_seq_k fun K26 hK26 => ?_
      -- ref.go:141
      refine wp_region_lit ?_
      refine L (r_as Hz rfl) Hz rfl ?_
      clear Hz az; intro az Hz
      refine hK26 _ _ ?_
      refine wp_ret ?_
      show bodyPost _ _ _ .ret _ _
      refine ret_of (vs := [.bool (false)]) Hz Tryd.results51 ⟨rfl, trivial⟩ ?_
      have O27 : Only NoF w w22 := (Only.trans' o5 o23)
      exact ⟨false, rfl, (fun h => by cases h), O27⟩
    · -- else1
      have q28 : plain m15 = true := (nt_f hc24)
      refine wp_skip ?_
      refine hK12 _ _ ?_
      -- ref.go:139
      refine wp_region_lit ?_
      refine L (r_mv Hz rfl) Hz rfl ?_
      clear Hz az; intro az Hz
      have i29 : I64 (((k : Int) + 1)) := by unfold I64; omega
      refine L (r_addI (r := ((k : Int) + 1)) Hz rfl rfl rfl i29) Hz rfl ?_
      clear Hz az; intro az Hz
      refine L (r_as Hz rfl) Hz rfl ?_
      clear Hz az; intro az Hz
      have O30 : Only NoF w w22 := (Only.trans' o5 o23)
      exact ⟨_, (by omega), k + 1, rfl, Hz.cut ⟨rfl, rfl, rfl, trivial⟩, (by omega), (plain_step hm16 hpl (nt_f hc24)), O30⟩
  · -- else0
    have d31 := hc9
    refine wp_exit ?_
    refine th_exit ?_
    refine th_exit ?_
    refine ib_hit ?_
    refine hK2 _ _ ?_
    refine wp_seq_k fun K32 hK32 => ?_
    -- ref.go:144
    refine wp_region_lit ?_
    refine L (r_mv Hz rfl) Hz rfl ?_
    clear Hz az; intro az Hz
    refine L (r_lenL Tryd.underlying51 Hz rfl) Hz rfl ?_
    clear Hz az; intro az Hz
    refine L (r_mv Hz rfl) Hz rfl ?_
    clear Hz az; intro az Hz
    refine L (r_leI Hz rfl rfl) Hz rfl ?_
    clear Hz az; intro az Hz
    refine L (r_mv Hz rfl) Hz rfl ?_
    clear Hz az; intro az Hz
    refine LG Hz rfl rfl gd_f (fun hb => r_mv Hz rfl) rfl ?_
    clear Hz az; intro az Hz
    refine LG Hz rfl rfl gd_f (fun hb => r_lenL Tryd.underlying51 Hz (evg hb rfl)) rfl ?_
    clear Hz az; intro az Hz
    refine LG Hz rfl rfl gd_f (fun hb => r_gtI Hz (evg hb rfl) rfl) rfl ?_
    clear Hz az; intro az Hz
    refine LG Hz rfl rfl gd_f (fun hb => r_mv Hz (evg hb rfl)) rfl ?_
    clear Hz az; intro az Hz
    refine LG Hz rfl rfl gd_gt (fun hb => r_mv Hz rfl) rfl ?_
    clear Hz az; intro az Hz
    refine LG Hz rfl rfl gd_gt (fun hb => r_lenL Tryd.underlying51 Hz (evg hb rfl)) rfl ?_
    clear Hz az; intro az Hz
    refine LG Hz rfl rfl gd_gt (fun hb => r_leI Hz (evg hb rfl) rfl) rfl ?_
    clear Hz az; intro az Hz
    refine LG Hz rfl rfl gd_f (fun hb => r_and Hz (evg hb rfl) (evgc hb rfl) rfl) rfl ?_
    clear Hz az; intro az Hz
    refine L (r_or Hz rfl rfl rfl) Hz rfl ?_
    clear Hz az; intro az Hz
    refine L (r_as Hz rfl) Hz rfl ?_
    clear Hz az; intro az Hz
    refine hK32 _ _ ?_
    refine wp_ret ?_
    show bodyPost _ _ _ .ret _ _
    refine ret_of (vs := [.bool (((decide (((l.length : Nat) : Int) ≤ most)) || ((decide (400 < ((l.length : Nat) : Int))) && (decide (((l.length : Nat) : Int) ≤ 420)))))]) Hz Tryd.results51 ⟨rfl, trivial⟩ ?_
    exact ⟨_, rfl, fun hf => few_n hmost hk hpl hc9 hf, o5⟩

set_option maxRecDepth 20000 in
set_option maxHeartbeats 4000000 in
theorem Check_v_ {w : World} {l : List NM} {A1 : Option Addr} {c1 : Nat} (f1 : NotesV w w (.slice A1 l.length c1) l) : Calls Tryd.prog 60 [.slice A1 l.length c1].toArray w (Fix (.int .i64 (check l)) w) := by
  refine calls_start Tryd.func60 rfl rfl ?_
  intro az Hz
  rw [Tryd.ntmps60] at Hz
  refine wp_seq_k fun K1 hK1 => ?_
  -- seal.go:39
  refine wp_region_lit ?_
  refine L (r_as Hz rfl) Hz rfl ?_
  clear Hz az; intro az Hz
  refine hK1 _ _ ?_
  refine wp_seq_k fun K2 hK2 => ?_
  refine wp_seq_k fun K3 hK3 => ?_
  -- seal.go:40
  refine wp_region_lit ?_
  refine L (r_mv Hz rfl) Hz rfl ?_
  clear Hz az; intro az Hz
  refine L (r_lenL Tryd.underlying51 Hz rfl) Hz rfl ?_
  clear Hz az; intro az Hz
  refine L (r_gtI Hz rfl rfl) Hz rfl ?_
  clear Hz az; intro az Hz
  refine hK3 _ _ ?_
  refine br Hz rfl (fun hc4 => ?_) (fun hc4 => ?_)
  · -- if0
    have p5 := of_decide_eq_true hc4
    refine wp_seq_k fun K6 hK6 => ?_
    -- seal.go:41
    refine wp_region_lit ?_
    refine L (r_as Hz rfl) Hz rfl ?_
    clear Hz az; intro az Hz
    refine hK6 _ _ ?_
    refine wp_ret ?_
    show bodyPost _ _ _ .ret _ _
    refine ret_of (vs := [.int .i64 (6)]) Hz Tryd.results60 ⟨rfl, trivial⟩ ?_
    rw [check_many hc4]; exact ⟨rfl, (Only.refl NoF w)⟩
  · -- else0
    have p7 := of_decide_eq_false hc4
    refine wp_skip ?_
    refine hK2 _ _ ?_
    refine wp_seq_k fun K8 hK8 => ?_
    -- seal.go:43
    refine wp_region_lit ?_
    refine L (r_as Hz rfl) Hz rfl ?_
    clear Hz az; intro az Hz
    refine hK8 _ _ ?_
    refine wp_seq_k fun K9 hK9 => ?_
    refine wp_seq_k fun K10 hK10 => ?_
    -- seal.go:44
    refine wp_region_lit ?_
    refine L (r_mv Hz rfl) Hz rfl ?_
    clear Hz az; intro az Hz
    refine L (r_lenL Tryd.underlying51 Hz rfl) Hz rfl ?_
    clear Hz az; intro az Hz
    refine L (r_mv Hz rfl) Hz rfl ?_
    clear Hz az; intro az Hz
    refine hK10 _ _ ?_
    refine wp_block ?_
    refine wp_loop_m (fun mz az W => ∃ k : Nat, ∃ D : Int, mz = l.length - k ∧ Fr 46 [(0, .slice A1 (l.length) c1), (9, .slice A1 (l.length) c1), (10, .int .i64 (((l.length : Nat) : Int))), (11, .int .i64 ((k : Int))), (3, .int .i64 (D))] az ∧ (k ≤ l.length) ∧ (chk (hdH l) 0 0 l = chk (hdH l) k D (l.drop k)) ∧ Only NoF w W) ?_ ?_
    · -- start
      exact ⟨_, 0, 0, rfl, Hz.cut ⟨rfl, rfl, rfl, rfl, rfl, trivial⟩, Nat.zero_le _, rfl, (Only.refl NoF w)⟩
    clear Hz az
    rintro mz az w11 ⟨k, D, hm13, Hz, hk, hck, o12⟩
    refine wp_seq_k fun K14 hK14 => ?_
    -- seal.go:44
    refine wp_region_lit ?_
    refine L (r_ltI Hz rfl rfl) Hz rfl ?_
    clear Hz az; intro az Hz
    refine hK14 _ _ ?_
    refine wp_seq_k fun K15 hK15 => ?_
    refine br Hz rfl (fun hc16 => ?_) (fun hc16 => ?_)
    · -- if1
      have p17 := of_decide_eq_true hc16
      refine wp_skip ?_
      refine hK15 _ _ ?_
      refine wp_seq_k fun K18 hK18 => ?_
      refine wp_block ?_
      refine wp_seq_k fun K19 hK19 => ?_
      -- seal.go:44
      refine wp_region_lit ?_
      refine L (r_mv Hz rfl) Hz rfl ?_
      clear Hz az; intro az Hz
      have hk20 : k < (l).length := by omega
      have h26 := (SliceOf.kp f1 o12 (fun _ _ h => h) (fun _ _ _ _ h => h))
      obtain ⟨m21, hm22, ok23, hA24⟩ := Row.el (KNote w) h26 hk20
      have E25 : ∀ W, Only NoF w11 W → CA W (eA A1 5 (k)) [.int .i64 (m21.h), .int .i64 (m21.n), .int .i64 (m21.d), .slice m21.A (m21.l.length) m21.c, strV (m21.s)] := Row.ce (KNote w) h26 hm22 rfl
      refine L (r_ia (k := k) (size := 5) Tryd.underlying51 Tryd.sizeOf54 Hz rfl rfl rfl hk20 hA24) Hz rfl ?_
      clear Hz az; intro az Hz
      refine L (r_ldA Tryd.isAgg54 Tryd.sizeOf54 Hz rfl (E25 _ (Only.refl NoF w11)) rfl) Hz rfl ?_
      clear Hz az; intro az Hz
      refine LAl (v := .agg #[.int .i64 (0), .int .i64 (0), .int .i64 (0), .slice none (0) 0, strV ([])]) Tryd.zeroValue54 Hz rfl rfl ?_
      clear Hz az; intro g27 w28 hg31 hl32 o29 B30 az Hz
      refine L (r_as Hz rfl) Hz rfl ?_
      clear Hz az; intro az Hz
      refine LSt (cs' := [.int .i64 (m21.h), .int .i64 (m21.n), .int .i64 (m21.d), .slice m21.A (m21.l.length) m21.c, strV (m21.s)]) Tryd.sizeOf54 Hz rfl rfl rfl rfl rfl ⟨rfl, rfl, rfl, rfl, rfl, trivial⟩ B30 rfl rfl fun w33 s34 B35 => ?_
      refine hK19 _ _ ?_
      refine wp_seq_k fun K36 hK36 => ?_
      refine wp_block ?_
      refine wp_seq_k fun K37 hK37 => ?_
      -- seal.go:46
      refine wp_region_lit ?_
      refine L (r_ldA Tryd.isAgg54 Tryd.sizeOf54 Hz rfl (Blk.ca B35) rfl) Hz rfl ?_
      clear Hz az; intro az Hz
      have O38 : Only NoF w w33 := (o_sg (Only.trans' o12 o29) s34 (size_only o12) (oneF_ge hg31))
      have h39 := (SliceOf.kp ok23.2.2.2.1 O38 (fun _ _ h => h) (fun _ _ _ _ h => h))
      refine LCV (v := .bool (right m21)) Hz rfl rfl Tryd.call62 (Right_v h39) rfl fun w40 o41 => ?_
      clear Hz az; intro az Hz
      refine L (r_not Hz rfl) Hz rfl ?_
      clear Hz az; intro az Hz
      refine L (r_as Hz rfl) Hz rfl ?_
      clear Hz az; intro az Hz
      refine hK37 _ _ ?_
      refine br Hz rfl (fun hc42 => ?_) (fun hc42 => ?_)
      · -- if2
        have q43 : right m21 = false := (nt_t hc42)
        refine wp_seq_k fun K44 hK44 => ?_
        -- seal.go:47
        refine wp_region_lit ?_
        refine L (r_as Hz rfl) Hz rfl ?_
        clear Hz az; intro az Hz
        refine hK44 _ _ ?_
        refine wp_ret ?_
        show bodyPost _ _ _ .ret _ _
        refine ret_of (vs := [.int .i64 (1)]) Hz Tryd.results60 ⟨rfl, trivial⟩ ?_
        have O45 : Only NoF w w40 := (Only.trans' O38 o41)
        rw [check_of hc4 hck]
        rw [chk_2 hm22 hc42]; exact ⟨rfl, O45⟩
      · -- else2
        have q46 : right m21 = true := (nt_f hc42)
        refine wp_seq_k fun K47 hK47 => ?_
        -- seal.go:48
        refine reg_q [(true, 0), (true, 1), (true, 2), (true, 3), (true, 4), (true, 5), (true, 6), (true, 7)] (by kernel_rfl) (by kernel_rfl) (fun _ _ _ _ _ h => h) fun w48 o49 => ?_
        refine M (r_fa (m' := 0) Tryd.underlying54 rfl Tryd.sizeOf3 rfl Hz rfl rfl) Hz rfl rfl ?_
        clear Hz az; intro az Hz
        have B50 := (Blk.k (Blk.k B35 o41) o49)
        refine M (r_ld Tryd.isAgg3 Hz rfl ((Blk.ca B50) 0 _ rfl)) Hz rfl rfl ?_
        clear Hz az; intro az Hz
        refine M (r_mv Hz rfl) Hz rfl rfl ?_
        clear Hz az; intro az Hz
        have hk51 : 0 < (l).length := by omega
        have O57 : Only NoF w w48 := (Only.trans' (Only.trans' O38 o41) o49)
        have h58 := (SliceOf.kp f1 O57 (fun _ _ h => h) (fun _ _ _ _ h => h))
        obtain ⟨m52, hm53, ok54, hA55⟩ := Row.el (KNote w) h58 hk51
        have E56 : ∀ W, Only NoF w48 W → CA W (eA A1 5 (0)) [.int .i64 (m52.h), .int .i64 (m52.n), .int .i64 (m52.d), .slice m52.A (m52.l.length) m52.c, strV (m52.s)] := Row.ce (KNote w) h58 hm53 rfl
        refine M (r_ia (k := 0) (size := 5) Tryd.underlying51 Tryd.sizeOf54 Hz rfl rfl rfl hk51 hA55) Hz rfl rfl ?_
        clear Hz az; intro az Hz
        refine M (r_fa (m' := 0) Tryd.underlying54 rfl Tryd.sizeOf3 rfl Hz rfl rfl) Hz rfl rfl ?_
        clear Hz az; intro az Hz
        refine M (r_ld Tryd.isAgg3 Hz rfl ((E56 _ (Only.refl NoF w48)) 0 _ rfl)) Hz rfl rfl ?_
        clear Hz az; intro az Hz
        refine M (r_neI Hz rfl rfl) Hz rfl rfl ?_
        clear Hz az; intro az Hz
        refine M (r_as Hz rfl) Hz rfl rfl ?_
        clear Hz az; intro az Hz
        refine wpMix_nil ?_
        refine hK47 _ _ ?_
        refine br Hz rfl (fun hc59 => ?_) (fun hc59 => ?_)
        · -- if3
          have p60 := of_decide_eq_false (nt_t hc59)
          refine wp_seq_k fun K61 hK61 => ?_
          -- seal.go:49
          refine wp_region_lit ?_
          refine L (r_as Hz rfl) Hz rfl ?_
          clear Hz az; intro az Hz
          refine hK61 _ _ ?_
          refine wp_ret ?_
          show bodyPost _ _ _ .ret _ _
          refine ret_of (vs := [.int .i64 (19)]) Hz Tryd.results60 ⟨rfl, trivial⟩ ?_
          rw [check_of hc4 hck]
          rw [chk_3 hm22 hc42 (by rw [← hdH_of hm53]; exact hc59)]; exact ⟨rfl, O57⟩
        · -- else3
          have p62 := of_decide_eq_true (nt_f hc59)
          refine wp_seq_k fun K63 hK63 => ?_
          -- seal.go:50
          refine wp_region_lit ?_
          refine L (r_fa (m' := 1) Tryd.underlying54 rfl Tryd.sizeOf3 rfl Hz rfl rfl) Hz rfl ?_
          clear Hz az; intro az Hz
          refine L (r_ld Tryd.isAgg3 Hz rfl ((Blk.ca B50) 1 _ rfl)) Hz rfl ?_
          clear Hz az; intro az Hz
          refine L (r_mv Hz rfl) Hz rfl ?_
          clear Hz az; intro az Hz
          refine L (r_gtI Hz rfl rfl) Hz rfl ?_
          clear Hz az; intro az Hz
          refine L (r_as Hz rfl) Hz rfl ?_
          clear Hz az; intro az Hz
          refine hK63 _ _ ?_
          refine br Hz rfl (fun hc64 => ?_) (fun hc64 => ?_)
          · -- if4
            have p65 := of_decide_eq_true hc64
            refine wp_seq_k fun K66 hK66 => ?_
            -- seal.go:51
            refine wp_region_lit ?_
            refine L (r_as Hz rfl) Hz rfl ?_
            clear Hz az; intro az Hz
            refine hK66 _ _ ?_
            refine wp_ret ?_
            show bodyPost _ _ _ .ret _ _
            refine ret_of (vs := [.int .i64 (21)]) Hz Tryd.results60 ⟨rfl, trivial⟩ ?_
            rw [check_of hc4 hck]
            rw [chk_4 hm22 hc42 (by rw [← hdH_of hm53]; exact hc59) hc64]; exact ⟨rfl, O57⟩
          · -- else4
            have p67 := of_decide_eq_false hc64
            refine wp_seq_k fun K68 hK68 => ?_
            -- seal.go:52
            refine wp_region_lit ?_
            refine L (r_fa (m' := 1) Tryd.underlying54 rfl Tryd.sizeOf3 rfl Hz rfl rfl) Hz rfl ?_
            clear Hz az; intro az Hz
            refine L (r_ld Tryd.isAgg3 Hz rfl ((Blk.ca B50) 1 _ rfl)) Hz rfl ?_
            clear Hz az; intro az Hz
            refine L (r_mv Hz rfl) Hz rfl ?_
            clear Hz az; intro az Hz
            refine L (r_ltI Hz rfl rfl) Hz rfl ?_
            clear Hz az; intro az Hz
            refine L (r_as Hz rfl) Hz rfl ?_
            clear Hz az; intro az Hz
            refine hK68 _ _ ?_
            refine br Hz rfl (fun hc69 => ?_) (fun hc69 => ?_)
            · -- if5
              have p70 := of_decide_eq_true hc69
              refine wp_seq_k fun K71 hK71 => ?_
              -- seal.go:53
              refine wp_region_lit ?_
              refine L (r_as Hz rfl) Hz rfl ?_
              clear Hz az; intro az Hz
              refine hK71 _ _ ?_
              refine wp_ret ?_
              show bodyPost _ _ _ .ret _ _
              refine ret_of (vs := [.int .i64 (5)]) Hz Tryd.results60 ⟨rfl, trivial⟩ ?_
              rw [check_of hc4 hck]
              rw [chk_5 hm22 hc42 (by rw [← hdH_of hm53]; exact hc59) hc64 hc69]; exact ⟨rfl, O57⟩
            · -- else5
              have p72 := of_decide_eq_false hc69
              refine wp_seq_k fun K73 hK73 => ?_
              -- seal.go:54
              refine wp_region_lit ?_
              refine L (r_fa (m' := 2) Tryd.underlying54 rfl Tryd.sizeOf3 rfl Hz rfl rfl) Hz rfl ?_
              clear Hz az; intro az Hz
              refine L (r_ld Tryd.isAgg3 Hz rfl ((Blk.ca B50) 2 _ rfl)) Hz rfl ?_
              clear Hz az; intro az Hz
              refine L (r_mv Hz rfl) Hz rfl ?_
              clear Hz az; intro az Hz
              refine L (r_ltI Hz rfl rfl) Hz rfl ?_
              clear Hz az; intro az Hz
              refine L (r_as Hz rfl) Hz rfl ?_
              clear Hz az; intro az Hz
              refine hK73 _ _ ?_
              refine br Hz rfl (fun hc74 => ?_) (fun hc74 => ?_)
              · -- if6
                have p75 := of_decide_eq_true hc74
                refine wp_seq_k fun K76 hK76 => ?_
                -- seal.go:55
                refine wp_region_lit ?_
                refine L (r_as Hz rfl) Hz rfl ?_
                clear Hz az; intro az Hz
                refine hK76 _ _ ?_
                refine wp_ret ?_
                show bodyPost _ _ _ .ret _ _
                refine ret_of (vs := [.int .i64 (18)]) Hz Tryd.results60 ⟨rfl, trivial⟩ ?_
                rw [check_of hc4 hck]
                rw [chk_6 hm22 hc42 (by rw [← hdH_of hm53]; exact hc59) hc64 hc69 hc74]; exact ⟨rfl, O57⟩
              · -- else6
                have p77 := of_decide_eq_false hc74
                refine wp_skip ?_
                refine hK36 _ _ ?_
                -- seal.go:57
                refine wp_region_lit ?_
                refine L (r_fa (m' := 2) Tryd.underlying54 rfl Tryd.sizeOf3 rfl Hz rfl rfl) Hz rfl ?_
                clear Hz az; intro az Hz
                refine L (r_ld Tryd.isAgg3 Hz rfl ((Blk.ca B50) 2 _ rfl)) Hz rfl ?_
                clear Hz az; intro az Hz
                refine L (r_as Hz rfl) Hz rfl ?_
                clear Hz az; intro az Hz
                refine hK18 _ _ ?_
                -- seal.go:44
                refine wp_region_lit ?_
                have i78 : I64 (((k : Int) + 1)) := by unfold I64; omega
                refine L (r_addI (r := ((k : Int) + 1)) Hz rfl rfl rfl i78) Hz rfl ?_
                clear Hz az; intro az Hz
                refine L (r_mv Hz rfl) Hz rfl ?_
                clear Hz az; intro az Hz
                exact ⟨_, (by omega), k + 1, m21.d, rfl, Hz.cut ⟨rfl, rfl, rfl, rfl, rfl, trivial⟩, (by omega), (by rw [hck, chk_next hm22 hc42 (by rw [← hdH_of hm53]; exact hc59) hc64 hc69 hc74]), O57⟩
    · -- else1
      have p79 := of_decide_eq_false hc16
      refine wp_exit ?_
      refine th_exit ?_
      refine th_exit ?_
      refine ib_hit ?_
      refine hK9 _ _ ?_
      refine wp_seq_k fun K80 hK80 => ?_
      -- seal.go:59
      refine wp_region_lit ?_
      refine L (r_as Hz rfl) Hz rfl ?_
      clear Hz az; intro az Hz
      refine hK80 _ _ ?_
      refine wp_ret ?_
      show bodyPost _ _ _ .ret _ _
      refine ret_of (vs := [.int .i64 (0)]) Hz Tryd.results60 ⟨rfl, trivial⟩ ?_
      rw [check_of hc4 hck]
      rw [List.drop_of_length_le (by omega)]; exact ⟨rfl, o12⟩
end Go.Proofs.YtgmnoianhonihaaDoor
