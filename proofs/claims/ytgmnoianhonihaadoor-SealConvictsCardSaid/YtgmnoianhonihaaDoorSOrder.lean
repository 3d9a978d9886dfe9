/-
  SealOrder, walked, from 'small': it returns true. No condition but the listed variables.
-/
import Derived.Test.YtgmnoianhonihaaDoorSW4
import Derived.Test.YtgmnoianhonihaaDoorSW3
namespace Go.Proofs.YtgmnoianhonihaaDoor
set_option linter.unusedVariables false
set_option linter.unusedSimpArgs false
set_option linter.unusedSectionVars false
open Go.RowKit

/-- what a chain that is valid tells of each note -/
def Chain (l : List NM) : Prop := ∀ (k : Nat) (m : NM), l[k]? = some m → right m = true ∧ m.h = hdH l ∧ m.n = (k : Int) ∧ ∀ p : NM, 0 < k → l[k - 1]? = some p → p.d ≤ m.d
theorem chk_zero {h0 : Int} : ∀ (l : List NM) (i : Nat) (d : Int), chk h0 i d l = 0 → ∀ (k : Nat) (m : NM), l[k]? = some m → right m = true ∧ m.h = h0 ∧ m.n = ((i + k : Nat) : Int) ∧ (k = 0 → d ≤ m.d) ∧ ∀ p : NM, 0 < k → l[k - 1]? = some p → p.d ≤ m.d
  | [], _, _, _, k, m, hm => by simp at hm
  | x :: l, i, d, h, k, m, hm => by
    unfold chk at h
    by_cases h1 : right x = false
    · rw [if_pos h1] at h; cases h
    rw [if_neg h1] at h
    by_cases h2 : x.h ≠ h0
    · rw [if_pos h2] at h; cases h
    rw [if_neg h2] at h
    by_cases h3 : (i : Int) < x.n
    · rw [if_pos h3] at h; cases h
    rw [if_neg h3] at h
    by_cases h4 : x.n < (i : Int)
    · rw [if_pos h4] at h; cases h
    rw [if_neg h4] at h
    by_cases h5 : x.d < d
    · rw [if_pos h5] at h; cases h
    rw [if_neg h5] at h
    cases k with
    | zero =>
      simp at hm
      subst hm
      refine ⟨by simpa using h1, by simpa using h2, by omega, fun _ => by omega, fun p hp => absurd hp (by omega)⟩
    | succ k =>
      rw [List.getElem?_cons_succ] at hm
      obtain ⟨g1, g2, g3, g4, g5⟩ := chk_zero l (i + 1) x.d h k m hm
      refine ⟨g1, g2, by rw [g3]; omega, fun h0 => by omega, fun p _ hp => ?_⟩
      rw [Nat.add_sub_cancel] at hp
      cases k with
      | zero =>
        simp at hp
        subst hp
        exact g4 rfl
      | succ k =>
        rw [List.getElem?_cons_succ] at hp
        exact g5 p (by omega) (by simpa using hp)
theorem check_zero {l : List NM} (h : check l = 0) : Chain l := by
  unfold check at h
  split at h
  · cases h
  · intro k m hm
    obtain ⟨g1, g2, g3, _, g5⟩ := chk_zero l 0 0 h k m hm
    exact ⟨g1, g2, by rw [g3]; omega, g5⟩
theorem refs_get {h n : Int} : ∀ (p : RM) (l : List RM), refsOk h n p l = true → ∀ (j : Nat) (r : RM), l[j]? = some r → kn r.h r.n = true ∧ (decide (r.h = h) && decide (n ≤ r.n)) = false ∧ ∀ r', 0 < j → l[j - 1]? = some r' → refGt r.h r.n r'.h r'.n = true
  | p, [], _, j, r, hr => by simp at hr
  | p, x :: l, hx, j, r, hr => by
    simp only [refsOk, Bool.and_eq_true] at hx
    obtain ⟨h1, h2⟩ := hx
    have key : kn x.h x.n = true ∧ refGt x.h x.n p.h p.n = true ∧ (decide (x.h = h) && decide (n ≤ x.n)) = false := by
      unfold refOk at h1
      simp only [Bool.not_eq_true', Bool.or_eq_false_iff, Bool.not_eq_false'] at h1
      exact ⟨h1.1.1, h1.1.2, h1.2⟩
    cases j with
    | zero =>
      simp at hr
      subst hr
      exact ⟨key.1, key.2.2, fun _ h0 => absurd h0 (by omega)⟩
    | succ j =>
      rw [List.getElem?_cons_succ] at hr
      obtain ⟨g1, g2, g3⟩ := refs_get x l h2 j r hr
      refine ⟨g1, g2, fun r' _ hr' => ?_⟩
      rw [Nat.add_sub_cancel] at hr'
      cases j with
      | zero =>
        simp at hr'
        subst hr'
        cases l with
        | nil => simp at hr
        | cons y l =>
          simp at hr
          subst hr
          simp only [refsOk, Bool.and_eq_true] at h2
          have h3 := h2.1
          unfold refOk at h3
          simp only [Bool.not_eq_true', Bool.or_eq_false_iff, Bool.not_eq_false'] at h3
          exact h3.1.2
      | succ j =>
        rw [List.getElem?_cons_succ] at hr'
        exact g3 r' (by omega) (by simpa using hr')
theorem right_refs {m : NM} (h : right m = true) : refsOk m.h m.n ⟨-1, 0⟩ m.l = true := by
  unfold right at h
  simp only [Bool.and_eq_true] at h
  exact h.2
theorem order_1 {l : List NM} {k : Nat} {m m0 p : NM} (hc : Chain l) (hm : l[k]? = some m) (h0 : l[0]? = some m0) (hp : l[k - 1]? = some p) :
    ¬ ((((!right m) || (!decide (m.n = (k : Int)))) || (!decide (m.h = m0.h))) || (decide ((0 : Int) < (k : Int)) && decide (m.d < p.d))) = true := by
  obtain ⟨g1, g2, g3, g4⟩ := hc k m hm
  rw [g1, decide_eq_true g3, hdH_of h0, decide_eq_true g2]
  intro h
  simp only [Bool.not_true, Bool.false_or, Bool.and_eq_true, decide_eq_true_eq] at h
  have := g4 p (by omega) hp
  omega
theorem order_2 {l : List NM} {k j : Nat} {m : NM} {r p : RM} (hc : Chain l) (hm : l[k]? = some m) (hr : m.l[j]? = some r) (hp : m.l[j - 1]? = some p) :
    ¬ ((decide (r.h = m.h) && (decide (r.n < 0) || decide ((k : Int) ≤ r.n))) || (decide ((0 : Int) < (j : Int)) && (!refLt p r))) = true := by
  obtain ⟨g1, _, g3, _⟩ := hc k m hm
  obtain ⟨k1, k2, k3⟩ := refs_get _ _ (right_refs g1) j r hr
  unfold kn bel at k1
  simp only [Bool.and_eq_true, decide_eq_true_eq] at k1
  intro h
  simp only [Bool.or_eq_true, Bool.and_eq_true, decide_eq_true_eq, Bool.not_eq_true'] at h
  rcases h with ⟨h1, h2⟩ | ⟨h1, h2⟩
  · rw [decide_eq_true h1, Bool.true_and, decide_eq_false_iff_not] at k2
    omega
  · have := k3 p (by omega) hp
    unfold refGt at this
    unfold refLt at h2
    simp only [Bool.or_eq_true, Bool.and_eq_true, decide_eq_true_eq] at this
    simp only [Bool.or_eq_false_iff, Bool.and_eq_false_iff, decide_eq_false_iff_not] at h2
    omega
set_option maxRecDepth 20000 in
set_option maxHeartbeats 4000000 in
theorem order_v_ {w : World} (hG : Gr w) (hsm : ∀ W, Gr W → Calls Tryd.prog 50 ([] : List Value).toArray W (Fix (.bool true) W)) {l : List NM} {A1 : Option Addr} {c1 : Nat} (f1 : NotesV w w (.slice A1 l.length c1) l) : Calls Tryd.prog 13 [.slice A1 l.length c1].toArray w (Fix (.bool true) w) := by
  refine calls_start Tryd.func13 rfl rfl ?_
  intro az Hz
  rw [Tryd.ntmps13] at Hz
  refine wp_seq_k fun K1 hK1 => ?_
  -- law.go:117
  refine wp_region_lit ?_
  refine L (r_as Hz rfl) Hz rfl ?_
  clear Hz az; intro az Hz
  refine hK1 _ _ ?_
  refine wp_seq_k fun K2 hK2 => ?_
  -- law.go:118
  refine wp_region_lit ?_
  have G3 := Gr.k hG (Only.refl NoF w)
  refine LCV (v := .bool (true)) Hz rfl rfl Tryd.call50 (hsm _ G3) rfl fun w4 o5 => ?_
  clear Hz az; intro az Hz
  refine L (r_as Hz rfl) Hz rfl ?_
  clear Hz az; intro az Hz
  refine hK2 _ _ ?_
  refine wp_seq_k fun K6 hK6 => ?_
  refine wp_seq_k fun K7 hK7 => ?_
  -- law.go:119
  refine wp_region_lit ?_
  refine L (r_mv Hz rfl) Hz rfl ?_
  clear Hz az; intro az Hz
  have h8 := (SliceOf.kp f1 o5 (fun _ _ h => h) (fun _ _ _ _ h => h))
  refine LCE Hz rfl rfl Tryd.call51 (rFew_v_ (notes_up h8 o5) (by omega)) rfl fun b11 w9 hs12 o10 => ?_
  clear Hz az; intro az Hz
  refine L (r_not Hz rfl) Hz rfl ?_
  clear Hz az; intro az Hz
  refine L (r_mv Hz rfl) Hz rfl ?_
  clear Hz az; intro az Hz
  refine LG Hz rfl rfl gd_f (fun hb => r_mv Hz rfl) rfl ?_
  clear Hz az; intro az Hz
  have O13 : Only NoF w w9 := (Only.trans' o5 o10)
  have h14 := (SliceOf.kp f1 O13 (fun _ _ h => h) (fun _ _ _ _ h => h))
  refine LGV (v := .int .i64 ((check l))) Hz rfl rfl gd_f rfl (fun hb => (evs_c (evg hb rfl) rfl)) Tryd.call60 (fun hb => Check_v (notes_up h14 O13)) rfl fun w15 o16 => ?_
  clear Hz az; intro az Hz
  refine LG Hz rfl rfl gd_f (fun hb => r_neI Hz (evg hb rfl) rfl) rfl ?_
  clear Hz az; intro az Hz
  refine L (r_or Hz rfl rfl rfl) Hz rfl ?_
  clear Hz az; intro az Hz
  refine hK7 _ _ ?_
  refine br Hz rfl (fun hc17 => ?_) (fun hc17 => ?_)
  · -- if0
    have d18 := hc17
    refine wp_seq_k fun K19 hK19 => ?_
    -- law.go:120
    refine wp_region_lit ?_
    refine L (r_mv Hz rfl) Hz rfl ?_
    clear Hz az; intro az Hz
    refine L (r_as Hz rfl) Hz rfl ?_
    clear Hz az; intro az Hz
    refine hK19 _ _ ?_
    refine wp_ret ?_
    show bodyPost _ _ _ .ret _ _
    refine ret_of (vs := [.bool (true)]) Hz Tryd.results13 ⟨rfl, trivial⟩ ?_
    have O20 : Only NoF w w15 := (Only.trans' O13 o16)
    exact ⟨rfl, O20⟩
  · -- else0
    have q21 : b11 = true := (nt_f (or_f hc17).1)
    have S22 := hs12 q21
    have p23 := of_decide_eq_true (nt_f (or_f hc17).2)
    have hchk := check_zero p23
    have hflen := (S22).1
    refine wp_skip ?_
    refine hK6 _ _ ?_
    refine wp_seq_k fun K24 hK24 => ?_
    refine wp_seq_k fun K25 hK25 => ?_
    -- law.go:122
    refine wp_region_lit ?_
    refine L (r_as Hz rfl) Hz rfl ?_
    clear Hz az; intro az Hz
    refine hK25 _ _ ?_
    refine wp_block ?_
    refine wp_loop_m (fun mz az W => ∃ k : Nat, mz = l.length - k ∧ Fr 117 [(0, .slice A1 (l.length) c1), (3, .bool (true)), (4, .int .i64 ((k : Int)))] az ∧ (k ≤ l.length) ∧ Only NoF w W) ?_ ?_
    · -- start
      have O26 : Only NoF w w15 := (Only.trans' O13 o16)
      exact ⟨_, 0, rfl, Hz.cut ⟨rfl, rfl, rfl, trivial⟩, Nat.zero_le _, O26⟩
    clear Hz az
    rintro mz az w27 ⟨k, hm29, Hz, hk, o28⟩
    refine wp_seq_k fun K30 hK30 => ?_
    refine wp_seq_k fun K31 hK31 => ?_
    -- law.go:122
    refine wp_region_lit ?_
    refine L (r_mv Hz rfl) Hz rfl ?_
    clear Hz az; intro az Hz
    refine L (r_mv Hz rfl) Hz rfl ?_
    clear Hz az; intro az Hz
    refine L (r_lenL Tryd.underlying51 Hz rfl) Hz rfl ?_
    clear Hz az; intro az Hz
    refine L (r_ltI Hz rfl rfl) Hz rfl ?_
    clear Hz az; intro az Hz
    refine hK31 _ _ ?_
    refine br Hz rfl (fun hc32 => ?_) (fun hc32 => ?_)
    · -- if1
      have p33 := of_decide_eq_true hc32
      refine wp_skip ?_
      refine hK30 _ _ ?_
      refine wp_seq_k fun K34 hK34 => ?_
      refine wp_block ?_
      refine wp_seq_k fun K35 hK35 => ?_
      -- law.go:123
      refine wp_region_lit ?_
      refine L (r_mv Hz rfl) Hz rfl ?_
      clear Hz az; intro az Hz
      refine L (r_mv Hz rfl) Hz rfl ?_
      clear Hz az; intro az Hz
      have hk36 : k < (l).length := by omega
      have h42 := (SliceOf.kp f1 o28 (fun _ _ h => h) (fun _ _ _ _ h => h))
      obtain ⟨m37, hm38, ok39, hA40⟩ := Row.el (KNote w) h42 hk36
      have E41 : ∀ W, Only NoF w27 W → CA W (eA A1 5 (k)) [.int .i64 (m37.h), .int .i64 (m37.n), .int .i64 (m37.d), .slice m37.A (m37.l.length) m37.c, strV (m37.s)] := Row.ce (KNote w) h42 hm38 rfl
      refine L (r_ia (k := k) (size := 5) Tryd.underlying51 Tryd.sizeOf54 Hz rfl rfl rfl hk36 hA40) Hz rfl ?_
      clear Hz az; intro az Hz
      refine L (r_ldA Tryd.isAgg54 Tryd.sizeOf54 Hz rfl (E41 _ (Only.refl NoF w27)) rfl) Hz rfl ?_
      clear Hz az; intro az Hz
      refine LAl (v := .agg #[.int .i64 (0), .int .i64 (0), .int .i64 (0), .slice none (0) 0, strV ([])]) Tryd.zeroValue54 Hz rfl rfl ?_
      clear Hz az; intro g43 w44 hg47 hl48 o45 B46 az Hz
      refine LSt (cs' := [.int .i64 (m37.h), .int .i64 (m37.n), .int .i64 (m37.d), .slice m37.A (m37.l.length) m37.c, strV (m37.s)]) Tryd.sizeOf54 Hz rfl rfl rfl rfl rfl ⟨rfl, rfl, rfl, rfl, rfl, trivial⟩ B46 rfl rfl fun w49 s50 B51 => ?_
      refine hK35 _ _ ?_
      refine wp_seq_k fun K52 hK52 => ?_
      refine wp_seq_k fun K53 hK53 => ?_
      -- law.go:124
      refine reg_p NoF 1 [1] (.rd 0 (.ex 1 (.rd 2 (.rd 3 (.rd 4 (.rd 5 (.rd 6 (.rd 7 (.rd 8 (.rd 9 (.rd 10 (.rd 11 (.rd 12 (.rd 13 (.rd 14 (.rd 15 (.rd 16 (.rd 17 (.rd 18 (.rd 19 (.rd 20 (.rd 21 (.rd 22 (.rd 23 (.rd 24 (.rd 25 (.rd 26 (.rd 27 (.rd 28 (.rd 29 (.rd 30 (.rd 31 (.rd 32 (.rd 33 .nil)))))))))))))))))))))))))))))))))) (by kernel_rfl) (by kernel_rfl) (fun _ _ _ _ _ h => h) fun w54 o55 => ?_
      have B56 := (Blk.k B51 o55)
      refine Pl.MSP (b := true) (by kernel_rfl) (fun W oW => r_ldA Tryd.isAgg54 Tryd.sizeOf54 Hz rfl (Blk.ca (Blk.k B56 oW)) rfl) Hz rfl rfl ?_
      clear Hz az; intro az Hz
      have O57 : Only NoF w w54 := (Only.trans' (o_sg (Only.trans' o28 o45) s50 (size_only o28) (oneF_ge hg47)) o55)
      have h58 := (SliceOf.kp ok39.2.2.2.1 O57 (fun _ _ h => h) (fun _ _ _ _ h => h))
      refine Pl.MSV (v := .bool (right m37)) Hz rfl rfl rfl Tryd.call62 (Right_v h58) rfl (fun w' o' => ⟨fun _ => o', (Only.trans (Only.refl NoF w54) o' (fun _ h => h.elim))⟩) fun w59 o60 => ?_
      clear Hz az; intro az Hz
      refine Pl.MSP (b := true) (by kernel_rfl) (fun W oW => r_not Hz rfl) Hz rfl rfl ?_
      clear Hz az; intro az Hz
      refine Pl.MSP (b := true) (by kernel_rfl) (fun W oW => r_mv Hz rfl) Hz rfl rfl ?_
      clear Hz az; intro az Hz
      refine Pl.MSPG (b := true) (by kernel_rfl) Hz rfl rfl gd_f (fun hb W oW => r_fa (m' := 1) Tryd.underlying54 rfl Tryd.sizeOf3 rfl Hz rfl rfl) rfl rfl ?_
      clear Hz az; intro az Hz
      refine Pl.MSPG (b := true) (by kernel_rfl) Hz rfl rfl gd_f (fun hb W oW => r_ld Tryd.isAgg3 Hz (evg hb rfl) ((Blk.ca (Blk.k B56 oW)) 1 _ rfl)) rfl rfl ?_
      clear Hz az; intro az Hz
      refine Pl.MSPG (b := true) (by kernel_rfl) Hz rfl rfl gd_f (fun hb W oW => r_mv Hz rfl) rfl rfl ?_
      clear Hz az; intro az Hz
      refine Pl.MSPG (b := true) (by kernel_rfl) Hz rfl rfl gd_f (fun hb W oW => r_neI Hz (evg hb rfl) (evg hb rfl)) rfl rfl ?_
      clear Hz az; intro az Hz
      refine Pl.MSP (b := true) (by kernel_rfl) (fun W oW => r_or Hz rfl rfl rfl) Hz rfl rfl ?_
      clear Hz az; intro az Hz
      refine Pl.MSP (b := true) (by kernel_rfl) (fun W oW => r_mv Hz rfl) Hz rfl rfl ?_
      clear Hz az; intro az Hz
      refine Pl.MSPG (b := true) (by kernel_rfl) Hz rfl rfl gd_f (fun hb W oW => r_fa (m' := 0) Tryd.underlying54 rfl Tryd.sizeOf3 rfl Hz rfl rfl) rfl rfl ?_
      clear Hz az; intro az Hz
      refine Pl.MSPG (b := true) (by kernel_rfl) Hz rfl rfl gd_f (fun hb W oW => r_ld Tryd.isAgg3 Hz (evg hb rfl) ((Blk.ca (Blk.k B56 oW)) 0 _ rfl)) rfl rfl ?_
      clear Hz az; intro az Hz
      refine Pl.MSPG (b := true) (by kernel_rfl) Hz rfl rfl gd_f (fun hb W oW => r_mv Hz rfl) rfl rfl ?_
      clear Hz az; intro az Hz
      have hk61 : 0 < (l).length := by omega
      have h67 := (SliceOf.kp f1 O57 (fun _ _ h => h) (fun _ _ _ _ h => h))
      obtain ⟨m62, hm63, ok64, hA65⟩ := Row.el (KNote w) h67 hk61
      have E66 : ∀ W, Only NoF w54 W → CA W (eA A1 5 (0)) [.int .i64 (m62.h), .int .i64 (m62.n), .int .i64 (m62.d), .slice m62.A (m62.l.length) m62.c, strV (m62.s)] := Row.ce (KNote w) h67 hm63 rfl
      refine Pl.MSPG (b := true) (by kernel_rfl) Hz rfl rfl gd_f (fun hb W oW => r_ia (k := 0) (size := 5) Tryd.underlying51 Tryd.sizeOf54 Hz (evg hb rfl) rfl rfl hk61 hA65) rfl rfl ?_
      clear Hz az; intro az Hz
      refine Pl.MSPG (b := true) (by kernel_rfl) Hz rfl rfl gd_f (fun hb W oW => r_fa (m' := 0) Tryd.underlying54 rfl Tryd.sizeOf3 rfl Hz (evg hb rfl) rfl) rfl rfl ?_
      clear Hz az; intro az Hz
      refine Pl.MSPG (b := true) (by kernel_rfl) Hz rfl rfl gd_f (fun hb W oW => r_ld Tryd.isAgg3 Hz (evg hb rfl) ((E66 _ (Only.trans' (Only.refl NoF w54) oW)) 0 _ rfl)) rfl rfl ?_
      clear Hz az; intro az Hz
      refine Pl.MSPG (b := true) (by kernel_rfl) Hz rfl rfl gd_f (fun hb W oW => r_neI Hz (evg hb rfl) (evg hb rfl)) rfl rfl ?_
      clear Hz az; intro az Hz
      refine Pl.MSP (b := true) (by kernel_rfl) (fun W oW => r_or Hz rfl rfl rfl) Hz rfl rfl ?_
      clear Hz az; intro az Hz
      refine Pl.MSP (b := true) (by kernel_rfl) (fun W oW => r_mv Hz rfl) Hz rfl rfl ?_
      clear Hz az; intro az Hz
      refine Pl.MSPG (b := true) (by kernel_rfl) Hz rfl rfl gd_f (fun hb W oW => r_mv Hz rfl) rfl rfl ?_
      clear Hz az; intro az Hz
      refine Pl.MSPG (b := true) (by kernel_rfl) Hz rfl rfl gd_f (fun hb W oW => r_gtI Hz (evg hb rfl) rfl) rfl rfl ?_
      clear Hz az; intro az Hz
      refine Pl.MSPG (b := true) (by kernel_rfl) Hz rfl rfl gd_f (fun hb W oW => r_mv Hz (evg hb rfl)) rfl rfl ?_
      clear Hz az; intro az Hz
      refine Pl.MSPG (b := true) (by kernel_rfl) Hz rfl rfl gd_gt (fun hb W oW => r_fa (m' := 2) Tryd.underlying54 rfl Tryd.sizeOf3 rfl Hz rfl rfl) rfl rfl ?_
      clear Hz az; intro az Hz
      refine Pl.MSPG (b := true) (by kernel_rfl) Hz rfl rfl gd_gt (fun hb W oW => r_ld Tryd.isAgg3 Hz (evg hb rfl) ((Blk.ca (Blk.k B56 oW)) 2 _ rfl)) rfl rfl ?_
      clear Hz az; intro az Hz
      refine Pl.MSPG (b := true) (by kernel_rfl) Hz rfl rfl gd_gt (fun hb W oW => r_mv Hz rfl) rfl rfl ?_
      clear Hz az; intro az Hz
      refine Pl.MSPG (b := true) (by kernel_rfl) Hz rfl rfl gd_gt (fun hb W oW => r_mv Hz rfl) rfl rfl ?_
      clear Hz az; intro az Hz
      have i68 : I64 (((k : Int) - 1)) := by unfold I64; omega
      refine Pl.MSPG (b := true) (by kernel_rfl) Hz rfl rfl gd_gt (fun hb W oW => r_subI (r := ((k : Int) - 1)) Hz (evg hb rfl) rfl rfl i68) rfl rfl ?_
      clear Hz az; intro az Hz
      refine Pl.MSPG (b := true) (by kernel_rfl) Hz rfl rfl gd_gt (fun hb W oW => r_max Hz (evg hb rfl) rfl) rfl rfl ?_
      clear Hz az; intro az Hz
      have z69 : (max (((k : Int) - 1)) (0)) = ((k - 1 : Nat) : Int) := by omega
      have hk70 : (k - 1) < (l).length := by omega
      obtain ⟨m71, hm72, ok73, hA74⟩ := Row.el (KNote w) h67 hk70
      have E75 : ∀ W, Only NoF w54 W → CA W (eA A1 5 ((k - 1))) [.int .i64 (m71.h), .int .i64 (m71.n), .int .i64 (m71.d), .slice m71.A (m71.l.length) m71.c, strV (m71.s)] := Row.ce (KNote w) h67 hm72 rfl
      refine Pl.MSPG (b := true) (by kernel_rfl) Hz rfl rfl gd_gt (fun hb W oW => r_ia (k := (k - 1)) (size := 5) Tryd.underlying51 Tryd.sizeOf54 Hz (evg hb rfl) (evg hb rfl) z69 hk70 hA74) rfl rfl ?_
      clear Hz az; intro az Hz
      refine Pl.MSPG (b := true) (by kernel_rfl) Hz rfl rfl gd_gt (fun hb W oW => r_fa (m' := 2) Tryd.underlying54 rfl Tryd.sizeOf3 rfl Hz (evg hb rfl) rfl) rfl rfl ?_
      clear Hz az; intro az Hz
      refine Pl.MSPG (b := true) (by kernel_rfl) Hz rfl rfl gd_gt (fun hb W oW => r_ld Tryd.isAgg3 Hz (evg hb rfl) ((E75 _ (Only.trans' (Only.refl NoF w54) oW)) 2 _ rfl)) rfl rfl ?_
      clear Hz az; intro az Hz
      refine Pl.MSPG (b := true) (by kernel_rfl) Hz rfl rfl gd_gt (fun hb W oW => r_ltI Hz (evg hb rfl) (evg hb rfl)) rfl rfl ?_
      clear Hz az; intro az Hz
      refine Pl.MSPG (b := true) (by kernel_rfl) Hz rfl rfl gd_f (fun hb W oW => r_and Hz (evg hb rfl) (evgc hb rfl) rfl) rfl rfl ?_
      clear Hz az; intro az Hz
      refine Pl.MSP (b := true) (by kernel_rfl) (fun W oW => r_or Hz rfl rfl rfl) Hz rfl rfl ?_
      clear Hz az; intro az Hz
      refine wpPl_nil ?_
      refine hK53 _ _ ?_
      refine br Hz rfl (fun hc76 => ?_) (fun hc76 => ?_)
      · -- if2
        have d77 := hc76
        refine wp_seq_k fun K78 hK78 => ?_
        -- law.go:125
        refine wp_region_lit ?_
        refine L (r_as Hz rfl) Hz rfl ?_
        clear Hz az; intro az Hz
        refine hK78 _ _ ?_
        refine wp_ret ?_
        show bodyPost _ _ _ .ret _ _
        refine ret_of (vs := [.bool (false)]) Hz Tryd.results13 ⟨rfl, trivial⟩ ?_
        have O79 : Only NoF w w59 := (Only.trans' O57 o60)
        exact absurd hc76 (order_1 hchk hm38 hm63 hm72)
      · -- else2
        have q80 : right m37 = true := (nt_f (or_f (or_f (or_f hc76).1).1).1)
        have p81 := of_decide_eq_true (nt_f (or_f (or_f (or_f hc76).1).1).2)
        have p82 := of_decide_eq_true (nt_f (or_f (or_f hc76).1).2)
        have d83 := (or_f hc76).2
        refine wp_skip ?_
        refine hK52 _ _ ?_
        refine wp_seq_k fun K84 hK84 => ?_
        -- law.go:127
        refine wp_region_lit ?_
        refine L (r_as Hz rfl) Hz rfl ?_
        clear Hz az; intro az Hz
        refine hK84 _ _ ?_
        refine wp_block ?_
        have hml := (right_len (hchk _ _ hm38).1).1
        have B85 := (Blk.k B56 o60)
        refine wp_loop_m (fun mz az W => ∃ j : Nat, mz = m37.l.length - j ∧ Fr 117 [(0, .slice A1 (l.length) c1), (3, .bool (true)), (4, .int .i64 ((k : Int))), (5, .pointer (some ((⟨g43, 0, none⟩ : Addr)))), (6, .int .i64 ((j : Int)))] az ∧ (j ≤ m37.l.length) ∧ Only NoF w W ∧ Blk W g43 54 [.int .i64 (m37.h), .int .i64 (m37.n), .int .i64 (m37.d), .slice m37.A (m37.l.length) m37.c, strV (m37.s)].toArray) ?_ ?_
        · -- start
          have O86 : Only NoF w w59 := (Only.trans' O57 o60)
          exact ⟨_, 0, rfl, Hz.cut ⟨rfl, rfl, rfl, rfl, rfl, trivial⟩, Nat.zero_le _, O86, B85⟩
        clear Hz az
        rintro mz az w87 ⟨j, hm89, Hz, hj, o88, B90⟩
        refine wp_seq_k fun K91 hK91 => ?_
        refine wp_seq_k fun K92 hK92 => ?_
        -- law.go:127
        refine wp_region_lit ?_
        refine L (r_mv Hz rfl) Hz rfl ?_
        clear Hz az; intro az Hz
        refine L (r_fa (m' := 3) Tryd.underlying54 rfl Tryd.sizeOf52 rfl Hz rfl rfl) Hz rfl ?_
        clear Hz az; intro az Hz
        refine L (r_ld Tryd.isAgg52 Hz rfl ((Blk.ca B90) 3 _ rfl)) Hz rfl ?_
        clear Hz az; intro az Hz
        refine L (r_lenL Tryd.underlying52 Hz rfl) Hz rfl ?_
        clear Hz az; intro az Hz
        refine L (r_ltI Hz rfl rfl) Hz rfl ?_
        clear Hz az; intro az Hz
        refine hK92 _ _ ?_
        refine br Hz rfl (fun hc93 => ?_) (fun hc93 => ?_)
        · -- if3
          have p94 := of_decide_eq_true hc93
          refine wp_skip ?_
          refine hK91 _ _ ?_
          refine wp_seq_k fun K95 hK95 => ?_
          refine wp_block ?_
          refine wp_seq_k fun K96 hK96 => ?_
          -- law.go:128
          refine reg_p NoF 1 [44] (.rd 0 (.rd 1 (.rd 2 (.rd 3 (.rd 4 (.rd 5 (.rd 6 (.rd 7 (.rd 8 (.rd 9 (.rd 10 (.rd 11 (.rd 12 (.rd 13 (.rd 14 (.rd 15 (.rd 16 (.rd 17 (.rd 18 (.rd 19 (.rd 20 (.rd 21 (.rd 22 (.rd 23 (.rd 24 (.rd 25 (.rd 26 (.rd 27 (.rd 28 (.rd 29 (.rd 30 (.rd 31 (.rd 32 (.rd 33 (.rd 34 (.rd 35 (.rd 36 (.rd 37 (.rd 38 (.rd 39 (.rd 40 (.rd 41 (.rd 42 (.rd 43 (.ex 44 (.rd 45 (.rd 46 (.rd 47 .nil)))))))))))))))))))))))))))))))))))))))))))))))) (by kernel_rfl) (by kernel_rfl) (fun _ _ _ _ _ h => h) fun w97 o98 => ?_
          have B99 := (Blk.k B90 o98)
          refine Pl.MSP (b := true) (by kernel_rfl) (fun W oW => r_fa (m' := 3) Tryd.underlying54 rfl Tryd.sizeOf52 rfl Hz rfl rfl) Hz rfl rfl ?_
          clear Hz az; intro az Hz
          refine Pl.MSP (b := true) (by kernel_rfl) (fun W oW => r_ld Tryd.isAgg52 Hz rfl ((Blk.ca (Blk.k B99 oW)) 3 _ rfl)) Hz rfl rfl ?_
          clear Hz az; intro az Hz
          refine Pl.MSP (b := true) (by kernel_rfl) (fun W oW => r_mv Hz rfl) Hz rfl rfl ?_
          clear Hz az; intro az Hz
          have hk100 : j < (m37.l).length := by omega
          have O106 : Only NoF w w97 := (Only.trans' o88 o98)
          have h107 := (SliceOf.kp ok39.2.2.2.1 O106 (fun _ _ h => h) (fun _ _ _ _ h => h))
          obtain ⟨m101, hm102, ok103, hA104⟩ := Row.el KRef h107 hk100
          have E105 : ∀ W, Only NoF w97 W → CA W (eA m37.A 2 (j)) [.int .i64 (m101.h), .int .i64 (m101.n)] := Row.ce KRef h107 hm102 rfl
          refine Pl.MSP (b := true) (by kernel_rfl) (fun W oW => r_ia (k := j) (size := 2) Tryd.underlying52 Tryd.sizeOf71 Hz rfl rfl rfl hk100 hA104) Hz rfl rfl ?_
          clear Hz az; intro az Hz
          refine Pl.MSP (b := true) (by kernel_rfl) (fun W oW => r_fa (m' := 0) Tryd.underlying71 rfl Tryd.sizeOf3 rfl Hz rfl rfl) Hz rfl rfl ?_
          clear Hz az; intro az Hz
          refine Pl.MSP (b := true) (by kernel_rfl) (fun W oW => r_ld Tryd.isAgg3 Hz rfl ((E105 _ (Only.trans' (Only.refl NoF w97) oW)) 0 _ rfl)) Hz rfl rfl ?_
          clear Hz az; intro az Hz
          refine Pl.MSP (b := true) (by kernel_rfl) (fun W oW => r_fa (m' := 0) Tryd.underlying54 rfl Tryd.sizeOf3 rfl Hz rfl rfl) Hz rfl rfl ?_
          clear Hz az; intro az Hz
          refine Pl.MSP (b := true) (by kernel_rfl) (fun W oW => r_ld Tryd.isAgg3 Hz rfl ((Blk.ca (Blk.k B99 oW)) 0 _ rfl)) Hz rfl rfl ?_
          clear Hz az; intro az Hz
          refine Pl.MSP (b := true) (by kernel_rfl) (fun W oW => r_eqI Hz rfl rfl) Hz rfl rfl ?_
          clear Hz az; intro az Hz
          refine Pl.MSP (b := true) (by kernel_rfl) (fun W oW => r_mv Hz rfl) Hz rfl rfl ?_
          clear Hz az; intro az Hz
          refine Pl.MSPG (b := true) (by kernel_rfl) Hz rfl rfl gd_t (fun hb W oW => r_fa (m' := 3) Tryd.underlying54 rfl Tryd.sizeOf52 rfl Hz rfl rfl) rfl rfl ?_
          clear Hz az; intro az Hz
          refine Pl.MSPG (b := true) (by kernel_rfl) Hz rfl rfl gd_t (fun hb W oW => r_ld Tryd.isAgg52 Hz (evg hb rfl) ((Blk.ca (Blk.k B99 oW)) 3 _ rfl)) rfl rfl ?_
          clear Hz az; intro az Hz
          refine Pl.MSPG (b := true) (by kernel_rfl) Hz rfl rfl gd_t (fun hb W oW => r_mv Hz rfl) rfl rfl ?_
          clear Hz az; intro az Hz
          refine Pl.MSPG (b := true) (by kernel_rfl) Hz rfl rfl gd_t (fun hb W oW => r_ia (k := j) (size := 2) Tryd.underlying52 Tryd.sizeOf71 Hz (evg hb rfl) (evg hb rfl) rfl hk100 hA104) rfl rfl ?_
          clear Hz az; intro az Hz
          refine Pl.MSPG (b := true) (by kernel_rfl) Hz rfl rfl gd_t (fun hb W oW => r_fa (m' := 1) Tryd.underlying71 rfl Tryd.sizeOf3 rfl Hz (evg hb rfl) rfl) rfl rfl ?_
          clear Hz az; intro az Hz
          refine Pl.MSPG (b := true) (by kernel_rfl) Hz rfl rfl gd_t (fun hb W oW => r_ld Tryd.isAgg3 Hz (evg hb rfl) ((E105 _ (Only.trans' (Only.refl NoF w97) oW)) 1 _ rfl)) rfl rfl ?_
          clear Hz az; intro az Hz
          refine Pl.MSPG (b := true) (by kernel_rfl) Hz rfl rfl gd_t (fun hb W oW => r_ltI Hz (evg hb rfl) rfl) rfl rfl ?_
          clear Hz az; intro az Hz
          refine Pl.MSPG (b := true) (by kernel_rfl) Hz rfl rfl gd_t (fun hb W oW => r_mv Hz (evg hb rfl)) rfl rfl ?_
          clear Hz az; intro az Hz
          refine Pl.MSPG (b := true) (by kernel_rfl) Hz rfl rfl gd_gf (fun hb W oW => r_fa (m' := 3) Tryd.underlying54 rfl Tryd.sizeOf52 rfl Hz rfl rfl) rfl rfl ?_
          clear Hz az; intro az Hz
          refine Pl.MSPG (b := true) (by kernel_rfl) Hz rfl rfl gd_gf (fun hb W oW => r_ld Tryd.isAgg52 Hz (evg hb rfl) ((Blk.ca (Blk.k B99 oW)) 3 _ rfl)) rfl rfl ?_
          clear Hz az; intro az Hz
          refine Pl.MSPG (b := true) (by kernel_rfl) Hz rfl rfl gd_gf (fun hb W oW => r_mv Hz rfl) rfl rfl ?_
          clear Hz az; intro az Hz
          refine Pl.MSPG (b := true) (by kernel_rfl) Hz rfl rfl gd_gf (fun hb W oW => r_ia (k := j) (size := 2) Tryd.underlying52 Tryd.sizeOf71 Hz (evg hb rfl) (evg hb rfl) rfl hk100 hA104) rfl rfl ?_
          clear Hz az; intro az Hz
          refine Pl.MSPG (b := true) (by kernel_rfl) Hz rfl rfl gd_gf (fun hb W oW => r_fa (m' := 1) Tryd.underlying71 rfl Tryd.sizeOf3 rfl Hz (evg hb rfl) rfl) rfl rfl ?_
          clear Hz az; intro az Hz
          refine Pl.MSPG (b := true) (by kernel_rfl) Hz rfl rfl gd_gf (fun hb W oW => r_ld Tryd.isAgg3 Hz (evg hb rfl) ((E105 _ (Only.trans' (Only.refl NoF w97) oW)) 1 _ rfl)) rfl rfl ?_
          clear Hz az; intro az Hz
          refine Pl.MSPG (b := true) (by kernel_rfl) Hz rfl rfl gd_gf (fun hb W oW => r_mv Hz rfl) rfl rfl ?_
          clear Hz az; intro az Hz
          refine Pl.MSPG (b := true) (by kernel_rfl) Hz rfl rfl gd_gf (fun hb W oW => r_geI Hz (evg hb rfl) (evg hb rfl)) rfl rfl ?_
          clear Hz az; intro az Hz
          refine Pl.MSPG (b := true) (by kernel_rfl) Hz rfl rfl gd_t (fun hb W oW => r_or Hz (evg hb rfl) rfl (evgc hb rfl)) rfl rfl ?_
          clear Hz az; intro az Hz
          refine Pl.MSP (b := true) (by kernel_rfl) (fun W oW => r_and Hz rfl rfl rfl) Hz rfl rfl ?_
          clear Hz az; intro az Hz
          refine Pl.MSP (b := true) (by kernel_rfl) (fun W oW => r_mv Hz rfl) Hz rfl rfl ?_
          clear Hz az; intro az Hz
          refine Pl.MSPG (b := true) (by kernel_rfl) Hz rfl rfl gd_f (fun hb W oW => r_mv Hz rfl) rfl rfl ?_
          clear Hz az; intro az Hz
          refine Pl.MSPG (b := true) (by kernel_rfl) Hz rfl rfl gd_f (fun hb W oW => r_gtI Hz (evg hb rfl) rfl) rfl rfl ?_
          clear Hz az; intro az Hz
          refine Pl.MSPG (b := true) (by kernel_rfl) Hz rfl rfl gd_f (fun hb W oW => r_mv Hz (evg hb rfl)) rfl rfl ?_
          clear Hz az; intro az Hz
          refine Pl.MSPG (b := true) (by kernel_rfl) Hz rfl rfl gd_gt (fun hb W oW => r_fa (m' := 3) Tryd.underlying54 rfl Tryd.sizeOf52 rfl Hz rfl rfl) rfl rfl ?_
          clear Hz az; intro az Hz
          refine Pl.MSPG (b := true) (by kernel_rfl) Hz rfl rfl gd_gt (fun hb W oW => r_ld Tryd.isAgg52 Hz (evg hb rfl) ((Blk.ca (Blk.k B99 oW)) 3 _ rfl)) rfl rfl ?_
          clear Hz az; intro az Hz
          refine Pl.MSPG (b := true) (by kernel_rfl) Hz rfl rfl gd_gt (fun hb W oW => r_mv Hz rfl) rfl rfl ?_
          clear Hz az; intro az Hz
          have i108 : I64 (((j : Int) - 1)) := by unfold I64; omega
          refine Pl.MSPG (b := true) (by kernel_rfl) Hz rfl rfl gd_gt (fun hb W oW => r_subI (r := ((j : Int) - 1)) Hz (evg hb rfl) rfl rfl i108) rfl rfl ?_
          clear Hz az; intro az Hz
          refine Pl.MSPG (b := true) (by kernel_rfl) Hz rfl rfl gd_gt (fun hb W oW => r_max Hz (evg hb rfl) rfl) rfl rfl ?_
          clear Hz az; intro az Hz
          have z109 : (max (((j : Int) - 1)) (0)) = ((j - 1 : Nat) : Int) := by omega
          have hk110 : (j - 1) < (m37.l).length := by omega
          obtain ⟨m111, hm112, ok113, hA114⟩ := Row.el KRef h107 hk110
          have E115 : ∀ W, Only NoF w97 W → CA W (eA m37.A 2 ((j - 1))) [.int .i64 (m111.h), .int .i64 (m111.n)] := Row.ce KRef h107 hm112 rfl
          refine Pl.MSPG (b := true) (by kernel_rfl) Hz rfl rfl gd_gt (fun hb W oW => r_ia (k := (j - 1)) (size := 2) Tryd.underlying52 Tryd.sizeOf71 Hz (evg hb rfl) (evg hb rfl) z109 hk110 hA114) rfl rfl ?_
          clear Hz az; intro az Hz
          refine Pl.MSPG (b := true) (by kernel_rfl) Hz rfl rfl gd_gt (fun hb W oW => r_ldA Tryd.isAgg71 Tryd.sizeOf71 Hz (evg hb rfl) (E115 _ (Only.trans' (Only.refl NoF w97) oW)) rfl) rfl rfl ?_
          clear Hz az; intro az Hz
          refine Pl.MSPG (b := true) (by kernel_rfl) Hz rfl rfl gd_gt (fun hb W oW => r_fa (m' := 3) Tryd.underlying54 rfl Tryd.sizeOf52 rfl Hz rfl rfl) rfl rfl ?_
          clear Hz az; intro az Hz
          refine Pl.MSPG (b := true) (by kernel_rfl) Hz rfl rfl gd_gt (fun hb W oW => r_ld Tryd.isAgg52 Hz (evg hb rfl) ((Blk.ca (Blk.k B99 oW)) 3 _ rfl)) rfl rfl ?_
          clear Hz az; intro az Hz
          refine Pl.MSPG (b := true) (by kernel_rfl) Hz rfl rfl gd_gt (fun hb W oW => r_mv Hz rfl) rfl rfl ?_
          clear Hz az; intro az Hz
          refine Pl.MSPG (b := true) (by kernel_rfl) Hz rfl rfl gd_gt (fun hb W oW => r_ia (k := j) (size := 2) Tryd.underlying52 Tryd.sizeOf71 Hz (evg hb rfl) (evg hb rfl) rfl hk100 hA104) rfl rfl ?_
          clear Hz az; intro az Hz
          refine Pl.MSPG (b := true) (by kernel_rfl) Hz rfl rfl gd_gt (fun hb W oW => r_ldA Tryd.isAgg71 Tryd.sizeOf71 Hz (evg hb rfl) (E105 _ (Only.trans' (Only.refl NoF w97) oW)) rfl) rfl rfl ?_
          clear Hz az; intro az Hz
          refine Pl.MSGV (v := .bool (refLt m111 m101)) Hz rfl rfl gd_gt rfl rfl (fun hb => (evs_c (evg hb rfl) (evs_c (evg hb rfl) rfl))) Tryd.call67 (fun hb => rLess_v _ m111 m101) rfl (fun w' o' => ⟨fun _ => o', (Only.trans (Only.refl NoF w97) o' (fun _ h => h.elim))⟩) fun w116 o117 => ?_
          clear Hz az; intro az Hz
          refine Pl.MSPG (b := true) (by kernel_rfl) Hz rfl rfl gd_gt (fun hb W oW => r_not Hz (evg hb rfl)) rfl rfl ?_
          clear Hz az; intro az Hz
          refine Pl.MSPG (b := true) (by kernel_rfl) Hz rfl rfl gd_f (fun hb W oW => r_and Hz (evg hb rfl) (evgc hb rfl) rfl) rfl rfl ?_
          clear Hz az; intro az Hz
          refine Pl.MSP (b := true) (by kernel_rfl) (fun W oW => r_or Hz rfl rfl rfl) Hz rfl rfl ?_
          clear Hz az; intro az Hz
          refine wpPl_nil ?_
          refine hK96 _ _ ?_
          refine br Hz rfl (fun hc118 => ?_) (fun hc118 => ?_)
          · -- if4
            have d119 := hc118
            refine wp_seq_k fun K120 hK120 => ?_
            -- law.go:129
            refine wp_region_lit ?_
            refine L (r_as Hz rfl) Hz rfl ?_
            clear Hz az; intro az Hz
            refine hK120 _ _ ?_
            refine wp_ret ?_
            show bodyPost _ _ _ .ret _ _
            refine ret_of (vs := [.bool (false)]) Hz Tryd.results13 ⟨rfl, trivial⟩ ?_
            have O121 : Only NoF w w116 := (Only.trans' O106 o117)
            exact absurd hc118 (order_2 hchk hm38 hm102 hm112)
          · -- else4
            have d122 := (or_f hc118).1
            have d123 := (or_f hc118).2
            refine wp_skip ?_
            refine hK95 _ _ ?_
            -- law.go:127
            refine wp_region_lit ?_
            refine L (r_mv Hz rfl) Hz rfl ?_
            clear Hz az; intro az Hz
            have i124 : I64 (((j : Int) + 1)) := by unfold I64; omega
            refine L (r_addI (r := ((j : Int) + 1)) Hz rfl rfl rfl i124) Hz rfl ?_
            clear Hz az; intro az Hz
            refine L (r_as Hz rfl) Hz rfl ?_
            clear Hz az; intro az Hz
            have O125 : Only NoF w w116 := (Only.trans' O106 o117)
            have B126 := (Blk.k B99 o117)
            exact ⟨_, (by omega), j + 1, rfl, Hz.cut ⟨rfl, rfl, rfl, rfl, rfl, trivial⟩, (by omega), O125, B126⟩
        · -- else3
          have p127 := of_decide_eq_false hc93
          refine wp_exit ?_
          refine th_exit ?_
          refine th_exit ?_
          refine ib_hit ?_
          refine hK34 _ _ ?_
          -- law.go:122
          refine wp_region_lit ?_
          refine L (r_mv Hz rfl) Hz rfl ?_
          clear Hz az; intro az Hz
          have i128 : I64 (((k : Int) + 1)) := by unfold I64; omega
          refine L (r_addI (r := ((k : Int) + 1)) Hz rfl rfl rfl i128) Hz rfl ?_
          clear Hz az; intro az Hz
          refine L (r_as Hz rfl) Hz rfl ?_
          clear Hz az; intro az Hz
          exact ⟨_, (by omega), k + 1, rfl, Hz.cut ⟨rfl, rfl, rfl, trivial⟩, (by omega), o88⟩
    · -- else1
      have p129 := of_decide_eq_false hc32
      refine wp_exit ?_
      refine th_exit ?_
      refine th_exit ?_
      refine ib_hit ?_
      refine hK24 _ _ ?_
      refine wp_seq_k fun K130 hK130 => ?_
      -- law.go:133
      refine wp_region_lit ?_
      refine L (r_mv Hz rfl) Hz rfl ?_
      clear Hz az; intro az Hz
      refine L (r_as Hz rfl) Hz rfl ?_
      clear Hz az; intro az Hz
      refine hK130 _ _ ?_
      refine wp_ret ?_
      show bodyPost _ _ _ .ret _ _
      refine ret_of (vs := [.bool (true)]) Hz Tryd.results13 ⟨rfl, trivial⟩ ?_
      exact ⟨rfl, o28⟩
end Go.Proofs.YtgmnoianhonihaaDoor
