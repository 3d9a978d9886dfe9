/-
  SealConvicts, walked: it returns true. No condition but the listed variables.
-/
import Derived.Test.YtgmnoianhonihaaDoorSLess
namespace Go.Proofs.YtgmnoianhonihaaDoor
set_option linter.unusedVariables false
set_option linter.unusedSimpArgs false
set_option linter.unusedSectionVars false
open Go.RowKit

section
variable {l l2 : List NM} {i k : Nat} {m m2 p p2 : NM}
theorem same_rfl : same m m = true := by simp [same]
theorem cv_same (h : same m m2 = true) : convicts m m2 = false := by unfold convicts; rw [h]; simp
theorem cv_own (hc : Chain l) (h1 : l[i]? = some m) (h2 : l[k]? = some m2) : convicts m m2 = false := by
  rcases tf (convicts m m2) with h | h
  · exact h
  have h' := h
  unfold convicts at h'
  simp only [Bool.and_eq_true, decide_eq_true_eq] at h'
  have e1 := (hc _ _ h1).2.2.1
  have e2 := (hc _ _ h2).2.2.1
  obtain rfl : i = k := by have := h'.1.2; omega
  obtain rfl : m = m2 := Option.some.inj (h1.symm.trans h2)
  rw [cv_same same_rfl] at h; cases h
theorem hdH_zero (h : l[0]? = some p) : hdH l = p.h := by
  cases l with
  | nil => simp at h
  | cons a l => simp at h; subst h; rfl
theorem cv_houses (hc : Chain l) (hc2 : Chain l2) (ha : l[0]? = some p) (hb : l2[0]? = some p2) (hn : (!decide (p.h = p2.h)) = true) (h1 : l[i]? = some m) (h2 : l2[k]? = some m2) : convicts m m2 = false := by
  have e1 := (hc _ _ h1).2.1
  have e2 := (hc2 _ _ h2).2.1
  rw [hdH_zero ha] at e1
  rw [hdH_zero hb] at e2
  have : ¬ m.h = m2.h := by simp at hn; rw [e1, e2]; exact hn
  unfold convicts
  rw [decide_eq_false this]; simp
theorem cv_true (hc : Chain l) (hc2 : Chain l2) (ha : l[0]? = some p) (hb : l2[0]? = some p2) (hn : (!decide (p.h = p2.h)) = false) (h1 : l[k]? = some m) (h2 : l2[k]? = some m2) (hs : (!same m m2) = true) : convicts m m2 = true := by
  obtain ⟨r1, e1, n1, _⟩ := hc _ _ h1
  obtain ⟨r2, e2, n2, _⟩ := hc2 _ _ h2
  rw [hdH_zero ha] at e1
  rw [hdH_zero hb] at e2
  have hh : m.h = m2.h := by simp at hn; rw [e1, e2]; exact hn
  have hn' : m.n = m2.n := by rw [n1, n2]
  unfold convicts
  rw [r1, r2, decide_eq_true hh, decide_eq_true hn', hs]; rfl
end
set_option maxRecDepth 20000 in
set_option maxHeartbeats 4000000 in
theorem conv_v_ {w : World} (hG : Gr w) {l : List NM} {A1 : Option Addr} {c1 : Nat} (f1 : NotesV w w (.slice A1 l.length c1) l) {l2 : List NM} {A2 : Option Addr} {c2 : Nat} (f2 : NotesV w w (.slice A2 l2.length c2) l2) {a b : Int} (ha : 0 ≤ a ∧ a < 256) (hb : 0 ≤ b ∧ b < 256) : Calls Tryd.prog 11 [.slice A1 l.length c1, .slice A2 l2.length c2, .int .u8 a, .int .u8 b].toArray w (Fix (.bool true) w) := by
  refine calls_start Tryd.func11 rfl rfl ?_
  intro az Hz
  rw [Tryd.ntmps11] at Hz
  refine wp_seq_k fun K1 hK1 => ?_
  -- law.go:76
  refine wp_region_lit ?_
  refine L (r_as Hz rfl) Hz rfl ?_
  clear Hz az; intro az Hz
  refine hK1 _ _ ?_
  refine wp_seq_k fun K2 hK2 => ?_
  -- law.go:77
  refine wp_region_lit ?_
  have G3 := Gr.k hG (Only.refl NoF w)
  refine LCV (v := .bool (true)) Hz rfl rfl Tryd.call50 (small37_v G3) rfl fun w4 o5 => ?_
  clear Hz az; intro az Hz
  refine L (r_as Hz rfl) Hz rfl ?_
  clear Hz az; intro az Hz
  refine hK2 _ _ ?_
  refine wp_seq_k fun K6 hK6 => ?_
  refine wp_seq_k fun K7 hK7 => ?_
  -- law.go:78
  refine wp_region_lit ?_
  refine L (r_mv Hz rfl) Hz rfl ?_
  clear Hz az; intro az Hz
  have h8 := (SliceOf.kp f1 o5 (fun _ _ h => h) (fun _ _ _ _ h => h))
  refine LCE Hz rfl rfl Tryd.call51 (rFew_v_ (notes_up h8 o5) (by omega)) rfl fun b11 w9 hs12 o10 => ?_
  clear Hz az; intro az Hz
  refine L (r_not Hz rfl) Hz rfl ?_
  clear Hz az; intro az Hz
  refine L (r_mv Hz rfl) Hz rfl ?_
  clear Hz az; intro az Hz
  refine LG Hz rfl rfl gd_f (fun hb => r_mv Hz rfl) rfl ?_
  clear Hz az; intro az Hz
  have O13 : Only NoF w w9 := (Only.trans' o5 o10)
  have h14 := (SliceOf.kp f2 O13 (fun _ _ h => h) (fun _ _ _ _ h => h))
  refine LGE Hz rfl rfl gd_f rfl (fun hb => (evs_c (evg hb rfl) (evs_c rfl rfl))) Tryd.call51 (fun hb => rFew_v_ (notes_up h14 O13) (by omega)) rfl fun b17 w15 hs18 o16 => ?_
  clear Hz az; intro az Hz
  refine LG Hz rfl rfl gd_f (fun hb => r_not Hz (evg hb rfl)) rfl ?_
  clear Hz az; intro az Hz
  refine L (r_or Hz rfl rfl rfl) Hz rfl ?_
  clear Hz az; intro az Hz
  refine L (r_mv Hz rfl) Hz rfl ?_
  clear Hz az; intro az Hz
  refine LG Hz rfl rfl gd_f (fun hb => r_mv Hz rfl) rfl ?_
  clear Hz az; intro az Hz
  have O19 : Only NoF w w15 := (Only.trans' O13 o16)
  have h20 := (SliceOf.kp f1 O19 (fun _ _ h => h) (fun _ _ _ _ h => h))
  refine LGV (v := .int .i64 ((check l))) Hz rfl rfl gd_f rfl (fun hb => (evs_c (evg hb rfl) rfl)) Tryd.call60 (fun hb => Check_v (notes_up h20 O19)) rfl fun w21 o22 => ?_
  clear Hz az; intro az Hz
  refine LG Hz rfl rfl gd_f (fun hb => r_neI Hz (evg hb rfl) rfl) rfl ?_
  clear Hz az; intro az Hz
  refine L (r_or Hz rfl rfl rfl) Hz rfl ?_
  clear Hz az; intro az Hz
  refine L (r_mv Hz rfl) Hz rfl ?_
  clear Hz az; intro az Hz
  refine LG Hz rfl rfl gd_f (fun hb => r_mv Hz rfl) rfl ?_
  clear Hz az; intro az Hz
  have O23 : Only NoF w w21 := (Only.trans' O19 o22)
  have h24 := (SliceOf.kp f2 O23 (fun _ _ h => h) (fun _ _ _ _ h => h))
  refine LGV (v := .int .i64 ((check l2))) Hz rfl rfl gd_f rfl (fun hb => (evs_c (evg hb rfl) rfl)) Tryd.call60 (fun hb => Check_v (notes_up h24 O23)) rfl fun w25 o26 => ?_
  clear Hz az; intro az Hz
  refine LG Hz rfl rfl gd_f (fun hb => r_neI Hz (evg hb rfl) rfl) rfl ?_
  clear Hz az; intro az Hz
  refine L (r_or Hz rfl rfl rfl) Hz rfl ?_
  clear Hz az; intro az Hz
  refine L (r_mv Hz rfl) Hz rfl ?_
  clear Hz az; intro az Hz
  refine LG Hz rfl rfl gd_f (fun hb => r_mv Hz rfl) rfl ?_
  clear Hz az; intro az Hz
  refine LG Hz rfl rfl gd_f (fun hb => r_lenL Tryd.underlying51 Hz (evg hb rfl)) rfl ?_
  clear Hz az; intro az Hz
  refine LG Hz rfl rfl gd_f (fun hb => r_eqI Hz (evg hb rfl) rfl) rfl ?_
  clear Hz az; intro az Hz
  refine L (r_or Hz rfl rfl rfl) Hz rfl ?_
  clear Hz az; intro az Hz
  refine L (r_mv Hz rfl) Hz rfl ?_
  clear Hz az; intro az Hz
  refine LG Hz rfl rfl gd_f (fun hb => r_mv Hz rfl) rfl ?_
  clear Hz az; intro az Hz
  refine LG Hz rfl rfl gd_f (fun hb => r_lenL Tryd.underlying51 Hz (evg hb rfl)) rfl ?_
  clear Hz az; intro az Hz
  refine LG Hz rfl rfl gd_f (fun hb => r_eqI Hz (evg hb rfl) rfl) rfl ?_
  clear Hz az; intro az Hz
  refine L (r_or Hz rfl rfl rfl) Hz rfl ?_
  clear Hz az; intro az Hz
  refine hK7 _ _ ?_
  refine br Hz rfl (fun hc27 => ?_) (fun hc27 => ?_)
  · -- if0
    have d28 := hc27
    refine wp_seq_k fun K29 hK29 => ?_
    -- law.go:79
    refine wp_region_lit ?_
    refine L (r_mv Hz rfl) Hz rfl ?_
    clear Hz az; intro az Hz
    refine L (r_as Hz rfl) Hz rfl ?_
    clear Hz az; intro az Hz
    refine hK29 _ _ ?_
    refine wp_ret ?_
    show bodyPost _ _ _ .ret _ _
    refine ret_of (vs := [.bool (true)]) Hz Tryd.results11 ⟨rfl, trivial⟩ ?_
    have O30 : Only NoF w w25 := (Only.trans' O23 o26)
    exact ⟨rfl, O30⟩
  · -- else0
    have q31 : b11 = true := (nt_f (or_f (or_f (or_f (or_f (or_f hc27).1).1).1).1).1)
    have S32 := hs12 q31
    have q33 : b17 = true := (nt_f (or_f (or_f (or_f (or_f (or_f hc27).1).1).1).1).2)
    have S34 := hs18 (by rw [q31]; rfl) q33
    have p35 := of_decide_eq_true (nt_f (or_f (or_f (or_f (or_f hc27).1).1).1).2)
    have p36 := of_decide_eq_true (nt_f (or_f (or_f (or_f hc27).1).1).2)
    have p37 := of_decide_eq_false (or_f (or_f hc27).1).2
    have p38 := of_decide_eq_false (or_f hc27).2
    have hca := check_zero p35; have hcb := check_zero p36
    have hfl := less_len (S32) p35; have hfm := less_len (S34) p36
    obtain ⟨q1, hq1, hl1⟩ := less_rem (n := l.length) ha (by omega)
    obtain ⟨q2, hq2, hl2⟩ := less_rem (n := l.length) hb (by omega)
    obtain ⟨q3, hq3, hl3⟩ := less_rem (n := l2.length) hb (by omega)
    refine wp_skip ?_
    refine hK6 _ _ ?_
    refine wp_seq_k fun K39 hK39 => ?_
    refine wp_seq_k fun K40 hK40 => ?_
    -- law.go:81
    refine reg_p NoF 1 [16] (.rd 0 (.rd 1 (.rd 2 (.rd 3 (.rd 4 (.rd 5 (.rd 6 (.rd 7 (.rd 8 (.rd 9 (.rd 10 (.rd 11 (.rd 12 (.rd 13 (.rd 14 (.rd 15 (.ex 16 .nil))))))))))))))))) (by kernel_rfl) (by kernel_rfl) (fun _ _ _ _ _ h => h) fun w41 o42 => ?_
    refine Pl.MSP (b := true) (by kernel_rfl) (fun W oW => r_mv Hz rfl) Hz rfl rfl ?_
    clear Hz az; intro az Hz
    refine Pl.MSP (b := true) (by kernel_rfl) (fun W oW => r_mv Hz rfl) Hz rfl rfl ?_
    clear Hz az; intro az Hz
    refine Pl.MSP (b := true) (by kernel_rfl) (fun W oW => r_cvJ Tryd.underlying5 Tryd.underlying3 Hz rfl (by omega)) Hz rfl rfl ?_
    clear Hz az; intro az Hz
    refine Pl.MSP (b := true) (by kernel_rfl) (fun W oW => r_mv Hz rfl) Hz rfl rfl ?_
    clear Hz az; intro az Hz
    refine Pl.MSP (b := true) (by kernel_rfl) (fun W oW => r_lenL Tryd.underlying51 Hz rfl) Hz rfl rfl ?_
    clear Hz az; intro az Hz
    refine Pl.MSP (b := true) (by kernel_rfl) (fun W oW => r_remE Hz rfl rfl (by omega) hq1) Hz rfl rfl ?_
    clear Hz az; intro az Hz
    have hk43 : q1 < (l).length := by omega
    have O49 : Only NoF w w41 := (Only.trans' (Only.trans' O23 o26) o42)
    have h50 := (SliceOf.kp f1 O49 (fun _ _ h => h) (fun _ _ _ _ h => h))
    obtain ⟨m44, hm45, ok46, hA47⟩ := Row.el (KNote w) h50 hk43
    have E48 : ∀ W, Only NoF w41 W → CA W (eA A1 5 (q1)) [.int .i64 (m44.h), .int .i64 (m44.n), .int .i64 (m44.d), .slice m44.A (m44.l.length) m44.c, strV (m44.s)] := Row.ce (KNote w) h50 hm45 rfl
    refine Pl.MSP (b := true) (by kernel_rfl) (fun W oW => r_ia (k := q1) (size := 5) Tryd.underlying51 Tryd.sizeOf54 Hz rfl rfl rfl hk43 hA47) Hz rfl rfl ?_
    clear Hz az; intro az Hz
    refine Pl.MSP (b := true) (by kernel_rfl) (fun W oW => r_ldA Tryd.isAgg54 Tryd.sizeOf54 Hz rfl (E48 _ (Only.trans' (Only.refl NoF w41) oW)) rfl) Hz rfl rfl ?_
    clear Hz az; intro az Hz
    refine Pl.MSP (b := true) (by kernel_rfl) (fun W oW => r_mv Hz rfl) Hz rfl rfl ?_
    clear Hz az; intro az Hz
    refine Pl.MSP (b := true) (by kernel_rfl) (fun W oW => r_mv Hz rfl) Hz rfl rfl ?_
    clear Hz az; intro az Hz
    refine Pl.MSP (b := true) (by kernel_rfl) (fun W oW => r_cvJ Tryd.underlying5 Tryd.underlying3 Hz rfl (by omega)) Hz rfl rfl ?_
    clear Hz az; intro az Hz
    refine Pl.MSP (b := true) (by kernel_rfl) (fun W oW => r_mv Hz rfl) Hz rfl rfl ?_
    clear Hz az; intro az Hz
    refine Pl.MSP (b := true) (by kernel_rfl) (fun W oW => r_lenL Tryd.underlying51 Hz rfl) Hz rfl rfl ?_
    clear Hz az; intro az Hz
    refine Pl.MSP (b := true) (by kernel_rfl) (fun W oW => r_remE Hz rfl rfl (by omega) hq2) Hz rfl rfl ?_
    clear Hz az; intro az Hz
    have hk51 : q2 < (l).length := by omega
    obtain ⟨m52, hm53, ok54, hA55⟩ := Row.el (KNote w) h50 hk51
    have E56 : ∀ W, Only NoF w41 W → CA W (eA A1 5 (q2)) [.int .i64 (m52.h), .int .i64 (m52.n), .int .i64 (m52.d), .slice m52.A (m52.l.length) m52.c, strV (m52.s)] := Row.ce (KNote w) h50 hm53 rfl
    refine Pl.MSP (b := true) (by kernel_rfl) (fun W oW => r_ia (k := q2) (size := 5) Tryd.underlying51 Tryd.sizeOf54 Hz rfl rfl rfl hk51 hA55) Hz rfl rfl ?_
    clear Hz az; intro az Hz
    refine Pl.MSP (b := true) (by kernel_rfl) (fun W oW => r_ldA Tryd.isAgg54 Tryd.sizeOf54 Hz rfl (E56 _ (Only.trans' (Only.refl NoF w41) oW)) rfl) Hz rfl rfl ?_
    clear Hz az; intro az Hz
    have h57 := (SliceOf.kp ok46.2.2.2.1 O49 (fun _ _ h => h) (fun _ _ _ _ h => h))
    have h58 := (SliceOf.kp ok54.2.2.2.1 O49 (fun _ _ h => h) (fun _ _ _ _ h => h))
    refine Pl.MSV (v := .bool (false)) Hz rfl rfl rfl Tryd.call65 (fix_eq (congrArg Value.bool (cv_own hca hm45 hm53)) (Convicts_v (m := m44) (m2 := m52) h57 h58)) rfl (fun w' o' => ⟨fun _ => o', (Only.trans (Only.refl NoF w41) o' (fun _ h => h.elim))⟩) fun w59 o60 => ?_
    clear Hz az; intro az Hz
    refine wpPl_nil ?_
    refine hK40 _ _ ?_
    refine br_false Hz rfl ?_
    refine wp_skip ?_
    refine hK39 _ _ ?_
    refine wp_seq_k fun K61 hK61 => ?_
    refine wp_seq_k fun K62 hK62 => ?_
    -- law.go:84
    refine reg_q [(true, 0), (true, 1), (true, 2), (true, 3), (true, 4), (true, 5), (true, 6), (true, 7), (true, 8)] (by kernel_rfl) (by kernel_rfl) (fun _ _ _ _ _ h => h) fun w63 o64 => ?_
    refine M (r_mv Hz rfl) Hz rfl rfl ?_
    clear Hz az; intro az Hz
    have hk65 : 0 < (l).length := by omega
    have O71 : Only NoF w w63 := (Only.trans' (Only.trans' O49 o60) o64)
    have h72 := (SliceOf.kp f1 O71 (fun _ _ h => h) (fun _ _ _ _ h => h))
    obtain ⟨m66, hm67, ok68, hA69⟩ := Row.el (KNote w) h72 hk65
    have E70 : ∀ W, Only NoF w63 W → CA W (eA A1 5 (0)) [.int .i64 (m66.h), .int .i64 (m66.n), .int .i64 (m66.d), .slice m66.A (m66.l.length) m66.c, strV (m66.s)] := Row.ce (KNote w) h72 hm67 rfl
    refine M (r_ia (k := 0) (size := 5) Tryd.underlying51 Tryd.sizeOf54 Hz rfl rfl rfl hk65 hA69) Hz rfl rfl ?_
    clear Hz az; intro az Hz
    refine M (r_fa (m' := 0) Tryd.underlying54 rfl Tryd.sizeOf3 rfl Hz rfl rfl) Hz rfl rfl ?_
    clear Hz az; intro az Hz
    refine M (r_ld Tryd.isAgg3 Hz rfl ((E70 _ (Only.refl NoF w63)) 0 _ rfl)) Hz rfl rfl ?_
    clear Hz az; intro az Hz
    refine M (r_mv Hz rfl) Hz rfl rfl ?_
    clear Hz az; intro az Hz
    have hk73 : 0 < (l2).length := by omega
    have h79 := (SliceOf.kp f2 O71 (fun _ _ h => h) (fun _ _ _ _ h => h))
    obtain ⟨m74, hm75, ok76, hA77⟩ := Row.el (KNote w) h79 hk73
    have E78 : ∀ W, Only NoF w63 W → CA W (eA A2 5 (0)) [.int .i64 (m74.h), .int .i64 (m74.n), .int .i64 (m74.d), .slice m74.A (m74.l.length) m74.c, strV (m74.s)] := Row.ce (KNote w) h79 hm75 rfl
    refine M (r_ia (k := 0) (size := 5) Tryd.underlying51 Tryd.sizeOf54 Hz rfl rfl rfl hk73 hA77) Hz rfl rfl ?_
    clear Hz az; intro az Hz
    refine M (r_fa (m' := 0) Tryd.underlying54 rfl Tryd.sizeOf3 rfl Hz rfl rfl) Hz rfl rfl ?_
    clear Hz az; intro az Hz
    refine M (r_ld Tryd.isAgg3 Hz rfl ((E78 _ (Only.refl NoF w63)) 0 _ rfl)) Hz rfl rfl ?_
    clear Hz az; intro az Hz
    refine M (r_neI Hz rfl rfl) Hz rfl rfl ?_
    clear Hz az; intro az Hz
    refine wpMix_nil ?_
    refine hK62 _ _ ?_
    refine br Hz rfl (fun hc80 => ?_) (fun hc80 => ?_)
    · -- if2
      have p81 := of_decide_eq_false (nt_t hc80)
      refine wp_seq_k fun K82 hK82 => ?_
      -- law.go:85
      refine reg_p NoF 1 [18] (.rd 0 (.rd 1 (.rd 2 (.rd 3 (.rd 4 (.rd 5 (.rd 6 (.rd 7 (.rd 8 (.rd 9 (.rd 10 (.rd 11 (.rd 12 (.rd 13 (.rd 14 (.rd 15 (.rd 16 (.rd 17 (.ex 18 (.rd 19 (.rd 20 (.rd 21 .nil)))))))))))))))))))))) (by kernel_rfl) (by kernel_rfl) (fun _ _ _ _ _ h => h) fun w83 o84 => ?_
      refine Pl.MSP (b := true) (by kernel_rfl) (fun W oW => r_mv Hz rfl) Hz rfl rfl ?_
      clear Hz az; intro az Hz
      refine Pl.MSP (b := true) (by kernel_rfl) (fun W oW => r_mv Hz rfl) Hz rfl rfl ?_
      clear Hz az; intro az Hz
      refine Pl.MSPT (b := true) (by kernel_rfl) Hz rfl rfl (fun W oW => r_mv Hz rfl) rfl rfl ?_
      clear Hz az; intro az Hz
      refine Pl.MSPT (b := true) (by kernel_rfl) Hz rfl rfl (fun W oW => r_mv Hz rfl) rfl rfl ?_
      clear Hz az; intro az Hz
      refine Pl.MSPT (b := true) (by kernel_rfl) Hz rfl rfl (fun W oW => r_cvJ Tryd.underlying5 Tryd.underlying3 Hz rfl (by omega)) rfl rfl ?_
      clear Hz az; intro az Hz
      refine Pl.MSPT (b := true) (by kernel_rfl) Hz rfl rfl (fun W oW => r_mv Hz rfl) rfl rfl ?_
      clear Hz az; intro az Hz
      refine Pl.MSPT (b := true) (by kernel_rfl) Hz rfl rfl (fun W oW => r_lenL Tryd.underlying51 Hz rfl) rfl rfl ?_
      clear Hz az; intro az Hz
      refine Pl.MSPT (b := true) (by kernel_rfl) Hz rfl rfl (fun W oW => r_remE Hz rfl rfl (by omega) hq1) rfl rfl ?_
      clear Hz az; intro az Hz
      refine Pl.MSPT (b := true) (by kernel_rfl) Hz rfl rfl (fun W oW => r_ia (k := q1) (size := 5) Tryd.underlying51 Tryd.sizeOf54 Hz rfl rfl rfl hk43 hA47) rfl rfl ?_
      clear Hz az; intro az Hz
      have O85 : Only NoF w41 w83 := (Only.trans' (Only.trans' o60 o64) o84)
      refine Pl.MSPT (b := true) (by kernel_rfl) Hz rfl rfl (fun W oW => r_ldA Tryd.isAgg54 Tryd.sizeOf54 Hz rfl (E48 _ (Only.trans' O85 oW)) rfl) rfl rfl ?_
      clear Hz az; intro az Hz
      refine Pl.MSPT (b := true) (by kernel_rfl) Hz rfl rfl (fun W oW => r_mv Hz rfl) rfl rfl ?_
      clear Hz az; intro az Hz
      refine Pl.MSPT (b := true) (by kernel_rfl) Hz rfl rfl (fun W oW => r_mv Hz rfl) rfl rfl ?_
      clear Hz az; intro az Hz
      refine Pl.MSPT (b := true) (by kernel_rfl) Hz rfl rfl (fun W oW => r_cvJ Tryd.underlying5 Tryd.underlying3 Hz rfl (by omega)) rfl rfl ?_
      clear Hz az; intro az Hz
      refine Pl.MSPT (b := true) (by kernel_rfl) Hz rfl rfl (fun W oW => r_mv Hz rfl) rfl rfl ?_
      clear Hz az; intro az Hz
      refine Pl.MSPT (b := true) (by kernel_rfl) Hz rfl rfl (fun W oW => r_lenL Tryd.underlying51 Hz rfl) rfl rfl ?_
      clear Hz az; intro az Hz
      refine Pl.MSPT (b := true) (by kernel_rfl) Hz rfl rfl (fun W oW => r_remE Hz rfl rfl (by omega) hq3) rfl rfl ?_
      clear Hz az; intro az Hz
      have hk86 : q3 < (l2).length := by omega
      have O92 : Only NoF w w83 := (Only.trans' O71 o84)
      have h93 := (SliceOf.kp f2 O92 (fun _ _ h => h) (fun _ _ _ _ h => h))
      obtain ⟨m87, hm88, ok89, hA90⟩ := Row.el (KNote w) h93 hk86
      have E91 : ∀ W, Only NoF w83 W → CA W (eA A2 5 (q3)) [.int .i64 (m87.h), .int .i64 (m87.n), .int .i64 (m87.d), .slice m87.A (m87.l.length) m87.c, strV (m87.s)] := Row.ce (KNote w) h93 hm88 rfl
      refine Pl.MSPT (b := true) (by kernel_rfl) Hz rfl rfl (fun W oW => r_ia (k := q3) (size := 5) Tryd.underlying51 Tryd.sizeOf54 Hz rfl rfl rfl hk86 hA90) rfl rfl ?_
      clear Hz az; intro az Hz
      refine Pl.MSPT (b := true) (by kernel_rfl) Hz rfl rfl (fun W oW => r_ldA Tryd.isAgg54 Tryd.sizeOf54 Hz rfl (E91 _ (Only.trans' (Only.refl NoF w83) oW)) rfl) rfl rfl ?_
      clear Hz az; intro az Hz
      have h94 := (SliceOf.kp ok46.2.2.2.1 O92 (fun _ _ h => h) (fun _ _ _ _ h => h))
      have h95 := (SliceOf.kp ok89.2.2.2.1 O92 (fun _ _ h => h) (fun _ _ _ _ h => h))
      refine Pl.MSGV (v := .bool (false)) Hz rfl rfl gd_t rfl rfl (fun hb => rfl) Tryd.call65 (fun hb => fix_eq (congrArg Value.bool (cv_houses hca hcb hm67 hm75 hc80 hm45 hm88)) (Convicts_v (m := m44) (m2 := m87) h94 h95)) rfl (fun w' o' => ⟨fun _ => o', (Only.trans (Only.refl NoF w83) o' (fun _ h => h.elim))⟩) fun w96 o97 => ?_
      clear Hz az; intro az Hz
      refine Pl.MSPT (b := true) (by kernel_rfl) Hz rfl rfl (fun W oW => r_not Hz rfl) rfl rfl ?_
      clear Hz az; intro az Hz
      refine Pl.MSP (b := true) (by kernel_rfl) (fun W oW => r_pick Hz rfl rfl rfl) Hz rfl rfl ?_
      clear Hz az; intro az Hz
      refine Pl.MSP (b := true) (by kernel_rfl) (fun W oW => r_as Hz rfl) Hz rfl rfl ?_
      clear Hz az; intro az Hz
      refine wpPl_nil ?_
      refine hK82 _ _ ?_
      refine wp_ret ?_
      show bodyPost _ _ _ .ret _ _
      refine ret_of (vs := [.bool (true)]) Hz Tryd.results11 ⟨rfl, trivial⟩ ?_
      have O98 : Only NoF w w96 := (Only.trans' O92 o97)
      exact ⟨rfl, O98⟩
    · -- else2
      have p99 := of_decide_eq_true (nt_f hc80)
      refine wp_skip ?_
      refine hK61 _ _ ?_
      refine wp_seq_k fun K100 hK100 => ?_
      refine wp_seq_k fun K101 hK101 => ?_
      -- law.go:87
      refine wp_region_lit ?_
      refine L (r_as Hz rfl) Hz rfl ?_
      clear Hz az; intro az Hz
      refine hK101 _ _ ?_
      refine wp_block ?_
      refine wp_loop_m (fun mz az W => ∃ k : Nat, mz = l.length - k ∧ Fr 156 [(0, .slice A1 (l.length) c1), (1, .slice A2 (l2.length) c2), (9, .bool (true)), (10, .int .i64 ((k : Int)))] az ∧ (k ≤ l.length) ∧ Only NoF w W) ?_ ?_
      · -- start
        exact ⟨_, 0, rfl, Hz.cut ⟨rfl, rfl, rfl, rfl, trivial⟩, Nat.zero_le _, O71⟩
      clear Hz az
      rintro mz az w102 ⟨k, hm104, Hz, hk, o103⟩
      refine wp_seq_k fun K105 hK105 => ?_
      refine wp_seq_k fun K106 hK106 => ?_
      -- law.go:87
      refine wp_region_lit ?_
      refine L (r_mv Hz rfl) Hz rfl ?_
      clear Hz az; intro az Hz
      refine L (r_mv Hz rfl) Hz rfl ?_
      clear Hz az; intro az Hz
      refine L (r_lenL Tryd.underlying51 Hz rfl) Hz rfl ?_
      clear Hz az; intro az Hz
      refine L (r_ltI Hz rfl rfl) Hz rfl ?_
      clear Hz az; intro az Hz
      refine L (r_mv Hz rfl) Hz rfl ?_
      clear Hz az; intro az Hz
      refine LG Hz rfl rfl gd_t (fun hb => r_mv Hz rfl) rfl ?_
      clear Hz az; intro az Hz
      refine LG Hz rfl rfl gd_t (fun hb => r_mv Hz rfl) rfl ?_
      clear Hz az; intro az Hz
      refine LG Hz rfl rfl gd_t (fun hb => r_lenL Tryd.underlying51 Hz (evg hb rfl)) rfl ?_
      clear Hz az; intro az Hz
      refine LG Hz rfl rfl gd_t (fun hb => r_ltI Hz (evg hb rfl) (evg hb rfl)) rfl ?_
      clear Hz az; intro az Hz
      refine L (r_and Hz rfl rfl rfl) Hz rfl ?_
      clear Hz az; intro az Hz
      refine hK106 _ _ ?_
      refine br Hz rfl (fun hc107 => ?_) (fun hc107 => ?_)
      · -- if3
        have p108 := of_decide_eq_true (and_t hc107).1
        have p109 := of_decide_eq_true (and_t hc107).2
        refine wp_skip ?_
        refine hK105 _ _ ?_
        refine wp_seq_k fun K110 hK110 => ?_
        refine wp_block ?_
        refine wp_seq_k fun K111 hK111 => ?_
        refine wp_seq_k fun K112 hK112 => ?_
        -- law.go:88
        refine reg_p NoF 1 [8] (.rd 0 (.rd 1 (.rd 2 (.rd 3 (.rd 4 (.rd 5 (.rd 6 (.rd 7 (.ex 8 (.rd 9 .nil)))))))))) (by kernel_rfl) (by kernel_rfl) (fun _ _ _ _ _ h => h) fun w113 o114 => ?_
        refine Pl.MSP (b := true) (by kernel_rfl) (fun W oW => r_mv Hz rfl) Hz rfl rfl ?_
        clear Hz az; intro az Hz
        refine Pl.MSP (b := true) (by kernel_rfl) (fun W oW => r_mv Hz rfl) Hz rfl rfl ?_
        clear Hz az; intro az Hz
        have hk115 : k < (l).length := by omega
        have O121 : Only NoF w w113 := (Only.trans' o103 o114)
        have h122 := (SliceOf.kp f1 O121 (fun _ _ h => h) (fun _ _ _ _ h => h))
        obtain ⟨m116, hm117, ok118, hA119⟩ := Row.el (KNote w) h122 hk115
        have E120 : ∀ W, Only NoF w113 W → CA W (eA A1 5 (k)) [.int .i64 (m116.h), .int .i64 (m116.n), .int .i64 (m116.d), .slice m116.A (m116.l.length) m116.c, strV (m116.s)] := Row.ce (KNote w) h122 hm117 rfl
        refine Pl.MSP (b := true) (by kernel_rfl) (fun W oW => r_ia (k := k) (size := 5) Tryd.underlying51 Tryd.sizeOf54 Hz rfl rfl rfl hk115 hA119) Hz rfl rfl ?_
        clear Hz az; intro az Hz
        refine Pl.MSP (b := true) (by kernel_rfl) (fun W oW => r_ldA Tryd.isAgg54 Tryd.sizeOf54 Hz rfl (E120 _ (Only.trans' (Only.refl NoF w113) oW)) rfl) Hz rfl rfl ?_
        clear Hz az; intro az Hz
        refine Pl.MSP (b := true) (by kernel_rfl) (fun W oW => r_mv Hz rfl) Hz rfl rfl ?_
        clear Hz az; intro az Hz
        refine Pl.MSP (b := true) (by kernel_rfl) (fun W oW => r_mv Hz rfl) Hz rfl rfl ?_
        clear Hz az; intro az Hz
        have hk123 : k < (l2).length := by omega
        have h129 := (SliceOf.kp f2 O121 (fun _ _ h => h) (fun _ _ _ _ h => h))
        obtain ⟨m124, hm125, ok126, hA127⟩ := Row.el (KNote w) h129 hk123
        have E128 : ∀ W, Only NoF w113 W → CA W (eA A2 5 (k)) [.int .i64 (m124.h), .int .i64 (m124.n), .int .i64 (m124.d), .slice m124.A (m124.l.length) m124.c, strV (m124.s)] := Row.ce (KNote w) h129 hm125 rfl
        refine Pl.MSP (b := true) (by kernel_rfl) (fun W oW => r_ia (k := k) (size := 5) Tryd.underlying51 Tryd.sizeOf54 Hz rfl rfl rfl hk123 hA127) Hz rfl rfl ?_
        clear Hz az; intro az Hz
        refine Pl.MSP (b := true) (by kernel_rfl) (fun W oW => r_ldA Tryd.isAgg54 Tryd.sizeOf54 Hz rfl (E128 _ (Only.trans' (Only.refl NoF w113) oW)) rfl) Hz rfl rfl ?_
        clear Hz az; intro az Hz
        have h130 := (SliceOf.kp ok118.2.2.2.1 O121 (fun _ _ h => h) (fun _ _ _ _ h => h))
        have h131 := (SliceOf.kp ok126.2.2.2.1 O121 (fun _ _ h => h) (fun _ _ _ _ h => h))
        refine Pl.MSV (v := .bool (same m116 m124)) Hz rfl rfl rfl Tryd.call59 (rSame_v (m := m116) (m2 := m124) h130 h131) rfl (fun w' o' => ⟨fun _ => o', (Only.trans (Only.refl NoF w113) o' (fun _ h => h.elim))⟩) fun w132 o133 => ?_
        clear Hz az; intro az Hz
        refine Pl.MSP (b := true) (by kernel_rfl) (fun W oW => r_not Hz rfl) Hz rfl rfl ?_
        clear Hz az; intro az Hz
        refine wpPl_nil ?_
        refine hK112 _ _ ?_
        refine br Hz rfl (fun hc134 => ?_) (fun hc134 => ?_)
        · -- if4
          have q135 : same m116 m124 = false := (nt_t hc134)
          refine wp_seq_k fun K136 hK136 => ?_
          -- law.go:89
          refine reg_p NoF 2 [10, 21] (.rd 0 (.rd 1 (.rd 2 (.rd 3 (.rd 4 (.rd 5 (.rd 6 (.rd 7 (.rd 8 (.rd 9 (.ex 10 (.rd 11 (.rd 12 (.rd 13 (.rd 14 (.rd 15 (.rd 16 (.rd 17 (.rd 18 (.rd 19 (.rd 20 (.ex 21 (.rd 22 (.rd 23 (.rd 24 .nil))))))))))))))))))))))))) (by kernel_rfl) (by kernel_rfl) (fun _ _ _ _ _ h => h) fun w137 o138 => ?_
          refine Pl.MSP (b := true) (by kernel_rfl) (fun W oW => r_mv Hz rfl) Hz rfl rfl ?_
          clear Hz az; intro az Hz
          refine Pl.MSP (b := true) (by kernel_rfl) (fun W oW => r_mv Hz rfl) Hz rfl rfl ?_
          clear Hz az; intro az Hz
          refine Pl.MSPT (b := true) (by kernel_rfl) Hz rfl rfl (fun W oW => r_mv Hz rfl) rfl rfl ?_
          clear Hz az; intro az Hz
          refine Pl.MSPT (b := true) (by kernel_rfl) Hz rfl rfl (fun W oW => r_mv Hz rfl) rfl rfl ?_
          clear Hz az; intro az Hz
          refine Pl.MSPT (b := true) (by kernel_rfl) Hz rfl rfl (fun W oW => r_ia (k := k) (size := 5) Tryd.underlying51 Tryd.sizeOf54 Hz rfl rfl rfl hk115 hA119) rfl rfl ?_
          clear Hz az; intro az Hz
          have O139 : Only NoF w113 w137 := (Only.trans' o133 o138)
          refine Pl.MSPT (b := true) (by kernel_rfl) Hz rfl rfl (fun W oW => r_ldA Tryd.isAgg54 Tryd.sizeOf54 Hz rfl (E120 _ (Only.trans' O139 oW)) rfl) rfl rfl ?_
          clear Hz az; intro az Hz
          refine Pl.MSPT (b := true) (by kernel_rfl) Hz rfl rfl (fun W oW => r_mv Hz rfl) rfl rfl ?_
          clear Hz az; intro az Hz
          refine Pl.MSPT (b := true) (by kernel_rfl) Hz rfl rfl (fun W oW => r_mv Hz rfl) rfl rfl ?_
          clear Hz az; intro az Hz
          refine Pl.MSPT (b := true) (by kernel_rfl) Hz rfl rfl (fun W oW => r_ia (k := k) (size := 5) Tryd.underlying51 Tryd.sizeOf54 Hz rfl rfl rfl hk123 hA127) rfl rfl ?_
          clear Hz az; intro az Hz
          refine Pl.MSPT (b := true) (by kernel_rfl) Hz rfl rfl (fun W oW => r_ldA Tryd.isAgg54 Tryd.sizeOf54 Hz rfl (E128 _ (Only.trans' O139 oW)) rfl) rfl rfl ?_
          clear Hz az; intro az Hz
          have O140 : Only NoF w w137 := (Only.trans' (Only.trans' O121 o133) o138)
          have h141 := (SliceOf.kp ok118.2.2.2.1 O140 (fun _ _ h => h) (fun _ _ _ _ h => h))
          have h142 := (SliceOf.kp ok126.2.2.2.1 O140 (fun _ _ h => h) (fun _ _ _ _ h => h))
          refine Pl.MSGV (v := .bool (true)) Hz rfl rfl gd_t rfl rfl (fun hb => rfl) Tryd.call65 (fun hb => fix_eq (congrArg Value.bool (cv_true hca hcb hm67 hm75 hc80 hm117 hm125 hc134)) (Convicts_v (m := m116) (m2 := m124) h141 h142)) rfl (fun w' o' => ⟨fun _ => o', (Only.trans (Only.refl NoF w137) o' (fun _ h => h.elim))⟩) fun w143 o144 => ?_
          clear Hz az; intro az Hz
          refine Pl.MSP (b := true) (by kernel_rfl) (fun W oW => r_pick Hz rfl rfl rfl) Hz rfl rfl ?_
          clear Hz az; intro az Hz
          refine Pl.MSP (b := true) (by kernel_rfl) (fun W oW => r_mv Hz rfl) Hz rfl rfl ?_
          clear Hz az; intro az Hz
          refine Pl.MSPT (b := true) (by kernel_rfl) Hz rfl rfl (fun W oW => r_mv Hz rfl) rfl rfl ?_
          clear Hz az; intro az Hz
          refine Pl.MSPT (b := true) (by kernel_rfl) Hz rfl rfl (fun W oW => r_mv Hz rfl) rfl rfl ?_
          clear Hz az; intro az Hz
          refine Pl.MSPT (b := true) (by kernel_rfl) Hz rfl rfl (fun W oW => r_ia (k := k) (size := 5) Tryd.underlying51 Tryd.sizeOf54 Hz rfl rfl rfl hk115 hA119) rfl rfl ?_
          clear Hz az; intro az Hz
          refine Pl.MSPT (b := true) (by kernel_rfl) Hz rfl rfl (fun W oW => r_ldA Tryd.isAgg54 Tryd.sizeOf54 Hz rfl (E120 _ (Only.trans' O139 oW)) rfl) rfl rfl ?_
          clear Hz az; intro az Hz
          refine Pl.MSPT (b := true) (by kernel_rfl) Hz rfl rfl (fun W oW => r_mv Hz rfl) rfl rfl ?_
          clear Hz az; intro az Hz
          refine Pl.MSPT (b := true) (by kernel_rfl) Hz rfl rfl (fun W oW => r_mv Hz rfl) rfl rfl ?_
          clear Hz az; intro az Hz
          refine Pl.MSPT (b := true) (by kernel_rfl) Hz rfl rfl (fun W oW => r_ia (k := k) (size := 5) Tryd.underlying51 Tryd.sizeOf54 Hz rfl rfl rfl hk123 hA127) rfl rfl ?_
          clear Hz az; intro az Hz
          refine Pl.MSPT (b := true) (by kernel_rfl) Hz rfl rfl (fun W oW => r_ldA Tryd.isAgg54 Tryd.sizeOf54 Hz rfl (E128 _ (Only.trans' O139 oW)) rfl) rfl rfl ?_
          clear Hz az; intro az Hz
          have O145 : Only NoF w w143 := (Only.trans' O140 o144)
          have h146 := (SliceOf.kp ok118.2.2.2.1 O145 (fun _ _ h => h) (fun _ _ _ _ h => h))
          have h147 := (SliceOf.kp ok126.2.2.2.1 O145 (fun _ _ h => h) (fun _ _ _ _ h => h))
          refine Pl.MSGV (v := .bool (false)) Hz rfl rfl gd_t rfl rfl (fun hb => rfl) Tryd.call64 (fun hb => fix_eq (congrArg Value.bool (nt_t hc134)) (Same_v (m := m116) (m2 := m124) h146 h147)) rfl (fun w' o' => ⟨fun _ => (Only.trans' o144 o'), (Only.trans (Only.trans (Only.refl NoF w137) o144 (fun _ h => h.elim)) o' (fun _ h => h.elim))⟩) fun w148 o149 => ?_
          clear Hz az; intro az Hz
          refine Pl.MSPT (b := true) (by kernel_rfl) Hz rfl rfl (fun W oW => r_not Hz rfl) rfl rfl ?_
          clear Hz az; intro az Hz
          refine Pl.MSP (b := true) (by kernel_rfl) (fun W oW => r_pick Hz rfl rfl rfl) Hz rfl rfl ?_
          clear Hz az; intro az Hz
          refine Pl.MSP (b := true) (by kernel_rfl) (fun W oW => r_as Hz rfl) Hz rfl rfl ?_
          clear Hz az; intro az Hz
          refine wpPl_nil ?_
          refine hK136 _ _ ?_
          refine wp_ret ?_
          show bodyPost _ _ _ .ret _ _
          refine ret_of (vs := [.bool (true)]) Hz Tryd.results11 ⟨rfl, trivial⟩ ?_
          have O150 : Only NoF w w148 := (Only.trans' O145 o149)
          exact ⟨rfl, O150⟩
        · -- else4
          have q151 : same m116 m124 = true := (nt_f hc134)
          refine wp_skip ?_
          refine hK111 _ _ ?_
          refine wp_seq_k fun K152 hK152 => ?_
          -- law.go:91
          refine reg_p NoF 2 [8, 18] (.rd 0 (.rd 1 (.rd 2 (.rd 3 (.rd 4 (.rd 5 (.rd 6 (.rd 7 (.ex 8 (.rd 9 (.rd 10 (.rd 11 (.rd 12 (.rd 13 (.rd 14 (.rd 15 (.rd 16 (.rd 17 (.ex 18 (.rd 19 (.rd 20 .nil))))))))))))))))))))) (by kernel_rfl) (by kernel_rfl) (fun _ _ _ _ _ h => h) fun w153 o154 => ?_
          refine Pl.MSP (b := true) (by kernel_rfl) (fun W oW => r_mv Hz rfl) Hz rfl rfl ?_
          clear Hz az; intro az Hz
          refine Pl.MSP (b := true) (by kernel_rfl) (fun W oW => r_mv Hz rfl) Hz rfl rfl ?_
          clear Hz az; intro az Hz
          refine Pl.MSP (b := true) (by kernel_rfl) (fun W oW => r_ia (k := k) (size := 5) Tryd.underlying51 Tryd.sizeOf54 Hz rfl rfl rfl hk115 hA119) Hz rfl rfl ?_
          clear Hz az; intro az Hz
          have O155 : Only NoF w113 w153 := (Only.trans' o133 o154)
          refine Pl.MSP (b := true) (by kernel_rfl) (fun W oW => r_ldA Tryd.isAgg54 Tryd.sizeOf54 Hz rfl (E120 _ (Only.trans' O155 oW)) rfl) Hz rfl rfl ?_
          clear Hz az; intro az Hz
          refine Pl.MSP (b := true) (by kernel_rfl) (fun W oW => r_mv Hz rfl) Hz rfl rfl ?_
          clear Hz az; intro az Hz
          refine Pl.MSP (b := true) (by kernel_rfl) (fun W oW => r_mv Hz rfl) Hz rfl rfl ?_
          clear Hz az; intro az Hz
          refine Pl.MSP (b := true) (by kernel_rfl) (fun W oW => r_ia (k := k) (size := 5) Tryd.underlying51 Tryd.sizeOf54 Hz rfl rfl rfl hk123 hA127) Hz rfl rfl ?_
          clear Hz az; intro az Hz
          refine Pl.MSP (b := true) (by kernel_rfl) (fun W oW => r_ldA Tryd.isAgg54 Tryd.sizeOf54 Hz rfl (E128 _ (Only.trans' O155 oW)) rfl) Hz rfl rfl ?_
          clear Hz az; intro az Hz
          have O156 : Only NoF w w153 := (Only.trans' (Only.trans' O121 o133) o154)
          have h157 := (SliceOf.kp ok118.2.2.2.1 O156 (fun _ _ h => h) (fun _ _ _ _ h => h))
          have h158 := (SliceOf.kp ok126.2.2.2.1 O156 (fun _ _ h => h) (fun _ _ _ _ h => h))
          refine Pl.MSV (v := .bool (false)) Hz rfl rfl rfl Tryd.call65 (fix_eq (congrArg Value.bool (cv_same (nt_f hc134))) (Convicts_v (m := m116) (m2 := m124) h157 h158)) rfl (fun w' o' => ⟨fun _ => o', (Only.trans (Only.refl NoF w153) o' (fun _ h => h.elim))⟩) fun w159 o160 => ?_
          clear Hz az; intro az Hz
          refine Pl.MSP (b := true) (by kernel_rfl) (fun W oW => r_mv Hz rfl) Hz rfl rfl ?_
          clear Hz az; intro az Hz
          refine Pl.MSPT (b := true) (by kernel_rfl) Hz rfl rfl (fun W oW => r_mv Hz rfl) rfl rfl ?_
          clear Hz az; intro az Hz
          refine Pl.MSPT (b := true) (by kernel_rfl) Hz rfl rfl (fun W oW => r_mv Hz rfl) rfl rfl ?_
          clear Hz az; intro az Hz
          refine Pl.MSPT (b := true) (by kernel_rfl) Hz rfl rfl (fun W oW => r_ia (k := k) (size := 5) Tryd.underlying51 Tryd.sizeOf54 Hz rfl rfl rfl hk115 hA119) rfl rfl ?_
          clear Hz az; intro az Hz
          refine Pl.MSPT (b := true) (by kernel_rfl) Hz rfl rfl (fun W oW => r_ldA Tryd.isAgg54 Tryd.sizeOf54 Hz rfl (E120 _ (Only.trans' O155 oW)) rfl) rfl rfl ?_
          clear Hz az; intro az Hz
          refine Pl.MSPT (b := true) (by kernel_rfl) Hz rfl rfl (fun W oW => r_mv Hz rfl) rfl rfl ?_
          clear Hz az; intro az Hz
          refine Pl.MSPT (b := true) (by kernel_rfl) Hz rfl rfl (fun W oW => r_mv Hz rfl) rfl rfl ?_
          clear Hz az; intro az Hz
          refine Pl.MSPT (b := true) (by kernel_rfl) Hz rfl rfl (fun W oW => r_ia (k := k) (size := 5) Tryd.underlying51 Tryd.sizeOf54 Hz rfl rfl rfl hk123 hA127) rfl rfl ?_
          clear Hz az; intro az Hz
          refine Pl.MSPT (b := true) (by kernel_rfl) Hz rfl rfl (fun W oW => r_ldA Tryd.isAgg54 Tryd.sizeOf54 Hz rfl (E128 _ (Only.trans' O155 oW)) rfl) rfl rfl ?_
          clear Hz az; intro az Hz
          have O161 : Only NoF w w159 := (Only.trans' O156 o160)
          have h162 := (SliceOf.kp ok118.2.2.2.1 O161 (fun _ _ h => h) (fun _ _ _ _ h => h))
          have h163 := (SliceOf.kp ok126.2.2.2.1 O161 (fun _ _ h => h) (fun _ _ _ _ h => h))
          refine Pl.MSGV (v := .bool (true)) Hz rfl rfl gd_f rfl rfl (fun hb => rfl) Tryd.call64 (fun hb => fix_eq (congrArg Value.bool (nt_f hc134)) (Same_v (m := m116) (m2 := m124) h162 h163)) rfl (fun w' o' => ⟨fun _ => (Only.trans' o160 o'), (Only.trans (Only.trans (Only.refl NoF w153) o160 (fun _ h => h.elim)) o' (fun _ h => h.elim))⟩) fun w164 o165 => ?_
          clear Hz az; intro az Hz
          refine Pl.MSPT (b := true) (by kernel_rfl) Hz rfl rfl (fun W oW => r_not Hz rfl) rfl rfl ?_
          clear Hz az; intro az Hz
          refine Pl.MSP (b := true) (by kernel_rfl) (fun W oW => r_pick Hz rfl rfl rfl) Hz rfl rfl ?_
          clear Hz az; intro az Hz
          refine wpPl_nil ?_
          refine hK152 _ _ ?_
          refine br_false Hz rfl ?_
          refine wp_skip ?_
          refine hK110 _ _ ?_
          -- law.go:87
          refine wp_region_lit ?_
          refine L (r_mv Hz rfl) Hz rfl ?_
          clear Hz az; intro az Hz
          have i166 : I64 (((k : Int) + 1)) := by unfold I64; omega
          refine L (r_addI (r := ((k : Int) + 1)) Hz rfl rfl rfl i166) Hz rfl ?_
          clear Hz az; intro az Hz
          refine L (r_as Hz rfl) Hz rfl ?_
          clear Hz az; intro az Hz
          have O167 : Only NoF w w164 := (Only.trans' O161 o165)
          exact ⟨_, (by omega), k + 1, rfl, Hz.cut ⟨rfl, rfl, rfl, rfl, trivial⟩, (by omega), O167⟩
      · -- else3
        have d168 := hc107
        refine wp_exit ?_
        refine th_exit ?_
        refine th_exit ?_
        refine ib_hit ?_
        refine hK100 _ _ ?_
        refine wp_seq_k fun K169 hK169 => ?_
        -- law.go:95
        refine wp_region_lit ?_
        refine L (r_mv Hz rfl) Hz rfl ?_
        clear Hz az; intro az Hz
        refine L (r_as Hz rfl) Hz rfl ?_
        clear Hz az; intro az Hz
        refine hK169 _ _ ?_
        refine wp_ret ?_
        show bodyPost _ _ _ .ret _ _
        refine ret_of (vs := [.bool (true)]) Hz Tryd.results11 ⟨rfl, trivial⟩ ?_
        exact ⟨rfl, o103⟩

theorem conv_v {w : World} (hG : Gr w) {v v2 : Value} {l l2 : List NM} (f1 : NotesV w w v l) (f2 : NotesV w w v2 l2) {a b : Int} (ha : 0 ≤ a ∧ a < 256) (hb : 0 ≤ b ∧ b < 256) : Calls Tryd.prog 11 #[v, v2, .int .u8 a, .int .u8 b] w (Fix (.bool true) w) := by
  obtain ⟨A1, c1, rfl, _⟩ := SliceOf.shape f1
  obtain ⟨A2, c2, rfl, _⟩ := SliceOf.shape f2
  exact conv_v_ hG f1 f2 ha hb
end Go.Proofs.YtgmnoianhonihaaDoor
