/-
  SealLess, walked: it returns true. No condition but the listed variables.
-/
import Derived.Test.YtgmnoianhonihaaDoorSOrd2
import Derived.Test.YtgmnoianhonihaaDoorWir5
namespace Go.Proofs.YtgmnoianhonihaaDoor
set_option linter.unusedVariables false
set_option linter.unusedSimpArgs false
set_option linter.unusedSectionVars false
open Go.RowKit

theorem r_remE {P : Program} {w : World} {n : Nat} {l : List (Nat × Value)} {a : Act} {dst : Option Tmp} {ty : TypeId} {pos : String} {aft : Array Edge} {g : Option (Nat × Bool)} {x y : Operand} {p q r : Int} {t yt : TypeId} (H : Fr n l a) (hx : ev l x = some (.int .i64 p)) (hy : ev l y = some (.int .i64 q)) (hq : q ≠ 0) (he : Int.tmod p q = r) : (execOp a.eval ⟨dst, .binOp .rem t x y yt, ty, pos, aft, g⟩).run P w = .ok (.value (.int .i64 r)) w := by
  subst he
  exact r_remI H hx hy hq
theorem less_rem {a : Int} {n : Nat} (ha : 0 ≤ a ∧ a < 256) (hn : 0 < n) : ∃ q : Nat, Int.tmod a (n : Int) = (q : Int) ∧ q < n := by
  obtain ⟨k, rfl⟩ : ∃ k : Nat, a = (k : Int) := ⟨a.toNat, by omega⟩
  exact ⟨k % n, rfl, Nat.mod_lt _ hn⟩
theorem less_len {l : List NM} (h : FewN l 30) (hc : check l = 0) : l.length ≤ 30 := by
  obtain ⟨h1, h2, _⟩ := h
  unfold check at hc
  split at hc
  · cases hc
  · omega
theorem chk_split {h0 : Int} : ∀ (l : List NM) (i : Nat) (d : Int) (q : Nat), q ≤ l.length → chk h0 i d l = 0 → ∃ d', ∀ b, chk h0 i d (l.take q ++ b) = chk h0 (i + q) d' b
  | _, i, d, 0, _, _ => ⟨d, fun b => rfl⟩
  | [], i, d, q + 1, h, _ => by simp at h
  | m :: l, i, d, q + 1, h, hc => by
    have hs : ∀ b, chk h0 i d (m :: (l.take q ++ b)) = chk h0 (i + 1) m.d (l.take q ++ b) ∧ chk h0 (i + 1) m.d l = 0 := by
      intro b
      unfold chk at hc
      have hgo : chk h0 i d (m :: (l.take q ++ b)) = (if right m = false then 1 else if m.h ≠ h0 then 19 else if (i : Int) < m.n then 21 else if m.n < (i : Int) then 5 else if m.d < d then 18 else chk h0 (i + 1) m.d (l.take q ++ b)) := rfl
      rw [hgo]
      by_cases h1 : right m = false
      · rw [if_pos h1] at hc; cases hc
      rw [if_neg h1] at hc ⊢
      by_cases h2 : m.h ≠ h0
      · rw [if_pos h2] at hc; cases hc
      rw [if_neg h2] at hc ⊢
      by_cases h3 : (i : Int) < m.n
      · rw [if_pos h3] at hc; cases hc
      rw [if_neg h3] at hc ⊢
      by_cases h4 : m.n < (i : Int)
      · rw [if_pos h4] at hc; cases hc
      rw [if_neg h4] at hc ⊢
      by_cases h5 : m.d < d
      · rw [if_pos h5] at hc; cases hc
      rw [if_neg h5] at hc ⊢
      exact ⟨rfl, hc⟩
    obtain ⟨d', hd⟩ := chk_split l (i + 1) m.d q (by simpa using h) (hs []).2
    refine ⟨d', fun b => ?_⟩
    have e : (m :: l).take (q + 1) ++ b = m :: (l.take q ++ b) := rfl
    rw [e, (hs b).1, hd b, show i + 1 + q = i + (q + 1) by omega]
theorem hdH_take {l b : List NM} {q : Nat} (hq : 0 < q) (hl : 0 < l.length) : hdH (l.take q ++ b) = hdH l := by
  cases l with
  | nil => simp at hl
  | cons m l => cases q with
    | zero => omega
    | succ q => rfl
theorem check_chk {l : List NM} (h : check l = 0) : chk (hdH l) 0 0 l = 0 := by
  unfold check at h
  split at h
  · cases h
  · exact h
theorem check_le {l : List NM} (h : l.length ≤ 400) : check l = chk (hdH l) 0 0 l := by unfold check; rw [if_neg (by omega)]
section
variable {l : List NM} {q : Nat} (hc : check l = 0) (hl : l.length ≤ 30)
include hc hl
theorem less_1 (hq : q ≤ l.length) : check (l.take q) = 0 := by
  rw [check_le (by rw [List.length_take]; omega)]
  rcases Nat.eq_zero_or_pos q with rfl | h0
  · rfl
  · obtain ⟨d', hd⟩ := chk_split l 0 0 q hq (check_chk hc)
    have h1 := hd []
    have h2 := hdH_take (l := l) (b := []) h0 (by omega)
    rw [List.append_nil] at h1 h2
    rw [h2, h1]; rfl
theorem less_2 (hq : q < l.length) : check (l.take (q + 1) ++ l.drop q) = 5 := by
  rw [check_le (by rw [List.length_append, List.length_take, List.length_drop]; omega)]
  obtain ⟨d', hd⟩ := chk_split l 0 0 (q + 1) (by omega) (check_chk hc)
  rw [hdH_take (by omega) (by omega), hd, List.drop_eq_getElem_cons hq]
  obtain ⟨g1, g2, g3, _⟩ := check_zero hc q _ (List.getElem?_eq_getElem hq)
  unfold chk
  rw [if_neg (by rw [g1]; decide), if_neg (fun h => h g2), if_neg (by rw [g3]; omega), if_pos (by rw [g3]; omega)]
theorem less_3 (hq : q + 1 = l.length) : check (l.take q ++ l.drop (q + 1)) = 0 := by
  rw [List.drop_of_length_le (by omega), List.append_nil]
  exact less_1 hc hl (by omega)
theorem less_4 (hq : q + 1 < l.length) : check (l.take q ++ l.drop (q + 1)) = 21 := by
  rw [check_le (by rw [List.length_append, List.length_take, List.length_drop]; omega)]
  obtain ⟨d', hd⟩ := chk_split l 0 0 q (by omega) (check_chk hc)
  obtain ⟨g1, g2, g3, _⟩ := check_zero hc (q + 1) _ (List.getElem?_eq_getElem hq)
  have hh : hdH (l.take q ++ l.drop (q + 1)) = hdH l := by
    rcases Nat.eq_zero_or_pos q with rfl | h0
    · rw [List.take_zero, List.nil_append, List.drop_eq_getElem_cons hq]; exact g2
    · exact hdH_take h0 (by omega)
  rw [hh, hd, List.drop_eq_getElem_cons hq]
  unfold chk
  rw [if_neg (by rw [g1]; decide), if_neg (fun h => h g2), if_pos (by rw [g3]; omega)]
end
set_option maxRecDepth 20000 in
set_option maxHeartbeats 4000000 in
theorem less_v_ {w : World} (hG : Gr w) {l : List NM} {A1 : Option Addr} {c1 : Nat} (f1 : NotesV w w (.slice A1 l.length c1) l) {a : Int} (ha : 0 ≤ a ∧ a < 256) : Calls Tryd.prog 12 [.slice A1 l.length c1, .int .u8 a].toArray w (Fix (.bool true) w) := by
  refine calls_start Tryd.func12 rfl rfl ?_
  intro az Hz
  rw [Tryd.ntmps12] at Hz
  refine wp_seq_k fun K1 hK1 => ?_
  -- law.go:99
  refine wp_region_lit ?_
  refine L (r_as Hz rfl) Hz rfl ?_
  clear Hz az; intro az Hz
  refine hK1 _ _ ?_
  refine wp_seq_k fun K2 hK2 => ?_
  -- law.go:100
  refine wp_region_lit ?_
  have G3 := Gr.k hG (Only.refl NoF w)
  refine LCV (v := .bool (true)) Hz rfl rfl Tryd.call50 (small37_v G3) rfl fun w4 o5 => ?_
  clear Hz az; intro az Hz
  refine L (r_as Hz rfl) Hz rfl ?_
  clear Hz az; intro az Hz
  refine hK2 _ _ ?_
  refine wp_seq_k fun K6 hK6 => ?_
  refine wp_seq_k fun K7 hK7 => ?_
  -- law.go:101
  refine wp_region_lit ?_
  refine L (r_mv Hz rfl) Hz rfl ?_
  clear Hz az; intro az Hz
  have h8 := (SliceOf.kp f1 o5 (fun _ _ h => h) (fun _ _ _ _ h => h))
  refine LCE Hz rfl rfl Tryd.call51 (rFew_v_ (notes_up h8 o5) (by omega)) rfl fun b11 w9 hs12 o10 => ?_
  clear Hz az; intro az Hz
  refine L (r_not Hz rfl) Hz rfl ?_
  clear Hz az; intro az Hz
  refine L (r_mv Hz rfl) Hz rfl ?_
  clear Hz az; intro az Hz
  refine LG Hz rfl rfl gd_f (fun hb => r_mv Hz rfl) rfl ?_
  clear Hz az; intro az Hz
  have O13 : Only NoF w w9 := (Only.trans' o5 o10)
  have h14 := (SliceOf.kp f1 O13 (fun _ _ h => h) (fun _ _ _ _ h => h))
  refine LGV (v := .int .i64 ((check l))) Hz rfl rfl gd_f rfl (fun hb => (evs_c (evg hb rfl) rfl)) Tryd.call60 (fun hb => Check_v (notes_up h14 O13)) rfl fun w15 o16 => ?_
  clear Hz az; intro az Hz
  refine LG Hz rfl rfl gd_f (fun hb => r_neI Hz (evg hb rfl) rfl) rfl ?_
  clear Hz az; intro az Hz
  refine L (r_or Hz rfl rfl rfl) Hz rfl ?_
  clear Hz az; intro az Hz
  refine L (r_mv Hz rfl) Hz rfl ?_
  clear Hz az; intro az Hz
  refine LG Hz rfl rfl gd_f (fun hb => r_mv Hz rfl) rfl ?_
  clear Hz az; intro az Hz
  refine LG Hz rfl rfl gd_f (fun hb => r_lenL Tryd.underlying51 Hz (evg hb rfl)) rfl ?_
  clear Hz az; intro az Hz
  refine LG Hz rfl rfl gd_f (fun hb => r_eqI Hz (evg hb rfl) rfl) rfl ?_
  clear Hz az; intro az Hz
  refine L (r_or Hz rfl rfl rfl) Hz rfl ?_
  clear Hz az; intro az Hz
  refine hK7 _ _ ?_
  refine br Hz rfl (fun hc17 => ?_) (fun hc17 => ?_)
  · -- if0
    have d18 := hc17
    refine wp_seq_k fun K19 hK19 => ?_
    -- law.go:102
    refine wp_region_lit ?_
    refine L (r_mv Hz rfl) Hz rfl ?_
    clear Hz az; intro az Hz
    refine L (r_as Hz rfl) Hz rfl ?_
    clear Hz az; intro az Hz
    refine hK19 _ _ ?_
    refine wp_ret ?_
    show bodyPost _ _ _ .ret _ _
    refine ret_of (vs := [.bool (true)]) Hz Tryd.results12 ⟨rfl, trivial⟩ ?_
    have O20 : Only NoF w w15 := (Only.trans' O13 o16)
    exact ⟨rfl, O20⟩
  · -- else0
    have q21 : b11 = true := (nt_f (or_f (or_f hc17).1).1)
    have S22 := hs12 q21
    have p23 := of_decide_eq_true (nt_f (or_f (or_f hc17).1).2)
    have p24 := of_decide_eq_false (or_f hc17).2
    have hck := p23
    have hfl := less_len (S22) hck
    obtain ⟨q, hq, hql⟩ := less_rem (n := l.length) ha (by omega)
    refine wp_skip ?_
    refine hK6 _ _ ?_
    refine wp_seq_k fun K25 hK25 => ?_
    -- law.go:104
    refine wp_region_lit ?_
    refine L (r_mv Hz rfl) Hz rfl ?_
    clear Hz az; intro az Hz
    refine L (r_cvJ Tryd.underlying5 Tryd.underlying3 Hz rfl (by omega)) Hz rfl ?_
    clear Hz az; intro az Hz
    refine L (r_mv Hz rfl) Hz rfl ?_
    clear Hz az; intro az Hz
    refine L (r_lenL Tryd.underlying51 Hz rfl) Hz rfl ?_
    clear Hz az; intro az Hz
    refine L (r_remE Hz rfl rfl (by omega) hq) Hz rfl ?_
    clear Hz az; intro az Hz
    refine L (r_as Hz rfl) Hz rfl ?_
    clear Hz az; intro az Hz
    refine hK25 _ _ ?_
    refine wp_seq_k fun K26 hK26 => ?_
    -- law.go:105
    refine reg_p NoF 1 [0, 4, 9] (.rd 1 (.rd 2 (.rd 3 (.rd 5 (.rd 6 (.rd 7 (.rd 8 (.ex 0 (.ex 4 (.ex 9 (.rd 10 .nil))))))))))) (by kernel_rfl) (by kernel_rfl) (fun _ _ _ _ _ h => h) fun w27 o28 => ?_
    refine Pl.MSP (b := false) (by kernel_rfl) (fun W oW => r_mv Hz rfl) Hz rfl rfl ?_
    clear Hz az; intro az Hz
    refine Pl.MSP (b := false) (by kernel_rfl) (fun W oW => r_mv Hz rfl) Hz rfl rfl ?_
    clear Hz az; intro az Hz
    have hl29 : 0 + (List.take q l).length ≤ (l).length := by rw [List.length_take]; omega
    have O31 : Only NoF w w27 := (Only.trans' (Only.trans' O13 o16) o28)
    have h32 := (SliceOf.kp f1 O31 (fun _ _ h => h) (fun _ _ _ _ h => h))
    have hc30 : (List.take q l).length ≤ c1 := Nat.le_trans (by omega) (SliceOf.cap_ h32)
    have h33 := SliceOf.sub (lo := 0) (m := (List.take q l).length) h32 rfl hl29
    rw [List.drop_zero, Nat.sub_zero, show List.take (List.take q l).length l = List.take q l by rw [List.length_take, Nat.min_eq_left (by omega)]] at h33
    refine Pl.MSP (b := false) (by kernel_rfl) (fun W oW => r_slh (m := (List.take q l).length) (size := 5) Tryd.underlying51 Tryd.sizeOf54 Hz rfl rfl (by rw [List.length_take]; omega) hc30) Hz rfl rfl ?_
    clear Hz az; intro az Hz
    refine Pl.MSP (b := false) (by kernel_rfl) (fun W oW => r_mv Hz rfl) Hz rfl rfl ?_
    clear Hz az; intro az Hz
    refine Pl.MSP (b := false) (by kernel_rfl) (fun W oW => r_mv Hz rfl) Hz rfl rfl ?_
    clear Hz az; intro az Hz
    have i34 : I64 (((q : Int) + 1)) := by unfold I64; omega
    refine Pl.MSP (b := false) (by kernel_rfl) (fun W oW => r_addI (r := ((q : Int) + 1)) Hz rfl rfl rfl i34) Hz rfl rfl ?_
    clear Hz az; intro az Hz
    have hl35 : (q + 1) + (List.drop (q + 1) l).length ≤ (l).length := by rw [List.length_drop]; omega
    have h36 := SliceOf.sub (lo := (q + 1)) (m := (List.drop (q + 1) l).length) h32 rfl hl35
    rw [List.take_length] at h36
    refine Pl.MSP (b := false) (by kernel_rfl) (fun W oW => r_slD (lo := (q + 1)) (m := (List.drop (q + 1) l).length) (size := 5) Tryd.underlying51 Tryd.sizeOf54 Hz rfl rfl (by omega) (by omega) List.length_drop.symm) Hz rfl rfl ?_
    clear Hz az; intro az Hz
    obtain ⟨A37, w38, hw, hA, r39, o40⟩ := made0 (w := w27) (e := 54) (size := 5)
    refine Pl.MD (r_bs0 Tryd.underlying51 Tryd.sizeOf54) Hz rfl rfl ?_ ?_
    · rw [← hw]; exact ⟨fun _ => o40, (Only.trans (Only.refl NoF w27) o40 (fun _ h => h.elim))⟩
    rw [← hw, ← hA]; clear Hz az; intro az Hz
    clear hw hA
    have h41 := (SliceOf.kp h33 o40 (fun _ _ h => h) (fun _ _ _ _ h => h))
    have hb49 : (List.length (([] : List NM)) + List.length ((List.take q l))) * 64 ≤ 140737488355328 := by (simp only [List.length_append, List.length_take, List.length_drop, List.length_nil]; omega)
    obtain ⟨A42, c43, w44, hr45, r46, o47, al48⟩ := Row.app (P := Tryd.prog) (l := ([] : List NM)) (l2 := (List.take q l)) (KNote w) elemNote r39 h41 hb49 (by unfold maxLen; omega) (size_only o40)
    simp only [List.nil_append, List.append_nil] at hr45 r46 al48
    refine Pl.MD (r_app hr45 Hz rfl rfl) Hz rfl rfl ?_ ?_
    · exact ⟨fun h => absurd h (by decide), (Only.trans (Only.trans (Only.refl NoF w27) o40 (fun _ h => h.elim)) o47 (fun k h => .inr (Nat.le_trans (Nat.le_refl _) ((ownF_ge r39) k h))))⟩
    clear Hz az; intro az Hz
    have ok50 : ∀ zq ∈ (List.take q l), (KNote w).ok zq := (Row.oks (KNote w) h41)
    have h51 := Row.own (KNote w) r46 ok50
    have O52 : Only NoF w27 w44 := (o_sg o40 o47 (Nat.le_refl _) (ownF_ge r39))
    have h53 := (SliceOf.kp h36 O52 (fun _ _ h => h) (fun _ _ _ _ h => h))
    have hb61 : (List.length ((List.take q l)) + List.length ((List.drop (q + 1) l))) * 64 ≤ 140737488355328 := by (simp only [List.length_append, List.length_take, List.length_drop, List.length_nil]; omega)
    obtain ⟨A54, c55, w56, hr57, r58, o59, al60⟩ := Row.app (P := Tryd.prog) (l := (List.take q l)) (l2 := (List.drop (q + 1) l)) (KNote w) elemNote r46 h53 hb61 (by unfold maxLen; omega) (size_only O52)
    refine Pl.MD (r_app hr57 Hz rfl rfl) Hz rfl rfl ?_ ?_
    · exact ⟨fun h => absurd h (by decide), (Only.trans (Only.trans (Only.trans (Only.refl NoF w27) o40 (fun _ h => h.elim)) o47 (fun k h => .inr (Nat.le_trans (Nat.le_refl _) ((ownF_ge r39) k h)))) o59 (fun k h => .inr (Nat.le_trans (Nat.le_refl _) ((ownF_ge r46) k h))))⟩
    clear Hz az; intro az Hz
    have ok62 : ∀ zq ∈ ((List.take q l) ++ (List.drop (q + 1) l)), (KNote w).ok zq := (fun x hx => (List.mem_append.1 hx).elim (ok50 x) ((Row.oks (KNote w) h53) x))
    have h63 := Row.own (KNote w) r58 ok62
    refine Pl.MSP (b := false) (by kernel_rfl) (fun W oW => r_as Hz rfl) Hz rfl rfl ?_
    clear Hz az; intro az Hz
    refine wpPl_nil ?_
    refine hK26 _ _ ?_
    refine wp_seq_k fun K64 hK64 => ?_
    -- law.go:106
    refine reg_p NoF 1 [0, 5, 9] (.rd 1 (.rd 2 (.rd 3 (.rd 4 (.rd 6 (.rd 7 (.rd 8 (.ex 0 (.ex 5 (.ex 9 (.rd 10 .nil))))))))))) (by kernel_rfl) (by kernel_rfl) (fun _ _ _ _ _ h => h) fun w65 o66 => ?_
    refine Pl.MSP (b := false) (by kernel_rfl) (fun W oW => r_mv Hz rfl) Hz rfl rfl ?_
    clear Hz az; intro az Hz
    refine Pl.MSP (b := false) (by kernel_rfl) (fun W oW => r_mv Hz rfl) Hz rfl rfl ?_
    clear Hz az; intro az Hz
    have i67 : I64 (((q : Int) + 1)) := by unfold I64; omega
    refine Pl.MSP (b := false) (by kernel_rfl) (fun W oW => r_addI (r := ((q : Int) + 1)) Hz rfl rfl rfl i67) Hz rfl rfl ?_
    clear Hz az; intro az Hz
    have hl68 : 0 + (List.take (q + 1) l).length ≤ (l).length := by rw [List.length_take]; omega
    have O70 : Only NoF w w65 := (Only.trans' (o_sg (o_sg (Only.trans' O31 o40) o47 (size_only O31) (ownF_ge r39)) o59 (size_only O31) (ownF_ge r46)) o66)
    have h71 := (SliceOf.kp f1 O70 (fun _ _ h => h) (fun _ _ _ _ h => h))
    have hc69 : (List.take (q + 1) l).length ≤ c1 := Nat.le_trans (by omega) (SliceOf.cap_ h71)
    have h72 := SliceOf.sub (lo := 0) (m := (List.take (q + 1) l).length) h71 rfl hl68
    rw [List.drop_zero, Nat.sub_zero, show List.take (List.take (q + 1) l).length l = List.take (q + 1) l by rw [List.length_take, Nat.min_eq_left (by omega)]] at h72
    refine Pl.MSP (b := false) (by kernel_rfl) (fun W oW => r_slh (m := (List.take (q + 1) l).length) (size := 5) Tryd.underlying51 Tryd.sizeOf54 Hz rfl rfl (by rw [List.length_take]; omega) hc69) Hz rfl rfl ?_
    clear Hz az; intro az Hz
    refine Pl.MSP (b := false) (by kernel_rfl) (fun W oW => r_mv Hz rfl) Hz rfl rfl ?_
    clear Hz az; intro az Hz
    refine Pl.MSP (b := false) (by kernel_rfl) (fun W oW => r_mv Hz rfl) Hz rfl rfl ?_
    clear Hz az; intro az Hz
    have hl73 : q + (List.drop q l).length ≤ (l).length := by rw [List.length_drop]; omega
    have h74 := SliceOf.sub (lo := q) (m := (List.drop q l).length) h71 rfl hl73
    rw [List.take_length] at h74
    refine Pl.MSP (b := false) (by kernel_rfl) (fun W oW => r_slD (lo := q) (m := (List.drop q l).length) (size := 5) Tryd.underlying51 Tryd.sizeOf54 Hz rfl rfl (by omega) (by omega) List.length_drop.symm) Hz rfl rfl ?_
    clear Hz az; intro az Hz
    obtain ⟨A75, w76, hw, hA, r77, o78⟩ := made0 (w := w65) (e := 54) (size := 5)
    refine Pl.MD (r_bs0 Tryd.underlying51 Tryd.sizeOf54) Hz rfl rfl ?_ ?_
    · rw [← hw]; exact ⟨fun _ => o78, (Only.trans (Only.refl NoF w65) o78 (fun _ h => h.elim))⟩
    rw [← hw, ← hA]; clear Hz az; intro az Hz
    clear hw hA
    have h79 := (SliceOf.kp h72 o78 (fun _ _ h => h) (fun _ _ _ _ h => h))
    have hb87 : (List.length (([] : List NM)) + List.length ((List.take (q + 1) l))) * 64 ≤ 140737488355328 := by (simp only [List.length_append, List.length_take, List.length_drop, List.length_nil]; omega)
    obtain ⟨A80, c81, w82, hr83, r84, o85, al86⟩ := Row.app (P := Tryd.prog) (l := ([] : List NM)) (l2 := (List.take (q + 1) l)) (KNote w) elemNote r77 h79 hb87 (by unfold maxLen; omega) (size_only o78)
    simp only [List.nil_append, List.append_nil] at hr83 r84 al86
    refine Pl.MD (r_app hr83 Hz rfl rfl) Hz rfl rfl ?_ ?_
    · exact ⟨fun h => absurd h (by decide), (Only.trans (Only.trans (Only.refl NoF w65) o78 (fun _ h => h.elim)) o85 (fun k h => .inr (Nat.le_trans (Nat.le_refl _) ((ownF_ge r77) k h))))⟩
    clear Hz az; intro az Hz
    have ok88 : ∀ zq ∈ (List.take (q + 1) l), (KNote w).ok zq := (Row.oks (KNote w) h79)
    have h89 := Row.own (KNote w) r84 ok88
    have O90 : Only NoF w65 w82 := (o_sg o78 o85 (Nat.le_refl _) (ownF_ge r77))
    have h91 := (SliceOf.kp h74 O90 (fun _ _ h => h) (fun _ _ _ _ h => h))
    have hb99 : (List.length ((List.take (q + 1) l)) + List.length ((List.drop q l))) * 64 ≤ 140737488355328 := by (simp only [List.length_append, List.length_take, List.length_drop, List.length_nil]; omega)
    obtain ⟨A92, c93, w94, hr95, r96, o97, al98⟩ := Row.app (P := Tryd.prog) (l := (List.take (q + 1) l)) (l2 := (List.drop q l)) (KNote w) elemNote r84 h91 hb99 (by unfold maxLen; omega) (size_only O90)
    refine Pl.MD (r_app hr95 Hz rfl rfl) Hz rfl rfl ?_ ?_
    · exact ⟨fun h => absurd h (by decide), (Only.trans (Only.trans (Only.trans (Only.refl NoF w65) o78 (fun _ h => h.elim)) o85 (fun k h => .inr (Nat.le_trans (Nat.le_refl _) ((ownF_ge r77) k h)))) o97 (fun k h => .inr (Nat.le_trans (Nat.le_refl _) ((ownF_ge r84) k h))))⟩
    clear Hz az; intro az Hz
    have ok100 : ∀ zq ∈ ((List.take (q + 1) l) ++ (List.drop q l)), (KNote w).ok zq := (fun x hx => (List.mem_append.1 hx).elim (ok88 x) ((Row.oks (KNote w) h91) x))
    have h101 := Row.own (KNote w) r96 ok100
    refine Pl.MSP (b := false) (by kernel_rfl) (fun W oW => r_as Hz rfl) Hz rfl rfl ?_
    clear Hz az; intro az Hz
    refine wpPl_nil ?_
    refine hK64 _ _ ?_
    refine wp_seq_k fun K102 hK102 => ?_
    refine wp_seq_k fun K103 hK103 => ?_
    -- law.go:107
    refine wp_region_lit ?_
    refine L (r_mv Hz rfl) Hz rfl ?_
    clear Hz az; intro az Hz
    refine L (r_mv Hz rfl) Hz rfl ?_
    clear Hz az; intro az Hz
    have hl104 : 0 + (List.take q l).length ≤ (l).length := by rw [List.length_take]; omega
    have O106 : Only NoF w w94 := (o_sg (o_sg (Only.trans' O70 o78) o85 (size_only O70) (ownF_ge r77)) o97 (size_only O70) (ownF_ge r84))
    have h107 := (SliceOf.kp f1 O106 (fun _ _ h => h) (fun _ _ _ _ h => h))
    have hc105 : (List.take q l).length ≤ c1 := Nat.le_trans (by omega) (SliceOf.cap_ h107)
    have h108 := SliceOf.sub (lo := 0) (m := (List.take q l).length) h107 rfl hl104
    rw [List.drop_zero, Nat.sub_zero, show List.take (List.take q l).length l = List.take q l by rw [List.length_take, Nat.min_eq_left (by omega)]] at h108
    refine L (r_slh (m := (List.take q l).length) (size := 5) Tryd.underlying51 Tryd.sizeOf54 Hz rfl rfl (by rw [List.length_take]; omega) hc105) Hz rfl ?_
    clear Hz az; intro az Hz
    refine LCV (v := .int .i64 (0)) Hz rfl rfl Tryd.call60 (fix_eq (congrArg (Value.int .i64) (less_1 hck hfl (by omega))) (Check_v (notes_up h108 O106))) rfl fun w109 o110 => ?_
    clear Hz az; intro az Hz
    refine L (r_neRI Hz rfl rfl) Hz rfl ?_
    clear Hz az; intro az Hz
    refine L (r_mv Hz rfl) Hz rfl ?_
    clear Hz az; intro az Hz
    refine LT Hz rfl rfl (r_mv Hz rfl) rfl ?_
    clear Hz az; intro az Hz
    have h111 := (SliceOf.kp h101 o110 (fun _ _ h => h) (fun _ _ _ _ h => h))
    have h112 := SliceOf.pl h111
    have O113 : Only NoF w w109 := (Only.trans' O106 o110)
    refine LGV (v := .int .i64 (5)) Hz rfl rfl gd_f rfl (fun hb => rfl) Tryd.call60 (fun hb => fix_eq (congrArg (Value.int .i64) (less_2 hck hfl hql)) (Check_v (notes_up h112 O113))) rfl fun w114 o115 => ?_
    clear Hz az; intro az Hz
    refine LT Hz rfl rfl (r_neRI Hz rfl rfl) rfl ?_
    clear Hz az; intro az Hz
    refine L (r_pick Hz rfl rfl rfl) Hz rfl ?_
    clear Hz az; intro az Hz
    refine hK103 _ _ ?_
    refine br_false Hz rfl ?_
    refine wp_skip ?_
    refine hK102 _ _ ?_
    refine wp_seq_k fun K116 hK116 => ?_
    refine wp_seq_k fun K117 hK117 => ?_
    -- law.go:110
    refine wp_region_lit ?_
    refine L (r_mv Hz rfl) Hz rfl ?_
    clear Hz az; intro az Hz
    refine L (r_mv Hz rfl) Hz rfl ?_
    clear Hz az; intro az Hz
    refine L (r_lenL Tryd.underlying51 Hz rfl) Hz rfl ?_
    clear Hz az; intro az Hz
    have i118 : I64 ((((l.length : Nat) : Int) - 1)) := by unfold I64; omega
    refine L (r_subI (r := (((l.length : Nat) : Int) - 1)) Hz rfl rfl rfl i118) Hz rfl ?_
    clear Hz az; intro az Hz
    refine L (r_eqI Hz rfl rfl) Hz rfl ?_
    clear Hz az; intro az Hz
    refine hK117 _ _ ?_
    refine br Hz rfl (fun hc119 => ?_) (fun hc119 => ?_)
    · -- if2
      have p120 := of_decide_eq_true hc119
      refine wp_seq_k fun K121 hK121 => ?_
      -- law.go:111
      refine wp_region_lit ?_
      refine L (r_mv Hz rfl) Hz rfl ?_
      clear Hz az; intro az Hz
      refine L (r_mv Hz rfl) Hz rfl ?_
      clear Hz az; intro az Hz
      refine LT Hz rfl rfl (r_mv Hz rfl) rfl ?_
      clear Hz az; intro az Hz
      have O122 : Only NoF w56 w114 := (Only.trans' (Only.trans' (o_sg (o_sg (Only.trans' o66 o78) o85 (size_only o66) (ownF_ge r77)) o97 (size_only o66) (ownF_ge r84)) o110) o115)
      have h123 := (SliceOf.kp h63 O122 (fun _ _ h => h) (fun _ _ _ _ h => h))
      have h124 := SliceOf.pl h123
      have O125 : Only NoF w w114 := (Only.trans' O113 o115)
      refine LGV (v := .int .i64 (0)) Hz rfl rfl gd_t rfl (fun hb => rfl) Tryd.call60 (fun hb => fix_eq (congrArg (Value.int .i64) (less_3 hck hfl (by omega))) (Check_v (notes_up h124 O125))) rfl fun w126 o127 => ?_
      clear Hz az; intro az Hz
      refine LT Hz rfl rfl (r_eqRI Hz rfl rfl) rfl ?_
      clear Hz az; intro az Hz
      refine L (r_pick Hz rfl rfl rfl) Hz rfl ?_
      clear Hz az; intro az Hz
      refine L (r_as Hz rfl) Hz rfl ?_
      clear Hz az; intro az Hz
      refine hK121 _ _ ?_
      refine wp_ret ?_
      show bodyPost _ _ _ .ret _ _
      refine ret_of (vs := [.bool (true)]) Hz Tryd.results12 ⟨rfl, trivial⟩ ?_
      have O128 : Only NoF w w126 := (Only.trans' O125 o127)
      exact ⟨rfl, O128⟩
    · -- else2
      have p129 := of_decide_eq_false hc119
      refine wp_skip ?_
      refine hK116 _ _ ?_
      refine wp_seq_k fun K130 hK130 => ?_
      -- law.go:113
      refine wp_region_lit ?_
      refine L (r_mv Hz rfl) Hz rfl ?_
      clear Hz az; intro az Hz
      refine L (r_mv Hz rfl) Hz rfl ?_
      clear Hz az; intro az Hz
      refine LT Hz rfl rfl (r_mv Hz rfl) rfl ?_
      clear Hz az; intro az Hz
      have O131 : Only NoF w56 w114 := (Only.trans' (Only.trans' (o_sg (o_sg (Only.trans' o66 o78) o85 (size_only o66) (ownF_ge r77)) o97 (size_only o66) (ownF_ge r84)) o110) o115)
      have h132 := (SliceOf.kp h63 O131 (fun _ _ h => h) (fun _ _ _ _ h => h))
      have h133 := SliceOf.pl h132
      have O134 : Only NoF w w114 := (Only.trans' O113 o115)
      refine LGV (v := .int .i64 (21)) Hz rfl rfl gd_t rfl (fun hb => rfl) Tryd.call60 (fun hb => fix_eq (congrArg (Value.int .i64) (less_4 hck hfl (by omega))) (Check_v (notes_up h133 O134))) rfl fun w135 o136 => ?_
      clear Hz az; intro az Hz
      refine LT Hz rfl rfl (r_eqRI Hz rfl rfl) rfl ?_
      clear Hz az; intro az Hz
      refine L (r_pick Hz rfl rfl rfl) Hz rfl ?_
      clear Hz az; intro az Hz
      refine L (r_as Hz rfl) Hz rfl ?_
      clear Hz az; intro az Hz
      refine hK130 _ _ ?_
      refine wp_ret ?_
      show bodyPost _ _ _ .ret _ _
      refine ret_of (vs := [.bool (true)]) Hz Tryd.results12 ⟨rfl, trivial⟩ ?_
      have O137 : Only NoF w w135 := (Only.trans' O134 o136)
      exact ⟨rfl, O137⟩

theorem wf_U8 {n : Int} (h : (Lit.int .u8 n).wf = true) : 0 ≤ n ∧ n < 256 := by
  have : 0 ≤ n ∧ n ≤ 255 := by simpa [Lit.wf, IntKind.min, IntKind.max, IntKind.signed, IntKind.bits] using h
  omega
theorem less_v {w : World} (hG : Gr w) {v : Value} {l : List NM} (h : NotesV w w v l) {a : Int} (ha : 0 ≤ a ∧ a < 256) : Calls Tryd.prog 12 #[v, .int .u8 a] w (Fix (.bool true) w) := by
  obtain ⟨A1, c1, rfl, _⟩ := SliceOf.shape h
  exact less_v_ hG h ha
end Go.Proofs.YtgmnoianhonihaaDoor
