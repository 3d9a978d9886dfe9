/-
  LinkConserves, walked: it returns true. No condition.
-/
import Derived.Test.YtocbfobakmieoaaLkV1
namespace Go.Proofs.Ytocbfobakmieoaa
set_option linter.unusedVariables false
set_option linter.unusedSimpArgs false
set_option linter.unusedSectionVars false
open Go.RowKit

set_option maxHeartbeats 4000000 in
theorem conserves_v {w : World} {a : Air} {l : List Ev} {m : Msg} {A1 A2 A3 : Option Addr} {c1 c2 c3 : Nat} (f1 : Msgs w (.slice A1 a.ms.length c1) a.ms) (f2 : Prs w (.slice A2 a.cs.length c2) a.cs) (f3 : Evs w (.slice A3 l.length c3) l) (hm : MsgOk m) :
    Calls Try.prog 4 [.agg #[.slice A1 a.ms.length c1, .slice A2 a.cs.length c2], .slice A3 l.length c3, .agg #[.int .i64 m.a, .int .i64 m.b, strV m.t]].toArray w (BoolTo w true) := by
  refine calls_start Try.func4 rfl rfl ?_
  intro az Hz
  rw [Try.ntmps4] at Hz
  refine wp_seq_k fun K1 hK1 => ?_
  -- law.go:78
  refine wp_region_lit ?_
  refine LBox Hz rfl rfl rfl ?_
  clear Hz az; intro g2 w3 hg6 hl7 o4 B5 az Hz
  refine LBox Hz rfl rfl rfl ?_
  clear Hz az; intro g8 w9 hg12 hl13 o10 B11 az Hz
  refine L (r_as Hz rfl) Hz rfl ?_
  clear Hz az; intro az Hz
  refine hK1 _ _ ?_
  refine wp_seq_k fun K14 hK14 => ?_
  -- law.go:79
  refine wp_region_lit ?_
  refine LCV (v := .bool (true)) Hz rfl rfl Try.call8 (l38sane_c) rfl fun w15 o16 => ?_
  clear Hz az; intro az Hz
  refine L (r_as Hz rfl) Hz rfl ?_
  clear Hz az; intro az Hz
  refine hK14 _ _ ?_
  refine wp_seq_k fun K17 hK17 => ?_
  refine wp_seq_k fun K18 hK18 => ?_
  -- law.go:80
  refine wp_region_lit ?_
  have B19 := (Blk.k (Blk.k B5 o10) o16)
  refine L (r_ldA Try.isAgg25 Try.sizeOf25 Hz rfl (Blk.ca B19) rfl) Hz rfl ?_
  clear Hz az; intro az Hz
  have O20 : Only NoF w w15 := (Only.trans' (Only.trans' o4 o10) o16)
  have h21 := (SliceOf.kp f1 O20 (fun _ _ h => h) (fun _ _ _ _ h => h))
  have h22 := (SliceOf.kp f2 O20 (fun _ _ h => h) (fun _ _ _ _ h => h))
  refine LCE Hz rfl rfl Try.call9 (kFew_c (show AirV _ _ a from ⟨_, _, rfl, h21, h22⟩) 20 (by omega)) rfl fun b25 w23 hs26 o24 => ?_
  clear Hz az; intro az Hz
  refine L (r_not Hz rfl) Hz rfl ?_
  clear Hz az; intro az Hz
  refine L (r_mv Hz rfl) Hz rfl ?_
  clear Hz az; intro az Hz
  refine LG Hz rfl rfl gd_f (fun hb => r_mv Hz rfl) rfl ?_
  clear Hz az; intro az Hz
  have O27 : Only NoF w w23 := (Only.trans' O20 o24)
  have h28 := (SliceOf.kp f3 O27 (fun _ _ h => h) (fun _ _ _ _ h => h))
  refine LGE Hz rfl rfl gd_f rfl (fun hb => (evs_c (evg hb rfl) (evs_c rfl rfl))) Try.call10 (fun hb => kFewE_c h28 30 (by omega)) rfl fun b31 w29 hs32 o30 => ?_
  clear Hz az; intro az Hz
  refine LG Hz rfl rfl gd_f (fun hb => r_not Hz (evg hb rfl)) rfl ?_
  clear Hz az; intro az Hz
  refine L (r_or Hz rfl rfl rfl) Hz rfl ?_
  clear Hz az; intro az Hz
  refine L (r_mv Hz rfl) Hz rfl ?_
  clear Hz az; intro az Hz
  refine LG Hz rfl rfl gd_f (fun hb => r_fa (m' := 2) Try.underlying27 rfl Try.sizeOf9 rfl Hz rfl rfl) rfl ?_
  clear Hz az; intro az Hz
  have B33 := (Blk.k (Blk.k (Blk.k B11 o16) o24) o30)
  refine LG Hz rfl rfl gd_f (fun hb => r_ld Try.isAgg9 Hz (evg hb rfl) ((Blk.ca B33) 2 _ rfl)) rfl ?_
  clear Hz az; intro az Hz
  refine LG Hz rfl rfl gd_f (fun hb => r_lenS Try.underlying9 Hz (evg hb rfl)) rfl ?_
  clear Hz az; intro az Hz
  refine LG Hz rfl rfl gd_f (fun hb => r_gtI Hz (evg hb rfl) rfl) rfl ?_
  clear Hz az; intro az Hz
  refine L (r_or Hz rfl rfl rfl) Hz rfl ?_
  clear Hz az; intro az Hz
  refine L (r_mv Hz rfl) Hz rfl ?_
  clear Hz az; intro az Hz
  have B34 := (Blk.k (Blk.k B19 o24) o30)
  refine LG Hz rfl rfl gd_f (fun hb => r_ldA Try.isAgg25 Try.sizeOf25 Hz rfl (Blk.ca B34) rfl) rfl ?_
  clear Hz az; intro az Hz
  have O35 : Only NoF w15 w29 := (Only.trans' o24 o30)
  have h36 := (SliceOf.kp h21 O35 (fun _ _ h => h) (fun _ _ _ _ h => h))
  have h37 := (SliceOf.kp h22 O35 (fun _ _ h => h) (fun _ _ _ _ h => h))
  refine LGV (v := .bool (Lnk.right a)) Hz rfl rfl gd_f rfl (fun hb => (evs_c (evg hb rfl) rfl)) Try.call28 (fun hb => nRightA_c (show AirV _ _ a from ⟨_, _, rfl, h36, h37⟩)) rfl fun w38 o39 => ?_
  clear Hz az; intro az Hz
  refine LG Hz rfl rfl gd_f (fun hb => r_not Hz (evg hb rfl)) rfl ?_
  clear Hz az; intro az Hz
  refine L (r_or Hz rfl rfl rfl) Hz rfl ?_
  clear Hz az; intro az Hz
  refine hK18 _ _ ?_
  refine br Hz rfl (fun hc40 => ?_) (fun hc40 => ?_)
  · -- if0
    have d41 := hc40
    refine wp_seq_k fun K42 hK42 => ?_
    -- law.go:81
    refine wp_region_lit ?_
    refine L (r_mv Hz rfl) Hz rfl ?_
    clear Hz az; intro az Hz
    refine L (r_as Hz rfl) Hz rfl ?_
    clear Hz az; intro az Hz
    refine hK42 _ _ ?_
    refine wp_ret ?_
    show bodyPost _ _ _ .ret _ _
    refine ret_of (vs := [.bool (true)]) Hz Try.results4 ⟨rfl, trivial⟩ ?_
    have O43 : Only NoF w w38 := (Only.trans' (Only.trans' O27 o30) o39)
    exact ⟨rfl, O43⟩
  · -- else0
    have q44 : b25 = true := (nt_f (or_f (or_f (or_f hc40).1).1).1)
    have S45 := hs26 q44
    have q46 : b31 = true := (nt_f (or_f (or_f (or_f hc40).1).1).2)
    have S47 := hs32 (by simp [q44]) q46
    have p48 := of_decide_eq_false (or_f (or_f hc40).1).2
    have q49 : Lnk.right a = true := (nt_f (or_f hc40).2)
    obtain ⟨few1, few2, few3⟩ := S45; obtain ⟨fwe1, fwe2⟩ := S47
    have hmt : (m.t.length : Int) ≤ 100 := by omega
    refine wp_skip ?_
    refine hK17 _ _ ?_
    refine wp_seq_k fun K50 hK50 => ?_
    -- law.go:83
    refine wp_region_lit ?_
    have B51 := (Blk.k B34 o39)
    refine L (r_ldA Try.isAgg25 Try.sizeOf25 Hz rfl (Blk.ca B51) rfl) Hz rfl ?_
    clear Hz az; intro az Hz
    refine L (r_mv Hz rfl) Hz rfl ?_
    clear Hz az; intro az Hz
    have h52 := (SliceOf.kp h36 o39 (fun _ _ h => h) (fun _ _ _ _ h => h))
    have h53 := (SliceOf.kp h37 o39 (fun _ _ h => h) (fun _ _ _ _ h => h))
    have O54 : Only NoF w23 w38 := (Only.trans' o30 o39)
    have h55 := (SliceOf.kp h28 O54 (fun _ _ h => h) (fun _ _ _ _ h => h))
    refine LC Hz rfl rfl Try.call24 (Run_v (show AirV _ _ a from ⟨_, _, rfl, h52, h53⟩) h55 q49 (by omega)) rfl ?_
    rintro e w69 ⟨A56, c60, A57, c61, A58, c62, A59, c63, rfl, f64, f65, f66, f67, o68⟩; refine ⟨_, rfl, ?_⟩
    clear Hz az; intro az Hz
    have hlen := Lnk.runs_len l a
    refine L (r_mv Hz rfl) Hz rfl ?_
    clear Hz az; intro az Hz
    refine L (r_ex Hz rfl rfl) Hz rfl ?_
    clear Hz az; intro az Hz
    refine L (r_ex Hz rfl rfl) Hz rfl ?_
    clear Hz az; intro az Hz
    refine L (r_ex Hz rfl rfl) Hz rfl ?_
    clear Hz az; intro az Hz
    refine LAl (v := .agg #[.slice none (0) 0, .slice none (0) 0]) zeroAir Hz rfl rfl ?_
    clear Hz az; intro g70 w71 hg74 hl75 o72 B73 az Hz
    refine LSt (cs' := [.slice A56 ((Lnk.runs a l).1.ms.length) c60, .slice A57 ((Lnk.runs a l).1.cs.length) c61]) Try.sizeOf25 Hz rfl rfl rfl rfl rfl ⟨rfl, rfl, trivial⟩ B73 rfl rfl fun w76 s77 B78 => ?_
    refine L (r_as Hz rfl) Hz rfl ?_
    clear Hz az; intro az Hz
    refine L (r_as Hz rfl) Hz rfl ?_
    clear Hz az; intro az Hz
    refine hK50 _ _ ?_
    refine wp_seq_k fun K79 hK79 => ?_
    refine wp_seq_k fun K80 hK80 => ?_
    -- law.go:84
    refine wp_region_lit ?_
    refine L (r_mv Hz rfl) Hz rfl ?_
    clear Hz az; intro az Hz
    refine L (r_lenL Try.underlying40 Hz rfl) Hz rfl ?_
    clear Hz az; intro az Hz
    refine L (r_mv Hz rfl) Hz rfl ?_
    clear Hz az; intro az Hz
    refine L (r_lenL Try.underlying28 Hz rfl) Hz rfl ?_
    clear Hz az; intro az Hz
    refine L (r_neI Hz rfl rfl) Hz rfl ?_
    clear Hz az; intro az Hz
    refine L (r_mv Hz rfl) Hz rfl ?_
    clear Hz az; intro az Hz
    refine LG Hz rfl rfl gd_f (fun hb => r_ldA Try.isAgg25 Try.sizeOf25 Hz rfl (Blk.ca B78) rfl) rfl ?_
    clear Hz az; intro az Hz
    have O81 : Only NoF w69 w76 := (o_st o72 s77 hg74)
    have h82 := (SliceOf.kp f64 O81 (fun _ _ h => h) (fun _ _ _ _ h => h))
    have h83 := SliceOf.pl h82
    have h84 := (SliceOf.kp f65 O81 (fun _ _ h => h) (fun _ _ _ _ h => h))
    have h85 := SliceOf.pl h84
    refine LGV (v := .bool (Lnk.right (Lnk.runs a l).1)) Hz rfl rfl gd_f rfl (fun hb => (evs_c (evg hb rfl) rfl)) Try.call28 (fun hb => nRightA_c (show AirV _ _ (Lnk.runs a l).1 from ⟨_, _, rfl, h83, h85⟩)) rfl fun w86 o87 => ?_
    clear Hz az; intro az Hz
    refine LG Hz rfl rfl gd_f (fun hb => r_not Hz (evg hb rfl)) rfl ?_
    clear Hz az; intro az Hz
    refine L (r_or Hz rfl rfl rfl) Hz rfl ?_
    clear Hz az; intro az Hz
    refine hK80 _ _ ?_
    refine br Hz rfl (fun hc88 => ?_) (fun hc88 => ?_)
    · -- if1
      have d89 := hc88
      rcases or_t hc88 with h | h
      · have := of_decide_eq_false (nt_t h); omega
      · have h2 := Lnk.right_runs (l := l) q49; rw [nt_t h] at h2; cases h2
    · -- else1
      have p90 := of_decide_eq_true (nt_f (or_f hc88).1)
      have q91 : Lnk.right (Lnk.runs a l).1 = true := (nt_f (or_f hc88).2)
      refine wp_skip ?_
      refine hK79 _ _ ?_
      refine wp_seq_k fun K92 hK92 => ?_
      -- law.go:87
      refine wp_region_lit ?_
      refine L (r_as Hz rfl) Hz rfl ?_
      clear Hz az; intro az Hz
      refine hK92 _ _ ?_
      refine wp_seq_k fun K93 hK93 => ?_
      -- law.go:88
      refine wp_region_lit ?_
      refine L (r_as Hz rfl) Hz rfl ?_
      clear Hz az; intro az Hz
      refine hK93 _ _ ?_
      refine wp_seq_k fun K94 hK94 => ?_
      -- law.go:89
      refine wp_region_lit ?_
      have O96 : Only NoF w3 w69 := (Only.trans' (Only.trans' (Only.trans' (Only.trans' (Only.trans' o10 o16) o24) o30) o39) o68)
      have ne95 : g2 ≠ g70 := (ne_of hl7 (Nat.le_trans (size_only O96) hg74))
      have B97 := (Blk.k (Blk.st (Blk.k (Blk.k B51 o68) o72) s77 ne95) o87)
      refine L (r_ldA Try.isAgg25 Try.sizeOf25 Hz rfl (Blk.ca B97) rfl) Hz rfl ?_
      clear Hz az; intro az Hz
      refine LAl (v := .agg #[.slice none (0) 0, .slice none (0) 0]) zeroAir Hz rfl rfl ?_
      clear Hz az; intro g98 w99 hg102 hl103 o100 B101 az Hz
      refine LSt (cs' := [.slice A1 (a.ms.length) c1, .slice A2 (a.cs.length) c2]) Try.sizeOf25 Hz rfl rfl rfl rfl rfl ⟨rfl, rfl, trivial⟩ B101 rfl rfl fun w104 s105 B106 => ?_
      refine hK94 _ _ ?_
      refine wp_seq_k fun K107 hK107 => ?_
      refine wp_seq_k fun K108 hK108 => ?_
      -- law.go:90
      refine wp_region_lit ?_
      refine L (r_as Hz rfl) Hz rfl ?_
      clear Hz az; intro az Hz
      refine hK108 _ _ ?_
      refine wp_block ?_
      refine wp_loop_m (fun mz az W => ∃ k : Nat, ∃ mo : Int, ∃ go : Int, ∃ C : Air, ∃ Z1 : Option Addr, ∃ z1 : Nat, ∃ Z2 : Option Addr, ∃ z2 : Nat, mz = l.length - k ∧ Fr 190 [(1, .slice A3 (l.length) c3), (3, .pointer (some (⟨g2, 0, none⟩))), (5, .pointer (some (⟨g8, 0, none⟩))), (7, .bool (true)), (8, .pointer (some (⟨g70, 0, none⟩))), (9, .slice A58 (((Lnk.runs a l).2.1).length) c62), (10, .slice A59 (((Lnk.runs a l).2.2).length) c63), (13, .pointer (some (⟨g98, 0, none⟩))), (14, .int .i64 ((k : Int))), (11, .int .i64 (mo)), (12, .int .i64 (go))] az ∧ (k ≤ l.length) ∧ (C = (Lnk.runs a (l.take k)).1) ∧ (mo = (Lnk.mores a (l.take k) m : Nat)) ∧ (go = (Lnk.gones a (l.take k) m : Nat)) ∧ Only (oneF g98) w104 W ∧ Blk W g98 25 [.slice Z1 (C.ms.length) z1, .slice Z2 (C.cs.length) z2].toArray ∧ SliceOf (neB g98) 3 RMsg W (.slice Z1 C.ms.length z1) C.ms ∧ SliceOf (neB g98) 2 RPr W (.slice Z2 C.cs.length z2) C.cs) ?_ ?_
      · -- start
        have O109 : Only NoF w38 w86 := (Only.trans' (o_st (Only.trans' o68 o72) s77 (Nat.le_trans (size_only o68) hg74)) o87)
        have O110 : Only NoF w38 w104 := (o_st (Only.trans' (Only.trans' (o_st (Only.trans' o68 o72) s77 (Nat.le_trans (size_only o68) hg74)) o87) o100) s105 (Nat.le_trans (size_only O109) hg102))
        have h111 := (SliceOf.kp h52 O110 (fun _ _ h => h) (fun _ _ _ _ h => h))
        have h112 := (SliceOf.kp h52 O109 (fun _ _ h => h) (fun _ _ _ _ h => h))
        have h113 := SliceOf.sup (SliceOf.lt_ h112) (S' := neB g98) (fun q hq => Nat.ne_of_lt (Nat.lt_of_lt_of_le hq hg102))
        have O114 : Only NoF w86 w104 := (o_st o100 s105 hg102)
        have h115 := (SliceOf.kp h113 O114 (fun _ _ h => h) (fun _ _ _ _ h => h))
        have h116 := (SliceOf.kp h53 O110 (fun _ _ h => h) (fun _ _ _ _ h => h))
        have h117 := (SliceOf.kp h53 O109 (fun _ _ h => h) (fun _ _ _ _ h => h))
        have h118 := SliceOf.sup (SliceOf.lt_ h117) (S' := neB g98) (fun q hq => Nat.ne_of_lt (Nat.lt_of_lt_of_le hq hg102))
        have h119 := (SliceOf.kp h118 O114 (fun _ _ h => h) (fun _ _ _ _ h => h))
        exact ⟨_, 0, 0, 0, a, A1, c1, A2, c2, rfl, Hz.cut ⟨rfl, rfl, rfl, rfl, rfl, rfl, rfl, rfl, rfl, rfl, rfl, trivial⟩, Nat.zero_le _, rfl, rfl, rfl, (Only.refl (oneF g98) w104), B106, h115, h119⟩
      clear Hz az
      rintro mz az w120 ⟨k, mo, go, C, Z1, z1, Z2, z2, hm122, Hz, hk, hC, hmo, hgo, o121, B123, fZ1, fZ2⟩
      have hmb : 0 ≤ mo ∧ mo ≤ k := by have h := Lnk.mores_le m (l.take k) a; rw [List.length_take] at h; omega
      have hgb : 0 ≤ go ∧ go ≤ k := by have h := Lnk.gones_le m (l.take k) a; rw [List.length_take] at h; omega
      have hrt : Lnk.right C = true := by rw [hC]; exact Lnk.right_runs q49
      have hcs : C.cs.length ≤ a.cs.length + k := by rw [hC]; exact Lnk.cuts_st a l hk
      refine wp_seq_k fun K124 hK124 => ?_
      refine wp_seq_k fun K125 hK125 => ?_
      -- law.go:90
      refine wp_region_lit ?_
      refine L (r_mv Hz rfl) Hz rfl ?_
      clear Hz az; intro az Hz
      refine L (r_mv Hz rfl) Hz rfl ?_
      clear Hz az; intro az Hz
      refine L (r_lenL Try.underlying28 Hz rfl) Hz rfl ?_
      clear Hz az; intro az Hz
      refine L (r_ltI Hz rfl rfl) Hz rfl ?_
      clear Hz az; intro az Hz
      refine hK125 _ _ ?_
      refine br Hz rfl (fun hc126 => ?_) (fun hc126 => ?_)
      · -- if2
        have p127 := of_decide_eq_true hc126
        refine wp_skip ?_
        refine hK124 _ _ ?_
        refine wp_seq_k fun K128 hK128 => ?_
        refine wp_block ?_
        refine wp_seq_k fun K129 hK129 => ?_
        -- law.go:91
        refine wp_region_lit ?_
        refine L (r_mv Hz rfl) Hz rfl ?_
        clear Hz az; intro az Hz
        refine L (r_mv Hz rfl) Hz rfl ?_
        clear Hz az; intro az Hz
        have O136 : Only NoF w38 w86 := (Only.trans' (o_st (Only.trans' o68 o72) s77 (Nat.le_trans (size_only o68) hg74)) o87)
        have O137 : Only NoF w38 w120 := (o_st (o_st (Only.trans' (Only.trans' (o_st (Only.trans' o68 o72) s77 (Nat.le_trans (size_only o68) hg74)) o87) o100) s105 (Nat.le_trans (size_only O136) hg102)) o121 (Nat.le_trans (size_only O136) hg102))
        have h138 := (SliceOf.kp h55 O137 (fun _ _ h => h) (fun _ _ _ _ h => h))
        have hk135 : k < (l).length := by omega
        obtain ⟨m130, hm131, ok132, hA133, E134⟩ := Evs.el h138 hk135
        refine L (r_ia (k := k) (size := 4) Try.underlying28 Try.sizeOf48 Hz rfl rfl rfl hk135 hA133) Hz rfl ?_
        clear Hz az; intro az Hz
        refine L (r_ldA Try.isAgg48 Try.sizeOf48 Hz rfl (E134 _ (Only.refl NoF w120)) rfl) Hz rfl ?_
        clear Hz az; intro az Hz
        refine LAl (v := .agg #[.int .i64 (0), .int .i64 (0), .int .i64 (0), strV ([])]) zeroEv Hz rfl rfl ?_
        clear Hz az; intro g139 w140 hg143 hl144 o141 B142 az Hz
        refine LSt (cs' := [.int .i64 (m130.k), .int .i64 (m130.a), .int .i64 (m130.b), strV (m130.t)]) Try.sizeOf48 Hz rfl rfl rfl rfl rfl ⟨rfl, rfl, rfl, rfl, trivial⟩ B142 rfl rfl fun w145 s146 B147 => ?_
        refine hK129 _ _ ?_
        refine wp_join (fun az W => ∃ mo1 : Int, ∃ go1 : Int, Fr 190 [(1, .slice A3 (l.length) c3), (3, .pointer (some (⟨g2, 0, none⟩))), (5, .pointer (some (⟨g8, 0, none⟩))), (7, .bool (true)), (8, .pointer (some (⟨g70, 0, none⟩))), (9, .slice A58 (((Lnk.runs a l).2.1).length) c62), (10, .slice A59 (((Lnk.runs a l).2.2).length) c63), (13, .pointer (some (⟨g98, 0, none⟩))), (14, .int .i64 ((k : Int))), (15, .pointer (some (⟨g139, 0, none⟩))), (55, .int .i64 ((k : Int))), (56, .slice A3 (l.length) c3), (57, .int .i64 ((l.length : Nat))), (58, .bool (decide ((k : Int) < (l.length : Nat)))), (61, .slice A3 (l.length) c3), (62, .int .i64 ((k : Int))), (63, .pointer (some (eA A3 4 (k)))), (64, .agg #[.int .i64 (m130.k), .int .i64 (m130.a), .int .i64 (m130.b), strV (m130.t)]), (11, .int .i64 (mo1)), (12, .int .i64 (go1))] az ∧ (mo1 + (if (Lnk.do_ C m130).2.2 = 0 ∧ m130.k = 0 ∧ (⟨m130.a, m130.b, m130.t⟩ : Msg) = m then 1 else 0) = mo + (Lnk.more C m130 m : Nat)) ∧ (go1 = go + (Lnk.gone C m130 m : Nat)) ∧ Only NoF w145 W) ?_ ?_
        · -- to the join
          refine wp_seq_k fun K148 hK148 => ?_
          -- law.go:92
          refine wp_region_lit ?_
          refine L (r_mv Hz rfl) Hz rfl ?_
          clear Hz az; intro az Hz
          refine L (r_mv Hz rfl) Hz rfl ?_
          clear Hz az; intro az Hz
          have O155 : Only NoF w69 w86 := (Only.trans' O81 o87)
          have O156 : Only NoF w69 w120 := (o_st (o_st (Only.trans' O155 o100) s105 (Nat.le_trans (size_only O155) hg102)) o121 (Nat.le_trans (size_only O155) hg102))
          have O157 : Only NoF w69 w145 := (o_st (Only.trans' (o_st (o_st (Only.trans' (Only.trans' O81 o87) o100) s105 (Nat.le_trans (size_only O155) hg102)) o121 (Nat.le_trans (size_only O155) hg102)) o141) s146 (Nat.le_trans (size_only O156) hg143))
          have h158 := (SliceOf.kp f67 O157 (fun _ _ h => h) (fun _ _ _ _ h => h))
          have hk154 : k < ((Lnk.runs a l).2.2).length := by omega
          obtain ⟨m149, hm150, ok151, hA152, E153⟩ := Errs.el h158 hk154
          refine L (r_ia (k := k) (size := 1) Try.underlying40 Try.sizeOf32 Hz rfl rfl rfl hk154 hA152) Hz rfl ?_
          clear Hz az; intro az Hz
          refine L (r_ld Try.isAgg32 Hz rfl (CA.first (E153 _ (Only.refl NoF w145)))) Hz rfl ?_
          clear Hz az; intro az Hz
          refine L (r_eqI Hz rfl rfl) Hz rfl ?_
          clear Hz az; intro az Hz
          refine L (r_mv Hz rfl) Hz rfl ?_
          clear Hz az; intro az Hz
          refine LG Hz rfl rfl gd_t (fun hb => r_fa (m' := 0) Try.underlying48 rfl Try.sizeOf3 rfl Hz rfl rfl) rfl ?_
          clear Hz az; intro az Hz
          refine LG Hz rfl rfl gd_t (fun hb => r_ld Try.isAgg3 Hz (evg hb rfl) ((Blk.ca B147) 0 _ rfl)) rfl ?_
          clear Hz az; intro az Hz
          refine LG Hz rfl rfl gd_t (fun hb => r_eqI Hz (evg hb rfl) rfl) rfl ?_
          clear Hz az; intro az Hz
          refine LG Hz rfl rfl gd_t (fun hb => r_mv Hz (evg hb rfl)) rfl ?_
          clear Hz az; intro az Hz
          refine LG Hz rfl rfl gd_gf (fun hb => r_fa (m' := 0) Try.underlying48 rfl Try.sizeOf3 rfl Hz rfl rfl) rfl ?_
          clear Hz az; intro az Hz
          refine LG Hz rfl rfl gd_gf (fun hb => r_ld Try.isAgg3 Hz (evg hb rfl) ((Blk.ca B147) 0 _ rfl)) rfl ?_
          clear Hz az; intro az Hz
          refine LG Hz rfl rfl gd_gf (fun hb => r_eqI Hz (evg hb rfl) rfl) rfl ?_
          clear Hz az; intro az Hz
          refine LG Hz rfl rfl gd_t (fun hb => r_or Hz (evg hb rfl) rfl (evgc hb rfl)) rfl ?_
          clear Hz az; intro az Hz
          refine L (r_and Hz rfl rfl rfl) Hz rfl ?_
          clear Hz az; intro az Hz
          refine hK148 _ _ ?_
          refine br Hz rfl (fun hc159 => ?_) (fun hc159 => ?_)
          · -- if3
            have p160 := of_decide_eq_true (and_t hc159).1
            have d161 := (and_t hc159).2
            refine wp_seq_k fun K162 hK162 => ?_
            refine wp_seq_k fun K163 hK163 => ?_
            -- law.go:93
            refine wp_region_lit ?_
            refine L (r_fa (m' := 1) Try.underlying48 rfl Try.sizeOf3 rfl Hz rfl rfl) Hz rfl ?_
            clear Hz az; intro az Hz
            refine L (r_ld Try.isAgg3 Hz rfl ((Blk.ca B147) 1 _ rfl)) Hz rfl ?_
            clear Hz az; intro az Hz
            refine L (r_ltI Hz rfl rfl) Hz rfl ?_
            clear Hz az; intro az Hz
            refine L (r_mv Hz rfl) Hz rfl ?_
            clear Hz az; intro az Hz
            refine LG Hz rfl rfl gd_f (fun hb => r_fa (m' := 1) Try.underlying48 rfl Try.sizeOf3 rfl Hz rfl rfl) rfl ?_
            clear Hz az; intro az Hz
            refine LG Hz rfl rfl gd_f (fun hb => r_ld Try.isAgg3 Hz (evg hb rfl) ((Blk.ca B147) 1 _ rfl)) rfl ?_
            clear Hz az; intro az Hz
            refine LG Hz rfl rfl gd_f (fun hb => r_fa (m' := 0) Try.underlying25 rfl Try.sizeOf22 rfl Hz rfl rfl) rfl ?_
            clear Hz az; intro az Hz
            have ne164 : g98 ≠ g139 := (ne_of hl103 (Nat.le_trans (size_only (Only.trans (Only.trans (Only.refl (fun _ => True) w99) s105 (fun _ _ => .inl trivial)) o121 (fun _ _ => .inl trivial))) hg143))
            have B165 := (Blk.st (Blk.k B123 o141) s146 ne164)
            refine LG Hz rfl rfl gd_f (fun hb => r_ld Try.isAgg22 Hz (evg hb rfl) ((Blk.ca B165) 0 _ rfl)) rfl ?_
            clear Hz az; intro az Hz
            refine LG Hz rfl rfl gd_f (fun hb => r_lenL Try.underlying22 Hz (evg hb rfl)) rfl ?_
            clear Hz az; intro az Hz
            refine LG Hz rfl rfl gd_f (fun hb => r_geI Hz (evg hb rfl) (evg hb rfl)) rfl ?_
            clear Hz az; intro az Hz
            refine L (r_or Hz rfl rfl rfl) Hz rfl ?_
            clear Hz az; intro az Hz
            refine hK163 _ _ ?_
            refine br Hz rfl (fun hc166 => ?_) (fun hc166 => ?_)
            · -- if4
              have d167 := hc166
              have hx := Lnk.ok_index (a := C) (e := m130) (by rw [hC, ← Lnk.err_st hm131 hm150]; omega) (by rcases or_t (and_t hc159).2 with h | h <;> have := of_decide_eq_true h <;> omega)
              rcases or_t hc166 with h | h <;> have := of_decide_eq_true h <;> omega
            · -- else4
              have p168 := of_decide_eq_false (or_f hc166).1
              have p169 := of_decide_eq_false (or_f hc166).2
              refine wp_skip ?_
              refine hK162 _ _ ?_
              refine wp_seq_k fun K170 hK170 => ?_
              refine wp_seq_k fun K171 hK171 => ?_
              -- law.go:96
              refine reg_q [(true, 0), (true, 1), (true, 2), (true, 3), (true, 4), (true, 5), (true, 6), (true, 7), (true, 8), (true, 9), (true, 10), (true, 11), (true, 12)] (by kernel_rfl) (by kernel_rfl) (fun _ _ _ _ _ h => h) fun w172 o173 => ?_
              refine M (r_fa (m' := 0) Try.underlying25 rfl Try.sizeOf22 rfl Hz rfl rfl) Hz rfl rfl ?_
              clear Hz az; intro az Hz
              have B174 := (Blk.k B165 o173)
              refine M (r_ld Try.isAgg22 Hz rfl ((Blk.ca B174) 0 _ rfl)) Hz rfl rfl ?_
              clear Hz az; intro az Hz
              refine M (r_fa (m' := 1) Try.underlying48 rfl Try.sizeOf3 rfl Hz rfl rfl) Hz rfl rfl ?_
              clear Hz az; intro az Hz
              have B175 := (Blk.k B147 o173)
              refine M (r_ld Try.isAgg3 Hz rfl ((Blk.ca B175) 1 _ rfl)) Hz rfl rfl ?_
              clear Hz az; intro az Hz
              obtain ⟨n176, hnn176⟩ : ∃ q : Nat, m130.a = (q : Int) := ⟨(m130.a).toNat, by omega⟩
              have O183 : Only NoF w120 w172 := (Only.trans' (o_st o141 s146 hg143) o173)
              have h184 := (SliceOf.kp fZ1 O183 (fun _ _ h => h) (fun _ _ _ _ h => h))
              have h185 := SliceOf.pl h184
              have hk182 : n176 < (C.ms).length := by omega
              obtain ⟨m177, hm178, ok179, hA180, E181⟩ := Msgs.el h185 hk182
              refine M (r_ia (k := n176) (size := 3) Try.underlying22 Try.sizeOf27 Hz rfl rfl hnn176 hk182 hA180) Hz rfl rfl ?_
              clear Hz az; intro az Hz
              refine M (r_ldA Try.isAgg27 Try.sizeOf27 Hz rfl (E181 _ (Only.refl NoF w172)) rfl) Hz rfl rfl ?_
              clear Hz az; intro az Hz
              have O187 : Only NoF w9 w69 := (Only.trans' (Only.trans' (Only.trans' (Only.trans' o16 o24) o30) o39) o68)
              have ne186 : g8 ≠ g70 := (ne_of hl13 (Nat.le_trans (size_only O187) hg74))
              have O189 : Only NoF w9 w86 := (Only.trans' (o_st (Only.trans' O187 o72) s77 (Nat.le_trans (size_only O187) hg74)) o87)
              have ne188 : g8 ≠ g98 := (ne_of hl13 (Nat.le_trans (size_only O189) hg102))
              have O191 : Only NoF w9 w120 := (o_st (o_st (Only.trans' O189 o100) s105 (Nat.le_trans (size_only O189) hg102)) o121 (Nat.le_trans (size_only O189) hg102))
              have ne190 : g8 ≠ g139 := (ne_of hl13 (Nat.le_trans (size_only O191) hg143))
              have B192 := (Blk.k (Blk.st (Blk.k (Blk.st (Blk.st (Blk.k (Blk.k (Blk.st (Blk.k (Blk.k (Blk.k B33 o39) o68) o72) s77 ne186) o87) o100) s105 ne188) o121 ne188) o141) s146 ne190) o173)
              refine M (r_ldA Try.isAgg27 Try.sizeOf27 Hz rfl (Blk.ca B192) rfl) Hz rfl rfl ?_
              clear Hz az; intro az Hz
              refine M (r_eqA guardMsg (fun w => eqlMsg w m177 m) Hz rfl rfl) Hz rfl rfl ?_
              clear Hz az; intro az Hz
              refine M (r_mv Hz rfl) Hz rfl rfl ?_
              clear Hz az; intro az Hz
              refine MG Hz rfl rfl gd_t (fun hb => r_fa (m' := 0) Try.underlying48 rfl Try.sizeOf3 rfl Hz rfl rfl) rfl rfl ?_
              clear Hz az; intro az Hz
              refine MG Hz rfl rfl gd_t (fun hb => r_ld Try.isAgg3 Hz (evg hb rfl) ((Blk.ca B175) 0 _ rfl)) rfl rfl ?_
              clear Hz az; intro az Hz
              refine MG Hz rfl rfl gd_t (fun hb => r_eqI Hz (evg hb rfl) rfl) rfl rfl ?_
              clear Hz az; intro az Hz
              refine M (r_and Hz rfl rfl rfl) Hz rfl rfl ?_
              clear Hz az; intro az Hz
              refine wpMix_nil ?_
              refine hK171 _ _ ?_
              refine br Hz rfl (fun hc193 => ?_) (fun hc193 => ?_)
              · -- if5
                have p194 := of_decide_eq_true (and_t hc193).1
                have p195 := of_decide_eq_true (and_t hc193).2
                -- law.go:97
                refine wp_region_lit ?_
                refine L (r_mv Hz rfl) Hz rfl ?_
                clear Hz az; intro az Hz
                have i196 : I64 (go + 1) := by unfold I64; omega
                refine L (r_addI (r := (go + 1)) Hz rfl rfl rfl i196) Hz rfl ?_
                clear Hz az; intro az Hz
                refine L (r_as Hz rfl) Hz rfl ?_
                clear Hz az; intro az Hz
                refine hK170 _ _ ?_
                refine wp_seq_k fun K197 hK197 => ?_
                -- law.go:99
                refine reg_q [(true, 0), (true, 1), (true, 2), (true, 3), (true, 4), (true, 5), (true, 6), (true, 7), (true, 8), (true, 9), (true, 10), (true, 11), (true, 12)] (by kernel_rfl) (by kernel_rfl) (fun _ _ _ _ _ h => h) fun w198 o199 => ?_
                refine M (r_fa (m' := 0) Try.underlying25 rfl Try.sizeOf22 rfl Hz rfl rfl) Hz rfl rfl ?_
                clear Hz az; intro az Hz
                have B200 := (Blk.k B174 o199)
                refine M (r_ld Try.isAgg22 Hz rfl ((Blk.ca B200) 0 _ rfl)) Hz rfl rfl ?_
                clear Hz az; intro az Hz
                refine M (r_fa (m' := 1) Try.underlying48 rfl Try.sizeOf3 rfl Hz rfl rfl) Hz rfl rfl ?_
                clear Hz az; intro az Hz
                have B201 := (Blk.k B175 o199)
                refine M (r_ld Try.isAgg3 Hz rfl ((Blk.ca B201) 1 _ rfl)) Hz rfl rfl ?_
                clear Hz az; intro az Hz
                refine M (r_ia (k := n176) (size := 3) Try.underlying22 Try.sizeOf27 Hz rfl rfl hnn176 hk182 hA180) Hz rfl rfl ?_
                clear Hz az; intro az Hz
                refine M (r_ldA Try.isAgg27 Try.sizeOf27 Hz rfl (E181 _ o199) rfl) Hz rfl rfl ?_
                clear Hz az; intro az Hz
                have B202 := (Blk.k B192 o199)
                refine M (r_ldA Try.isAgg27 Try.sizeOf27 Hz rfl (Blk.ca B202) rfl) Hz rfl rfl ?_
                clear Hz az; intro az Hz
                refine M (r_eqA guardMsg (fun w => eqlMsg w m177 m) Hz rfl rfl) Hz rfl rfl ?_
                clear Hz az; intro az Hz
                refine M (r_mv Hz rfl) Hz rfl rfl ?_
                clear Hz az; intro az Hz
                refine MG Hz rfl rfl gd_t (fun hb => r_fa (m' := 0) Try.underlying48 rfl Try.sizeOf3 rfl Hz rfl rfl) rfl rfl ?_
                clear Hz az; intro az Hz
                refine MG Hz rfl rfl gd_t (fun hb => r_ld Try.isAgg3 Hz (evg hb rfl) ((Blk.ca B201) 0 _ rfl)) rfl rfl ?_
                clear Hz az; intro az Hz
                refine MG Hz rfl rfl gd_t (fun hb => r_eqI Hz (evg hb rfl) rfl) rfl rfl ?_
                clear Hz az; intro az Hz
                refine M (r_and Hz rfl rfl rfl) Hz rfl rfl ?_
                clear Hz az; intro az Hz
                refine wpMix_nil ?_
                refine hK197 _ _ ?_
                refine br Hz rfl (fun hc203 => ?_) (fun hc203 => ?_)
                · -- if6
                  have p204 := of_decide_eq_true (and_t hc203).1
                  have p205 := of_decide_eq_true (and_t hc203).2
                  -- law.go:100
                  refine wp_region_lit ?_
                  refine L (r_mv Hz rfl) Hz rfl ?_
                  clear Hz az; intro az Hz
                  have i206 : I64 (mo + 1) := by unfold I64; omega
                  refine L (r_addI (r := (mo + 1)) Hz rfl rfl rfl i206) Hz rfl ?_
                  clear Hz az; intro az Hz
                  refine L (r_as Hz rfl) Hz rfl ?_
                  clear Hz az; intro az Hz
                  have hd207 := Lnk.err_st hm131 hm150
                  rw [← hC] at hd207
                  have O208 : Only NoF w145 w198 := (Only.trans' o173 o199)
                  exact ⟨(mo + 1), (go + 1), Hz.cut ⟨rfl, rfl, rfl, rfl, rfl, rfl, rfl, rfl, rfl, rfl, rfl, rfl, rfl, rfl, rfl, rfl, rfl, rfl, rfl, rfl, trivial⟩, (Lnk.leaf_more true true hd207 hc159 (fun _ => ⟨Lnk.msg_of hm178 hnn176, hc203⟩) (by first | rfl | exact (Int.add_zero _).symm)), (Lnk.leaf_gone true true hd207 hc159 (fun _ => ⟨Lnk.msg_of hm178 hnn176, hc193⟩) (by first | rfl | exact (Int.add_zero _).symm)), O208⟩
                · -- else6
                  have d209 := hc203
                  refine wp_skip ?_
                  have hd210 := Lnk.err_st hm131 hm150
                  rw [← hC] at hd210
                  have O211 : Only NoF w145 w198 := (Only.trans' o173 o199)
                  exact ⟨mo, (go + 1), Hz.cut ⟨rfl, rfl, rfl, rfl, rfl, rfl, rfl, rfl, rfl, rfl, rfl, rfl, rfl, rfl, rfl, rfl, rfl, rfl, rfl, rfl, trivial⟩, (Lnk.leaf_more true false hd210 hc159 (fun _ => ⟨Lnk.msg_of hm178 hnn176, hc203⟩) (by first | rfl | exact (Int.add_zero _).symm)), (Lnk.leaf_gone true true hd210 hc159 (fun _ => ⟨Lnk.msg_of hm178 hnn176, hc193⟩) (by first | rfl | exact (Int.add_zero _).symm)), O211⟩
              · -- else5
                have d212 := hc193
                refine wp_skip ?_
                refine hK170 _ _ ?_
                refine wp_seq_k fun K213 hK213 => ?_
                -- law.go:99
                refine reg_q [(true, 0), (true, 1), (true, 2), (true, 3), (true, 4), (true, 5), (true, 6), (true, 7), (true, 8), (true, 9), (true, 10), (true, 11), (true, 12)] (by kernel_rfl) (by kernel_rfl) (fun _ _ _ _ _ h => h) fun w214 o215 => ?_
                refine M (r_fa (m' := 0) Try.underlying25 rfl Try.sizeOf22 rfl Hz rfl rfl) Hz rfl rfl ?_
                clear Hz az; intro az Hz
                have B216 := (Blk.k B174 o215)
                refine M (r_ld Try.isAgg22 Hz rfl ((Blk.ca B216) 0 _ rfl)) Hz rfl rfl ?_
                clear Hz az; intro az Hz
                refine M (r_fa (m' := 1) Try.underlying48 rfl Try.sizeOf3 rfl Hz rfl rfl) Hz rfl rfl ?_
                clear Hz az; intro az Hz
                have B217 := (Blk.k B175 o215)
                refine M (r_ld Try.isAgg3 Hz rfl ((Blk.ca B217) 1 _ rfl)) Hz rfl rfl ?_
                clear Hz az; intro az Hz
                refine M (r_ia (k := n176) (size := 3) Try.underlying22 Try.sizeOf27 Hz rfl rfl hnn176 hk182 hA180) Hz rfl rfl ?_
                clear Hz az; intro az Hz
                refine M (r_ldA Try.isAgg27 Try.sizeOf27 Hz rfl (E181 _ o215) rfl) Hz rfl rfl ?_
                clear Hz az; intro az Hz
                have B218 := (Blk.k B192 o215)
                refine M (r_ldA Try.isAgg27 Try.sizeOf27 Hz rfl (Blk.ca B218) rfl) Hz rfl rfl ?_
                clear Hz az; intro az Hz
                refine M (r_eqA guardMsg (fun w => eqlMsg w m177 m) Hz rfl rfl) Hz rfl rfl ?_
                clear Hz az; intro az Hz
                refine M (r_mv Hz rfl) Hz rfl rfl ?_
                clear Hz az; intro az Hz
                refine MG Hz rfl rfl gd_t (fun hb => r_fa (m' := 0) Try.underlying48 rfl Try.sizeOf3 rfl Hz rfl rfl) rfl rfl ?_
                clear Hz az; intro az Hz
                refine MG Hz rfl rfl gd_t (fun hb => r_ld Try.isAgg3 Hz (evg hb rfl) ((Blk.ca B217) 0 _ rfl)) rfl rfl ?_
                clear Hz az; intro az Hz
                refine MG Hz rfl rfl gd_t (fun hb => r_eqI Hz (evg hb rfl) rfl) rfl rfl ?_
                clear Hz az; intro az Hz
                refine M (r_and Hz rfl rfl rfl) Hz rfl rfl ?_
                clear Hz az; intro az Hz
                refine wpMix_nil ?_
                refine hK213 _ _ ?_
                refine br Hz rfl (fun hc219 => ?_) (fun hc219 => ?_)
                · -- if6
                  have p220 := of_decide_eq_true (and_t hc219).1
                  have p221 := of_decide_eq_true (and_t hc219).2
                  -- law.go:100
                  refine wp_region_lit ?_
                  refine L (r_mv Hz rfl) Hz rfl ?_
                  clear Hz az; intro az Hz
                  have i222 : I64 (mo + 1) := by unfold I64; omega
                  refine L (r_addI (r := (mo + 1)) Hz rfl rfl rfl i222) Hz rfl ?_
                  clear Hz az; intro az Hz
                  refine L (r_as Hz rfl) Hz rfl ?_
                  clear Hz az; intro az Hz
                  have hd223 := Lnk.err_st hm131 hm150
                  rw [← hC] at hd223
                  have O224 : Only NoF w145 w214 := (Only.trans' o173 o215)
                  exact ⟨(mo + 1), go, Hz.cut ⟨rfl, rfl, rfl, rfl, rfl, rfl, rfl, rfl, rfl, rfl, rfl, rfl, rfl, rfl, rfl, rfl, rfl, rfl, rfl, rfl, trivial⟩, (Lnk.leaf_more true true hd223 hc159 (fun _ => ⟨Lnk.msg_of hm178 hnn176, hc219⟩) (by first | rfl | exact (Int.add_zero _).symm)), (Lnk.leaf_gone true false hd223 hc159 (fun _ => ⟨Lnk.msg_of hm178 hnn176, hc193⟩) (by first | rfl | exact (Int.add_zero _).symm)), O224⟩
                · -- else6
                  have d225 := hc219
                  refine wp_skip ?_
                  have hd226 := Lnk.err_st hm131 hm150
                  rw [← hC] at hd226
                  have O227 : Only NoF w145 w214 := (Only.trans' o173 o215)
                  exact ⟨mo, go, Hz.cut ⟨rfl, rfl, rfl, rfl, rfl, rfl, rfl, rfl, rfl, rfl, rfl, rfl, rfl, rfl, rfl, rfl, rfl, rfl, rfl, rfl, trivial⟩, (Lnk.leaf_more true false hd226 hc159 (fun _ => ⟨Lnk.msg_of hm178 hnn176, hc219⟩) (by first | rfl | exact (Int.add_zero _).symm)), (Lnk.leaf_gone true false hd226 hc159 (fun _ => ⟨Lnk.msg_of hm178 hnn176, hc193⟩) (by first | rfl | exact (Int.add_zero _).symm)), O227⟩
          · -- else3
            have d228 := hc159
            refine wp_skip ?_
            have hd229 := Lnk.err_st hm131 hm150
            rw [← hC] at hd229
            exact ⟨mo, go, Hz.cut ⟨rfl, rfl, rfl, rfl, rfl, rfl, rfl, rfl, rfl, rfl, rfl, rfl, rfl, rfl, rfl, rfl, rfl, rfl, rfl, rfl, trivial⟩, (Lnk.leaf_more (y := m) false false hd229 hc159 (fun h => by cases h) (by first | rfl | exact (Int.add_zero _).symm)), (Lnk.leaf_gone (y := m) false false hd229 hc159 (fun h => by cases h) (by first | rfl | exact (Int.add_zero _).symm)), (Only.refl NoF w145)⟩
        clear Hz az
        rintro az w230 ⟨mo1, go1, Hz, hm1, hg1, o231⟩
        have hmle := Lnk.more_le C m130 m; have hgle := Lnk.gone_le C m130 m
        refine wp_seq_k fun K232 hK232 => ?_
        refine wp_seq_k fun K233 hK233 => ?_
        -- law.go:103
        refine wp_region_lit ?_
        refine L (r_mv Hz rfl) Hz rfl ?_
        clear Hz az; intro az Hz
        refine L (r_mv Hz rfl) Hz rfl ?_
        clear Hz az; intro az Hz
        have O240 : Only NoF w69 w86 := (Only.trans' O81 o87)
        have O241 : Only NoF w69 w120 := (o_st (o_st (Only.trans' O240 o100) s105 (Nat.le_trans (size_only O240) hg102)) o121 (Nat.le_trans (size_only O240) hg102))
        have O242 : Only NoF w69 w230 := (Only.trans' (o_st (Only.trans' (o_st (o_st (Only.trans' (Only.trans' O81 o87) o100) s105 (Nat.le_trans (size_only O240) hg102)) o121 (Nat.le_trans (size_only O240) hg102)) o141) s146 (Nat.le_trans (size_only O241) hg143)) o231)
        have h243 := (SliceOf.kp f67 O242 (fun _ _ h => h) (fun _ _ _ _ h => h))
        have hk239 : k < ((Lnk.runs a l).2.2).length := by omega
        obtain ⟨m234, hm235, ok236, hA237, E238⟩ := Errs.el h243 hk239
        refine L (r_ia (k := k) (size := 1) Try.underlying40 Try.sizeOf32 Hz rfl rfl rfl hk239 hA237) Hz rfl ?_
        clear Hz az; intro az Hz
        refine L (r_ld Try.isAgg32 Hz rfl (CA.first (E238 _ (Only.refl NoF w230)))) Hz rfl ?_
        clear Hz az; intro az Hz
        refine L (r_eqI Hz rfl rfl) Hz rfl ?_
        clear Hz az; intro az Hz
        refine L (r_mv Hz rfl) Hz rfl ?_
        clear Hz az; intro az Hz
        refine LG Hz rfl rfl gd_t (fun hb => r_fa (m' := 0) Try.underlying48 rfl Try.sizeOf3 rfl Hz rfl rfl) rfl ?_
        clear Hz az; intro az Hz
        have B244 := (Blk.k B147 o231)
        refine LG Hz rfl rfl gd_t (fun hb => r_ld Try.isAgg3 Hz (evg hb rfl) ((Blk.ca B244) 0 _ rfl)) rfl ?_
        clear Hz az; intro az Hz
        refine LG Hz rfl rfl gd_t (fun hb => r_eqI Hz (evg hb rfl) rfl) rfl ?_
        clear Hz az; intro az Hz
        refine L (r_and Hz rfl rfl rfl) Hz rfl ?_
        clear Hz az; intro az Hz
        refine L (r_mv Hz rfl) Hz rfl ?_
        clear Hz az; intro az Hz
        refine LG Hz rfl rfl gd_t (fun hb => r_fa (m' := 1) Try.underlying48 rfl Try.sizeOf3 rfl Hz rfl rfl) rfl ?_
        clear Hz az; intro az Hz
        refine LG Hz rfl rfl gd_t (fun hb => r_ld Try.isAgg3 Hz (evg hb rfl) ((Blk.ca B244) 1 _ rfl)) rfl ?_
        clear Hz az; intro az Hz
        refine LG Hz rfl rfl gd_t (fun hb => r_fa (m' := 0) Try.underlying27 rfl Try.sizeOf3 rfl Hz rfl rfl) rfl ?_
        clear Hz az; intro az Hz
        have O246 : Only NoF w9 w69 := (Only.trans' (Only.trans' (Only.trans' (Only.trans' o16 o24) o30) o39) o68)
        have ne245 : g8 ≠ g70 := (ne_of hl13 (Nat.le_trans (size_only O246) hg74))
        have O248 : Only NoF w9 w86 := (Only.trans' (o_st (Only.trans' O246 o72) s77 (Nat.le_trans (size_only O246) hg74)) o87)
        have ne247 : g8 ≠ g98 := (ne_of hl13 (Nat.le_trans (size_only O248) hg102))
        have O250 : Only NoF w9 w120 := (o_st (o_st (Only.trans' O248 o100) s105 (Nat.le_trans (size_only O248) hg102)) o121 (Nat.le_trans (size_only O248) hg102))
        have ne249 : g8 ≠ g139 := (ne_of hl13 (Nat.le_trans (size_only O250) hg143))
        have B251 := (Blk.k (Blk.st (Blk.k (Blk.st (Blk.st (Blk.k (Blk.k (Blk.st (Blk.k (Blk.k (Blk.k B33 o39) o68) o72) s77 ne245) o87) o100) s105 ne247) o121 ne247) o141) s146 ne249) o231)
        refine LG Hz rfl rfl gd_t (fun hb => r_ld Try.isAgg3 Hz (evg hb rfl) ((Blk.ca B251) 0 _ rfl)) rfl ?_
        clear Hz az; intro az Hz
        refine LG Hz rfl rfl gd_t (fun hb => r_eqI Hz (evg hb rfl) (evg hb rfl)) rfl ?_
        clear Hz az; intro az Hz
        refine L (r_and Hz rfl rfl rfl) Hz rfl ?_
        clear Hz az; intro az Hz
        refine L (r_mv Hz rfl) Hz rfl ?_
        clear Hz az; intro az Hz
        refine LG Hz rfl rfl gd_t (fun hb => r_fa (m' := 2) Try.underlying48 rfl Try.sizeOf3 rfl Hz rfl rfl) rfl ?_
        clear Hz az; intro az Hz
        refine LG Hz rfl rfl gd_t (fun hb => r_ld Try.isAgg3 Hz (evg hb rfl) ((Blk.ca B244) 2 _ rfl)) rfl ?_
        clear Hz az; intro az Hz
        refine LG Hz rfl rfl gd_t (fun hb => r_fa (m' := 1) Try.underlying27 rfl Try.sizeOf3 rfl Hz rfl rfl) rfl ?_
        clear Hz az; intro az Hz
        refine LG Hz rfl rfl gd_t (fun hb => r_ld Try.isAgg3 Hz (evg hb rfl) ((Blk.ca B251) 1 _ rfl)) rfl ?_
        clear Hz az; intro az Hz
        refine LG Hz rfl rfl gd_t (fun hb => r_eqI Hz (evg hb rfl) (evg hb rfl)) rfl ?_
        clear Hz az; intro az Hz
        refine L (r_and Hz rfl rfl rfl) Hz rfl ?_
        clear Hz az; intro az Hz
        refine L (r_mv Hz rfl) Hz rfl ?_
        clear Hz az; intro az Hz
        refine LG Hz rfl rfl gd_t (fun hb => r_fa (m' := 3) Try.underlying48 rfl Try.sizeOf9 rfl Hz rfl rfl) rfl ?_
        clear Hz az; intro az Hz
        refine LG Hz rfl rfl gd_t (fun hb => r_ld Try.isAgg9 Hz (evg hb rfl) ((Blk.ca B244) 3 _ rfl)) rfl ?_
        clear Hz az; intro az Hz
        refine LG Hz rfl rfl gd_t (fun hb => r_fa (m' := 2) Try.underlying27 rfl Try.sizeOf9 rfl Hz rfl rfl) rfl ?_
        clear Hz az; intro az Hz
        refine LG Hz rfl rfl gd_t (fun hb => r_ld Try.isAgg9 Hz (evg hb rfl) ((Blk.ca B251) 2 _ rfl)) rfl ?_
        clear Hz az; intro az Hz
        refine LG Hz rfl rfl gd_t (fun hb => r_eqS Hz (evg hb rfl) (evg hb rfl)) rfl ?_
        clear Hz az; intro az Hz
        refine L (r_and Hz rfl rfl rfl) Hz rfl ?_
        clear Hz az; intro az Hz
        refine hK233 _ _ ?_
        refine br Hz rfl (fun hc252 => ?_) (fun hc252 => ?_)
        · -- if7
          have p253 := of_decide_eq_true (and_t (and_t (and_t (and_t hc252).1).1).1).1
          have p254 := of_decide_eq_true (and_t (and_t (and_t (and_t hc252).1).1).1).2
          have p255 := of_decide_eq_true (and_t (and_t (and_t hc252).1).1).2
          have p256 := of_decide_eq_true (and_t (and_t hc252).1).2
          have p257 := of_decide_eq_true (and_t hc252).2
          -- law.go:104
          refine wp_region_lit ?_
          refine L (r_mv Hz rfl) Hz rfl ?_
          clear Hz az; intro az Hz
          have i258 : I64 (mo1 + 1) := by unfold I64; omega
          refine L (r_addI (r := (mo1 + 1)) Hz rfl rfl rfl i258) Hz rfl ?_
          clear Hz az; intro az Hz
          refine L (r_as Hz rfl) Hz rfl ?_
          clear Hz az; intro az Hz
          refine hK232 _ _ ?_
          -- law.go:106
          refine reg_m (oneF g98) [6, 11] [(true, 0), (true, 1), (true, 2), (true, 3), (true, 4), (true, 5), (false, 6), (true, 7), (true, 8), (true, 9), (true, 10), (false, 11)] (by kernel_rfl) (by kernel_rfl) (fun _ _ _ _ _ h => h) fun w259 o260 => ?_
          have ne261 : g98 ≠ g139 := (ne_of hl103 (Nat.le_trans (size_only (Only.trans (Only.trans (Only.refl (fun _ => True) w99) s105 (fun _ _ => .inl trivial)) o121 (fun _ _ => .inl trivial))) hg143))
          have B262 := (Blk.k (Blk.k (Blk.st (Blk.k B123 o141) s146 ne261) o231) o260)
          refine MS0 (r_ldA Try.isAgg25 Try.sizeOf25 Hz rfl (Blk.ca B262) rfl) Hz rfl (by kernel_rfl) rfl ?_
          clear Hz az; intro az Hz
          refine MSP (fun W oW => r_mv Hz rfl) Hz rfl rfl ?_
          clear Hz az; intro az Hz
          refine MSP (fun W oW => r_mv Hz rfl) Hz rfl rfl ?_
          clear Hz az; intro az Hz
          refine MSP (fun W oW => r_mv Hz rfl) Hz rfl rfl ?_
          clear Hz az; intro az Hz
          have i263 : I64 ((k : Int) + 1) := by unfold I64; omega
          refine MSP (fun W oW => r_addI (r := ((k : Int) + 1)) Hz rfl rfl rfl i263) Hz rfl rfl ?_
          clear Hz az; intro az Hz
          have hl264 : k + 1 ≤ (l).length := by omega
          have O266 : Only NoF w120 w259 := (Only.trans' (Only.trans' (o_st o141 s146 hg143) o231) o260)
          have h267 := (SliceOf.kp h138 O266 (fun _ _ h => h) (fun _ _ _ _ h => h))
          have hc265 : k + 1 ≤ c3 := Nat.le_trans hl264 (SliceOf.cap_ h267)
          have h268 := SliceOf.sub (lo := k) (m := 1) h267 rfl hl264
          rw [take_one hm131] at h268
          refine MSP (fun W oW => r_sl (lo := k) (m := 1) (size := 4) Try.underlying28 Try.sizeOf48 Hz rfl rfl rfl rfl rfl hc265) Hz rfl rfl ?_
          clear Hz az; intro az Hz
          have h269 := (SliceOf.kp fZ1 O266 (fun _ _ h => h) (fun _ _ _ _ h => h))
          have h270 := SliceOf.pl h269
          have h271 := (SliceOf.kp fZ2 O266 (fun _ _ h => h) (fun _ _ _ _ h => h))
          have h272 := SliceOf.pl h271
          refine MSC Hz rfl rfl rfl Try.call24 (Run_v1 (show AirV _ _ C from ⟨_, _, rfl, h270, h272⟩) h268 hrt (by omega)) rfl ?_
          rintro e w286 ⟨A273, c277, A274, c278, A275, c279, A276, c280, rfl, f281, f282, f283, f284, o285⟩; refine ⟨_, rfl, Only.trans (Only.refl (oneF g98) w259) o285 (fun _ h => h.elim), ?_⟩
          clear Hz az; intro az Hz
          refine MSP (fun W oW => r_mv Hz rfl) Hz rfl rfl ?_
          clear Hz az; intro az Hz
          refine MSP (fun W oW => r_ex Hz rfl rfl) Hz rfl rfl ?_
          clear Hz az; intro az Hz
          refine MSP (fun W oW => r_ex Hz rfl rfl) Hz rfl rfl ?_
          clear Hz az; intro az Hz
          refine MSP (fun W oW => r_ex Hz rfl rfl) Hz rfl rfl ?_
          clear Hz az; intro az Hz
          have B287 := (Blk.k B262 o285)
          refine MSS (cs' := [.slice A273 ((Lnk.next C m130).ms.length) c277, .slice A274 ((Lnk.next C m130).cs.length) c278]) Try.sizeOf25 Hz rfl rfl rfl rfl rfl rfl ⟨rfl, rfl, trivial⟩ B287 rfl rfl fun w288 s289 B290 => ⟨Only.trans (Only.trans (Only.refl (oneF g98) w259) o285 (fun _ h => h.elim)) s289 (fun _ h => .inl h), ?_⟩
          refine wpMix_nil ?_
          refine hK128 _ _ ?_
          -- law.go:90
          refine wp_region_lit ?_
          refine L (r_mv Hz rfl) Hz rfl ?_
          clear Hz az; intro az Hz
          have i291 : I64 ((k : Int) + 1) := by unfold I64; omega
          refine L (r_addI (r := ((k : Int) + 1)) Hz rfl rfl rfl i291) Hz rfl ?_
          clear Hz az; intro az Hz
          refine L (r_as Hz rfl) Hz rfl ?_
          clear Hz az; intro az Hz
          have h292 := (SliceOf.kp f281 s289 (geB.st (Nat.lt_of_lt_of_le hl103 (size_only (Only.trans (Only.trans (Only.trans (Only.trans (Only.trans (Only.trans (Only.refl (fun _ => True) w99) s105 (fun _ _ => .inl trivial)) o121 (fun _ _ => .inl trivial)) o141 (fun _ _ => .inl trivial)) s146 (fun _ _ => .inl trivial)) o231 (fun _ _ => .inl trivial)) o260 (fun _ _ => .inl trivial))))) (fun _ _ _ _ h => h))
          have h293 := (SliceOf.kp f282 s289 (geB.st (Nat.lt_of_lt_of_le hl103 (size_only (Only.trans (Only.trans (Only.trans (Only.trans (Only.trans (Only.trans (Only.refl (fun _ => True) w99) s105 (fun _ _ => .inl trivial)) o121 (fun _ _ => .inl trivial)) o141 (fun _ _ => .inl trivial)) s146 (fun _ _ => .inl trivial)) o231 (fun _ _ => .inl trivial)) o260 (fun _ _ => .inl trivial))))) (fun _ _ _ _ h => h))
          exact ⟨_, (by omega), k + 1, (mo1 + 1), go1, _, A273, c277, A274, c278, rfl, Hz.cut ⟨rfl, rfl, rfl, rfl, rfl, rfl, rfl, rfl, rfl, rfl, rfl, trivial⟩, (by omega), (by rw [Lnk.runs_st hm131, ← hC]), (by rw [Lnk.mores_st hm131, ← hC]; have h7 := hm1; rw [Lnk.leaf_send true (by rw [hC]; exact Lnk.err_st hm131 hm235) hc252] at h7; simp at h7; omega), (by rw [Lnk.gones_st hm131, ← hC]; omega), (Only.trans (Only.trans (Only.trans (Only.trans (Only.trans (Only.trans (Only.trans (Only.refl (oneF g98) w104) o121 (fun _ h => .inl h)) o141 (fun _ h => h.elim)) s146 (fun _ h => .inr (by rw [show _ = g139 from h]; exact (Nat.le_trans (size_only (Only.trans (Only.refl (fun _ => True) w104) o121 (fun _ _ => .inl trivial))) hg143)))) o231 (fun _ h => h.elim)) o260 (fun _ h => h.elim)) o285 (fun _ h => h.elim)) s289 (fun _ h => .inl h)), B290, (SliceOf.sup h292 (fun q hq => Nat.ne_of_gt (Nat.lt_of_lt_of_le (Nat.lt_of_lt_of_le hl103 (size_only (Only.trans (Only.trans (Only.trans (Only.trans (Only.trans (Only.trans (Only.refl (fun _ => True) w99) s105 (fun _ _ => .inl trivial)) o121 (fun _ _ => .inl trivial)) o141 (fun _ _ => .inl trivial)) s146 (fun _ _ => .inl trivial)) o231 (fun _ _ => .inl trivial)) o260 (fun _ _ => .inl trivial)))) hq))), (SliceOf.sup h293 (fun q hq => Nat.ne_of_gt (Nat.lt_of_lt_of_le (Nat.lt_of_lt_of_le hl103 (size_only (Only.trans (Only.trans (Only.trans (Only.trans (Only.trans (Only.trans (Only.refl (fun _ => True) w99) s105 (fun _ _ => .inl trivial)) o121 (fun _ _ => .inl trivial)) o141 (fun _ _ => .inl trivial)) s146 (fun _ _ => .inl trivial)) o231 (fun _ _ => .inl trivial)) o260 (fun _ _ => .inl trivial)))) hq)))⟩
        · -- else7
          have d294 := hc252
          refine wp_skip ?_
          refine hK232 _ _ ?_
          -- law.go:106
          refine reg_m (oneF g98) [6, 11] [(true, 0), (true, 1), (true, 2), (true, 3), (true, 4), (true, 5), (false, 6), (true, 7), (true, 8), (true, 9), (true, 10), (false, 11)] (by kernel_rfl) (by kernel_rfl) (fun _ _ _ _ _ h => h) fun w295 o296 => ?_
          have ne297 : g98 ≠ g139 := (ne_of hl103 (Nat.le_trans (size_only (Only.trans (Only.trans (Only.refl (fun _ => True) w99) s105 (fun _ _ => .inl trivial)) o121 (fun _ _ => .inl trivial))) hg143))
          have B298 := (Blk.k (Blk.k (Blk.st (Blk.k B123 o141) s146 ne297) o231) o296)
          refine MS0 (r_ldA Try.isAgg25 Try.sizeOf25 Hz rfl (Blk.ca B298) rfl) Hz rfl (by kernel_rfl) rfl ?_
          clear Hz az; intro az Hz
          refine MSP (fun W oW => r_mv Hz rfl) Hz rfl rfl ?_
          clear Hz az; intro az Hz
          refine MSP (fun W oW => r_mv Hz rfl) Hz rfl rfl ?_
          clear Hz az; intro az Hz
          refine MSP (fun W oW => r_mv Hz rfl) Hz rfl rfl ?_
          clear Hz az; intro az Hz
          have i299 : I64 ((k : Int) + 1) := by unfold I64; omega
          refine MSP (fun W oW => r_addI (r := ((k : Int) + 1)) Hz rfl rfl rfl i299) Hz rfl rfl ?_
          clear Hz az; intro az Hz
          have hl300 : k + 1 ≤ (l).length := by omega
          have O302 : Only NoF w120 w295 := (Only.trans' (Only.trans' (o_st o141 s146 hg143) o231) o296)
          have h303 := (SliceOf.kp h138 O302 (fun _ _ h => h) (fun _ _ _ _ h => h))
          have hc301 : k + 1 ≤ c3 := Nat.le_trans hl300 (SliceOf.cap_ h303)
          have h304 := SliceOf.sub (lo := k) (m := 1) h303 rfl hl300
          rw [take_one hm131] at h304
          refine MSP (fun W oW => r_sl (lo := k) (m := 1) (size := 4) Try.underlying28 Try.sizeOf48 Hz rfl rfl rfl rfl rfl hc301) Hz rfl rfl ?_
          clear Hz az; intro az Hz
          have h305 := (SliceOf.kp fZ1 O302 (fun _ _ h => h) (fun _ _ _ _ h => h))
          have h306 := SliceOf.pl h305
          have h307 := (SliceOf.kp fZ2 O302 (fun _ _ h => h) (fun _ _ _ _ h => h))
          have h308 := SliceOf.pl h307
          refine MSC Hz rfl rfl rfl Try.call24 (Run_v1 (show AirV _ _ C from ⟨_, _, rfl, h306, h308⟩) h304 hrt (by omega)) rfl ?_
          rintro e w322 ⟨A309, c313, A310, c314, A311, c315, A312, c316, rfl, f317, f318, f319, f320, o321⟩; refine ⟨_, rfl, Only.trans (Only.refl (oneF g98) w295) o321 (fun _ h => h.elim), ?_⟩
          clear Hz az; intro az Hz
          refine MSP (fun W oW => r_mv Hz rfl) Hz rfl rfl ?_
          clear Hz az; intro az Hz
          refine MSP (fun W oW => r_ex Hz rfl rfl) Hz rfl rfl ?_
          clear Hz az; intro az Hz
          refine MSP (fun W oW => r_ex Hz rfl rfl) Hz rfl rfl ?_
          clear Hz az; intro az Hz
          refine MSP (fun W oW => r_ex Hz rfl rfl) Hz rfl rfl ?_
          clear Hz az; intro az Hz
          have B323 := (Blk.k B298 o321)
          refine MSS (cs' := [.slice A309 ((Lnk.next C m130).ms.length) c313, .slice A310 ((Lnk.next C m130).cs.length) c314]) Try.sizeOf25 Hz rfl rfl rfl rfl rfl rfl ⟨rfl, rfl, trivial⟩ B323 rfl rfl fun w324 s325 B326 => ⟨Only.trans (Only.trans (Only.refl (oneF g98) w295) o321 (fun _ h => h.elim)) s325 (fun _ h => .inl h), ?_⟩
          refine wpMix_nil ?_
          refine hK128 _ _ ?_
          -- law.go:90
          refine wp_region_lit ?_
          refine L (r_mv Hz rfl) Hz rfl ?_
          clear Hz az; intro az Hz
          have i327 : I64 ((k : Int) + 1) := by unfold I64; omega
          refine L (r_addI (r := ((k : Int) + 1)) Hz rfl rfl rfl i327) Hz rfl ?_
          clear Hz az; intro az Hz
          refine L (r_as Hz rfl) Hz rfl ?_
          clear Hz az; intro az Hz
          have h328 := (SliceOf.kp f317 s325 (geB.st (Nat.lt_of_lt_of_le hl103 (size_only (Only.trans (Only.trans (Only.trans (Only.trans (Only.trans (Only.trans (Only.refl (fun _ => True) w99) s105 (fun _ _ => .inl trivial)) o121 (fun _ _ => .inl trivial)) o141 (fun _ _ => .inl trivial)) s146 (fun _ _ => .inl trivial)) o231 (fun _ _ => .inl trivial)) o296 (fun _ _ => .inl trivial))))) (fun _ _ _ _ h => h))
          have h329 := (SliceOf.kp f318 s325 (geB.st (Nat.lt_of_lt_of_le hl103 (size_only (Only.trans (Only.trans (Only.trans (Only.trans (Only.trans (Only.trans (Only.refl (fun _ => True) w99) s105 (fun _ _ => .inl trivial)) o121 (fun _ _ => .inl trivial)) o141 (fun _ _ => .inl trivial)) s146 (fun _ _ => .inl trivial)) o231 (fun _ _ => .inl trivial)) o296 (fun _ _ => .inl trivial))))) (fun _ _ _ _ h => h))
          exact ⟨_, (by omega), k + 1, mo1, go1, _, A309, c313, A310, c314, rfl, Hz.cut ⟨rfl, rfl, rfl, rfl, rfl, rfl, rfl, rfl, rfl, rfl, rfl, trivial⟩, (by omega), (by rw [Lnk.runs_st hm131, ← hC]), (by rw [Lnk.mores_st hm131, ← hC]; have h7 := hm1; rw [Lnk.leaf_send false (by rw [hC]; exact Lnk.err_st hm131 hm235) hc252] at h7; simp at h7; omega), (by rw [Lnk.gones_st hm131, ← hC]; omega), (Only.trans (Only.trans (Only.trans (Only.trans (Only.trans (Only.trans (Only.trans (Only.refl (oneF g98) w104) o121 (fun _ h => .inl h)) o141 (fun _ h => h.elim)) s146 (fun _ h => .inr (by rw [show _ = g139 from h]; exact (Nat.le_trans (size_only (Only.trans (Only.refl (fun _ => True) w104) o121 (fun _ _ => .inl trivial))) hg143)))) o231 (fun _ h => h.elim)) o296 (fun _ h => h.elim)) o321 (fun _ h => h.elim)) s325 (fun _ h => .inl h)), B326, (SliceOf.sup h328 (fun q hq => Nat.ne_of_gt (Nat.lt_of_lt_of_le (Nat.lt_of_lt_of_le hl103 (size_only (Only.trans (Only.trans (Only.trans (Only.trans (Only.trans (Only.trans (Only.refl (fun _ => True) w99) s105 (fun _ _ => .inl trivial)) o121 (fun _ _ => .inl trivial)) o141 (fun _ _ => .inl trivial)) s146 (fun _ _ => .inl trivial)) o231 (fun _ _ => .inl trivial)) o296 (fun _ _ => .inl trivial)))) hq))), (SliceOf.sup h329 (fun q hq => Nat.ne_of_gt (Nat.lt_of_lt_of_le (Nat.lt_of_lt_of_le hl103 (size_only (Only.trans (Only.trans (Only.trans (Only.trans (Only.trans (Only.trans (Only.refl (fun _ => True) w99) s105 (fun _ _ => .inl trivial)) o121 (fun _ _ => .inl trivial)) o141 (fun _ _ => .inl trivial)) s146 (fun _ _ => .inl trivial)) o231 (fun _ _ => .inl trivial)) o296 (fun _ _ => .inl trivial)))) hq)))⟩
      · -- else2
        have p330 := of_decide_eq_false hc126
        refine wp_exit ?_
        have e1 : l.take k = l := List.take_of_length_le (by omega)
        rw [e1] at hC hmo hgo
        have hcons := Lnk.conserve m l a
        have hcb1 := List.count_le_length (a := m) (l := (Lnk.runs a l).1.ms)
        have hcb2 := List.count_le_length (a := m) (l := (Lnk.runs a l).2.1)
        have hcb3 := List.count_le_length (a := m) (l := a.ms)
        have hcb4 := Lnk.right_runs (l := l) q49; rw [Lnk.right_iff] at hcb4; obtain ⟨_, _, hcb5, _⟩ := hcb4
        have hcb6 := runs_came a l
        refine th_exit ?_
        refine th_exit ?_
        refine ib_hit ?_
        refine hK107 _ _ ?_
        refine wp_seq_k fun K331 hK331 => ?_
        -- law.go:108
        refine reg_m NoF [4, 10, 13, 20] [(true, 0), (true, 1), (true, 2), (true, 3), (false, 4), (true, 5), (true, 6), (true, 7), (true, 8), (true, 9), (true, 11), (true, 12), (true, 15), (true, 17), (true, 18), (true, 19), (true, 21), (false, 10), (false, 13), (true, 14), (true, 16), (false, 20), (true, 22), (true, 23), (true, 24), (true, 25)] (by kernel_rfl) (by kernel_rfl) (fun _ _ _ _ _ h => h) fun w332 o333 => ?_
        have B334 := (Blk.k B123 o333)
        have ne335 : g70 ≠ g98 := (ne_of hl75 (Nat.le_trans (size_only (Only.trans (Only.trans (Only.refl (fun _ => True) w71) s77 (fun _ _ => .inl trivial)) o87 (fun _ _ => .inl trivial))) hg102))
        have B336 := (Blk.k (Blk.st (Blk.st (Blk.k (Blk.k B78 o87) o100) s105 ne335) o121 ne335) o333)
        have O338 : Only NoF w9 w69 := (Only.trans' (Only.trans' (Only.trans' (Only.trans' o16 o24) o30) o39) o68)
        have ne337 : g8 ≠ g70 := (ne_of hl13 (Nat.le_trans (size_only O338) hg74))
        have O340 : Only NoF w9 w86 := (Only.trans' (o_st (Only.trans' O338 o72) s77 (Nat.le_trans (size_only O338) hg74)) o87)
        have ne339 : g8 ≠ g98 := (ne_of hl13 (Nat.le_trans (size_only O340) hg102))
        have B341 := (Blk.k (Blk.st (Blk.st (Blk.k (Blk.k (Blk.st (Blk.k (Blk.k (Blk.k B33 o39) o68) o72) s77 ne337) o87) o100) s105 ne339) o121 ne339) o333)
        have O343 : Only NoF w3 w86 := (Only.trans' (o_st (Only.trans' O96 o72) s77 (Nat.le_trans (size_only O96) hg74)) o87)
        have ne342 : g2 ≠ g98 := (ne_of hl7 (Nat.le_trans (size_only O343) hg102))
        have B344 := (Blk.k (Blk.st (Blk.st (Blk.k B97 o100) s105 ne342) o121 ne342) o333)
        refine MSP (fun W oW => r_mv Hz rfl) Hz rfl rfl ?_
        clear Hz az; intro az Hz
        refine MSP (fun W oW => r_mv Hz rfl) Hz rfl rfl ?_
        clear Hz az; intro az Hz
        refine MSPT Hz rfl rfl (fun W oW => r_ldA Try.isAgg25 Try.sizeOf25 Hz rfl (Blk.ca (Blk.k B334 oW)) rfl) rfl rfl ?_
        clear Hz az; intro az Hz
        refine MSPT Hz rfl rfl (fun W oW => r_ldA Try.isAgg25 Try.sizeOf25 Hz rfl (Blk.ca (Blk.k B336 oW)) rfl) rfl rfl ?_
        clear Hz az; intro az Hz
        have h345 := (SliceOf.kp fZ1 o333 (fun _ _ h => h) (fun _ _ _ _ h => h))
        have h346 := SliceOf.pl h345
        have h347 := (SliceOf.kp fZ2 o333 (fun _ _ h => h) (fun _ _ _ _ h => h))
        have h348 := SliceOf.pl h347
        have O349 : Only NoF w76 w332 := (Only.trans' (o_st (o_st (Only.trans' o87 o100) s105 (Nat.le_trans (size_only o87) hg102)) o121 (Nat.le_trans (size_only o87) hg102)) o333)
        have h350 := (SliceOf.kp h82 O349 (fun _ _ h => h) (fun _ _ _ _ h => h))
        have h351 := SliceOf.pl h350
        have h352 := (SliceOf.kp h84 O349 (fun _ _ h => h) (fun _ _ _ _ h => h))
        have h353 := SliceOf.pl h352
        refine MSGV (v := .bool (decide (C = (Lnk.runs a l).1))) Hz rfl rfl gd_t rfl rfl (fun hb => rfl) Try.call13 (fun hb => kSame_c (show AirV _ _ C from ⟨_, _, rfl, h346, h348⟩) (show AirV _ _ (Lnk.runs a l).1 from ⟨_, _, rfl, h351, h353⟩)) rfl (Only.refl NoF w332) fun w354 o355 => ?_
        clear Hz az; intro az Hz
        refine MSP (fun W oW => r_pick Hz rfl rfl rfl) Hz rfl rfl ?_
        clear Hz az; intro az Hz
        refine MSP (fun W oW => r_mv Hz rfl) Hz rfl rfl ?_
        clear Hz az; intro az Hz
        refine MSPG Hz rfl rfl gd_t (fun hb W oW => r_fa (m' := 0) Try.underlying25 rfl Try.sizeOf22 rfl Hz rfl rfl) rfl rfl ?_
        clear Hz az; intro az Hz
        refine MSPG Hz rfl rfl gd_t (fun hb W oW => r_ld Try.isAgg22 Hz (evg hb rfl) ((Blk.ca (Blk.k B336 oW)) 0 _ rfl)) rfl rfl ?_
        clear Hz az; intro az Hz
        refine MSPG Hz rfl rfl gd_t (fun hb W oW => r_ldA Try.isAgg27 Try.sizeOf27 Hz rfl (Blk.ca (Blk.k B341 oW)) rfl) rfl rfl ?_
        clear Hz az; intro az Hz
        refine MSPG Hz rfl rfl gd_t (fun hb W oW => r_mv Hz rfl) rfl rfl ?_
        clear Hz az; intro az Hz
        refine MSPG Hz rfl rfl gd_t (fun hb W oW => r_ldA Try.isAgg27 Try.sizeOf27 Hz rfl (Blk.ca (Blk.k B341 oW)) rfl) rfl rfl ?_
        clear Hz az; intro az Hz
        refine MSPG Hz rfl rfl gd_t (fun hb W oW => r_mv Hz rfl) rfl rfl ?_
        clear Hz az; intro az Hz
        refine MSPG Hz rfl rfl gd_t (fun hb W oW => r_fa (m' := 0) Try.underlying25 rfl Try.sizeOf22 rfl Hz rfl rfl) rfl rfl ?_
        clear Hz az; intro az Hz
        refine MSPG Hz rfl rfl gd_t (fun hb W oW => r_ld Try.isAgg22 Hz (evg hb rfl) ((Blk.ca (Blk.k B344 oW)) 0 _ rfl)) rfl rfl ?_
        clear Hz az; intro az Hz
        refine MSPG Hz rfl rfl gd_t (fun hb W oW => r_ldA Try.isAgg27 Try.sizeOf27 Hz rfl (Blk.ca (Blk.k B341 oW)) rfl) rfl rfl ?_
        clear Hz az; intro az Hz
        refine MSPG Hz rfl rfl gd_t (fun hb W oW => r_mv Hz rfl) rfl rfl ?_
        clear Hz az; intro az Hz
        have h356 := (SliceOf.kp h350 o355 (fun _ _ h => h) (fun _ _ _ _ h => h))
        have h357 := SliceOf.pl h356
        refine MSGV (v := .int .i64 (((List.count m (Lnk.runs a l).1.ms : Nat) : Int))) Hz rfl rfl gd_t rfl rfl (fun hb => (evs_c (evg hb rfl) (evs_c (evg hb rfl) rfl))) Try.call30 (fun hb => l38count_c h357 m) rfl (Only.trans (Only.refl NoF w332) o355 (fun _ h => h.elim)) fun w358 o359 => ?_
        clear Hz az; intro az Hz
        have O360 : Only NoF w69 w86 := (Only.trans' O81 o87)
        have O361 : Only NoF w69 w358 := (Only.trans' (Only.trans' (Only.trans' (o_st (o_st (Only.trans' (Only.trans' O81 o87) o100) s105 (Nat.le_trans (size_only O360) hg102)) o121 (Nat.le_trans (size_only O360) hg102)) o333) o355) o359)
        have h362 := (SliceOf.kp f66 O361 (fun _ _ h => h) (fun _ _ _ _ h => h))
        refine MSGV (v := .int .i64 (((List.count m (Lnk.runs a l).2.1 : Nat) : Int))) Hz rfl rfl gd_t rfl rfl (fun hb => (evs_c (evg hb rfl) (evs_c (evg hb rfl) rfl))) Try.call30 (fun hb => l38count_c h362 m) rfl (Only.trans (Only.trans (Only.refl NoF w332) o355 (fun _ h => h.elim)) o359 (fun _ h => h.elim)) fun w363 o364 => ?_
        clear Hz az; intro az Hz
        have i365 : I64 (((List.count m (Lnk.runs a l).1.ms : Nat) : Int) + ((List.count m (Lnk.runs a l).2.1 : Nat) : Int)) := by unfold I64; omega
        refine MSPG Hz rfl rfl gd_t (fun hb W oW => r_addI (r := (((List.count m (Lnk.runs a l).1.ms : Nat) : Int) + ((List.count m (Lnk.runs a l).2.1 : Nat) : Int))) Hz (evg hb rfl) (evg hb rfl) rfl i365) rfl rfl ?_
        clear Hz az; intro az Hz
        have i366 : I64 ((((List.count m (Lnk.runs a l).1.ms : Nat) : Int) + ((List.count m (Lnk.runs a l).2.1 : Nat) : Int)) + go) := by unfold I64; omega
        refine MSPG Hz rfl rfl gd_t (fun hb W oW => r_addI (r := ((((List.count m (Lnk.runs a l).1.ms : Nat) : Int) + ((List.count m (Lnk.runs a l).2.1 : Nat) : Int)) + go)) Hz (evg hb rfl) (evg hb rfl) rfl i366) rfl rfl ?_
        clear Hz az; intro az Hz
        have O367 : Only NoF w38 w86 := (Only.trans' (o_st (Only.trans' o68 o72) s77 (Nat.le_trans (size_only o68) hg74)) o87)
        have O368 : Only NoF w38 w363 := (Only.trans' (Only.trans' (Only.trans' (Only.trans' (o_st (o_st (Only.trans' (Only.trans' (o_st (Only.trans' o68 o72) s77 (Nat.le_trans (size_only o68) hg74)) o87) o100) s105 (Nat.le_trans (size_only O367) hg102)) o121 (Nat.le_trans (size_only O367) hg102)) o333) o355) o359) o364)
        have h369 := (SliceOf.kp h52 O368 (fun _ _ h => h) (fun _ _ _ _ h => h))
        refine MSGV (v := .int .i64 (((List.count m a.ms : Nat) : Int))) Hz rfl rfl gd_t rfl rfl (fun hb => (evs_c (evg hb rfl) (evs_c (evg hb rfl) rfl))) Try.call30 (fun hb => l38count_c h369 m) rfl (Only.trans (Only.trans (Only.trans (Only.refl NoF w332) o355 (fun _ h => h.elim)) o359 (fun _ h => h.elim)) o364 (fun _ h => h.elim)) fun w370 o371 => ?_
        clear Hz az; intro az Hz
        have i372 : I64 (((List.count m a.ms : Nat) : Int) + mo) := by unfold I64; omega
        refine MSPG Hz rfl rfl gd_t (fun hb W oW => r_addI (r := (((List.count m a.ms : Nat) : Int) + mo)) Hz (evg hb rfl) (evg hb rfl) rfl i372) rfl rfl ?_
        clear Hz az; intro az Hz
        refine MSPG Hz rfl rfl gd_t (fun hb W oW => r_eqI Hz (evg hb rfl) (evg hb rfl)) rfl rfl ?_
        clear Hz az; intro az Hz
        refine MSP (fun W oW => r_and Hz rfl rfl rfl) Hz rfl rfl ?_
        clear Hz az; intro az Hz
        refine MSP (fun W oW => r_as Hz rfl) Hz rfl rfl ?_
        clear Hz az; intro az Hz
        refine wpMix_nil ?_
        refine hK331 _ _ ?_
        refine wp_ret ?_
        show bodyPost _ _ _ .ret _ _
        refine ret_of (vs := [.bool (((decide (C = (Lnk.runs a l).1)) && (decide (((((List.count m (Lnk.runs a l).1.ms : Nat) : Int) + ((List.count m (Lnk.runs a l).2.1 : Nat) : Int)) + go) = (((List.count m a.ms : Nat) : Int) + mo)))))]) Hz Try.results4 ⟨rfl, trivial⟩ ?_
        have O373 : Only NoF w w69 := (Only.trans' (Only.trans' (Only.trans' O27 o30) o39) o68)
        have O374 : Only NoF w w86 := (Only.trans' (o_st (Only.trans' O373 o72) s77 (Nat.le_trans (size_only O373) hg74)) o87)
        have O375 : Only NoF w w370 := (Only.trans' (Only.trans' (Only.trans' (Only.trans' (Only.trans' (o_st (o_st (Only.trans' (Only.trans' (o_st (Only.trans' (Only.trans' (Only.trans' (Only.trans' O27 o30) o39) o68) o72) s77 (Nat.le_trans (size_only O373) hg74)) o87) o100) s105 (Nat.le_trans (size_only O374) hg102)) o121 (Nat.le_trans (size_only O374) hg102)) o333) o355) o359) o364) o371)
        refine ⟨congrArg (fun b => Ending.returned (Value.bool b)) ?_, O375⟩
        -- ((decide (C = (Lnk.runs a l).1)) && (decide (((((List.count m (Lnk.runs a l).1.ms : Nat) : Int) + ((List.count m (Lnk.runs a l).2.1 : Nat) : Int)) + go) = (((List.count m a.ms : Nat) : Int) + mo))))
        rw [decide_eq_true hC, decide_eq_true (show _ = _ by omega)]; rfl
end Go.Proofs.Ytocbfobakmieoaa
