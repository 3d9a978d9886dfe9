/-
  LinkOthers, walked: it returns true. No condition.
-/
import Derived.Test.YtocbfobakmieoaaLkO3
import Derived.Test.YtocbfobakmieoaaLkV3
namespace Go.Proofs.Ytocbfobakmieoaa
set_option linter.unusedVariables false
set_option linter.unusedSimpArgs false
set_option linter.unusedSectionVars false
open Go.RowKit

set_option maxHeartbeats 4000000 in
theorem others_v {w : World} {a : Air} {x y : Int} {l : List Ev} {A1 A2 A3 : Option Addr} {c1 c2 c3 : Nat} (f1 : Msgs w (.slice A1 a.ms.length c1) a.ms) (f2 : Prs w (.slice A2 a.cs.length c2) a.cs) (hx : I64 x) (hy : I64 y) (f3 : Evs w (.slice A3 l.length c3) l) :
    Calls Try.prog 7 [.agg #[.slice A1 a.ms.length c1, .slice A2 a.cs.length c2], .int .i64 x, .int .i64 y, .slice A3 l.length c3].toArray w (BoolTo w true) := by
  refine calls_start Try.func7 rfl rfl ?_
  intro az Hz
  rw [Try.ntmps7] at Hz
  refine wp_seq_k fun K1 hK1 => ?_
  -- law.go:197
  refine wp_region_lit ?_
  refine LBox Hz rfl rfl rfl ?_
  clear Hz az; intro g2 w3 hg6 hl7 o4 B5 az Hz
  refine L (r_as Hz rfl) Hz rfl ?_
  clear Hz az; intro az Hz
  refine hK1 _ _ ?_
  refine wp_seq_k fun K8 hK8 => ?_
  -- law.go:198
  refine wp_region_lit ?_
  refine LCV (v := .bool (true)) Hz rfl rfl Try.call8 (l38sane_c) rfl fun w9 o10 => ?_
  clear Hz az; intro az Hz
  refine L (r_as Hz rfl) Hz rfl ?_
  clear Hz az; intro az Hz
  refine hK8 _ _ ?_
  refine wp_seq_k fun K11 hK11 => ?_
  refine wp_seq_k fun K12 hK12 => ?_
  -- law.go:199
  refine wp_region_lit ?_
  have B13 := (Blk.k B5 o10)
  refine L (r_ldA Try.isAgg25 Try.sizeOf25 Hz rfl (Blk.ca B13) rfl) Hz rfl ?_
  clear Hz az; intro az Hz
  have O14 : Only NoF w w9 := (Only.trans' o4 o10)
  have h15 := (SliceOf.kp f1 O14 (fun _ _ h => h) (fun _ _ _ _ h => h))
  have h16 := (SliceOf.kp f2 O14 (fun _ _ h => h) (fun _ _ _ _ h => h))
  refine LCE Hz rfl rfl Try.call9 (kFew_c (show AirV _ _ a from ⟨_, _, rfl, h15, h16⟩) 20 (by omega)) rfl fun b19 w17 hs20 o18 => ?_
  clear Hz az; intro az Hz
  refine L (r_not Hz rfl) Hz rfl ?_
  clear Hz az; intro az Hz
  refine L (r_mv Hz rfl) Hz rfl ?_
  clear Hz az; intro az Hz
  refine LG Hz rfl rfl gd_f (fun hb => r_fa (m' := 0) Try.underlying25 rfl Try.sizeOf22 rfl Hz rfl rfl) rfl ?_
  clear Hz az; intro az Hz
  have B21 := (Blk.k B13 o18)
  refine LG Hz rfl rfl gd_f (fun hb => r_ld Try.isAgg22 Hz (evg hb rfl) ((Blk.ca B21) 0 _ rfl)) rfl ?_
  clear Hz az; intro az Hz
  refine LG Hz rfl rfl gd_f (fun hb => r_lenL Try.underlying22 Hz (evg hb rfl)) rfl ?_
  clear Hz az; intro az Hz
  refine LG Hz rfl rfl gd_f (fun hb => r_gtI Hz (evg hb rfl) rfl) rfl ?_
  clear Hz az; intro az Hz
  refine L (r_or Hz rfl rfl rfl) Hz rfl ?_
  clear Hz az; intro az Hz
  refine L (r_mv Hz rfl) Hz rfl ?_
  clear Hz az; intro az Hz
  refine LG Hz rfl rfl gd_f (fun hb => r_mv Hz rfl) rfl ?_
  clear Hz az; intro az Hz
  have O22 : Only NoF w w17 := (Only.trans' O14 o18)
  have h23 := (SliceOf.kp f3 O22 (fun _ _ h => h) (fun _ _ _ _ h => h))
  refine LGE Hz rfl rfl gd_f rfl (fun hb => (evs_c (evg hb rfl) (evs_c rfl rfl))) Try.call10 (fun hb => kFewE_c h23 20 (by omega)) rfl fun b26 w24 hs27 o25 => ?_
  clear Hz az; intro az Hz
  refine LG Hz rfl rfl gd_f (fun hb => r_not Hz (evg hb rfl)) rfl ?_
  clear Hz az; intro az Hz
  refine L (r_or Hz rfl rfl rfl) Hz rfl ?_
  clear Hz az; intro az Hz
  refine L (r_mv Hz rfl) Hz rfl ?_
  clear Hz az; intro az Hz
  have B28 := (Blk.k B21 o25)
  refine LG Hz rfl rfl gd_f (fun hb => r_ldA Try.isAgg25 Try.sizeOf25 Hz rfl (Blk.ca B28) rfl) rfl ?_
  clear Hz az; intro az Hz
  have O29 : Only NoF w w24 := (Only.trans' O22 o25)
  have h30 := (SliceOf.kp f1 O29 (fun _ _ h => h) (fun _ _ _ _ h => h))
  have h31 := (SliceOf.kp f2 O29 (fun _ _ h => h) (fun _ _ _ _ h => h))
  refine LGV (v := .bool (Lnk.right a)) Hz rfl rfl gd_f rfl (fun hb => (evs_c (evg hb rfl) rfl)) Try.call28 (fun hb => nRightA_c (show AirV _ _ a from ⟨_, _, rfl, h30, h31⟩)) rfl fun w32 o33 => ?_
  clear Hz az; intro az Hz
  refine LG Hz rfl rfl gd_f (fun hb => r_not Hz (evg hb rfl)) rfl ?_
  clear Hz az; intro az Hz
  refine L (r_or Hz rfl rfl rfl) Hz rfl ?_
  clear Hz az; intro az Hz
  refine hK12 _ _ ?_
  refine br Hz rfl (fun hc34 => ?_) (fun hc34 => ?_)
  · -- if0
    have d35 := hc34
    refine wp_seq_k fun K36 hK36 => ?_
    -- law.go:200
    refine wp_region_lit ?_
    refine L (r_mv Hz rfl) Hz rfl ?_
    clear Hz az; intro az Hz
    refine L (r_as Hz rfl) Hz rfl ?_
    clear Hz az; intro az Hz
    refine hK36 _ _ ?_
    refine wp_ret ?_
    show bodyPost _ _ _ .ret _ _
    refine ret_of (vs := [.bool (true)]) Hz Try.results7 ⟨rfl, trivial⟩ ?_
    have O37 : Only NoF w w32 := (Only.trans' O29 o33)
    exact ⟨rfl, O37⟩
  · -- else0
    have q38 : b19 = true := (nt_f (or_f (or_f (or_f hc34).1).1).1)
    have S39 := hs20 q38
    have p40 := of_decide_eq_false (or_f (or_f (or_f hc34).1).1).2
    have q41 : b26 = true := (nt_f (or_f (or_f hc34).1).2)
    have S42 := hs27 (by rw [q38, decide_eq_false p40]; rfl) q41
    have q43 : Lnk.right a = true := (nt_f (or_f hc34).2)
    obtain ⟨few1, few2, few3⟩ := S39
    obtain ⟨fwe0, fwx0⟩ := S42
    have hright := q43
    refine wp_skip ?_
    refine hK11 _ _ ?_
    refine wp_seq_k fun K44 hK44 => ?_
    -- law.go:202
    refine wp_region_lit ?_
    have B45 := (Blk.k B28 o33)
    refine L (r_ldA Try.isAgg25 Try.sizeOf25 Hz rfl (Blk.ca B45) rfl) Hz rfl ?_
    clear Hz az; intro az Hz
    refine LAl (v := .agg #[.slice none (0) 0, .slice none (0) 0]) zeroAir Hz rfl rfl ?_
    clear Hz az; intro g46 w47 hg50 hl51 o48 B49 az Hz
    refine LSt (cs' := [.slice A1 (a.ms.length) c1, .slice A2 (a.cs.length) c2]) Try.sizeOf25 Hz rfl rfl rfl rfl rfl ⟨rfl, rfl, trivial⟩ B49 rfl rfl fun w52 s53 B54 => ?_
    refine hK44 _ _ ?_
    refine wp_join (fun az W => ∃ g11 : Nat, ∃ Y0 : Option Addr, ∃ y0 : Nat, Fr 191 [(1, .int .i64 (x)), (2, .int .i64 (y)), (3, .slice A3 (l.length) c3), (9, .bool (true)), (10, .pointer (some ((⟨g46, 0, none⟩ : Addr)))), (11, .pointer (some ((⟨g11, 0, none⟩ : Addr))))] az ∧ (w52.heap.size ≤ g11) ∧ Only NoF w52 W ∧ Blk W g11 25 [.slice Y0 ((List.filter (Lnk.betw x y) a.ms).length) y0, .slice A2 (a.cs.length) c2].toArray ∧ SliceOf (geB w52.heap.size) 3 RMsg W (.slice Y0 (List.filter (Lnk.betw x y) a.ms).length y0) (List.filter (Lnk.betw x y) a.ms)) ?_ ?_
    · -- to the join
      -- law.go:203
      refine reg_p NoF 2 [4, 8, 9] (.rd 0 (.rd 1 (.rd 2 (.rd 3 (.rd 5 (.rd 6 (.fork 4 (.rd 7 (.ex 8 (.ex 9 .nil))) 8 (.ex 4 (.rd 7 (.ex 9 .nil)))))))))) (by kernel_rfl) (by kernel_rfl) (fun _ _ _ _ _ h => h) fun w55 o56 => ?_
      have O58 : Only NoF w3 w32 := (Only.trans' (Only.trans' (Only.trans' o10 o18) o25) o33)
      have ne57 : g2 ≠ g46 := (ne_of hl7 (Nat.le_trans (size_only O58) hg50))
      have B59 := (Blk.k (Blk.st (Blk.k B45 o48) s53 ne57) o56)
      refine Pl.MSP (b := true) (by kernel_rfl) (fun W oW => r_fa (m' := 0) Try.underlying25 rfl Try.sizeOf22 rfl Hz rfl rfl) Hz rfl rfl ?_
      clear Hz az; intro az Hz
      refine Pl.MSP (b := true) (by kernel_rfl) (fun W oW => r_ld Try.isAgg22 Hz rfl ((Blk.ca (Blk.k B59 oW)) 0 _ rfl)) Hz rfl rfl ?_
      clear Hz az; intro az Hz
      refine Pl.MSP (b := true) (by kernel_rfl) (fun W oW => r_mv Hz rfl) Hz rfl rfl ?_
      clear Hz az; intro az Hz
      refine Pl.MSP (b := true) (by kernel_rfl) (fun W oW => r_mv Hz rfl) Hz rfl rfl ?_
      clear Hz az; intro az Hz
      refine Pl.MSP (b := true) (by kernel_rfl) (fun W oW => r_fa (m' := 1) Try.underlying25 rfl Try.sizeOf23 rfl Hz rfl rfl) Hz rfl rfl ?_
      clear Hz az; intro az Hz
      refine Pl.MSP (b := true) (by kernel_rfl) (fun W oW => r_ld Try.isAgg23 Hz rfl ((Blk.ca (Blk.k B59 oW)) 1 _ rfl)) Hz rfl rfl ?_
      clear Hz az; intro az Hz
      refine wpPl_fork ?_ ?_
      · -- 4 first
        have O65 : Only NoF w w32 := (Only.trans' O29 o33)
        have O66 : Only NoF w w55 := (Only.trans' (o_sg (Only.trans' (Only.trans' O29 o33) o48) s53 (size_only O65) (oneF_ge hg50)) o56)
        have h67 := (SliceOf.kp f1 O66 (fun _ _ h => h) (fun _ _ _ _ h => h))
        refine Pl.MSC Hz rfl rfl rfl Try.call31 (own_v h67 x y (by omega)) rfl ?_
        rintro e w68 ⟨A60, c61, rfl, r62, k63, o64⟩; refine ⟨_, rfl, ⟨fun _ => o64, (Only.trans (Only.refl NoF w55) o64 (fun _ h => h.elim))⟩, ?_⟩
        clear Hz az; intro az Hz
        refine Pl.MSP (b := true) (by kernel_rfl) (fun W oW => r_bd (v := .agg #[.slice A60 ((List.filter (Lnk.betw x y) a.ms).length) c61, .slice A2 (a.cs.length) c2]) (build_Air _ _ _ _ _ _) Hz rfl) Hz rfl rfl ?_
        clear Hz az; intro az Hz
        obtain ⟨g69, w70, hw, hA, hg73, hl74, o71, B72⟩ := newBlk (w := w68) (e := 25) (cs := [.slice none (0) 0, .slice none (0) 0])
        refine Pl.MD (r_al (v := .agg #[.slice none (0) 0, .slice none (0) 0]) zeroAir rfl) Hz rfl rfl ?_ ?_
        · rw [← hw]; exact ⟨fun _ => (Only.trans' o64 o71), (Only.trans (Only.trans (Only.refl NoF w55) o64 (fun _ h => h.elim)) o71 (fun _ h => h.elim))⟩
        rw [← hw, ← hA]; clear Hz az; intro az Hz
        clear hw hA
        refine Pl.MSS (cs' := [.slice A60 ((List.filter (Lnk.betw x y) a.ms).length) c61, .slice A2 (a.cs.length) c2]) Try.sizeOf25 Hz rfl rfl rfl rfl rfl rfl ⟨rfl, rfl, trivial⟩ B72 rfl rfl fun w75 s76 B77 => ?_
        refine ⟨⟨fun h => absurd h (by decide), (Only.trans (Only.trans (Only.trans (Only.refl NoF w55) o64 (fun _ h => h.elim)) o71 (fun _ h => h.elim)) s76 (fun k h => .inr (Nat.le_trans (size_only o64) ((oneF_ge hg73) k h))))⟩, ?_⟩
        refine wpPl_nil ?_
        have h78 := Row.own KMsg r62 k63
        have O79 : Only NoF w52 w68 := (Only.trans' o56 o64)
        have O80 : Only NoF w68 w75 := (o_sg o71 s76 (Nat.le_refl _) (oneF_ge hg73))
        have h81 := (SliceOf.kp h78 O80 (fun _ _ h => h) (fun _ _ _ _ h => h))
        have O82 : Only NoF w52 w75 := (o_sg (Only.trans' O79 o71) s76 (size_only O79) (oneF_ge hg73))
        exact ⟨g69, A60, c61, Hz.cut ⟨rfl, rfl, rfl, rfl, rfl, rfl, trivial⟩, (Nat.le_trans (size_only O79) hg73), O82, B77, (SliceOf.ge_low h81 (size_only o56))⟩
      · -- 8 first
        obtain ⟨g83, w84, hw, hA, hg87, hl88, o85, B86⟩ := newBlk (w := w55) (e := 25) (cs := [.slice none (0) 0, .slice none (0) 0])
        refine Pl.MD (r_al (v := .agg #[.slice none (0) 0, .slice none (0) 0]) zeroAir rfl) Hz rfl rfl ?_ ?_
        · rw [← hw]; exact ⟨fun _ => o85, (Only.trans (Only.refl NoF w55) o85 (fun _ h => h.elim))⟩
        rw [← hw, ← hA]; clear Hz az; intro az Hz
        clear hw hA
        have O94 : Only NoF w w32 := (Only.trans' O29 o33)
        have O95 : Only NoF w w84 := (Only.trans' (Only.trans' (o_sg (Only.trans' (Only.trans' O29 o33) o48) s53 (size_only O94) (oneF_ge hg50)) o56) o85)
        have h96 := (SliceOf.kp f1 O95 (fun _ _ h => h) (fun _ _ _ _ h => h))
        refine Pl.MSC Hz rfl rfl rfl Try.call31 (own_v h96 x y (by omega)) rfl ?_
        rintro e w97 ⟨A89, c90, rfl, r91, k92, o93⟩; refine ⟨_, rfl, ⟨fun _ => (Only.trans' o85 o93), (Only.trans (Only.trans (Only.refl NoF w55) o85 (fun _ h => h.elim)) o93 (fun _ h => h.elim))⟩, ?_⟩
        clear Hz az; intro az Hz
        refine Pl.MSP (b := true) (by kernel_rfl) (fun W oW => r_bd (v := .agg #[.slice A89 ((List.filter (Lnk.betw x y) a.ms).length) c90, .slice A2 (a.cs.length) c2]) (build_Air _ _ _ _ _ _) Hz rfl) Hz rfl rfl ?_
        clear Hz az; intro az Hz
        have B98 := (Blk.k B86 o93)
        refine Pl.MSS (cs' := [.slice A89 ((List.filter (Lnk.betw x y) a.ms).length) c90, .slice A2 (a.cs.length) c2]) Try.sizeOf25 Hz rfl rfl rfl rfl rfl rfl ⟨rfl, rfl, trivial⟩ B98 rfl rfl fun w99 s100 B101 => ?_
        refine ⟨⟨fun h => absurd h (by decide), (Only.trans (Only.trans (Only.trans (Only.refl NoF w55) o85 (fun _ h => h.elim)) o93 (fun _ h => h.elim)) s100 (fun k h => .inr (Nat.le_trans (Nat.le_refl _) ((oneF_ge hg87) k h))))⟩, ?_⟩
        refine wpPl_nil ?_
        have h102 := Row.own KMsg r91 k92
        have h103 := (SliceOf.kp h102 s100 (ge_F (oneF_lt hl88) (Nat.le_refl _)) (fun _ _ _ _ h => h))
        have O104 : Only NoF w52 w84 := (Only.trans' o56 o85)
        have O105 : Only NoF w52 w99 := (o_sg (Only.trans' O104 o93) s100 (size_only o56) (oneF_ge hg87))
        exact ⟨g83, A89, c90, Hz.cut ⟨rfl, rfl, rfl, rfl, rfl, rfl, trivial⟩, (Nat.le_trans (size_only o56) hg87), O105, B101, (SliceOf.ge_low h103 (size_only O104))⟩
    clear Hz az
    rintro az w106 ⟨g11, Y0, y0, Hz, hg11, o107, B108, fY0⟩
    refine wp_seq_k fun K109 hK109 => ?_
    -- law.go:204
    refine wp_region_lit ?_
    obtain ⟨A110, w111, hw, hA, r112, o113⟩ := made0 (w := w106) (e := 27) (size := 3)
    refine L (r_bs0 Try.underlying22 Try.sizeOf27) Hz rfl ?_
    rw [← hw, ← hA]; clear Hz az; intro az Hz
    clear hw hA
    refine L (r_as Hz rfl) Hz rfl ?_
    clear Hz az; intro az Hz
    refine hK109 _ _ ?_
    refine wp_seq_k fun K114 hK114 => ?_
    -- law.go:205
    refine wp_region_lit ?_
    obtain ⟨A115, w116, hw, hA, r117, o118⟩ := made0 (w := w111) (e := 27) (size := 3)
    refine L (r_bs0 Try.underlying22 Try.sizeOf27) Hz rfl ?_
    rw [← hw, ← hA]; clear Hz az; intro az Hz
    clear hw hA
    refine L (r_as Hz rfl) Hz rfl ?_
    clear Hz az; intro az Hz
    refine hK114 _ _ ?_
    refine wp_seq_k fun K119 hK119 => ?_
    refine wp_seq_k fun K120 hK120 => ?_
    -- law.go:206
    refine wp_region_lit ?_
    refine L (r_as Hz rfl) Hz rfl ?_
    clear Hz az; intro az Hz
    refine hK120 _ _ ?_
    refine wp_block ?_
    have B121 := (Blk.k (Blk.k (Blk.k B54 o107) o113) o118)
    have B122 := (Blk.k (Blk.k B108 o113) o118)
    have O124 := (Only.trans (Only.refl (fun _ => True) w47) s53 (fun _ _ => .inl trivial))
    have ne123 : g46 ≠ g11 := (ne_of hl51 (Nat.le_trans (size_only O124) hg11))
    have ne125 : g11 ≠ g46 := (ne_of hl51 (Nat.le_trans (size_only O124) hg11)).symm
    refine wp_loop_m (fun mz az W => ∃ k : Nat, ∃ n : Air, ∃ al : Air, ∃ sm : List Msg, ∃ am : List Msg, ∃ Z1 : Option Addr, ∃ z1 : Nat, ∃ Z2 : Option Addr, ∃ z2 : Nat, ∃ Y1 : Option Addr, ∃ y1 : Nat, ∃ Y2 : Option Addr, ∃ y2 : Nat, ∃ X1 : Option Addr, ∃ x1 : Nat, ∃ U1 : Option Addr, ∃ u1 : Nat, mz = l.length - k ∧ Fr 191 [(1, .int .i64 (x)), (2, .int .i64 (y)), (3, .slice A3 (l.length) c3), (9, .bool (true)), (10, .pointer (some ((⟨g46, 0, none⟩ : Addr)))), (11, .pointer (some ((⟨g11, 0, none⟩ : Addr)))), (14, .int .i64 ((k : Int))), (12, .slice X1 (sm.length) x1), (13, .slice U1 (am.length) u1)] az ∧ (k ≤ l.length) ∧ (Lnk.Sim x y n al) ∧ (n.ms.length ≤ 20 + k) ∧ (n.cs.length ≤ a.cs.length + k) ∧ (al.cs.length ≤ a.cs.length + k) ∧ (sm = am.filter (Lnk.betw x y)) ∧ (am.length ≤ k) ∧ (∀ z ∈ sm, KMsg.ok z) ∧ (∀ z ∈ am, KMsg.ok z) ∧ (sepV (.slice X1 sm.length x1) (.slice U1 am.length u1)) ∧ Only NoF w W ∧ Blk W g46 25 [.slice Z1 (n.ms.length) z1, .slice Z2 (n.cs.length) z2].toArray ∧ Blk W g11 25 [.slice Y1 (al.ms.length) y1, .slice Y2 (al.cs.length) y2].toArray ∧ Msgs W (.slice Z1 n.ms.length z1) n.ms ∧ Prs W (.slice Z2 n.cs.length z2) n.cs ∧ SliceOf (avB g46 (.slice U1 am.length u1)) 3 RMsg W (.slice Y1 al.ms.length y1) al.ms ∧ SliceOf (avB g46 (.slice U1 am.length u1)) 2 RPr W (.slice Y2 al.cs.length y2) al.cs ∧ W.ownsRow w.heap.size 27 3 (.slice X1 (sm).length x1) (sm).length (List.flatMap KMsg.cells sm) ∧ W.ownsRow w.heap.size 27 3 (.slice U1 (am).length u1) (am).length (List.flatMap KMsg.cells am)) ?_ ?_
    · -- start
      have O126 : Only NoF w w32 := (Only.trans' O29 o33)
      have O127 : Only NoF w w116 := (Only.trans' (Only.trans' (Only.trans' (o_sg (Only.trans' (Only.trans' O29 o33) o48) s53 (size_only O126) (oneF_ge hg50)) o107) o113) o118)
      have h128 := (SliceOf.kp f1 O127 (fun _ _ h => h) (fun _ _ _ _ h => h))
      have h129 := (SliceOf.kp f2 O127 (fun _ _ h => h) (fun _ _ _ _ h => h))
      have h131 := (SliceOf.kp fY0 o113 (fun _ _ h => h) (fun _ _ _ _ h => h))
      have h132 := SliceOf.pl h131
      have h133 := SliceOf.av_mid h131 hl51 (size_only O124) r117 (Nat.le_refl _)
      have h134 := (SliceOf.kp h133 o118 (fun _ _ h => h) (fun _ _ _ _ h => h))
      have O136 : Only NoF w w111 := (Only.trans' (Only.trans' (o_sg (Only.trans' O126 o48) s53 (size_only O126) (oneF_ge hg50)) o107) o113)
      have h137 := (SliceOf.kp f2 O136 (fun _ _ h => h) (fun _ _ _ _ h => h))
      have h139 := (SliceOf.kp f2 O126 (fun _ _ h => h) (fun _ _ _ _ h => h))
      have O140 : Only NoF w32 w111 := (Only.trans' (Only.trans' (o_sg o48 s53 (Nat.le_refl _) (oneF_ge hg50)) o107) o113)
      have h138 := SliceOf.av_old h139 hg50 r117 (size_only O140)
      have O141 : Only NoF w32 w116 := (Only.trans' O140 o118)
      have h142 := (SliceOf.kp h138 O141 (fun _ _ h => h) (fun _ _ _ _ h => h))
      have r143 := (ow_k r112 o118)
      have O144 : Only NoF w w106 := (Only.trans' (o_sg (Only.trans' O126 o48) s53 (size_only O126) (oneF_ge hg50)) o107)
      exact ⟨_, 0, a, _, [], [], A1, c1, A2, c2, Y0, y0, A2, c2, A110, 0, A115, 0, rfl, Hz.cut ⟨rfl, rfl, rfl, rfl, rfl, rfl, rfl, rfl, rfl, trivial⟩, Nat.zero_le _, (Lnk.sim_start hright), (by omega), (by omega), (by show a.cs.length ≤ _; omega), rfl, Nat.zero_le _, (fun z hz => by cases hz), (fun z hz => by cases hz), (sepV.of_low r112 r117 (Nat.le_refl _)), O127, B121, B122, h128, h129, h134, h142, (ow_low r143 ((size_only O144))), (ow_low r117 ((size_only O136)))⟩
    clear Hz az
    rintro mz az w145 ⟨k, n, al, sm, am, Z1, z1, Z2, z2, Y1, y1, Y2, y2, X1, x1, U1, u1, hm147, Hz, hk, hS, hn, hcn, hca, hsm, hlm, okX, okU, hsep, o146, B148, B149, fZ1, fZ2, fY1, fY2, rX, rU⟩
    have O150 : Only NoF w w32 := (Only.trans' O29 o33)
    have O151 : Only NoF w w52 := (o_sg (Only.trans' O150 o48) s53 (size_only O150) (oneF_ge hg50))
    have hsl : sm.length ≤ am.length := by rw [hsm]; exact List.length_filter_le _ _
    have hnle := (Lnk.right_iff.1 hS.2.2.1).2.2.1; have hale := (Lnk.right_iff.1 hS.2.2.2).2.2.1
    refine wp_seq_k fun K152 hK152 => ?_
    refine wp_seq_k fun K153 hK153 => ?_
    -- law.go:206
    refine wp_region_lit ?_
    refine L (r_mv Hz rfl) Hz rfl ?_
    clear Hz az; intro az Hz
    refine L (r_mv Hz rfl) Hz rfl ?_
    clear Hz az; intro az Hz
    refine L (r_lenL Try.underlying28 Hz rfl) Hz rfl ?_
    clear Hz az; intro az Hz
    refine L (r_ltI Hz rfl rfl) Hz rfl ?_
    clear Hz az; intro az Hz
    refine hK153 _ _ ?_
    refine br Hz rfl (fun hc154 => ?_) (fun hc154 => ?_)
    · -- if1
      have p155 := of_decide_eq_true hc154
      refine wp_skip ?_
      refine hK152 _ _ ?_
      refine wp_seq_k fun K156 hK156 => ?_
      refine wp_block ?_
      refine wp_seq_k fun K157 hK157 => ?_
      -- law.go:207
      refine wp_region_lit ?_
      refine L (r_mv Hz rfl) Hz rfl ?_
      clear Hz az; intro az Hz
      refine L (r_mv Hz rfl) Hz rfl ?_
      clear Hz az; intro az Hz
      have hk158 : k < (l).length := by first | omega | (simp; done)
      have h164 := (SliceOf.kp f3 o146 (fun _ _ h => h) (fun _ _ _ _ h => h))
      obtain ⟨m159, hm160, ok161, hA162⟩ := Row.el KEv h164 hk158
      have E163 : ∀ W, Only NoF w145 W → CA W (eA A3 4 (k)) [.int .i64 (m159.k), .int .i64 (m159.a), .int .i64 (m159.b), strV (m159.t)] := Row.ce KEv h164 hm160 rfl
      refine L (r_ia (k := k) (size := 4) Try.underlying28 Try.sizeOf48 Hz rfl rfl rfl hk158 hA162) Hz rfl ?_
      clear Hz az; intro az Hz
      refine L (r_ldA Try.isAgg48 Try.sizeOf48 Hz rfl (E163 _ (Only.refl NoF w145)) rfl) Hz rfl ?_
      clear Hz az; intro az Hz
      refine LAl (v := .agg #[.int .i64 (0), .int .i64 (0), .int .i64 (0), strV ([])]) zeroEv Hz rfl rfl ?_
      clear Hz az; intro g165 w166 hg169 hl170 o167 B168 az Hz
      refine LSt (cs' := [.int .i64 (m159.k), .int .i64 (m159.a), .int .i64 (m159.b), strV (m159.t)]) Try.sizeOf48 Hz rfl rfl rfl rfl rfl ⟨rfl, rfl, rfl, rfl, trivial⟩ B168 rfl rfl fun w171 s172 B173 => ?_
      refine hK157 _ _ ?_
      refine wp_join (fun az W => ∃ gb16 : Nat, ∃ N1 : Option Addr, ∃ n1 : Nat, ∃ N2 : Option Addr, ∃ n2 : Nat, ∃ N3 : Option Addr, ∃ n3 : Nat, ∃ N4 : Option Addr, ∃ n4 : Nat, Fr 191 [(1, .int .i64 (x)), (2, .int .i64 (y)), (3, .slice A3 (l.length) c3), (9, .bool (true)), (10, .pointer (some ((⟨g46, 0, none⟩ : Addr)))), (11, .pointer (some ((⟨g11, 0, none⟩ : Addr)))), (12, .slice X1 (sm.length) x1), (13, .slice U1 (am.length) u1), (14, .int .i64 ((k : Int))), (15, .pointer (some ((⟨g165, 0, none⟩ : Addr)))), (16, .pointer (some ((⟨gb16, 0, none⟩ : Addr)))), (17, .slice N3 (((Lnk.do_ n m159).2.1).length) n3), (18, .slice N4 (([(Lnk.do_ n m159).2.2]).length) n4)] az ∧ (w171.heap.size ≤ gb16) ∧ Only NoF w171 W ∧ Blk W gb16 25 [.slice N1 ((Lnk.next n m159).ms.length) n1, .slice N2 ((Lnk.next n m159).cs.length) n2].toArray ∧ SliceOf (geB w171.heap.size) 3 RMsg W (.slice N1 ((Lnk.next n m159).ms.length) n1) ((Lnk.next n m159).ms) ∧ SliceOf (geB w171.heap.size) 2 RPr W (.slice N2 ((Lnk.next n m159).cs.length) n2) ((Lnk.next n m159).cs) ∧ SliceOf (geB w171.heap.size) 3 RMsg W (.slice N3 (((Lnk.do_ n m159).2.1).length) n3) ((Lnk.do_ n m159).2.1) ∧ SliceOf (geB w171.heap.size) 1 RInt W (.slice N4 (([(Lnk.do_ n m159).2.2]).length) n4) ([(Lnk.do_ n m159).2.2])) ?_ ?_
      · -- to the join
        -- law.go:208
        refine reg_p NoF 2 [6, 11, 12] (.rd 0 (.rd 1 (.rd 2 (.rd 3 (.rd 4 (.rd 5 (.fork 6 (.rd 7 (.rd 8 (.rd 9 (.rd 10 (.ex 11 (.ex 12 (.rd 13 (.rd 14 .nil)))))))) 11 (.ex 6 (.rd 7 (.rd 8 (.rd 9 (.rd 10 (.ex 12 (.rd 13 (.rd 14 .nil))))))))))))))) (by kernel_rfl) (by kernel_rfl) (fun _ _ _ _ _ h => h) fun w174 o175 => ?_
        have ne176 : g46 ≠ g165 := (ne_of (Blk.lt B148) hg169)
        have B177 := (Blk.k (Blk.st (Blk.k B148 o167) s172 ne176) o175)
        refine Pl.MSP (b := true) (by kernel_rfl) (fun W oW => r_ldA Try.isAgg25 Try.sizeOf25 Hz rfl (Blk.ca (Blk.k B177 oW)) rfl) Hz rfl rfl ?_
        clear Hz az; intro az Hz
        refine Pl.MSP (b := true) (by kernel_rfl) (fun W oW => r_mv Hz rfl) Hz rfl rfl ?_
        clear Hz az; intro az Hz
        refine Pl.MSP (b := true) (by kernel_rfl) (fun W oW => r_mv Hz rfl) Hz rfl rfl ?_
        clear Hz az; intro az Hz
        refine Pl.MSP (b := true) (by kernel_rfl) (fun W oW => r_mv Hz rfl) Hz rfl rfl ?_
        clear Hz az; intro az Hz
        have i178 : I64 ((k : Int) + 1) := by unfold I64; omega
        refine Pl.MSP (b := true) (by kernel_rfl) (fun W oW => r_addI (r := ((k : Int) + 1)) Hz rfl rfl rfl i178) Hz rfl rfl ?_
        clear Hz az; intro az Hz
        have hl179 : k + 1 ≤ (l).length := by omega
        have O181 : Only NoF w w174 := (Only.trans' (o_sg (Only.trans' o146 o167) s172 (size_only o146) (oneF_ge hg169)) o175)
        have h182 := (SliceOf.kp f3 O181 (fun _ _ h => h) (fun _ _ _ _ h => h))
        have hc180 : k + 1 ≤ c3 := Nat.le_trans hl179 (SliceOf.cap_ h182)
        have h183 := SliceOf.sub (lo := k) (m := 1) h182 rfl hl179
        rw [take_one hm160] at h183
        refine Pl.MSP (b := true) (by kernel_rfl) (fun W oW => r_sl (lo := k) (m := 1) (size := 4) Try.underlying28 Try.sizeOf48 Hz rfl rfl rfl rfl rfl hc180) Hz rfl rfl ?_
        clear Hz az; intro az Hz
        refine wpPl_fork ?_ ?_
        · -- 6 first
          have O184 : Only NoF w145 w174 := (Only.trans' (o_sg o167 s172 (Nat.le_refl _) (oneF_ge hg169)) o175)
          have h185 := (SliceOf.kp fZ1 O184 (fun _ _ h => h) (fun _ _ _ _ h => h))
          have h186 := (SliceOf.kp fZ2 O184 (fun _ _ h => h) (fun _ _ _ _ h => h))
          refine Pl.MSC Hz rfl rfl rfl Try.call24 (Run_v1 (show AirV _ _ n from ⟨_, _, rfl, h185, h186⟩) h183 hS.2.2.1 (by omega)) rfl ?_
          rintro e w200 ⟨A187, c191, A188, c192, A189, c193, A190, c194, rfl, f195, f196, f197, f198, o199⟩; refine ⟨_, rfl, ⟨fun _ => o199, (Only.trans (Only.refl NoF w174) o199 (fun _ h => h.elim))⟩, ?_⟩
          clear Hz az; intro az Hz
          refine Pl.MSP (b := true) (by kernel_rfl) (fun W oW => r_mv Hz rfl) Hz rfl rfl ?_
          clear Hz az; intro az Hz
          refine Pl.MSP (b := true) (by kernel_rfl) (fun W oW => r_ex Hz rfl rfl) Hz rfl rfl ?_
          clear Hz az; intro az Hz
          refine Pl.MSP (b := false) (by kernel_rfl) (fun W oW => r_ex Hz rfl rfl) Hz rfl rfl ?_
          clear Hz az; intro az Hz
          refine Pl.MSP (b := false) (by kernel_rfl) (fun W oW => r_ex Hz rfl rfl) Hz rfl rfl ?_
          clear Hz az; intro az Hz
          obtain ⟨g201, w202, hw, hA, hg205, hl206, o203, B204⟩ := newBlk (w := w200) (e := 25) (cs := [.slice none (0) 0, .slice none (0) 0])
          refine Pl.MD (r_al (v := .agg #[.slice none (0) 0, .slice none (0) 0]) zeroAir rfl) Hz rfl rfl ?_ ?_
          · rw [← hw]; exact ⟨fun _ => (Only.trans' o199 o203), (Only.trans (Only.trans (Only.refl NoF w174) o199 (fun _ h => h.elim)) o203 (fun _ h => h.elim))⟩
          rw [← hw, ← hA]; clear Hz az; intro az Hz
          clear hw hA
          refine Pl.MSS (cs' := [.slice A187 ((Lnk.next n m159).ms.length) c191, .slice A188 ((Lnk.next n m159).cs.length) c192]) Try.sizeOf25 Hz rfl rfl rfl rfl rfl rfl ⟨rfl, rfl, trivial⟩ B204 rfl rfl fun w207 s208 B209 => ?_
          refine ⟨⟨fun h => absurd h (by decide), (Only.trans (Only.trans (Only.trans (Only.refl NoF w174) o199 (fun _ h => h.elim)) o203 (fun _ h => h.elim)) s208 (fun k h => .inr (Nat.le_trans (size_only o199) ((oneF_ge hg205) k h))))⟩, ?_⟩
          refine Pl.MSP (b := false) (by kernel_rfl) (fun W oW => r_as Hz rfl) Hz rfl rfl ?_
          clear Hz az; intro az Hz
          refine Pl.MSP (b := false) (by kernel_rfl) (fun W oW => r_as Hz rfl) Hz rfl rfl ?_
          clear Hz az; intro az Hz
          refine wpPl_nil ?_
          have O210 : Only NoF w171 w200 := (Only.trans' o175 o199)
          have O211 : Only NoF w200 w207 := (o_sg o203 s208 (Nat.le_refl _) (oneF_ge hg205))
          have h212 := (SliceOf.kp f195 O211 (fun _ _ h => h) (fun _ _ _ _ h => h))
          have h213 := (SliceOf.kp f196 O211 (fun _ _ h => h) (fun _ _ _ _ h => h))
          have h214 := (SliceOf.kp f197 O211 (fun _ _ h => h) (fun _ _ _ _ h => h))
          have h215 := (SliceOf.kp f198 O211 (fun _ _ h => h) (fun _ _ _ _ h => h))
          have O216 : Only NoF w171 w207 := (o_sg (Only.trans' O210 o203) s208 (size_only O210) (oneF_ge hg205))
          exact ⟨g201, A187, c191, A188, c192, A189, c193, A190, c194, Hz.cut ⟨rfl, rfl, rfl, rfl, rfl, rfl, rfl, rfl, rfl, rfl, rfl, rfl, rfl, trivial⟩, (Nat.le_trans (size_only O210) hg205), O216, B209, (SliceOf.ge_low h212 (size_only o175)), (SliceOf.ge_low h213 (size_only o175)), (SliceOf.ge_low h214 (size_only o175)), (SliceOf.ge_low h215 (size_only o175))⟩
        · -- 11 first
          obtain ⟨g217, w218, hw, hA, hg221, hl222, o219, B220⟩ := newBlk (w := w174) (e := 25) (cs := [.slice none (0) 0, .slice none (0) 0])
          refine Pl.MD (r_al (v := .agg #[.slice none (0) 0, .slice none (0) 0]) zeroAir rfl) Hz rfl rfl ?_ ?_
          · rw [← hw]; exact ⟨fun _ => o219, (Only.trans (Only.refl NoF w174) o219 (fun _ h => h.elim))⟩
          rw [← hw, ← hA]; clear Hz az; intro az Hz
          clear hw hA
          have O223 : Only NoF w145 w218 := (Only.trans' (Only.trans' (o_sg o167 s172 (Nat.le_refl _) (oneF_ge hg169)) o175) o219)
          have h224 := (SliceOf.kp fZ1 O223 (fun _ _ h => h) (fun _ _ _ _ h => h))
          have h225 := (SliceOf.kp fZ2 O223 (fun _ _ h => h) (fun _ _ _ _ h => h))
          have h226 := (SliceOf.kp h183 o219 (fun _ _ h => h) (fun _ _ _ _ h => h))
          refine Pl.MSC Hz rfl rfl rfl Try.call24 (Run_v1 (show AirV _ _ n from ⟨_, _, rfl, h224, h225⟩) h226 hS.2.2.1 (by omega)) rfl ?_
          rintro e w240 ⟨A227, c231, A228, c232, A229, c233, A230, c234, rfl, f235, f236, f237, f238, o239⟩; refine ⟨_, rfl, ⟨fun _ => (Only.trans' o219 o239), (Only.trans (Only.trans (Only.refl NoF w174) o219 (fun _ h => h.elim)) o239 (fun _ h => h.elim))⟩, ?_⟩
          clear Hz az; intro az Hz
          refine Pl.MSP (b := true) (by kernel_rfl) (fun W oW => r_mv Hz rfl) Hz rfl rfl ?_
          clear Hz az; intro az Hz
          refine Pl.MSP (b := true) (by kernel_rfl) (fun W oW => r_ex Hz rfl rfl) Hz rfl rfl ?_
          clear Hz az; intro az Hz
          refine Pl.MSP (b := false) (by kernel_rfl) (fun W oW => r_ex Hz rfl rfl) Hz rfl rfl ?_
          clear Hz az; intro az Hz
          refine Pl.MSP (b := false) (by kernel_rfl) (fun W oW => r_ex Hz rfl rfl) Hz rfl rfl ?_
          clear Hz az; intro az Hz
          have B241 := (Blk.k B220 o239)
          refine Pl.MSS (cs' := [.slice A227 ((Lnk.next n m159).ms.length) c231, .slice A228 ((Lnk.next n m159).cs.length) c232]) Try.sizeOf25 Hz rfl rfl rfl rfl rfl rfl ⟨rfl, rfl, trivial⟩ B241 rfl rfl fun w242 s243 B244 => ?_
          refine ⟨⟨fun h => absurd h (by decide), (Only.trans (Only.trans (Only.trans (Only.refl NoF w174) o219 (fun _ h => h.elim)) o239 (fun _ h => h.elim)) s243 (fun k h => .inr (Nat.le_trans (Nat.le_refl _) ((oneF_ge hg221) k h))))⟩, ?_⟩
          refine Pl.MSP (b := false) (by kernel_rfl) (fun W oW => r_as Hz rfl) Hz rfl rfl ?_
          clear Hz az; intro az Hz
          refine Pl.MSP (b := false) (by kernel_rfl) (fun W oW => r_as Hz rfl) Hz rfl rfl ?_
          clear Hz az; intro az Hz
          refine wpPl_nil ?_
          have h245 := (SliceOf.kp f235 s243 (ge_F (oneF_lt hl222) (Nat.le_refl _)) (fun _ _ _ _ h => h))
          have O246 : Only NoF w171 w218 := (Only.trans' o175 o219)
          have h247 := (SliceOf.kp f236 s243 (ge_F (oneF_lt hl222) (Nat.le_refl _)) (fun _ _ _ _ h => h))
          have h248 := (SliceOf.kp f237 s243 (ge_F (oneF_lt hl222) (Nat.le_refl _)) (fun _ _ _ _ h => h))
          have h249 := (SliceOf.kp f238 s243 (ge_F (oneF_lt hl222) (Nat.le_refl _)) (fun _ _ _ _ h => h))
          have O250 : Only NoF w171 w242 := (o_sg (Only.trans' O246 o239) s243 (size_only o175) (oneF_ge hg221))
          exact ⟨g217, A227, c231, A228, c232, A229, c233, A230, c234, Hz.cut ⟨rfl, rfl, rfl, rfl, rfl, rfl, rfl, rfl, rfl, rfl, rfl, rfl, rfl, trivial⟩, (Nat.le_trans (size_only o175) hg221), O250, B244, (SliceOf.ge_low h245 (size_only O246)), (SliceOf.ge_low h247 (size_only O246)), (SliceOf.ge_low h248 (size_only O246)), (SliceOf.ge_low h249 (size_only O246))⟩
      clear Hz az
      rintro az w251 ⟨gb16, N1, n1, N2, n2, N3, n3, N4, n4, Hz, hgb16, o252, B253, fN1, fN2, fN3, fN4⟩
      refine wp_seq_k fun K254 hK254 => ?_
      refine wp_seq_k fun K255 hK255 => ?_
      -- law.go:209
      refine wp_region_lit ?_
      refine L (r_mv Hz rfl) Hz rfl ?_
      clear Hz az; intro az Hz
      refine L (r_lenL Try.underlying40 Hz rfl) Hz rfl ?_
      clear Hz az; intro az Hz
      refine L (r_neI Hz rfl rfl) Hz rfl ?_
      clear Hz az; intro az Hz
      refine hK255 _ _ ?_
      refine br Hz rfl (fun hc256 => ?_) (fun hc256 => ?_)
      · -- if2
        have p257 := of_decide_eq_false (nt_t hc256)
        exact absurd rfl (of_decide_eq_false (nt_t hc256))
      · -- else2
        have p258 := of_decide_eq_true (nt_f hc256)
        refine wp_skip ?_
        refine hK254 _ _ ?_
        refine wp_seq_k fun K259 hK259 => ?_
        -- law.go:212
        refine wp_region_lit ?_
        refine L (r_fa (m' := 0) Try.underlying48 rfl Try.sizeOf3 rfl Hz rfl rfl) Hz rfl ?_
        clear Hz az; intro az Hz
        have B260 := (Blk.k B173 o252)
        refine L (r_ld Try.isAgg3 Hz rfl ((Blk.ca B260) 0 _ rfl)) Hz rfl ?_
        clear Hz az; intro az Hz
        refine L (r_eqI Hz rfl rfl) Hz rfl ?_
        clear Hz az; intro az Hz
        refine L (r_mv Hz rfl) Hz rfl ?_
        clear Hz az; intro az Hz
        refine LG Hz rfl rfl gd_f (fun hb => r_fa (m' := 0) Try.underlying48 rfl Try.sizeOf3 rfl Hz rfl rfl) rfl ?_
        clear Hz az; intro az Hz
        refine LG Hz rfl rfl gd_f (fun hb => r_ld Try.isAgg3 Hz (evg hb rfl) ((Blk.ca B260) 0 _ rfl)) rfl ?_
        clear Hz az; intro az Hz
        refine LG Hz rfl rfl gd_f (fun hb => r_eqI Hz (evg hb rfl) rfl) rfl ?_
        clear Hz az; intro az Hz
        refine L (r_or Hz rfl rfl rfl) Hz rfl ?_
        clear Hz az; intro az Hz
        refine L (r_mv Hz rfl) Hz rfl ?_
        clear Hz az; intro az Hz
        refine LG Hz rfl rfl gd_f (fun hb => r_fa (m' := 0) Try.underlying48 rfl Try.sizeOf3 rfl Hz rfl rfl) rfl ?_
        clear Hz az; intro az Hz
        refine LG Hz rfl rfl gd_f (fun hb => r_ld Try.isAgg3 Hz (evg hb rfl) ((Blk.ca B260) 0 _ rfl)) rfl ?_
        clear Hz az; intro az Hz
        refine LG Hz rfl rfl gd_f (fun hb => r_eqI Hz (evg hb rfl) rfl) rfl ?_
        clear Hz az; intro az Hz
        refine L (r_or Hz rfl rfl rfl) Hz rfl ?_
        clear Hz az; intro az Hz
        refine L (r_mv Hz rfl) Hz rfl ?_
        clear Hz az; intro az Hz
        refine LG Hz rfl rfl gd_t (fun hb => r_fa (m' := 1) Try.underlying48 rfl Try.sizeOf3 rfl Hz rfl rfl) rfl ?_
        clear Hz az; intro az Hz
        refine LG Hz rfl rfl gd_t (fun hb => r_ld Try.isAgg3 Hz (evg hb rfl) ((Blk.ca B260) 1 _ rfl)) rfl ?_
        clear Hz az; intro az Hz
        refine LG Hz rfl rfl gd_t (fun hb => r_fa (m' := 2) Try.underlying48 rfl Try.sizeOf3 rfl Hz rfl rfl) rfl ?_
        clear Hz az; intro az Hz
        refine LG Hz rfl rfl gd_t (fun hb => r_ld Try.isAgg3 Hz (evg hb rfl) ((Blk.ca B260) 2 _ rfl)) rfl ?_
        clear Hz az; intro az Hz
        refine LG Hz rfl rfl gd_t (fun hb => r_bd (v := .agg #[.int .i64 (m159.a), .int .i64 (m159.b), strV ([])]) (build_Msg2 _ _) Hz (evps_c (evg hb rfl) (evps_c (evg hb rfl) rfl))) rfl ?_
        clear Hz az; intro az Hz
        refine LG Hz rfl rfl gd_t (fun hb => r_mv Hz rfl) rfl ?_
        clear Hz az; intro az Hz
        refine LG Hz rfl rfl gd_t (fun hb => r_mv Hz rfl) rfl ?_
        clear Hz az; intro az Hz
        refine LGV (v := .bool (Lnk.betw x y (⟨m159.a, m159.b, []⟩ : Msg))) Hz rfl rfl gd_t rfl (fun hb => (evs_c (evg hb rfl) (evs_c (evg hb rfl) (evs_c (evg hb rfl) rfl)))) Try.call32 (fun hb => between_v _ (⟨m159.a, m159.b, []⟩ : Msg) x y) rfl fun w261 o262 => ?_
        clear Hz az; intro az Hz
        refine L (r_and Hz rfl rfl rfl) Hz rfl ?_
        clear Hz az; intro az Hz
        refine L (r_as Hz rfl) Hz rfl ?_
        clear Hz az; intro az Hz
        refine hK259 _ _ ?_
        refine wp_seq_k fun K263 hK263 => ?_
        refine wp_seq_k fun K264 hK264 => ?_
        -- law.go:213
        refine wp_region_lit ?_
        refine L (r_fa (m' := 0) Try.underlying48 rfl Try.sizeOf3 rfl Hz rfl rfl) Hz rfl ?_
        clear Hz az; intro az Hz
        have B265 := (Blk.k B260 o262)
        refine L (r_ld Try.isAgg3 Hz rfl ((Blk.ca B265) 0 _ rfl)) Hz rfl ?_
        clear Hz az; intro az Hz
        refine L (r_eqI Hz rfl rfl) Hz rfl ?_
        clear Hz az; intro az Hz
        refine L (r_mv Hz rfl) Hz rfl ?_
        clear Hz az; intro az Hz
        refine LG Hz rfl rfl gd_f (fun hb => r_fa (m' := 0) Try.underlying48 rfl Try.sizeOf3 rfl Hz rfl rfl) rfl ?_
        clear Hz az; intro az Hz
        refine LG Hz rfl rfl gd_f (fun hb => r_ld Try.isAgg3 Hz (evg hb rfl) ((Blk.ca B265) 0 _ rfl)) rfl ?_
        clear Hz az; intro az Hz
        refine LG Hz rfl rfl gd_f (fun hb => r_eqI Hz (evg hb rfl) rfl) rfl ?_
        clear Hz az; intro az Hz
        refine L (r_or Hz rfl rfl rfl) Hz rfl ?_
        clear Hz az; intro az Hz
        refine L (r_mv Hz rfl) Hz rfl ?_
        clear Hz az; intro az Hz
        refine LG Hz rfl rfl gd_f (fun hb => r_fa (m' := 0) Try.underlying48 rfl Try.sizeOf3 rfl Hz rfl rfl) rfl ?_
        clear Hz az; intro az Hz
        refine LG Hz rfl rfl gd_f (fun hb => r_ld Try.isAgg3 Hz (evg hb rfl) ((Blk.ca B265) 0 _ rfl)) rfl ?_
        clear Hz az; intro az Hz
        refine LG Hz rfl rfl gd_f (fun hb => r_eqI Hz (evg hb rfl) rfl) rfl ?_
        clear Hz az; intro az Hz
        refine L (r_or Hz rfl rfl rfl) Hz rfl ?_
        clear Hz az; intro az Hz
        refine L (r_mv Hz rfl) Hz rfl ?_
        clear Hz az; intro az Hz
        refine LG Hz rfl rfl gd_t (fun hb => r_fa (m' := 1) Try.underlying48 rfl Try.sizeOf3 rfl Hz rfl rfl) rfl ?_
        clear Hz az; intro az Hz
        refine LG Hz rfl rfl gd_t (fun hb => r_ld Try.isAgg3 Hz (evg hb rfl) ((Blk.ca B265) 1 _ rfl)) rfl ?_
        clear Hz az; intro az Hz
        refine LG Hz rfl rfl gd_t (fun hb => r_geI Hz (evg hb rfl) rfl) rfl ?_
        clear Hz az; intro az Hz
        refine L (r_and Hz rfl rfl rfl) Hz rfl ?_
        clear Hz az; intro az Hz
        refine L (r_mv Hz rfl) Hz rfl ?_
        clear Hz az; intro az Hz
        refine LG Hz rfl rfl gd_t (fun hb => r_fa (m' := 1) Try.underlying48 rfl Try.sizeOf3 rfl Hz rfl rfl) rfl ?_
        clear Hz az; intro az Hz
        refine LG Hz rfl rfl gd_t (fun hb => r_ld Try.isAgg3 Hz (evg hb rfl) ((Blk.ca B265) 1 _ rfl)) rfl ?_
        clear Hz az; intro az Hz
        refine LG Hz rfl rfl gd_t (fun hb => r_fa (m' := 0) Try.underlying25 rfl Try.sizeOf22 rfl Hz rfl rfl) rfl ?_
        clear Hz az; intro az Hz
        have ne266 : g46 ≠ g165 := (ne_of (Blk.lt B148) hg169)
        have B267 := (Blk.k (Blk.k (Blk.st (Blk.k B148 o167) s172 ne266) o252) o262)
        refine LG Hz rfl rfl gd_t (fun hb => r_ld Try.isAgg22 Hz (evg hb rfl) ((Blk.ca B267) 0 _ rfl)) rfl ?_
        clear Hz az; intro az Hz
        refine LG Hz rfl rfl gd_t (fun hb => r_lenL Try.underlying22 Hz (evg hb rfl)) rfl ?_
        clear Hz az; intro az Hz
        refine LG Hz rfl rfl gd_t (fun hb => r_ltI Hz (evg hb rfl) (evg hb rfl)) rfl ?_
        clear Hz az; intro az Hz
        refine L (r_and Hz rfl rfl rfl) Hz rfl ?_
        clear Hz az; intro az Hz
        refine hK264 _ _ ?_
        refine br Hz rfl (fun hc268 => ?_) (fun hc268 => ?_)
        · -- if3
          have d269 := (and_t (and_t hc268).1).1
          have p270 := of_decide_eq_true (and_t (and_t hc268).1).2
          have p271 := of_decide_eq_true (and_t hc268).2
          refine wp_seq_k fun K272 hK272 => ?_
          -- law.go:214
          refine wp_region_lit ?_
          refine L (r_fa (m' := 0) Try.underlying25 rfl Try.sizeOf22 rfl Hz rfl rfl) Hz rfl ?_
          clear Hz az; intro az Hz
          refine L (r_ld Try.isAgg22 Hz rfl ((Blk.ca B267) 0 _ rfl)) Hz rfl ?_
          clear Hz az; intro az Hz
          refine L (r_fa (m' := 1) Try.underlying48 rfl Try.sizeOf3 rfl Hz rfl rfl) Hz rfl ?_
          clear Hz az; intro az Hz
          refine L (r_ld Try.isAgg3 Hz rfl ((Blk.ca B265) 1 _ rfl)) Hz rfl ?_
          clear Hz az; intro az Hz
          obtain ⟨n273, hnn273⟩ : ∃ q : Nat, m159.a = (q : Int) := ⟨(m159.a).toNat, by omega⟩
          have hk274 : n273 < (n.ms).length := by first | omega | (simp; done)
          have O280 : Only NoF w145 w261 := (Only.trans' (Only.trans' (o_sg o167 s172 (Nat.le_refl _) (oneF_ge hg169)) o252) o262)
          have h281 := (SliceOf.kp fZ1 O280 (fun _ _ h => h) (fun _ _ _ _ h => h))
          obtain ⟨m275, hm276, ok277, hA278⟩ := Row.el KMsg h281 hk274
          have E279 : ∀ W, Only NoF w261 W → CA W (eA Z1 3 (n273)) [.int .i64 (m275.a), .int .i64 (m275.b), strV (m275.t)] := Row.ce KMsg h281 hm276 rfl
          refine L (r_ia (k := n273) (size := 3) Try.underlying22 Try.sizeOf27 Hz rfl rfl hnn273 hk274 hA278) Hz rfl ?_
          clear Hz az; intro az Hz
          refine L (r_ldA Try.isAgg27 Try.sizeOf27 Hz rfl (E279 _ (Only.refl NoF w261)) rfl) Hz rfl ?_
          clear Hz az; intro az Hz
          refine L (r_mv Hz rfl) Hz rfl ?_
          clear Hz az; intro az Hz
          refine L (r_mv Hz rfl) Hz rfl ?_
          clear Hz az; intro az Hz
          refine LCV (v := .bool (Lnk.betw x y m275)) Hz rfl rfl Try.call32 (between_v _ m275 x y) rfl fun w282 o283 => ?_
          clear Hz az; intro az Hz
          refine L (r_as Hz rfl) Hz rfl ?_
          clear Hz az; intro az Hz
          refine hK272 _ _ ?_
          -- law.go:215
          refine wp_region_lit ?_
          refine L (r_fa (m' := 0) Try.underlying25 rfl Try.sizeOf22 rfl Hz rfl rfl) Hz rfl ?_
          clear Hz az; intro az Hz
          have B284 := (Blk.k B267 o283)
          refine L (r_ld Try.isAgg22 Hz rfl ((Blk.ca B284) 0 _ rfl)) Hz rfl ?_
          clear Hz az; intro az Hz
          refine L (r_fa (m' := 1) Try.underlying48 rfl Try.sizeOf3 rfl Hz rfl rfl) Hz rfl ?_
          clear Hz az; intro az Hz
          have B285 := (Blk.k B265 o283)
          refine L (r_ld Try.isAgg3 Hz rfl ((Blk.ca B285) 1 _ rfl)) Hz rfl ?_
          clear Hz az; intro az Hz
          refine L (r_mv Hz rfl) Hz rfl ?_
          clear Hz az; intro az Hz
          refine L (r_mv Hz rfl) Hz rfl ?_
          clear Hz az; intro az Hz
          rw [hnn273] at Hz
          have O286 : Only NoF w145 w282 := (Only.trans' O280 o283)
          have h287 := (SliceOf.kp fZ1 O286 (fun _ _ h => h) (fun _ _ _ _ h => h))
          refine LCV (v := .int .i64 ((((List.filter (Lnk.betw x y) (List.take n273 n.ms)).length : Nat) : Int))) Hz rfl rfl Try.call33 (place_v h287 n273 (by omega) x y (by omega)) rfl fun w288 o289 => ?_
          clear Hz az; intro az Hz
          refine L (r_fa (m' := 1) Try.underlying48 rfl Try.sizeOf3 rfl Hz rfl rfl) Hz rfl ?_
          clear Hz az; intro az Hz
          have B290 := (Blk.k B285 o289)
          refine LSt (cs' := [.int .i64 (m159.k), .int .i64 ((((List.filter (Lnk.betw x y) (List.take n273 n.ms)).length : Nat) : Int)), .int .i64 (m159.b), strV (m159.t)]) Try.sizeOf3 Hz rfl rfl rfl rfl rfl ⟨rfl, trivial⟩ B290 rfl rfl fun w291 s292 B293 => ?_
          refine hK263 _ _ ?_
          have B294 := (Blk.st (Blk.k B284 o289) s292 ne266)
          have ne295 : g11 ≠ g165 := (ne_of (Blk.lt B149) hg169)
          have B296 := (Blk.st (Blk.k (Blk.k (Blk.k (Blk.k (Blk.st (Blk.k B149 o167) s172 ne295) o252) o262) o283) o289) s292 ne295)
          have O298 := (Only.trans (Only.refl (fun _ => True) w166) s172 (fun _ _ => .inl trivial))
          have ne297 : gb16 ≠ g165 := (ne_of hl170 (Nat.le_trans (size_only O298) hgb16)).symm
          have B299 := (Blk.st (Blk.k (Blk.k (Blk.k B253 o262) o283) o289) s292 ne297)
          have O301 : Only NoF w145 w171 := (o_sg o167 s172 (Nat.le_refl _) (oneF_ge hg169))
          have ne300 : g46 ≠ gb16 := (ne_of (Blk.lt B148) (Nat.le_trans (size_only O301) hgb16))
          have ne302 : g11 ≠ gb16 := (ne_of (Blk.lt B149) (Nat.le_trans (size_only O301) hgb16))
          have ne303 : gb16 ≠ g46 := (ne_of (Blk.lt B148) (Nat.le_trans (size_only O301) hgb16)).symm
          have ne304 : gb16 ≠ g11 := (ne_of (Blk.lt B149) (Nat.le_trans (size_only O301) hgb16)).symm
          refine wp_join (fun az W => ∃ al2 : Air, ∃ sm2 : List Msg, ∃ V1 : Option Addr, ∃ v1 : Nat, ∃ V2 : Option Addr, ∃ v2 : Nat, ∃ X2 : Option Addr, ∃ x2 : Nat, Fr 191 [(1, .int .i64 (x)), (2, .int .i64 (y)), (3, .slice A3 (l.length) c3), (9, .bool (true)), (10, .pointer (some ((⟨g46, 0, none⟩ : Addr)))), (11, .pointer (some ((⟨g11, 0, none⟩ : Addr)))), (13, .slice U1 (am.length) u1), (14, .int .i64 ((k : Int))), (16, .pointer (some ((⟨gb16, 0, none⟩ : Addr)))), (17, .slice N3 (((Lnk.do_ n m159).2.1).length) n3), (12, .slice X2 (sm2.length) x2)] az ∧ (Lnk.Sim x y (Lnk.next n m159) al2) ∧ (al2.cs.length ≤ a.cs.length + k + 1) ∧ (sm2 = sm ++ ((Lnk.do_ n m159).2.1).filter (Lnk.betw x y)) ∧ (∀ z ∈ sm2, KMsg.ok z) ∧ (sepV (.slice X2 sm2.length x2) (.slice U1 am.length u1)) ∧ Only NoF w W ∧ Blk W g46 25 [.slice Z1 (n.ms.length) z1, .slice Z2 (n.cs.length) z2].toArray ∧ Blk W g11 25 [.slice V1 (al2.ms.length) v1, .slice V2 (al2.cs.length) v2].toArray ∧ Blk W gb16 25 [.slice N1 ((Lnk.next n m159).ms.length) n1, .slice N2 ((Lnk.next n m159).cs.length) n2].toArray ∧ SliceOf (avB g46 (.slice U1 am.length u1)) 3 RMsg W (.slice N1 ((Lnk.next n m159).ms.length) n1) (Lnk.next n m159).ms ∧ SliceOf (avB g46 (.slice U1 am.length u1)) 2 RPr W (.slice N2 ((Lnk.next n m159).cs.length) n2) (Lnk.next n m159).cs ∧ Msgs W (.slice N3 (((Lnk.do_ n m159).2.1).length) n3) ((Lnk.do_ n m159).2.1) ∧ SliceOf (avB g46 (.slice U1 am.length u1)) 3 RMsg W (.slice V1 al2.ms.length v1) al2.ms ∧ SliceOf (avB g46 (.slice U1 am.length u1)) 2 RPr W (.slice V2 al2.cs.length v2) al2.cs ∧ W.ownsRow w.heap.size 27 3 (.slice X2 (sm2).length x2) (sm2).length (List.flatMap KMsg.cells sm2) ∧ W.ownsRow w.heap.size 27 3 (.slice U1 (am).length u1) (am).length (List.flatMap KMsg.cells am)) ?_ ?_
          · -- to the join
            refine wp_seq_k fun K305 hK305 => ?_
            -- law.go:217
            refine wp_region_lit ?_
            refine L (r_mv Hz rfl) Hz rfl ?_
            clear Hz az; intro az Hz
            refine hK305 _ _ ?_
            refine br Hz rfl (fun hc306 => ?_) (fun hc306 => ?_)
            · -- if4
              have q307 : Lnk.betw x y m275 = true := hc306
              refine wp_join (fun az W => ∃ gb20 : Nat, ∃ L1 : Option Addr, ∃ l1 : Nat, ∃ L2 : Option Addr, ∃ l2 : Nat, ∃ L3 : Option Addr, ∃ l3 : Nat, ∃ L4 : Option Addr, ∃ l4 : Nat, Fr 191 [(1, .int .i64 (x)), (2, .int .i64 (y)), (3, .slice A3 (l.length) c3), (9, .bool (true)), (10, .pointer (some ((⟨g46, 0, none⟩ : Addr)))), (11, .pointer (some ((⟨g11, 0, none⟩ : Addr)))), (12, .slice X1 (sm.length) x1), (13, .slice U1 (am.length) u1), (14, .int .i64 ((k : Int))), (16, .pointer (some ((⟨gb16, 0, none⟩ : Addr)))), (17, .slice N3 (((Lnk.do_ n m159).2.1).length) n3), (18, .slice N4 (([(Lnk.do_ n m159).2.2]).length) n4), (20, .pointer (some ((⟨gb20, 0, none⟩ : Addr)))), (21, .slice L3 (((Lnk.do_ al (⟨m159.k, (((List.filter (Lnk.betw x y) (List.take n273 n.ms)).length : Nat) : Int), m159.b, m159.t⟩ : Ev)).2.1).length) l3), (22, .slice L4 (([(Lnk.do_ al (⟨m159.k, (((List.filter (Lnk.betw x y) (List.take n273 n.ms)).length : Nat) : Int), m159.b, m159.t⟩ : Ev)).2.2]).length) l4)] az ∧ (w291.heap.size ≤ gb20) ∧ Only NoF w291 W ∧ Blk W gb20 25 [.slice L1 ((Lnk.next al (⟨m159.k, (((List.filter (Lnk.betw x y) (List.take n273 n.ms)).length : Nat) : Int), m159.b, m159.t⟩ : Ev)).ms.length) l1, .slice L2 ((Lnk.next al (⟨m159.k, (((List.filter (Lnk.betw x y) (List.take n273 n.ms)).length : Nat) : Int), m159.b, m159.t⟩ : Ev)).cs.length) l2].toArray ∧ SliceOf (geB w291.heap.size) 3 RMsg W (.slice L1 ((Lnk.next al (⟨m159.k, (((List.filter (Lnk.betw x y) (List.take n273 n.ms)).length : Nat) : Int), m159.b, m159.t⟩ : Ev)).ms.length) l1) ((Lnk.next al (⟨m159.k, (((List.filter (Lnk.betw x y) (List.take n273 n.ms)).length : Nat) : Int), m159.b, m159.t⟩ : Ev)).ms) ∧ SliceOf (geB w291.heap.size) 2 RPr W (.slice L2 ((Lnk.next al (⟨m159.k, (((List.filter (Lnk.betw x y) (List.take n273 n.ms)).length : Nat) : Int), m159.b, m159.t⟩ : Ev)).cs.length) l2) ((Lnk.next al (⟨m159.k, (((List.filter (Lnk.betw x y) (List.take n273 n.ms)).length : Nat) : Int), m159.b, m159.t⟩ : Ev)).cs) ∧ SliceOf (geB w291.heap.size) 3 RMsg W (.slice L3 (((Lnk.do_ al (⟨m159.k, (((List.filter (Lnk.betw x y) (List.take n273 n.ms)).length : Nat) : Int), m159.b, m159.t⟩ : Ev)).2.1).length) l3) ((Lnk.do_ al (⟨m159.k, (((List.filter (Lnk.betw x y) (List.take n273 n.ms)).length : Nat) : Int), m159.b, m159.t⟩ : Ev)).2.1) ∧ SliceOf (geB w291.heap.size) 1 RInt W (.slice L4 (([(Lnk.do_ al (⟨m159.k, (((List.filter (Lnk.betw x y) (List.take n273 n.ms)).length : Nat) : Int), m159.b, m159.t⟩ : Ev)).2.2]).length) l4) ([(Lnk.do_ al (⟨m159.k, (((List.filter (Lnk.betw x y) (List.take n273 n.ms)).length : Nat) : Int), m159.b, m159.t⟩ : Ev)).2.2])) ?_ ?_
              · -- to the join
                -- law.go:218
                refine wp_region_lit ?_
                refine L (r_ldA Try.isAgg25 Try.sizeOf25 Hz rfl (Blk.ca B296) rfl) Hz rfl ?_
                clear Hz az; intro az Hz
                refine L (r_ldA Try.isAgg48 Try.sizeOf48 Hz rfl (Blk.ca B293) rfl) Hz rfl ?_
                clear Hz az; intro az Hz
                obtain ⟨A308, w309, hw, hA, r310, o311⟩ := Row.made (w := w291) KEv (e := 48) ([(⟨m159.k, (((List.filter (Lnk.betw x y) (List.take n273 n.ms)).length : Nat) : Int), m159.b, m159.t⟩ : Ev)] : List Ev) (by simp only [List.length_cons, List.length_nil]; unfold maxLen; omega)
                refine L (r_bs (z := .agg #[.int .i64 (0), .int .i64 (0), .int .i64 (0), strV ([])]) (size := 4) (vs := [(0, .agg #[.int .i64 (m159.k), .int .i64 ((((List.filter (Lnk.betw x y) (List.take n273 n.ms)).length : Nat) : Int)), .int .i64 (m159.b), strV (m159.t)])]) (cs := List.flatMap KEv.cells [(⟨m159.k, (((List.filter (Lnk.betw x y) (List.take n273 n.ms)).length : Nat) : Int), m159.b, m159.t⟩ : Ev)]) Try.underlying28 Try.sizeOf48 zeroEv rfl (Fr.evalps Hz rfl) (by kernel_rfl)) Hz rfl ?_
                rw [← hw, ← hA]; clear Hz az; intro az Hz
                clear hw hA
                have ok312 : ∀ zq ∈ ([(⟨m159.k, (((List.filter (Lnk.betw x y) (List.take n273 n.ms)).length : Nat) : Int), m159.b, m159.t⟩ : Ev)] : List Ev), KEv.ok zq := by intro zq hx; simp only [List.mem_cons, List.not_mem_nil, or_false] at hx; rcases hx with rfl <;> first | exact ⟨ok161.1, i64_nat (by have := List.length_filter_le (Lnk.betw x y) (List.take n273 n.ms); have := List.length_take_le n273 n.ms; omega), ok161.2.2.1, ok161.2.2.2⟩
                have O313 : Only NoF w145 w309 := (Only.trans' (o_sg (Only.trans' O286 o289) s292 (Nat.le_refl _) (oneF_ge hg169)) o311)
                have h314 := (SliceOf.kp fY1 O313 (fun _ _ h => h) (fun _ _ _ _ h => h))
                have h315 := SliceOf.pl h314
                have h316 := (SliceOf.kp fY2 O313 (fun _ _ h => h) (fun _ _ _ _ h => h))
                have h317 := SliceOf.pl h316
                have h318 := Row.own KEv r310 ok312
                have h319 := SliceOf.pl h318
                refine LC Hz rfl rfl Try.call24 (Run_v1 (show AirV _ _ al from ⟨_, _, rfl, h315, h317⟩) h319 hS.2.2.2 (by omega)) rfl ?_
                rintro e w333 ⟨A320, c324, A321, c325, A322, c326, A323, c327, rfl, f328, f329, f330, f331, o332⟩; refine ⟨_, rfl, ?_⟩
                clear Hz az; intro az Hz
                refine L (r_mv Hz rfl) Hz rfl ?_
                clear Hz az; intro az Hz
                refine L (r_ex Hz rfl rfl) Hz rfl ?_
                clear Hz az; intro az Hz
                refine L (r_ex Hz rfl rfl) Hz rfl ?_
                clear Hz az; intro az Hz
                refine L (r_ex Hz rfl rfl) Hz rfl ?_
                clear Hz az; intro az Hz
                refine LAl (v := .agg #[.slice none (0) 0, .slice none (0) 0]) zeroAir Hz rfl rfl ?_
                clear Hz az; intro g334 w335 hg338 hl339 o336 B337 az Hz
                refine LSt (cs' := [.slice A320 ((Lnk.next al (⟨m159.k, (((List.filter (Lnk.betw x y) (List.take n273 n.ms)).length : Nat) : Int), m159.b, m159.t⟩ : Ev)).ms.length) c324, .slice A321 ((Lnk.next al (⟨m159.k, (((List.filter (Lnk.betw x y) (List.take n273 n.ms)).length : Nat) : Int), m159.b, m159.t⟩ : Ev)).cs.length) c325]) Try.sizeOf25 Hz rfl rfl rfl rfl rfl ⟨rfl, rfl, trivial⟩ B337 rfl rfl fun w340 s341 B342 => ?_
                refine L (r_as Hz rfl) Hz rfl ?_
                clear Hz az; intro az Hz
                refine L (r_as Hz rfl) Hz rfl ?_
                clear Hz az; intro az Hz
                have O343 : Only NoF w291 w333 := (Only.trans' o311 o332)
                have O344 : Only NoF w333 w340 := (o_sg o336 s341 (Nat.le_refl _) (oneF_ge hg338))
                have h345 := (SliceOf.kp f328 O344 (fun _ _ h => h) (fun _ _ _ _ h => h))
                have h346 := (SliceOf.kp f329 O344 (fun _ _ h => h) (fun _ _ _ _ h => h))
                have h347 := (SliceOf.kp f330 O344 (fun _ _ h => h) (fun _ _ _ _ h => h))
                have h348 := (SliceOf.kp f331 O344 (fun _ _ h => h) (fun _ _ _ _ h => h))
                have O349 : Only NoF w291 w340 := (o_sg (Only.trans' O343 o336) s341 (size_only O343) (oneF_ge hg338))
                exact ⟨g334, A320, c324, A321, c325, A322, c326, A323, c327, Hz.cut ⟨rfl, rfl, rfl, rfl, rfl, rfl, rfl, rfl, rfl, rfl, rfl, rfl, rfl, rfl, rfl, trivial⟩, (Nat.le_trans (size_only O343) hg338), O349, B342, (SliceOf.ge_low h345 (size_only o311)), (SliceOf.ge_low h346 (size_only o311)), (SliceOf.ge_low h347 (size_only o311)), (SliceOf.ge_low h348 (size_only o311))⟩
              clear Hz az
              rintro az w350 ⟨gb20, L1, l1, L2, l2, L3, l3, L4, l4, Hz, hgb20, o351, B352, fL1, fL2, fL3, fL4⟩
              have hM := Lnk.mine_msg hc268 hnn273 hm276 hc306
              obtain ⟨hI1, hI2, hI3⟩ := Lnk.sim_in hM hS (by omega)
              refine wp_seq_k fun K353 hK353 => ?_
              refine wp_seq_k fun K354 hK354 => ?_
              -- law.go:219
              refine wp_region_lit ?_
              refine L (r_mv Hz rfl) Hz rfl ?_
              clear Hz az; intro az Hz
              refine L (r_lenL Try.underlying40 Hz rfl) Hz rfl ?_
              clear Hz az; intro az Hz
              refine L (r_neI Hz rfl rfl) Hz rfl ?_
              clear Hz az; intro az Hz
              refine hK354 _ _ ?_
              refine br Hz rfl (fun hc355 => ?_) (fun hc355 => ?_)
              · -- if5
                have p356 := of_decide_eq_false (nt_t hc355)
                exact absurd rfl (of_decide_eq_false (nt_t hc355))
              · -- else5
                have p357 := of_decide_eq_true (nt_f hc355)
                refine wp_skip ?_
                refine hK353 _ _ ?_
                refine wp_seq_k fun K358 hK358 => ?_
                refine wp_seq_k fun K359 hK359 => ?_
                -- law.go:222
                refine reg_q [(true, 0), (true, 1), (true, 2), (true, 3), (true, 4), (true, 5), (true, 6)] (by kernel_rfl) (by kernel_rfl) (fun _ _ _ _ _ h => h) fun w360 o361 => ?_
                refine M (r_mv Hz rfl) Hz rfl rfl ?_
                clear Hz az; intro az Hz
                have hk362 : 0 < ([(Lnk.do_ al (⟨m159.k, (((List.filter (Lnk.betw x y) (List.take n273 n.ms)).length : Nat) : Int), m159.b, m159.t⟩ : Ev)).2.2]).length := by first | omega | (simp; done)
                have h368 := (SliceOf.kp fL4 o361 (fun _ _ h => h) (fun _ _ _ _ h => h))
                have h369 := SliceOf.pl h368
                obtain ⟨m363, hm364, ok365, hA366⟩ := Row.el KErr h369 hk362
                have E367 : ∀ W, Only NoF w360 W → CA W (eA L4 1 (0)) [.int .i64 (m363)] := Row.ce KErr h369 hm364 rfl
                refine M (r_ia (k := 0) (size := 1) Try.underlying40 Try.sizeOf32 Hz rfl rfl rfl hk362 hA366) Hz rfl rfl ?_
                clear Hz az; intro az Hz
                refine M (r_ld Try.isAgg32 Hz rfl (CA.first (E367 _ (Only.refl NoF w360)))) Hz rfl rfl ?_
                clear Hz az; intro az Hz
                refine M (r_mv Hz rfl) Hz rfl rfl ?_
                clear Hz az; intro az Hz
                have hk370 : 0 < ([(Lnk.do_ n m159).2.2]).length := by first | omega | (simp; done)
                have O376 : Only NoF w251 w288 := (Only.trans' (Only.trans' o262 o283) o289)
                have O377 : Only NoF w291 w360 := (Only.trans' o351 o361)
                have h378 := (SliceOf.kp (SliceOf.kp (SliceOf.kp fN4 O376 (fun _ _ h => h) (fun _ _ _ _ h => h)) s292 (ge_F (oneF_lt hl170) (size_only O298)) (fun _ _ _ _ h => h)) O377 (fun _ _ h => h) (fun _ _ _ _ h => h))
                have h379 := SliceOf.pl h378
                obtain ⟨m371, hm372, ok373, hA374⟩ := Row.el KErr h379 hk370
                have E375 : ∀ W, Only NoF w360 W → CA W (eA N4 1 (0)) [.int .i64 (m371)] := Row.ce KErr h379 hm372 rfl
                refine M (r_ia (k := 0) (size := 1) Try.underlying40 Try.sizeOf32 Hz rfl rfl rfl hk370 hA374) Hz rfl rfl ?_
                clear Hz az; intro az Hz
                refine M (r_ld Try.isAgg32 Hz rfl (CA.first (E375 _ (Only.refl NoF w360)))) Hz rfl rfl ?_
                clear Hz az; intro az Hz
                refine M (r_neI Hz rfl rfl) Hz rfl rfl ?_
                clear Hz az; intro az Hz
                refine wpMix_nil ?_
                refine hK359 _ _ ?_
                refine br Hz rfl (fun hc380 => ?_) (fun hc380 => ?_)
                · -- if6
                  have p381 := of_decide_eq_false (nt_t hc380)
                  have q1 := Option.some.inj hm364; have q2 := Option.some.inj hm372
                  exact absurd (q1.symm.trans (hI1.symm.trans q2)) (of_decide_eq_false (nt_t hc380))
                · -- else6
                  have p382 := of_decide_eq_true (nt_f hc380)
                  refine wp_skip ?_
                  refine hK358 _ _ ?_
                  refine wp_seq_k fun K383 hK383 => ?_
                  -- law.go:225
                  refine wp_region_lit ?_
                  have B384 := (Blk.k B352 o361)
                  refine L (r_ldA Try.isAgg25 Try.sizeOf25 Hz rfl (Blk.ca B384) rfl) Hz rfl ?_
                  clear Hz az; intro az Hz
                  have B385 := (Blk.k (Blk.k B296 o351) o361)
                  refine LSt (cs' := [.slice L1 ((Lnk.next al (⟨m159.k, (((List.filter (Lnk.betw x y) (List.take n273 n.ms)).length : Nat) : Int), m159.b, m159.t⟩ : Ev)).ms.length) l1, .slice L2 ((Lnk.next al (⟨m159.k, (((List.filter (Lnk.betw x y) (List.take n273 n.ms)).length : Nat) : Int), m159.b, m159.t⟩ : Ev)).cs.length) l2]) Try.sizeOf25 Hz rfl rfl rfl rfl rfl ⟨rfl, rfl, trivial⟩ B385 rfl rfl fun w386 s387 B388 => ?_
                  refine hK383 _ _ ?_
                  -- law.go:226
                  refine wp_region_lit ?_
                  refine L (r_mv Hz rfl) Hz rfl ?_
                  clear Hz az; intro az Hz
                  refine L (r_mv Hz rfl) Hz rfl ?_
                  clear Hz az; intro az Hz
                  have r389 := (ow_only (ow_k (ow_k (ow_only (ow_k (ow_k (ow_k (ow_k (ow_only (ow_k rX o167) s172 (fun k hk => lt_F (oneF_ge hg169) (Nat.le_refl _) k (ownF_lt rX k hk))) o252) o262) o283) o289) s292 (fun k hk => lt_F (oneF_ge hg169) (Nat.le_refl _) k (ownF_lt rX k hk))) o351) o361) s387 (fun k hk hF => ow_nb (ow_k (ow_k (ow_only (ow_k (ow_k (ow_k (ow_k (ow_only (ow_k rX o167) s172 (fun k hk => lt_F (oneF_ge hg169) (Nat.le_refl _) k (ownF_lt rX k hk))) o252) o262) o283) o289) s292 (fun k hk => lt_F (oneF_ge hg169) (Nat.le_refl _) k (ownF_lt rX k hk))) o351) o361) B385 (by decide) (by rw [show k = g11 from hF] at hk; exact hk)))
                  have O390 : Only NoF w145 w291 := (o_sg (Only.trans' O286 o289) s292 (Nat.le_refl _) (oneF_ge hg169))
                  have h391 := (SliceOf.kp (SliceOf.kp fL3 o361 (fun _ _ h => h) (fun _ _ _ _ h => h)) s387 (ge_F (oneF_lt (Blk.lt B149)) (size_only O390)) (fun _ _ _ _ h => h))
                  have h392 := SliceOf.pl h391
                  have hb400 : (List.length (sm) + List.length ((Lnk.do_ al (⟨m159.k, (((List.filter (Lnk.betw x y) (List.take n273 n.ms)).length : Nat) : Int), m159.b, m159.t⟩ : Ev)).2.1)) * 32 ≤ 140737488355328 := by have hq := Lnk.came_len (n := n) (e := m159); rw [← hI2]; have hq2 := List.length_filter_le (Lnk.betw x y) (Lnk.do_ n m159).2.1; first | omega | (simp; omega)
                  have O401 : Only NoF w w386 := (o_sg (Only.trans' (Only.trans' (o_sg (Only.trans' (Only.trans' (Only.trans' (Only.trans' (o_sg (Only.trans' o146 o167) s172 (size_only o146) (oneF_ge hg169)) o252) o262) o283) o289) s292 (size_only o146) (oneF_ge hg169)) o351) o361) s387 (Nat.le_refl _) (oneF_ge (Nat.le_trans (size_only O151) hg11)))
                  obtain ⟨A393, c394, w395, hr396, r397, o398, al399⟩ := Row.app (P := Try.prog) (l := sm) (l2 := (Lnk.do_ al (⟨m159.k, (((List.filter (Lnk.betw x y) (List.take n273 n.ms)).length : Nat) : Int), m159.b, m159.t⟩ : Ev)).2.1) KMsg elemMsg r389 h392 hb400 (by unfold maxLen; omega) (size_only O401)
                  refine L (r_app hr396 Hz rfl rfl) Hz rfl ?_
                  clear Hz az; intro az Hz
                  have ok402 : ∀ zq ∈ (sm ++ (Lnk.do_ al (⟨m159.k, (((List.filter (Lnk.betw x y) (List.take n273 n.ms)).length : Nat) : Int), m159.b, m159.t⟩ : Ev)).2.1), KMsg.ok zq := (fun x hx => (List.mem_append.1 hx).elim (okX x) ((Row.oks KMsg h392) x))
                  have h403 := Row.own KMsg r397 ok402
                  refine L (r_as Hz rfl) Hz rfl ?_
                  clear Hz az; intro az Hz
                  have h404 := (SliceOf.kp (SliceOf.kp (SliceOf.kp (SliceOf.kp (SliceOf.kp fN1 O376 (fun _ _ h => h) (fun _ _ _ _ h => h)) s292 (ge_F (oneF_lt hl170) (size_only O298)) (fun _ _ _ _ h => h)) O377 (fun _ _ h => h) (fun _ _ _ _ h => h)) s387 (ge_F (oneF_lt (Blk.lt B149)) (size_only O301)) (fun _ _ _ _ h => h)) o398 (ge_F (ownF_lt rX) (size_only O301)) (fun _ _ _ _ h => h))
                  have h405 := SliceOf.av_new h404 (Blk.lt B148) (size_only O301) rU (size_only O301)
                  have h406 := (SliceOf.kp (SliceOf.kp (SliceOf.kp (SliceOf.kp (SliceOf.kp fN2 O376 (fun _ _ h => h) (fun _ _ _ _ h => h)) s292 (ge_F (oneF_lt hl170) (size_only O298)) (fun _ _ _ _ h => h)) O377 (fun _ _ h => h) (fun _ _ _ _ h => h)) s387 (ge_F (oneF_lt (Blk.lt B149)) (size_only O301)) (fun _ _ _ _ h => h)) o398 (ge_F (ownF_lt rX) (size_only O301)) (fun _ _ _ _ h => h))
                  have h407 := SliceOf.av_new h406 (Blk.lt B148) (size_only O301) rU (size_only O301)
                  have h408 := (SliceOf.kp (SliceOf.kp (SliceOf.kp (SliceOf.kp (SliceOf.kp fN3 O376 (fun _ _ h => h) (fun _ _ _ _ h => h)) s292 (ge_F (oneF_lt hl170) (size_only O298)) (fun _ _ _ _ h => h)) O377 (fun _ _ h => h) (fun _ _ _ _ h => h)) s387 (ge_F (oneF_lt (Blk.lt B149)) (size_only O301)) (fun _ _ _ _ h => h)) o398 (ge_F (ownF_lt rX) (size_only O301)) (fun _ _ _ _ h => h))
                  have h409 := SliceOf.pl h408
                  have h410 := (SliceOf.kp (SliceOf.kp (SliceOf.kp fL1 o361 (fun _ _ h => h) (fun _ _ _ _ h => h)) s387 (ge_F (oneF_lt (Blk.lt B149)) (size_only O390)) (fun _ _ _ _ h => h)) o398 (ge_F (ownF_lt rX) (size_only O390)) (fun _ _ _ _ h => h))
                  have h411 := SliceOf.av_new h410 (Blk.lt B148) (size_only O390) rU (size_only O390)
                  have h412 := (SliceOf.kp (SliceOf.kp (SliceOf.kp fL2 o361 (fun _ _ h => h) (fun _ _ _ _ h => h)) s387 (ge_F (oneF_lt (Blk.lt B149)) (size_only O390)) (fun _ _ _ _ h => h)) o398 (ge_F (ownF_lt rX) (size_only O390)) (fun _ _ _ _ h => h))
                  have h413 := SliceOf.av_new h412 (Blk.lt B148) (size_only O390) rU (size_only O390)
                  have O414 := (Only.trans (Only.trans (Only.trans (Only.trans (Only.trans (Only.trans (Only.trans (Only.trans (Only.trans (Only.trans (Only.refl (fun _ => True) w145) o167 (fun _ _ => .inl trivial)) s172 (fun _ _ => .inl trivial)) o252 (fun _ _ => .inl trivial)) o262 (fun _ _ => .inl trivial)) o283 (fun _ _ => .inl trivial)) o289 (fun _ _ => .inl trivial)) s292 (fun _ _ => .inl trivial)) o351 (fun _ _ => .inl trivial)) o361 (fun _ _ => .inl trivial)) s387 (fun _ _ => .inl trivial))
                  have r415 := (ow_only (ow_only (ow_k (ow_k (ow_only (ow_k (ow_k (ow_k (ow_k (ow_only (ow_k rU o167) s172 (fun k hk => lt_F (oneF_ge hg169) (Nat.le_refl _) k (ownF_lt rU k hk))) o252) o262) o283) o289) s292 (fun k hk => lt_F (oneF_ge hg169) (Nat.le_refl _) k (ownF_lt rU k hk))) o351) o361) s387 (fun k hk hF => ow_nb (ow_k (ow_k (ow_only (ow_k (ow_k (ow_k (ow_k (ow_only (ow_k rU o167) s172 (fun k hk => lt_F (oneF_ge hg169) (Nat.le_refl _) k (ownF_lt rU k hk))) o252) o262) o283) o289) s292 (fun k hk => lt_F (oneF_ge hg169) (Nat.le_refl _) k (ownF_lt rU k hk))) o351) o361) B385 (by decide) (by rw [show k = g11 from hF] at hk; exact hk))) o398 (sepV.symm hsep))
                  have O416 : Only NoF w w395 := (o_sg O401 o398 (Nat.le_refl _) (ownF_ge rX))
                  have B417 := (Blk.only (Blk.st (Blk.k (Blk.k B294 o351) o361) s387 ne123) o398 (ow_nb r389 (Blk.st (Blk.k (Blk.k B294 o351) o361) s387 ne123) (by decide)))
                  have B418 := (Blk.only B388 o398 (ow_nb r389 B388 (by decide)))
                  have B419 := (Blk.only (Blk.st (Blk.k (Blk.k B299 o351) o361) s387 ne304) o398 (ow_nb r389 (Blk.st (Blk.k (Blk.k B299 o351) o361) s387 ne304) (by decide)))
                  exact ⟨_, _, L1, l1, L2, l2, A393, c394, Hz.cut ⟨rfl, rfl, rfl, rfl, rfl, rfl, rfl, rfl, rfl, rfl, rfl, trivial⟩, hI3, (by have := Lnk.next_cuts (n := al) (e := (⟨m159.k, (((List.filter (Lnk.betw x y) (List.take n273 n.ms)).length : Nat) : Int), m159.b, m159.t⟩ : Ev)); omega), (by rw [hI2]), ok402, (sepV.alt hsep (fun q hq => Nat.lt_of_lt_of_le (ownF_lt rU q hq) (size_only O414)) al399), O416, B417, B418, B419, h405, h407, h409, h411, h413, (ow_low r397 (Nat.le_refl _)), (ow_low r415 (Nat.le_refl _))⟩
            · -- else4
              have q420 : Lnk.betw x y m275 = false := hc306
              refine wp_skip ?_
              have O421 : Only NoF w251 w288 := (Only.trans' (Only.trans' o262 o283) o289)
              have h422 := (SliceOf.kp (SliceOf.kp fN1 O421 (fun _ _ h => h) (fun _ _ _ _ h => h)) s292 (ge_F (oneF_lt hl170) (size_only O298)) (fun _ _ _ _ h => h))
              have h423 := SliceOf.av_new h422 (Blk.lt B148) (size_only O301) rU (size_only O301)
              have h424 := (SliceOf.kp (SliceOf.kp fN2 O421 (fun _ _ h => h) (fun _ _ _ _ h => h)) s292 (ge_F (oneF_lt hl170) (size_only O298)) (fun _ _ _ _ h => h))
              have h425 := SliceOf.av_new h424 (Blk.lt B148) (size_only O301) rU (size_only O301)
              have h426 := (SliceOf.kp (SliceOf.kp fN3 O421 (fun _ _ h => h) (fun _ _ _ _ h => h)) s292 (ge_F (oneF_lt hl170) (size_only O298)) (fun _ _ _ _ h => h))
              have h427 := SliceOf.pl h426
              have O428 : Only NoF w145 w291 := (o_sg (Only.trans' O286 o289) s292 (Nat.le_refl _) (oneF_ge hg169))
              have h429 := (SliceOf.kp fY1 O428 (fun _ _ h => h) (fun _ _ _ _ h => h))
              have h430 := (SliceOf.kp fY2 O428 (fun _ _ h => h) (fun _ _ _ _ h => h))
              have hO := Lnk.sim_out (Lnk.not_msg hc268 hnn273 hm276 hc306) hS (by omega)
              have r431 := (ow_only (ow_k (ow_k (ow_k (ow_k (ow_only (ow_k rX o167) s172 (fun k hk => lt_F (oneF_ge hg169) (Nat.le_refl _) k (ownF_lt rX k hk))) o252) o262) o283) o289) s292 (fun k hk => lt_F (oneF_ge hg169) (Nat.le_refl _) k (ownF_lt rX k hk)))
              have r432 := (ow_only (ow_k (ow_k (ow_k (ow_k (ow_only (ow_k rU o167) s172 (fun k hk => lt_F (oneF_ge hg169) (Nat.le_refl _) k (ownF_lt rU k hk))) o252) o262) o283) o289) s292 (fun k hk => lt_F (oneF_ge hg169) (Nat.le_refl _) k (ownF_lt rU k hk)))
              have O433 : Only NoF w w291 := (o_sg (Only.trans' (Only.trans' (Only.trans' (Only.trans' (o_sg (Only.trans' o146 o167) s172 (size_only o146) (oneF_ge hg169)) o252) o262) o283) o289) s292 (size_only o146) (oneF_ge hg169))
              exact ⟨al, sm, Y1, y1, Y2, y2, X1, x1, Hz.cut ⟨rfl, rfl, rfl, rfl, rfl, rfl, rfl, rfl, rfl, rfl, rfl, trivial⟩, hO.2, (by omega), (by rw [hO.1, List.append_nil]), okX, hsep, O433, B294, B296, B299, h423, h425, h427, h429, h430, (ow_low r431 (Nat.le_refl _)), (ow_low r432 (Nat.le_refl _))⟩
          clear Hz az
          rintro az w434 ⟨al2, sm2, V1, v1, V2, v2, X2, x2, Hz, hS2, hca2, hsm2, okX2, hsep2, o435, B436, B437, B438, fN1, fN2, fC, fV1, fV2, rX2, rU2⟩
          have O439 : Only NoF w w171 := (o_sg (Only.trans' o146 o167) s172 (size_only o146) (oneF_ge hg169))
          refine wp_seq_k fun K440 hK440 => ?_
          -- law.go:228
          refine wp_region_lit ?_
          refine L (r_mv Hz rfl) Hz rfl ?_
          clear Hz az; intro az Hz
          refine L (r_mv Hz rfl) Hz rfl ?_
          clear Hz az; intro az Hz
          have hb448 : (List.length (am) + List.length ((Lnk.do_ n m159).2.1)) * 32 ≤ 140737488355328 := by have hq := Lnk.came_len (n := n) (e := m159); first | omega | (simp; omega)
          obtain ⟨A441, c442, w443, hr444, r445, o446, al447⟩ := Row.app (P := Try.prog) (l := am) (l2 := (Lnk.do_ n m159).2.1) KMsg elemMsg rU2 fC hb448 (by unfold maxLen; omega) (size_only o435)
          refine L (r_app hr444 Hz rfl rfl) Hz rfl ?_
          clear Hz az; intro az Hz
          have ok449 : ∀ zq ∈ (am ++ (Lnk.do_ n m159).2.1), KMsg.ok zq := (fun x hx => (List.mem_append.1 hx).elim (okU x) ((Row.oks KMsg fC) x))
          have h450 := Row.own KMsg r445 ok449
          refine L (r_as Hz rfl) Hz rfl ?_
          clear Hz az; intro az Hz
          refine hK440 _ _ ?_
          -- law.go:229
          refine wp_region_lit ?_
          have B451 := (Blk.only B438 o446 (ow_nb rU2 B438 (by decide)))
          refine L (r_ldA Try.isAgg25 Try.sizeOf25 Hz rfl (Blk.ca B451) rfl) Hz rfl ?_
          clear Hz az; intro az Hz
          have B452 := (Blk.only B436 o446 (ow_nb rU2 B436 (by decide)))
          refine LSt (cs' := [.slice N1 ((Lnk.next n m159).ms.length) n1, .slice N2 ((Lnk.next n m159).cs.length) n2]) Try.sizeOf25 Hz rfl rfl rfl rfl rfl ⟨rfl, rfl, trivial⟩ B452 rfl rfl fun w453 s454 B455 => ?_
          refine hK156 _ _ ?_
          -- law.go:206
          refine wp_region_lit ?_
          refine L (r_mv Hz rfl) Hz rfl ?_
          clear Hz az; intro az Hz
          have i456 : I64 ((k : Int) + 1) := by unfold I64; omega
          refine L (r_addI (r := ((k : Int) + 1)) Hz rfl rfl rfl i456) Hz rfl ?_
          clear Hz az; intro az Hz
          refine L (r_as Hz rfl) Hz rfl ?_
          clear Hz az; intro az Hz
          have h457 := SliceOf.av_alt fV1 al447 (Nat.le_refl _)
          have h458 := (SliceOf.kp (SliceOf.kp h457 o446 (fun k hk h => hk.2.1 h) (fun _ _ _ _ h => h)) s454 (fun k hk h => hk.1 h) (fun _ _ _ _ h => h))
          have h459 := SliceOf.av_end h458
          have h460 := SliceOf.av_alt fV2 al447 (Nat.le_refl _)
          have h461 := (SliceOf.kp (SliceOf.kp h460 o446 (fun k hk h => hk.2.1 h) (fun _ _ _ _ h => h)) s454 (fun k hk h => hk.1 h) (fun _ _ _ _ h => h))
          have h462 := SliceOf.av_end h461
          have h463 := (SliceOf.kp (SliceOf.kp fN1 o446 (fun k hk h => hk.2 h) (fun _ _ _ _ h => h)) s454 (fun k hk h => hk.1 h) (fun _ _ _ _ h => h))
          have h464 := SliceOf.pl h463
          have h465 := (SliceOf.kp (SliceOf.kp fN2 o446 (fun k hk h => hk.2 h) (fun _ _ _ _ h => h)) s454 (fun k hk h => hk.1 h) (fun _ _ _ _ h => h))
          have h466 := SliceOf.pl h465
          have r467 := (ow_only (ow_only rX2 o446 hsep2) s454 (fun k hk hF => ow_nb (ow_only rX2 o446 hsep2) B452 (by decide) (by rw [show k = g46 from hF] at hk; exact hk)))
          have r468 := (ow_only r445 s454 (fun k hk hF => ow_nb r445 B452 (by decide) (by rw [show k = g46 from hF] at hk; exact hk)))
          have O469 : Only NoF w w453 := (o_sg (o_sg o435 o446 (Nat.le_refl _) (ownF_ge rU2)) s454 (Nat.le_refl _) (oneF_ge (Nat.le_trans (size_only O150) hg50)))
          have B470 := (Blk.st (Blk.only B437 o446 (ow_nb rU2 B437 (by decide))) s454 ne125)
          exact ⟨_, (by omega), k + 1, (Lnk.next n m159), al2, sm2, _, N1, n1, N2, n2, V1, v1, V2, v2, X2, x2, A441, c442, rfl, Hz.cut ⟨rfl, rfl, rfl, rfl, rfl, rfl, rfl, rfl, rfl, trivial⟩, (by omega), hS2, (by have := Lnk.next_len (n := n) (e := m159); omega), (by have := Lnk.next_cuts (n := n) (e := m159); omega), (by omega), (by rw [List.filter_append, ← hsm, hsm2]), (by have := Lnk.came_len (n := n) (e := m159); rw [List.length_append]; omega), okX2, ok449, (sepV.symm (sepV.alt (sepV.symm hsep2) (ownF_lt rX2) al447)), O469, B455, B470, h464, h466, h459, h462, (ow_low r467 (Nat.le_refl _)), (ow_low r468 (Nat.le_refl _))⟩
        · -- else3
          have d471 := hc268
          refine wp_skip ?_
          refine hK263 _ _ ?_
          have ne472 : g11 ≠ g165 := (ne_of (Blk.lt B149) hg169)
          have B473 := (Blk.k (Blk.k (Blk.st (Blk.k B149 o167) s172 ne472) o252) o262)
          have B474 := (Blk.k B253 o262)
          have O476 : Only NoF w145 w171 := (o_sg o167 s172 (Nat.le_refl _) (oneF_ge hg169))
          have ne475 : g46 ≠ gb16 := (ne_of (Blk.lt B148) (Nat.le_trans (size_only O476) hgb16))
          have ne477 : g11 ≠ gb16 := (ne_of (Blk.lt B149) (Nat.le_trans (size_only O476) hgb16))
          have ne478 : gb16 ≠ g46 := (ne_of (Blk.lt B148) (Nat.le_trans (size_only O476) hgb16)).symm
          have ne479 : gb16 ≠ g11 := (ne_of (Blk.lt B149) (Nat.le_trans (size_only O476) hgb16)).symm
          refine wp_join (fun az W => ∃ al2 : Air, ∃ sm2 : List Msg, ∃ V1 : Option Addr, ∃ v1 : Nat, ∃ V2 : Option Addr, ∃ v2 : Nat, ∃ X2 : Option Addr, ∃ x2 : Nat, Fr 191 [(1, .int .i64 (x)), (2, .int .i64 (y)), (3, .slice A3 (l.length) c3), (9, .bool (true)), (10, .pointer (some ((⟨g46, 0, none⟩ : Addr)))), (11, .pointer (some ((⟨g11, 0, none⟩ : Addr)))), (13, .slice U1 (am.length) u1), (14, .int .i64 ((k : Int))), (16, .pointer (some ((⟨gb16, 0, none⟩ : Addr)))), (17, .slice N3 (((Lnk.do_ n m159).2.1).length) n3), (12, .slice X2 (sm2.length) x2)] az ∧ (Lnk.Sim x y (Lnk.next n m159) al2) ∧ (al2.cs.length ≤ a.cs.length + k + 1) ∧ (sm2 = sm ++ ((Lnk.do_ n m159).2.1).filter (Lnk.betw x y)) ∧ (∀ z ∈ sm2, KMsg.ok z) ∧ (sepV (.slice X2 sm2.length x2) (.slice U1 am.length u1)) ∧ Only NoF w W ∧ Blk W g46 25 [.slice Z1 (n.ms.length) z1, .slice Z2 (n.cs.length) z2].toArray ∧ Blk W g11 25 [.slice V1 (al2.ms.length) v1, .slice V2 (al2.cs.length) v2].toArray ∧ Blk W gb16 25 [.slice N1 ((Lnk.next n m159).ms.length) n1, .slice N2 ((Lnk.next n m159).cs.length) n2].toArray ∧ SliceOf (avB g46 (.slice U1 am.length u1)) 3 RMsg W (.slice N1 ((Lnk.next n m159).ms.length) n1) (Lnk.next n m159).ms ∧ SliceOf (avB g46 (.slice U1 am.length u1)) 2 RPr W (.slice N2 ((Lnk.next n m159).cs.length) n2) (Lnk.next n m159).cs ∧ Msgs W (.slice N3 (((Lnk.do_ n m159).2.1).length) n3) ((Lnk.do_ n m159).2.1) ∧ SliceOf (avB g46 (.slice U1 am.length u1)) 3 RMsg W (.slice V1 al2.ms.length v1) al2.ms ∧ SliceOf (avB g46 (.slice U1 am.length u1)) 2 RPr W (.slice V2 al2.cs.length v2) al2.cs ∧ W.ownsRow w.heap.size 27 3 (.slice X2 (sm2).length x2) (sm2).length (List.flatMap KMsg.cells sm2) ∧ W.ownsRow w.heap.size 27 3 (.slice U1 (am).length u1) (am).length (List.flatMap KMsg.cells am)) ?_ ?_
          · -- to the join
            refine wp_seq_k fun K480 hK480 => ?_
            -- law.go:217
            refine wp_region_lit ?_
            refine L (r_mv Hz rfl) Hz rfl ?_
            clear Hz az; intro az Hz
            refine hK480 _ _ ?_
            refine br Hz rfl (fun hc481 => ?_) (fun hc481 => ?_)
            · -- if4
              have d482 := (and_t hc481).1
              have q483 : Lnk.betw x y (⟨m159.a, m159.b, []⟩ : Msg) = true := (and_t hc481).2
              refine wp_join (fun az W => ∃ gb20 : Nat, ∃ L1 : Option Addr, ∃ l1 : Nat, ∃ L2 : Option Addr, ∃ l2 : Nat, ∃ L3 : Option Addr, ∃ l3 : Nat, ∃ L4 : Option Addr, ∃ l4 : Nat, Fr 191 [(1, .int .i64 (x)), (2, .int .i64 (y)), (3, .slice A3 (l.length) c3), (9, .bool (true)), (10, .pointer (some ((⟨g46, 0, none⟩ : Addr)))), (11, .pointer (some ((⟨g11, 0, none⟩ : Addr)))), (12, .slice X1 (sm.length) x1), (13, .slice U1 (am.length) u1), (14, .int .i64 ((k : Int))), (16, .pointer (some ((⟨gb16, 0, none⟩ : Addr)))), (17, .slice N3 (((Lnk.do_ n m159).2.1).length) n3), (18, .slice N4 (([(Lnk.do_ n m159).2.2]).length) n4), (20, .pointer (some ((⟨gb20, 0, none⟩ : Addr)))), (21, .slice L3 (((Lnk.do_ al m159).2.1).length) l3), (22, .slice L4 (([(Lnk.do_ al m159).2.2]).length) l4)] az ∧ (w261.heap.size ≤ gb20) ∧ Only NoF w261 W ∧ Blk W gb20 25 [.slice L1 ((Lnk.next al m159).ms.length) l1, .slice L2 ((Lnk.next al m159).cs.length) l2].toArray ∧ SliceOf (geB w261.heap.size) 3 RMsg W (.slice L1 ((Lnk.next al m159).ms.length) l1) ((Lnk.next al m159).ms) ∧ SliceOf (geB w261.heap.size) 2 RPr W (.slice L2 ((Lnk.next al m159).cs.length) l2) ((Lnk.next al m159).cs) ∧ SliceOf (geB w261.heap.size) 3 RMsg W (.slice L3 (((Lnk.do_ al m159).2.1).length) l3) ((Lnk.do_ al m159).2.1) ∧ SliceOf (geB w261.heap.size) 1 RInt W (.slice L4 (([(Lnk.do_ al m159).2.2]).length) l4) ([(Lnk.do_ al m159).2.2])) ?_ ?_
              · -- to the join
                -- law.go:218
                refine wp_region_lit ?_
                refine L (r_ldA Try.isAgg25 Try.sizeOf25 Hz rfl (Blk.ca B473) rfl) Hz rfl ?_
                clear Hz az; intro az Hz
                refine L (r_ldA Try.isAgg48 Try.sizeOf48 Hz rfl (Blk.ca B265) rfl) Hz rfl ?_
                clear Hz az; intro az Hz
                obtain ⟨A484, w485, hw, hA, r486, o487⟩ := Row.made (w := w261) KEv (e := 48) ([m159] : List Ev) (by simp only [List.length_cons, List.length_nil]; unfold maxLen; omega)
                refine L (r_bs (z := .agg #[.int .i64 (0), .int .i64 (0), .int .i64 (0), strV ([])]) (size := 4) (vs := [(0, .agg #[.int .i64 (m159.k), .int .i64 (m159.a), .int .i64 (m159.b), strV (m159.t)])]) (cs := List.flatMap KEv.cells [m159]) Try.underlying28 Try.sizeOf48 zeroEv rfl (Fr.evalps Hz rfl) (by kernel_rfl)) Hz rfl ?_
                rw [← hw, ← hA]; clear Hz az; intro az Hz
                clear hw hA
                have ok488 : ∀ zq ∈ ([m159] : List Ev), KEv.ok zq := by intro zq hx; simp only [List.mem_cons, List.not_mem_nil, or_false] at hx; rcases hx with rfl <;> first | exact ok161
                have O489 : Only NoF w145 w485 := (Only.trans' (Only.trans' (Only.trans' O476 o252) o262) o487)
                have h490 := (SliceOf.kp fY1 O489 (fun _ _ h => h) (fun _ _ _ _ h => h))
                have h491 := SliceOf.pl h490
                have h492 := (SliceOf.kp fY2 O489 (fun _ _ h => h) (fun _ _ _ _ h => h))
                have h493 := SliceOf.pl h492
                have h494 := Row.own KEv r486 ok488
                have h495 := SliceOf.pl h494
                refine LC Hz rfl rfl Try.call24 (Run_v1 (show AirV _ _ al from ⟨_, _, rfl, h491, h493⟩) h495 hS.2.2.2 (by omega)) rfl ?_
                rintro e w509 ⟨A496, c500, A497, c501, A498, c502, A499, c503, rfl, f504, f505, f506, f507, o508⟩; refine ⟨_, rfl, ?_⟩
                clear Hz az; intro az Hz
                refine L (r_mv Hz rfl) Hz rfl ?_
                clear Hz az; intro az Hz
                refine L (r_ex Hz rfl rfl) Hz rfl ?_
                clear Hz az; intro az Hz
                refine L (r_ex Hz rfl rfl) Hz rfl ?_
                clear Hz az; intro az Hz
                refine L (r_ex Hz rfl rfl) Hz rfl ?_
                clear Hz az; intro az Hz
                refine LAl (v := .agg #[.slice none (0) 0, .slice none (0) 0]) zeroAir Hz rfl rfl ?_
                clear Hz az; intro g510 w511 hg514 hl515 o512 B513 az Hz
                refine LSt (cs' := [.slice A496 ((Lnk.next al m159).ms.length) c500, .slice A497 ((Lnk.next al m159).cs.length) c501]) Try.sizeOf25 Hz rfl rfl rfl rfl rfl ⟨rfl, rfl, trivial⟩ B513 rfl rfl fun w516 s517 B518 => ?_
                refine L (r_as Hz rfl) Hz rfl ?_
                clear Hz az; intro az Hz
                refine L (r_as Hz rfl) Hz rfl ?_
                clear Hz az; intro az Hz
                have O519 : Only NoF w261 w509 := (Only.trans' o487 o508)
                have O520 : Only NoF w509 w516 := (o_sg o512 s517 (Nat.le_refl _) (oneF_ge hg514))
                have h521 := (SliceOf.kp f504 O520 (fun _ _ h => h) (fun _ _ _ _ h => h))
                have h522 := (SliceOf.kp f505 O520 (fun _ _ h => h) (fun _ _ _ _ h => h))
                have h523 := (SliceOf.kp f506 O520 (fun _ _ h => h) (fun _ _ _ _ h => h))
                have h524 := (SliceOf.kp f507 O520 (fun _ _ h => h) (fun _ _ _ _ h => h))
                have O525 : Only NoF w261 w516 := (o_sg (Only.trans' O519 o512) s517 (size_only O519) (oneF_ge hg514))
                exact ⟨g510, A496, c500, A497, c501, A498, c502, A499, c503, Hz.cut ⟨rfl, rfl, rfl, rfl, rfl, rfl, rfl, rfl, rfl, rfl, rfl, rfl, rfl, rfl, rfl, trivial⟩, (Nat.le_trans (size_only O519) hg514), O525, B518, (SliceOf.ge_low h521 (size_only o487)), (SliceOf.ge_low h522 (size_only o487)), (SliceOf.ge_low h523 (size_only o487)), (SliceOf.ge_low h524 (size_only o487))⟩
              clear Hz az
              rintro az w526 ⟨gb20, L1, l1, L2, l2, L3, l3, L4, l4, Hz, hgb20, o527, B528, fL1, fL2, fL3, fL4⟩
              have hM := Lnk.mine_pair (n := n) hc481
              obtain ⟨hI1, hI2, hI3⟩ := Lnk.sim_in hM hS (by omega)
              refine wp_seq_k fun K529 hK529 => ?_
              refine wp_seq_k fun K530 hK530 => ?_
              -- law.go:219
              refine wp_region_lit ?_
              refine L (r_mv Hz rfl) Hz rfl ?_
              clear Hz az; intro az Hz
              refine L (r_lenL Try.underlying40 Hz rfl) Hz rfl ?_
              clear Hz az; intro az Hz
              refine L (r_neI Hz rfl rfl) Hz rfl ?_
              clear Hz az; intro az Hz
              refine hK530 _ _ ?_
              refine br Hz rfl (fun hc531 => ?_) (fun hc531 => ?_)
              · -- if5
                have p532 := of_decide_eq_false (nt_t hc531)
                exact absurd rfl (of_decide_eq_false (nt_t hc531))
              · -- else5
                have p533 := of_decide_eq_true (nt_f hc531)
                refine wp_skip ?_
                refine hK529 _ _ ?_
                refine wp_seq_k fun K534 hK534 => ?_
                refine wp_seq_k fun K535 hK535 => ?_
                -- law.go:222
                refine reg_q [(true, 0), (true, 1), (true, 2), (true, 3), (true, 4), (true, 5), (true, 6)] (by kernel_rfl) (by kernel_rfl) (fun _ _ _ _ _ h => h) fun w536 o537 => ?_
                refine M (r_mv Hz rfl) Hz rfl rfl ?_
                clear Hz az; intro az Hz
                have hk538 : 0 < ([(Lnk.do_ al m159).2.2]).length := by first | omega | (simp; done)
                have h544 := (SliceOf.kp fL4 o537 (fun _ _ h => h) (fun _ _ _ _ h => h))
                have h545 := SliceOf.pl h544
                obtain ⟨m539, hm540, ok541, hA542⟩ := Row.el KErr h545 hk538
                have E543 : ∀ W, Only NoF w536 W → CA W (eA L4 1 (0)) [.int .i64 (m539)] := Row.ce KErr h545 hm540 rfl
                refine M (r_ia (k := 0) (size := 1) Try.underlying40 Try.sizeOf32 Hz rfl rfl rfl hk538 hA542) Hz rfl rfl ?_
                clear Hz az; intro az Hz
                refine M (r_ld Try.isAgg32 Hz rfl (CA.first (E543 _ (Only.refl NoF w536)))) Hz rfl rfl ?_
                clear Hz az; intro az Hz
                refine M (r_mv Hz rfl) Hz rfl rfl ?_
                clear Hz az; intro az Hz
                have hk546 : 0 < ([(Lnk.do_ n m159).2.2]).length := by first | omega | (simp; done)
                have O552 : Only NoF w251 w536 := (Only.trans' (Only.trans' o262 o527) o537)
                have h553 := (SliceOf.kp fN4 O552 (fun _ _ h => h) (fun _ _ _ _ h => h))
                have h554 := SliceOf.pl h553
                obtain ⟨m547, hm548, ok549, hA550⟩ := Row.el KErr h554 hk546
                have E551 : ∀ W, Only NoF w536 W → CA W (eA N4 1 (0)) [.int .i64 (m547)] := Row.ce KErr h554 hm548 rfl
                refine M (r_ia (k := 0) (size := 1) Try.underlying40 Try.sizeOf32 Hz rfl rfl rfl hk546 hA550) Hz rfl rfl ?_
                clear Hz az; intro az Hz
                refine M (r_ld Try.isAgg32 Hz rfl (CA.first (E551 _ (Only.refl NoF w536)))) Hz rfl rfl ?_
                clear Hz az; intro az Hz
                refine M (r_neI Hz rfl rfl) Hz rfl rfl ?_
                clear Hz az; intro az Hz
                refine wpMix_nil ?_
                refine hK535 _ _ ?_
                refine br Hz rfl (fun hc555 => ?_) (fun hc555 => ?_)
                · -- if6
                  have p556 := of_decide_eq_false (nt_t hc555)
                  have q1 := Option.some.inj hm540; have q2 := Option.some.inj hm548
                  exact absurd (q1.symm.trans (hI1.symm.trans q2)) (of_decide_eq_false (nt_t hc555))
                · -- else6
                  have p557 := of_decide_eq_true (nt_f hc555)
                  refine wp_skip ?_
                  refine hK534 _ _ ?_
                  refine wp_seq_k fun K558 hK558 => ?_
                  -- law.go:225
                  refine wp_region_lit ?_
                  have B559 := (Blk.k B528 o537)
                  refine L (r_ldA Try.isAgg25 Try.sizeOf25 Hz rfl (Blk.ca B559) rfl) Hz rfl ?_
                  clear Hz az; intro az Hz
                  have B560 := (Blk.k (Blk.k B473 o527) o537)
                  refine LSt (cs' := [.slice L1 ((Lnk.next al m159).ms.length) l1, .slice L2 ((Lnk.next al m159).cs.length) l2]) Try.sizeOf25 Hz rfl rfl rfl rfl rfl ⟨rfl, rfl, trivial⟩ B560 rfl rfl fun w561 s562 B563 => ?_
                  refine hK558 _ _ ?_
                  -- law.go:226
                  refine wp_region_lit ?_
                  refine L (r_mv Hz rfl) Hz rfl ?_
                  clear Hz az; intro az Hz
                  refine L (r_mv Hz rfl) Hz rfl ?_
                  clear Hz az; intro az Hz
                  have r564 := (ow_only (ow_k (ow_k (ow_k (ow_k (ow_only (ow_k rX o167) s172 (fun k hk => lt_F (oneF_ge hg169) (Nat.le_refl _) k (ownF_lt rX k hk))) o252) o262) o527) o537) s562 (fun k hk hF => ow_nb (ow_k (ow_k (ow_k (ow_k (ow_only (ow_k rX o167) s172 (fun k hk => lt_F (oneF_ge hg169) (Nat.le_refl _) k (ownF_lt rX k hk))) o252) o262) o527) o537) B560 (by decide) (by rw [show k = g11 from hF] at hk; exact hk)))
                  have O565 : Only NoF w145 w261 := (Only.trans' (Only.trans' O476 o252) o262)
                  have h566 := (SliceOf.kp (SliceOf.kp fL3 o537 (fun _ _ h => h) (fun _ _ _ _ h => h)) s562 (ge_F (oneF_lt (Blk.lt B149)) (size_only O565)) (fun _ _ _ _ h => h))
                  have h567 := SliceOf.pl h566
                  have hb575 : (List.length (sm) + List.length ((Lnk.do_ al m159).2.1)) * 32 ≤ 140737488355328 := by have hq := Lnk.came_len (n := n) (e := m159); rw [← hI2]; have hq2 := List.length_filter_le (Lnk.betw x y) (Lnk.do_ n m159).2.1; first | omega | (simp; omega)
                  have O576 : Only NoF w w561 := (o_sg (Only.trans' (Only.trans' (Only.trans' (Only.trans' (o_sg (Only.trans' o146 o167) s172 (size_only o146) (oneF_ge hg169)) o252) o262) o527) o537) s562 (Nat.le_refl _) (oneF_ge (Nat.le_trans (size_only O151) hg11)))
                  obtain ⟨A568, c569, w570, hr571, r572, o573, al574⟩ := Row.app (P := Try.prog) (l := sm) (l2 := (Lnk.do_ al m159).2.1) KMsg elemMsg r564 h567 hb575 (by unfold maxLen; omega) (size_only O576)
                  refine L (r_app hr571 Hz rfl rfl) Hz rfl ?_
                  clear Hz az; intro az Hz
                  have ok577 : ∀ zq ∈ (sm ++ (Lnk.do_ al m159).2.1), KMsg.ok zq := (fun x hx => (List.mem_append.1 hx).elim (okX x) ((Row.oks KMsg h567) x))
                  have h578 := Row.own KMsg r572 ok577
                  refine L (r_as Hz rfl) Hz rfl ?_
                  clear Hz az; intro az Hz
                  have h579 := (SliceOf.kp (SliceOf.kp (SliceOf.kp fN1 O552 (fun _ _ h => h) (fun _ _ _ _ h => h)) s562 (ge_F (oneF_lt (Blk.lt B149)) (size_only O476)) (fun _ _ _ _ h => h)) o573 (ge_F (ownF_lt rX) (size_only O476)) (fun _ _ _ _ h => h))
                  have h580 := SliceOf.av_new h579 (Blk.lt B148) (size_only O476) rU (size_only O476)
                  have h581 := (SliceOf.kp (SliceOf.kp (SliceOf.kp fN2 O552 (fun _ _ h => h) (fun _ _ _ _ h => h)) s562 (ge_F (oneF_lt (Blk.lt B149)) (size_only O476)) (fun _ _ _ _ h => h)) o573 (ge_F (ownF_lt rX) (size_only O476)) (fun _ _ _ _ h => h))
                  have h582 := SliceOf.av_new h581 (Blk.lt B148) (size_only O476) rU (size_only O476)
                  have h583 := (SliceOf.kp (SliceOf.kp (SliceOf.kp fN3 O552 (fun _ _ h => h) (fun _ _ _ _ h => h)) s562 (ge_F (oneF_lt (Blk.lt B149)) (size_only O476)) (fun _ _ _ _ h => h)) o573 (ge_F (ownF_lt rX) (size_only O476)) (fun _ _ _ _ h => h))
                  have h584 := SliceOf.pl h583
                  have h585 := (SliceOf.kp (SliceOf.kp (SliceOf.kp fL1 o537 (fun _ _ h => h) (fun _ _ _ _ h => h)) s562 (ge_F (oneF_lt (Blk.lt B149)) (size_only O565)) (fun _ _ _ _ h => h)) o573 (ge_F (ownF_lt rX) (size_only O565)) (fun _ _ _ _ h => h))
                  have h586 := SliceOf.av_new h585 (Blk.lt B148) (size_only O565) rU (size_only O565)
                  have h587 := (SliceOf.kp (SliceOf.kp (SliceOf.kp fL2 o537 (fun _ _ h => h) (fun _ _ _ _ h => h)) s562 (ge_F (oneF_lt (Blk.lt B149)) (size_only O565)) (fun _ _ _ _ h => h)) o573 (ge_F (ownF_lt rX) (size_only O565)) (fun _ _ _ _ h => h))
                  have h588 := SliceOf.av_new h587 (Blk.lt B148) (size_only O565) rU (size_only O565)
                  have O589 := (Only.trans (Only.trans (Only.trans (Only.trans (Only.trans (Only.trans (Only.trans (Only.refl (fun _ => True) w145) o167 (fun _ _ => .inl trivial)) s172 (fun _ _ => .inl trivial)) o252 (fun _ _ => .inl trivial)) o262 (fun _ _ => .inl trivial)) o527 (fun _ _ => .inl trivial)) o537 (fun _ _ => .inl trivial)) s562 (fun _ _ => .inl trivial))
                  have r590 := (ow_only (ow_only (ow_k (ow_k (ow_k (ow_k (ow_only (ow_k rU o167) s172 (fun k hk => lt_F (oneF_ge hg169) (Nat.le_refl _) k (ownF_lt rU k hk))) o252) o262) o527) o537) s562 (fun k hk hF => ow_nb (ow_k (ow_k (ow_k (ow_k (ow_only (ow_k rU o167) s172 (fun k hk => lt_F (oneF_ge hg169) (Nat.le_refl _) k (ownF_lt rU k hk))) o252) o262) o527) o537) B560 (by decide) (by rw [show k = g11 from hF] at hk; exact hk))) o573 (sepV.symm hsep))
                  have O591 : Only NoF w w570 := (o_sg O576 o573 (Nat.le_refl _) (ownF_ge rX))
                  have B592 := (Blk.only (Blk.st (Blk.k (Blk.k B267 o527) o537) s562 ne123) o573 (ow_nb r564 (Blk.st (Blk.k (Blk.k B267 o527) o537) s562 ne123) (by decide)))
                  have B593 := (Blk.only B563 o573 (ow_nb r564 B563 (by decide)))
                  have B594 := (Blk.only (Blk.st (Blk.k (Blk.k B474 o527) o537) s562 ne479) o573 (ow_nb r564 (Blk.st (Blk.k (Blk.k B474 o527) o537) s562 ne479) (by decide)))
                  exact ⟨_, _, L1, l1, L2, l2, A568, c569, Hz.cut ⟨rfl, rfl, rfl, rfl, rfl, rfl, rfl, rfl, rfl, rfl, rfl, trivial⟩, hI3, (by have := Lnk.next_cuts (n := al) (e := m159); omega), (by rw [hI2]), ok577, (sepV.alt hsep (fun q hq => Nat.lt_of_lt_of_le (ownF_lt rU q hq) (size_only O589)) al574), O591, B592, B593, B594, h580, h582, h584, h586, h588, (ow_low r572 (Nat.le_refl _)), (ow_low r590 (Nat.le_refl _))⟩
            · -- else4
              have d595 := hc481
              refine wp_skip ?_
              have h596 := (SliceOf.kp fN1 o262 (fun _ _ h => h) (fun _ _ _ _ h => h))
              have h597 := SliceOf.av_new h596 (Blk.lt B148) (size_only O476) rU (size_only O476)
              have h598 := (SliceOf.kp fN2 o262 (fun _ _ h => h) (fun _ _ _ _ h => h))
              have h599 := SliceOf.av_new h598 (Blk.lt B148) (size_only O476) rU (size_only O476)
              have h600 := (SliceOf.kp fN3 o262 (fun _ _ h => h) (fun _ _ _ _ h => h))
              have h601 := SliceOf.pl h600
              have O602 : Only NoF w145 w261 := (Only.trans' (Only.trans' O476 o252) o262)
              have h603 := (SliceOf.kp fY1 O602 (fun _ _ h => h) (fun _ _ _ _ h => h))
              have h604 := (SliceOf.kp fY2 O602 (fun _ _ h => h) (fun _ _ _ _ h => h))
              have hO := Lnk.sim_out (Lnk.not_pair hc268 hc481) hS (by omega)
              have r605 := (ow_k (ow_k (ow_only (ow_k rX o167) s172 (fun k hk => lt_F (oneF_ge hg169) (Nat.le_refl _) k (ownF_lt rX k hk))) o252) o262)
              have r606 := (ow_k (ow_k (ow_only (ow_k rU o167) s172 (fun k hk => lt_F (oneF_ge hg169) (Nat.le_refl _) k (ownF_lt rU k hk))) o252) o262)
              have O607 : Only NoF w w261 := (Only.trans' (Only.trans' (o_sg (Only.trans' o146 o167) s172 (size_only o146) (oneF_ge hg169)) o252) o262)
              exact ⟨al, sm, Y1, y1, Y2, y2, X1, x1, Hz.cut ⟨rfl, rfl, rfl, rfl, rfl, rfl, rfl, rfl, rfl, rfl, rfl, trivial⟩, hO.2, (by omega), (by rw [hO.1, List.append_nil]), okX, hsep, O607, B267, B473, B474, h597, h599, h601, h603, h604, (ow_low r605 (Nat.le_refl _)), (ow_low r606 (Nat.le_refl _))⟩
          clear Hz az
          rintro az w608 ⟨al2, sm2, V1, v1, V2, v2, X2, x2, Hz, hS2, hca2, hsm2, okX2, hsep2, o609, B610, B611, B612, fN1, fN2, fC, fV1, fV2, rX2, rU2⟩
          have O613 : Only NoF w w171 := (o_sg (Only.trans' o146 o167) s172 (size_only o146) (oneF_ge hg169))
          refine wp_seq_k fun K614 hK614 => ?_
          -- law.go:228
          refine wp_region_lit ?_
          refine L (r_mv Hz rfl) Hz rfl ?_
          clear Hz az; intro az Hz
          refine L (r_mv Hz rfl) Hz rfl ?_
          clear Hz az; intro az Hz
          have hb622 : (List.length (am) + List.length ((Lnk.do_ n m159).2.1)) * 32 ≤ 140737488355328 := by have hq := Lnk.came_len (n := n) (e := m159); first | omega | (simp; omega)
          obtain ⟨A615, c616, w617, hr618, r619, o620, al621⟩ := Row.app (P := Try.prog) (l := am) (l2 := (Lnk.do_ n m159).2.1) KMsg elemMsg rU2 fC hb622 (by unfold maxLen; omega) (size_only o609)
          refine L (r_app hr618 Hz rfl rfl) Hz rfl ?_
          clear Hz az; intro az Hz
          have ok623 : ∀ zq ∈ (am ++ (Lnk.do_ n m159).2.1), KMsg.ok zq := (fun x hx => (List.mem_append.1 hx).elim (okU x) ((Row.oks KMsg fC) x))
          have h624 := Row.own KMsg r619 ok623
          refine L (r_as Hz rfl) Hz rfl ?_
          clear Hz az; intro az Hz
          refine hK614 _ _ ?_
          -- law.go:229
          refine wp_region_lit ?_
          have B625 := (Blk.only B612 o620 (ow_nb rU2 B612 (by decide)))
          refine L (r_ldA Try.isAgg25 Try.sizeOf25 Hz rfl (Blk.ca B625) rfl) Hz rfl ?_
          clear Hz az; intro az Hz
          have B626 := (Blk.only B610 o620 (ow_nb rU2 B610 (by decide)))
          refine LSt (cs' := [.slice N1 ((Lnk.next n m159).ms.length) n1, .slice N2 ((Lnk.next n m159).cs.length) n2]) Try.sizeOf25 Hz rfl rfl rfl rfl rfl ⟨rfl, rfl, trivial⟩ B626 rfl rfl fun w627 s628 B629 => ?_
          refine hK156 _ _ ?_
          -- law.go:206
          refine wp_region_lit ?_
          refine L (r_mv Hz rfl) Hz rfl ?_
          clear Hz az; intro az Hz
          have i630 : I64 ((k : Int) + 1) := by unfold I64; omega
          refine L (r_addI (r := ((k : Int) + 1)) Hz rfl rfl rfl i630) Hz rfl ?_
          clear Hz az; intro az Hz
          refine L (r_as Hz rfl) Hz rfl ?_
          clear Hz az; intro az Hz
          have h631 := SliceOf.av_alt fV1 al621 (Nat.le_refl _)
          have h632 := (SliceOf.kp (SliceOf.kp h631 o620 (fun k hk h => hk.2.1 h) (fun _ _ _ _ h => h)) s628 (fun k hk h => hk.1 h) (fun _ _ _ _ h => h))
          have h633 := SliceOf.av_end h632
          have h634 := SliceOf.av_alt fV2 al621 (Nat.le_refl _)
          have h635 := (SliceOf.kp (SliceOf.kp h634 o620 (fun k hk h => hk.2.1 h) (fun _ _ _ _ h => h)) s628 (fun k hk h => hk.1 h) (fun _ _ _ _ h => h))
          have h636 := SliceOf.av_end h635
          have h637 := (SliceOf.kp (SliceOf.kp fN1 o620 (fun k hk h => hk.2 h) (fun _ _ _ _ h => h)) s628 (fun k hk h => hk.1 h) (fun _ _ _ _ h => h))
          have h638 := SliceOf.pl h637
          have h639 := (SliceOf.kp (SliceOf.kp fN2 o620 (fun k hk h => hk.2 h) (fun _ _ _ _ h => h)) s628 (fun k hk h => hk.1 h) (fun _ _ _ _ h => h))
          have h640 := SliceOf.pl h639
          have r641 := (ow_only (ow_only rX2 o620 hsep2) s628 (fun k hk hF => ow_nb (ow_only rX2 o620 hsep2) B626 (by decide) (by rw [show k = g46 from hF] at hk; exact hk)))
          have r642 := (ow_only r619 s628 (fun k hk hF => ow_nb r619 B626 (by decide) (by rw [show k = g46 from hF] at hk; exact hk)))
          have O643 : Only NoF w w627 := (o_sg (o_sg o609 o620 (Nat.le_refl _) (ownF_ge rU2)) s628 (Nat.le_refl _) (oneF_ge (Nat.le_trans (size_only O150) hg50)))
          have B644 := (Blk.st (Blk.only B611 o620 (ow_nb rU2 B611 (by decide))) s628 ne125)
          exact ⟨_, (by omega), k + 1, (Lnk.next n m159), al2, sm2, _, N1, n1, N2, n2, V1, v1, V2, v2, X2, x2, A615, c616, rfl, Hz.cut ⟨rfl, rfl, rfl, rfl, rfl, rfl, rfl, rfl, rfl, trivial⟩, (by omega), hS2, (by have := Lnk.next_len (n := n) (e := m159); omega), (by have := Lnk.next_cuts (n := n) (e := m159); omega), (by omega), (by rw [List.filter_append, ← hsm, hsm2]), (by have := Lnk.came_len (n := n) (e := m159); rw [List.length_append]; omega), okX2, ok623, (sepV.symm (sepV.alt (sepV.symm hsep2) (ownF_lt rX2) al621)), O643, B629, B644, h638, h640, h633, h636, (ow_low r641 (Nat.le_refl _)), (ow_low r642 (Nat.le_refl _))⟩
    · -- else1
      have p645 := of_decide_eq_false hc154
      refine wp_exit ?_
      refine th_exit ?_
      refine th_exit ?_
      refine ib_hit ?_
      refine hK119 _ _ ?_
      refine wp_seq_k fun K646 hK646 => ?_
      -- law.go:231
      refine reg_p NoF 4 [5, 7, 14, 17] (.rd 0 (.rd 1 (.rd 2 (.rd 3 (.rd 4 (.rd 6 (.ex 5 (.ex 7 (.rd 8 (.rd 9 (.rd 10 (.rd 11 (.rd 12 (.rd 13 (.rd 15 (.rd 16 (.ex 14 (.ex 17 (.rd 18 (.rd 19 .nil)))))))))))))))))))) (by kernel_rfl) (by kernel_rfl) (fun _ _ _ _ _ h => h) fun w647 o648 => ?_
      have B649 := (Blk.k B148 o648)
      have B650 := (Blk.k B149 o648)
      refine Pl.MSP (b := true) (by kernel_rfl) (fun W oW => r_mv Hz rfl) Hz rfl rfl ?_
      clear Hz az; intro az Hz
      refine Pl.MSP (b := true) (by kernel_rfl) (fun W oW => r_mv Hz rfl) Hz rfl rfl ?_
      clear Hz az; intro az Hz
      refine Pl.MSPT (b := true) (by kernel_rfl) Hz rfl rfl (fun W oW => r_mv Hz rfl) rfl rfl ?_
      clear Hz az; intro az Hz
      refine Pl.MSPT (b := true) (by kernel_rfl) Hz rfl rfl (fun W oW => r_mv Hz rfl) rfl rfl ?_
      clear Hz az; intro az Hz
      refine Pl.MSPT (b := true) (by kernel_rfl) Hz rfl rfl (fun W oW => r_mv Hz rfl) rfl rfl ?_
      clear Hz az; intro az Hz
      refine Pl.MSPT (b := true) (by kernel_rfl) Hz rfl rfl (fun W oW => r_mv Hz rfl) rfl rfl ?_
      clear Hz az; intro az Hz
      have h656 := Row.own KMsg rU okU
      have h657 := (SliceOf.kp h656 o648 (fun _ _ h => h) (fun _ _ _ _ h => h))
      have h658 := SliceOf.pl h657
      refine Pl.MSCT Hz rfl rfl rfl rfl rfl Try.call31 (own_v h658 x y (by omega)) rfl ?_
      rintro e w659 ⟨A651, c652, rfl, r653, k654, o655⟩; refine ⟨_, rfl, ⟨fun _ => o655, (Only.trans (Only.refl NoF w647) o655 (fun _ h => h.elim))⟩, ?_⟩
      clear Hz az; intro az Hz
      have h660 := Row.own KMsg r653 k654
      have h661 := SliceOf.pl h660
      have h662 := Row.own KMsg rX okX
      have O663 : Only NoF w145 w659 := (Only.trans' o648 o655)
      have h664 := (SliceOf.kp h662 O663 (fun _ _ h => h) (fun _ _ _ _ h => h))
      have h665 := SliceOf.pl h664
      refine Pl.MSGV (v := .bool (true)) Hz rfl rfl gd_t rfl rfl (fun hb => rfl) Try.call26 (fun hb => kSameM_eq h661 h665 hsm.symm) rfl (fun w' o' => ⟨fun _ => (Only.trans' o655 o'), (Only.trans (Only.trans (Only.refl NoF w647) o655 (fun _ h => h.elim)) o' (fun _ h => h.elim))⟩) fun w666 o667 => ?_
      clear Hz az; intro az Hz
      refine Pl.MSP (b := true) (by kernel_rfl) (fun W oW => r_pick Hz rfl rfl rfl) Hz rfl rfl ?_
      clear Hz az; intro az Hz
      refine Pl.MSP (b := true) (by kernel_rfl) (fun W oW => r_mv Hz rfl) Hz rfl rfl ?_
      clear Hz az; intro az Hz
      refine Pl.MSPT (b := true) (by kernel_rfl) Hz rfl rfl (fun W oW => r_fa (m' := 0) Try.underlying25 rfl Try.sizeOf22 rfl Hz rfl rfl) rfl rfl ?_
      clear Hz az; intro az Hz
      refine Pl.MSPT (b := true) (by kernel_rfl) Hz rfl rfl (fun W oW => r_ld Try.isAgg22 Hz rfl ((Blk.ca (Blk.k B649 oW)) 0 _ rfl)) rfl rfl ?_
      clear Hz az; intro az Hz
      refine Pl.MSPT (b := true) (by kernel_rfl) Hz rfl rfl (fun W oW => r_mv Hz rfl) rfl rfl ?_
      clear Hz az; intro az Hz
      refine Pl.MSPT (b := true) (by kernel_rfl) Hz rfl rfl (fun W oW => r_mv Hz rfl) rfl rfl ?_
      clear Hz az; intro az Hz
      refine Pl.MSPT (b := true) (by kernel_rfl) Hz rfl rfl (fun W oW => r_fa (m' := 0) Try.underlying25 rfl Try.sizeOf22 rfl Hz rfl rfl) rfl rfl ?_
      clear Hz az; intro az Hz
      refine Pl.MSPT (b := true) (by kernel_rfl) Hz rfl rfl (fun W oW => r_ld Try.isAgg22 Hz rfl ((Blk.ca (Blk.k B650 oW)) 0 _ rfl)) rfl rfl ?_
      clear Hz az; intro az Hz
      have O673 : Only NoF w145 w666 := (Only.trans' O663 o667)
      have h674 := (SliceOf.kp fZ1 O673 (fun _ _ h => h) (fun _ _ _ _ h => h))
      refine Pl.MSCT Hz rfl rfl rfl rfl rfl Try.call31 (own_v h674 x y (by omega)) rfl ?_
      rintro e w675 ⟨A668, c669, rfl, r670, k671, o672⟩; refine ⟨_, rfl, ⟨fun _ => (Only.trans' (Only.trans' o655 o667) o672), (Only.trans (Only.trans (Only.trans (Only.refl NoF w647) o655 (fun _ h => h.elim)) o667 (fun _ h => h.elim)) o672 (fun _ h => h.elim))⟩, ?_⟩
      clear Hz az; intro az Hz
      have h676 := Row.own KMsg r670 k671
      have h677 := SliceOf.pl h676
      have O678 : Only NoF w145 w675 := (Only.trans' O673 o672)
      have h679 := (SliceOf.kp fY1 O678 (fun _ _ h => h) (fun _ _ _ _ h => h))
      have h680 := SliceOf.pl h679
      refine Pl.MSGV (v := .bool (true)) Hz rfl rfl gd_t rfl rfl (fun hb => rfl) Try.call26 (fun hb => kSameM_eq h677 h680 hS.1) rfl (fun w' o' => ⟨fun _ => (Only.trans' (Only.trans' (Only.trans' o655 o667) o672) o'), (Only.trans (Only.trans (Only.trans (Only.trans (Only.refl NoF w647) o655 (fun _ h => h.elim)) o667 (fun _ h => h.elim)) o672 (fun _ h => h.elim)) o' (fun _ h => h.elim))⟩) fun w681 o682 => ?_
      clear Hz az; intro az Hz
      refine Pl.MSP (b := true) (by kernel_rfl) (fun W oW => r_pick Hz rfl rfl rfl) Hz rfl rfl ?_
      clear Hz az; intro az Hz
      refine Pl.MSP (b := true) (by kernel_rfl) (fun W oW => r_as Hz rfl) Hz rfl rfl ?_
      clear Hz az; intro az Hz
      refine wpPl_nil ?_
      refine hK646 _ _ ?_
      refine wp_ret ?_
      show bodyPost _ _ _ .ret _ _
      refine ret_of (vs := [.bool (true)]) Hz Try.results7 ⟨rfl, trivial⟩ ?_
      have O683 : Only NoF w w681 := (Only.trans' (Only.trans' (Only.trans' (Only.trans' (Only.trans' o146 o648) o655) o667) o672) o682)
      exact ⟨rfl, O683⟩
end Go.Proofs.Ytocbfobakmieoaa
