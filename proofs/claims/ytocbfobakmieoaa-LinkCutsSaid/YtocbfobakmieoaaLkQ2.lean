/-
  LinkCuts, walked: it returns true. No condition.
-/
import Derived.Test.YtocbfobakmieoaaLkV2
namespace Go.Proofs.Ytocbfobakmieoaa
set_option linter.unusedVariables false
set_option linter.unusedSimpArgs false
set_option linter.unusedSectionVars false
open Go.RowKit

set_option maxHeartbeats 4000000 in
theorem cuts_v {w : World} {a : Air} {x y : Int} {l : List Ev} {A1 A2 A3 : Option Addr} {c1 c2 c3 : Nat} (f1 : Msgs w (.slice A1 a.ms.length c1) a.ms) (f2 : Prs w (.slice A2 a.cs.length c2) a.cs) (hx : I64 x) (hy : I64 y) (f3 : Evs w (.slice A3 l.length c3) l) :
    Calls Try.prog 5 [.agg #[.slice A1 a.ms.length c1, .slice A2 a.cs.length c2], .int .i64 x, .int .i64 y, .slice A3 l.length c3].toArray w (BoolTo w true) := by
  refine calls_start Try.func5 rfl rfl ?_
  intro az Hz
  rw [Try.ntmps5] at Hz
  refine wp_seq_k fun K1 hK1 => ?_
  -- law.go:112
  refine wp_region_lit ?_
  refine LBox Hz rfl rfl rfl ?_
  clear Hz az; intro g2 w3 hg6 hl7 o4 B5 az Hz
  refine L (r_as Hz rfl) Hz rfl ?_
  clear Hz az; intro az Hz
  refine hK1 _ _ ?_
  refine wp_seq_k fun K8 hK8 => ?_
  -- law.go:113
  refine wp_region_lit ?_
  refine LCV (v := .bool (true)) Hz rfl rfl Try.call8 (l38sane_c) rfl fun w9 o10 => ?_
  clear Hz az; intro az Hz
  refine L (r_as Hz rfl) Hz rfl ?_
  clear Hz az; intro az Hz
  refine hK8 _ _ ?_
  refine wp_seq_k fun K11 hK11 => ?_
  refine wp_seq_k fun K12 hK12 => ?_
  -- law.go:114
  refine wp_region_lit ?_
  have B13 := (Blk.k B5 o10)
  refine L (r_ldA Try.isAgg25 Try.sizeOf25 Hz rfl (Blk.ca B13) rfl) Hz rfl ?_
  clear Hz az; intro az Hz
  have O14 : Only NoF w w9 := (Only.trans' o4 o10)
  have h15 := (SliceOf.kp f1 O14 (fun _ _ h => h) (fun _ _ _ _ h => h))
  have h16 := (SliceOf.kp f2 O14 (fun _ _ h => h) (fun _ _ _ _ h => h))
  refine LCE Hz rfl rfl Try.call9 (kFew_c (show AirV _ _ a from ⟨_, _, rfl, h15, h16⟩) 20 (by omega)) rfl fun b19 w17 hs20 o18 => ?_
  clear Hz az; intro az Hz
  refine L (r_not Hz rfl) Hz rfl ?_
  clear Hz az; intro az Hz
  refine L (r_mv Hz rfl) Hz rfl ?_
  clear Hz az; intro az Hz
  refine LG Hz rfl rfl gd_f (fun hb => r_mv Hz rfl) rfl ?_
  clear Hz az; intro az Hz
  have O21 : Only NoF w w17 := (Only.trans' O14 o18)
  have h22 := (SliceOf.kp f3 O21 (fun _ _ h => h) (fun _ _ _ _ h => h))
  refine LGE Hz rfl rfl gd_f rfl (fun hb => (evs_c (evg hb rfl) (evs_c rfl rfl))) Try.call10 (fun hb => kFewE_c h22 30 (by omega)) rfl fun b25 w23 hs26 o24 => ?_
  clear Hz az; intro az Hz
  refine LG Hz rfl rfl gd_f (fun hb => r_not Hz (evg hb rfl)) rfl ?_
  clear Hz az; intro az Hz
  refine L (r_or Hz rfl rfl rfl) Hz rfl ?_
  clear Hz az; intro az Hz
  refine L (r_mv Hz rfl) Hz rfl ?_
  clear Hz az; intro az Hz
  have B27 := (Blk.k (Blk.k B13 o18) o24)
  refine LG Hz rfl rfl gd_f (fun hb => r_ldA Try.isAgg25 Try.sizeOf25 Hz rfl (Blk.ca B27) rfl) rfl ?_
  clear Hz az; intro az Hz
  have O28 : Only NoF w w23 := (Only.trans' O21 o24)
  have h29 := (SliceOf.kp f1 O28 (fun _ _ h => h) (fun _ _ _ _ h => h))
  have h30 := (SliceOf.kp f2 O28 (fun _ _ h => h) (fun _ _ _ _ h => h))
  refine LGV (v := .bool (Lnk.right a)) Hz rfl rfl gd_f rfl (fun hb => (evs_c (evg hb rfl) rfl)) Try.call28 (fun hb => nRightA_c (show AirV _ _ a from ⟨_, _, rfl, h29, h30⟩)) rfl fun w31 o32 => ?_
  clear Hz az; intro az Hz
  refine LG Hz rfl rfl gd_f (fun hb => r_not Hz (evg hb rfl)) rfl ?_
  clear Hz az; intro az Hz
  refine L (r_or Hz rfl rfl rfl) Hz rfl ?_
  clear Hz az; intro az Hz
  refine hK12 _ _ ?_
  refine br Hz rfl (fun hc33 => ?_) (fun hc33 => ?_)
  · -- if0
    have d34 := hc33
    refine wp_seq_k fun K35 hK35 => ?_
    -- law.go:115
    refine wp_region_lit ?_
    refine L (r_mv Hz rfl) Hz rfl ?_
    clear Hz az; intro az Hz
    refine L (r_as Hz rfl) Hz rfl ?_
    clear Hz az; intro az Hz
    refine hK35 _ _ ?_
    refine wp_ret ?_
    show bodyPost _ _ _ .ret _ _
    refine ret_of (vs := [.bool (true)]) Hz Try.results5 ⟨rfl, trivial⟩ ?_
    have O36 : Only NoF w w31 := (Only.trans' O28 o32)
    exact ⟨rfl, O36⟩
  · -- else0
    have q37 : b19 = true := (nt_f (or_f (or_f hc33).1).1)
    have S38 := hs20 q37
    have q39 : b25 = true := (nt_f (or_f (or_f hc33).1).2)
    have S40 := hs26 (by rw [q37]; rfl) q39
    have q41 : Lnk.right a = true := (nt_f (or_f hc33).2)
    obtain ⟨few1, few2, few3⟩ := S38
    obtain ⟨fwe0, fwx0⟩ := S40
    refine wp_skip ?_
    refine hK11 _ _ ?_
    refine wp_seq_k fun K42 hK42 => ?_
    -- law.go:117
    refine wp_region_lit ?_
    have B43 := (Blk.k B27 o32)
    refine L (r_ldA Try.isAgg25 Try.sizeOf25 Hz rfl (Blk.ca B43) rfl) Hz rfl ?_
    clear Hz az; intro az Hz
    refine L (r_mv Hz rfl) Hz rfl ?_
    clear Hz az; intro az Hz
    refine L (r_mv Hz rfl) Hz rfl ?_
    clear Hz az; intro az Hz
    have O44 : Only NoF w w31 := (Only.trans' O28 o32)
    have h45 := (SliceOf.kp f1 O44 (fun _ _ h => h) (fun _ _ _ _ h => h))
    have h46 := (SliceOf.kp f2 O44 (fun _ _ h => h) (fun _ _ _ _ h => h))
    refine LC Hz rfl rfl Try.call18 (Cut_v (show AirV _ _ a from ⟨_, _, rfl, h45, h46⟩) (Lnk.right_few_ q41 (by omega)) x y) rfl ?_
    rintro e w54 ⟨A47, c49, A48, c50, rfl, f51, f52, o53⟩; refine ⟨_, rfl, ?_⟩
    clear Hz az; intro az Hz
    refine L (r_mv Hz rfl) Hz rfl ?_
    clear Hz az; intro az Hz
    refine L (r_ex Hz rfl rfl) Hz rfl ?_
    clear Hz az; intro az Hz
    refine L (r_ex Hz rfl rfl) Hz rfl ?_
    clear Hz az; intro az Hz
    refine LAl (v := .agg #[.slice none (0) 0, .slice none (0) 0]) zeroAir Hz rfl rfl ?_
    clear Hz az; intro g55 w56 hg59 hl60 o57 B58 az Hz
    refine LSt (cs' := [.slice A47 ((Lnk.cut a x y).1.ms.length) c49, .slice A48 ((Lnk.cut a x y).1.cs.length) c50]) Try.sizeOf25 Hz rfl rfl rfl rfl rfl ⟨rfl, rfl, trivial⟩ B58 rfl rfl fun w61 s62 B63 => ?_
    refine L (r_as Hz rfl) Hz rfl ?_
    clear Hz az; intro az Hz
    refine hK42 _ _ ?_
    refine wp_join (fun az W => ∃ S : Air, ∃ Z1 : Option Addr, ∃ z1 : Nat, ∃ Z2 : Option Addr, ∃ z2 : Nat, Fr 253 [(1, .int .i64 (x)), (2, .int .i64 (y)), (3, .slice A3 (l.length) c3), (8, .bool (false)), (9, .bool (true)), (10, .pointer (some ((⟨g55, 0, none⟩ : Addr)))), (11, .int .i64 ((Lnk.cut a x y).2))] az ∧ (((Lnk.cut a x y).2 = 5 ∧ S = a) ∨ ((Lnk.cut a x y).2 ≠ 5 ∧ S = (Lnk.cut a x y).1)) ∧ Only (oneF g55) w61 W ∧ Blk W g55 25 [.slice Z1 (S.ms.length) z1, .slice Z2 (S.cs.length) z2].toArray ∧ Msgs W (.slice Z1 S.ms.length z1) S.ms ∧ Prs W (.slice Z2 S.cs.length z2) S.cs) ?_ ?_
    · -- to the join
      refine wp_seq_k fun K64 hK64 => ?_
      -- law.go:118
      refine wp_region_lit ?_
      refine L (r_mv Hz rfl) Hz rfl ?_
      clear Hz az; intro az Hz
      refine L (r_eqI Hz rfl rfl) Hz rfl ?_
      clear Hz az; intro az Hz
      refine hK64 _ _ ?_
      refine br Hz rfl (fun hc65 => ?_) (fun hc65 => ?_)
      · -- if1
        have p66 := of_decide_eq_true hc65
        -- law.go:119
        refine wp_region_lit ?_
        have O68 : Only NoF w3 w54 := (Only.trans' (Only.trans' (Only.trans' (Only.trans' o10 o18) o24) o32) o53)
        have ne67 : g2 ≠ g55 := (ne_of hl7 (Nat.le_trans (size_only O68) hg59))
        have B69 := (Blk.st (Blk.k (Blk.k B43 o53) o57) s62 ne67)
        refine L (r_ldA Try.isAgg25 Try.sizeOf25 Hz rfl (Blk.ca B69) rfl) Hz rfl ?_
        clear Hz az; intro az Hz
        refine LSt (cs' := [.slice A1 (a.ms.length) c1, .slice A2 (a.cs.length) c2]) Try.sizeOf25 Hz rfl rfl rfl rfl rfl ⟨rfl, rfl, trivial⟩ B63 rfl rfl fun w70 s71 B72 => ?_
        have O73 : Only NoF w w54 := (Only.trans' O44 o53)
        have O74 : Only NoF w w70 := (o_sg (o_sg (Only.trans' (Only.trans' O44 o53) o57) s62 (size_only O73) (oneF_ge hg59)) s71 (size_only O73) (oneF_ge hg59))
        have h75 := (SliceOf.kp f1 O74 (fun _ _ h => h) (fun _ _ _ _ h => h))
        have h76 := (SliceOf.kp f2 O74 (fun _ _ h => h) (fun _ _ _ _ h => h))
        exact ⟨a, A1, c1, A2, c2, Hz.cut ⟨rfl, rfl, rfl, rfl, rfl, rfl, rfl, trivial⟩, (.inl ⟨of_decide_eq_true hc65, rfl⟩), (Only.trans (Only.refl (oneF g55) w61) s71 (fun _ h => .inl h)), B72, h75, h76⟩
      · -- else1
        have p77 := of_decide_eq_false hc65
        refine wp_skip ?_
        have O78 : Only NoF w54 w61 := (o_sg o57 s62 (Nat.le_refl _) (oneF_ge hg59))
        have h79 := (SliceOf.kp f51 O78 (fun _ _ h => h) (fun _ _ _ _ h => h))
        have h80 := SliceOf.pl h79
        have h81 := (SliceOf.kp f52 O78 (fun _ _ h => h) (fun _ _ _ _ h => h))
        have h82 := SliceOf.pl h81
        exact ⟨_, A47, c49, A48, c50, Hz.cut ⟨rfl, rfl, rfl, rfl, rfl, rfl, rfl, trivial⟩, (.inr ⟨of_decide_eq_false hc65, rfl⟩), (Only.refl (oneF g55) w61), B63, h80, h82⟩
    clear Hz az
    rintro az w83 ⟨S, Z1, z1, Z2, z2, Hz, hS, o84, B85, fS1, fS2⟩
    refine wp_seq_k fun K86 hK86 => ?_
    refine wp_seq_k fun K87 hK87 => ?_
    -- law.go:121
    refine wp_region_lit ?_
    refine L (r_mv Hz rfl) Hz rfl ?_
    clear Hz az; intro az Hz
    refine L (r_neI Hz rfl rfl) Hz rfl ?_
    clear Hz az; intro az Hz
    refine L (r_mv Hz rfl) Hz rfl ?_
    clear Hz az; intro az Hz
    refine LG Hz rfl rfl gd_t (fun hb => r_mv Hz rfl) rfl ?_
    clear Hz az; intro az Hz
    refine LG Hz rfl rfl gd_t (fun hb => r_neI Hz (evg hb rfl) rfl) rfl ?_
    clear Hz az; intro az Hz
    refine L (r_and Hz rfl rfl rfl) Hz rfl ?_
    clear Hz az; intro az Hz
    refine hK87 _ _ ?_
    refine br Hz rfl (fun hc88 => ?_) (fun hc88 => ?_)
    · -- if2
      have p89 := of_decide_eq_false (nt_t (and_t hc88).1)
      have p90 := of_decide_eq_false (nt_t (and_t hc88).2)
      refine wp_seq_k fun K91 hK91 => ?_
      -- law.go:122
      refine wp_region_lit ?_
      refine L (r_mv Hz rfl) Hz rfl ?_
      clear Hz az; intro az Hz
      refine L (r_mv Hz rfl) Hz rfl ?_
      clear Hz az; intro az Hz
      refine LT Hz rfl rfl (r_mv Hz rfl) rfl ?_
      clear Hz az; intro az Hz
      refine LT Hz rfl rfl (r_eqI Hz rfl rfl) rfl ?_
      clear Hz az; intro az Hz
      refine L (r_pick Hz rfl rfl rfl) Hz rfl ?_
      clear Hz az; intro az Hz
      refine L (r_as Hz rfl) Hz rfl ?_
      clear Hz az; intro az Hz
      refine hK91 _ _ ?_
      refine wp_ret ?_
      show bodyPost _ _ _ .ret _ _
      refine ret_of (vs := [.bool (decide ((Lnk.cut a x y).2 = 1))]) Hz Try.results5 ⟨rfl, trivial⟩ ?_
      have h2 := and_t hc88
      have h3 : (Lnk.cut a x y).2 = 1 := by have := of_decide_eq_false (nt_t h2.1); have := of_decide_eq_false (nt_t h2.2); rcases Lnk.cut_cases (x := x) (y := y) q41 with h | h | h <;> omega
      have O92 : Only NoF w w54 := (Only.trans' O44 o53)
      have O93 : Only NoF w w83 := (o_sg (o_sg (Only.trans' (Only.trans' O44 o53) o57) s62 (size_only O92) (oneF_ge hg59)) o84 (size_only O92) (oneF_ge hg59))
      exact ⟨congrArg (fun b => Ending.returned (Value.bool b)) (decide_eq_true h3), O93⟩
    · -- else2
      have d94 := hc88
      refine wp_skip ?_
      refine hK86 _ _ ?_
      refine wp_seq_k fun K95 hK95 => ?_
      refine wp_seq_k fun K96 hK96 => ?_
      -- law.go:124
      refine wp_region_lit ?_
      refine L (r_as Hz rfl) Hz rfl ?_
      clear Hz az; intro az Hz
      refine hK96 _ _ ?_
      refine wp_block ?_
      have hn1 : (Lnk.cut a x y).2 ≠ 1 := by rcases and_f hc88 with h | h <;> (have h2 := of_decide_eq_true (nt_f h); omega)
      obtain ⟨hhs, hcS, hrS, hcsS⟩ := Lnk.cut_S q41 hS hn1
      refine wp_loop_m (fun mz az W => ∃ k : Nat, mz = l.length - k ∧ Fr 253 [(1, .int .i64 (x)), (2, .int .i64 (y)), (3, .slice A3 (l.length) c3), (9, .bool (true)), (10, .pointer (some ((⟨g55, 0, none⟩ : Addr)))), (12, .int .i64 ((k : Int)))] az ∧ (k ≤ l.length) ∧ (∀ e ∈ l.take k, ¬ (e.k = 5 ∧ Lnk.pair e.a e.b = Lnk.pair x y)) ∧ Only NoF w83 W) ?_ ?_
      · -- start
        exact ⟨_, 0, rfl, Hz.cut ⟨rfl, rfl, rfl, rfl, rfl, rfl, trivial⟩, Nat.zero_le _, (fun e he => by cases he), (Only.refl NoF w83)⟩
      clear Hz az
      rintro mz az w97 ⟨k, hm99, Hz, hk, hno, o98⟩
      refine wp_seq_k fun K100 hK100 => ?_
      refine wp_seq_k fun K101 hK101 => ?_
      -- law.go:124
      refine wp_region_lit ?_
      refine L (r_mv Hz rfl) Hz rfl ?_
      clear Hz az; intro az Hz
      refine L (r_mv Hz rfl) Hz rfl ?_
      clear Hz az; intro az Hz
      refine L (r_lenL Try.underlying28 Hz rfl) Hz rfl ?_
      clear Hz az; intro az Hz
      refine L (r_ltI Hz rfl rfl) Hz rfl ?_
      clear Hz az; intro az Hz
      refine hK101 _ _ ?_
      refine br Hz rfl (fun hc102 => ?_) (fun hc102 => ?_)
      · -- if3
        have p103 := of_decide_eq_true hc102
        refine wp_skip ?_
        refine hK100 _ _ ?_
        refine wp_seq_k fun K104 hK104 => ?_
        refine wp_block ?_
        refine wp_seq_k fun K105 hK105 => ?_
        -- law.go:125
        refine wp_region_lit ?_
        refine L (r_mv Hz rfl) Hz rfl ?_
        clear Hz az; intro az Hz
        refine L (r_mv Hz rfl) Hz rfl ?_
        clear Hz az; intro az Hz
        have hk106 : k < (l).length := by omega
        have O112 : Only NoF w w54 := (Only.trans' O44 o53)
        have O113 : Only NoF w w97 := (Only.trans' (o_sg (o_sg (Only.trans' (Only.trans' O44 o53) o57) s62 (size_only O112) (oneF_ge hg59)) o84 (size_only O112) (oneF_ge hg59)) o98)
        have h114 := (SliceOf.kp f3 O113 (fun _ _ h => h) (fun _ _ _ _ h => h))
        obtain ⟨m107, hm108, ok109, hA110⟩ := Row.el KEv h114 hk106
        have E111 : ∀ W, Only NoF w97 W → CA W (eA A3 4 (k)) [.int .i64 (m107.k), .int .i64 (m107.a), .int .i64 (m107.b), strV (m107.t)] := Row.ce KEv h114 hm108 rfl
        refine L (r_ia (k := k) (size := 4) Try.underlying28 Try.sizeOf48 Hz rfl rfl rfl hk106 hA110) Hz rfl ?_
        clear Hz az; intro az Hz
        refine L (r_fa (m' := 0) Try.underlying48 rfl Try.sizeOf3 rfl Hz rfl rfl) Hz rfl ?_
        clear Hz az; intro az Hz
        refine L (r_ld Try.isAgg3 Hz rfl ((E111 _ (Only.refl NoF w97)) 0 _ rfl)) Hz rfl ?_
        clear Hz az; intro az Hz
        refine L (r_eqI Hz rfl rfl) Hz rfl ?_
        clear Hz az; intro az Hz
        refine L (r_mv Hz rfl) Hz rfl ?_
        clear Hz az; intro az Hz
        refine LG Hz rfl rfl gd_t (fun hb => r_mv Hz rfl) rfl ?_
        clear Hz az; intro az Hz
        refine LG Hz rfl rfl gd_t (fun hb => r_mv Hz rfl) rfl ?_
        clear Hz az; intro az Hz
        refine LG Hz rfl rfl gd_t (fun hb => r_ia (k := k) (size := 4) Try.underlying28 Try.sizeOf48 Hz (evg hb rfl) (evg hb rfl) rfl hk106 hA110) rfl ?_
        clear Hz az; intro az Hz
        refine LG Hz rfl rfl gd_t (fun hb => r_fa (m' := 1) Try.underlying48 rfl Try.sizeOf3 rfl Hz (evg hb rfl) rfl) rfl ?_
        clear Hz az; intro az Hz
        refine LG Hz rfl rfl gd_t (fun hb => r_ld Try.isAgg3 Hz (evg hb rfl) ((E111 _ (Only.refl NoF w97)) 1 _ rfl)) rfl ?_
        clear Hz az; intro az Hz
        refine LG Hz rfl rfl gd_t (fun hb => r_mv Hz rfl) rfl ?_
        clear Hz az; intro az Hz
        refine LG Hz rfl rfl gd_t (fun hb => r_eqI Hz (evg hb rfl) (evg hb rfl)) rfl ?_
        clear Hz az; intro az Hz
        refine LG Hz rfl rfl gd_t (fun hb => r_mv Hz (evg hb rfl)) rfl ?_
        clear Hz az; intro az Hz
        refine LG Hz rfl rfl gd_gt (fun hb => r_mv Hz rfl) rfl ?_
        clear Hz az; intro az Hz
        refine LG Hz rfl rfl gd_gt (fun hb => r_mv Hz rfl) rfl ?_
        clear Hz az; intro az Hz
        refine LG Hz rfl rfl gd_gt (fun hb => r_ia (k := k) (size := 4) Try.underlying28 Try.sizeOf48 Hz (evg hb rfl) (evg hb rfl) rfl hk106 hA110) rfl ?_
        clear Hz az; intro az Hz
        refine LG Hz rfl rfl gd_gt (fun hb => r_fa (m' := 2) Try.underlying48 rfl Try.sizeOf3 rfl Hz (evg hb rfl) rfl) rfl ?_
        clear Hz az; intro az Hz
        refine LG Hz rfl rfl gd_gt (fun hb => r_ld Try.isAgg3 Hz (evg hb rfl) ((E111 _ (Only.refl NoF w97)) 2 _ rfl)) rfl ?_
        clear Hz az; intro az Hz
        refine LG Hz rfl rfl gd_gt (fun hb => r_mv Hz rfl) rfl ?_
        clear Hz az; intro az Hz
        refine LG Hz rfl rfl gd_gt (fun hb => r_eqI Hz (evg hb rfl) (evg hb rfl)) rfl ?_
        clear Hz az; intro az Hz
        refine LG Hz rfl rfl gd_t (fun hb => r_and Hz (evg hb rfl) (evgc hb rfl) rfl) rfl ?_
        clear Hz az; intro az Hz
        refine LG Hz rfl rfl gd_t (fun hb => r_mv Hz (evg hb rfl)) rfl ?_
        clear Hz az; intro az Hz
        refine LG Hz rfl rfl gd_gf (fun hb => r_mv Hz rfl) rfl ?_
        clear Hz az; intro az Hz
        refine LG Hz rfl rfl gd_gf (fun hb => r_mv Hz rfl) rfl ?_
        clear Hz az; intro az Hz
        refine LG Hz rfl rfl gd_gf (fun hb => r_ia (k := k) (size := 4) Try.underlying28 Try.sizeOf48 Hz (evg hb rfl) (evg hb rfl) rfl hk106 hA110) rfl ?_
        clear Hz az; intro az Hz
        refine LG Hz rfl rfl gd_gf (fun hb => r_fa (m' := 1) Try.underlying48 rfl Try.sizeOf3 rfl Hz (evg hb rfl) rfl) rfl ?_
        clear Hz az; intro az Hz
        refine LG Hz rfl rfl gd_gf (fun hb => r_ld Try.isAgg3 Hz (evg hb rfl) ((E111 _ (Only.refl NoF w97)) 1 _ rfl)) rfl ?_
        clear Hz az; intro az Hz
        refine LG Hz rfl rfl gd_gf (fun hb => r_mv Hz rfl) rfl ?_
        clear Hz az; intro az Hz
        refine LG Hz rfl rfl gd_gf (fun hb => r_eqI Hz (evg hb rfl) (evg hb rfl)) rfl ?_
        clear Hz az; intro az Hz
        refine LG Hz rfl rfl gd_gf (fun hb => r_mv Hz (evg hb rfl)) rfl ?_
        clear Hz az; intro az Hz
        refine LG Hz rfl rfl gd_gt (fun hb => r_mv Hz rfl) rfl ?_
        clear Hz az; intro az Hz
        refine LG Hz rfl rfl gd_gt (fun hb => r_mv Hz rfl) rfl ?_
        clear Hz az; intro az Hz
        refine LG Hz rfl rfl gd_gt (fun hb => r_ia (k := k) (size := 4) Try.underlying28 Try.sizeOf48 Hz (evg hb rfl) (evg hb rfl) rfl hk106 hA110) rfl ?_
        clear Hz az; intro az Hz
        refine LG Hz rfl rfl gd_gt (fun hb => r_fa (m' := 2) Try.underlying48 rfl Try.sizeOf3 rfl Hz (evg hb rfl) rfl) rfl ?_
        clear Hz az; intro az Hz
        refine LG Hz rfl rfl gd_gt (fun hb => r_ld Try.isAgg3 Hz (evg hb rfl) ((E111 _ (Only.refl NoF w97)) 2 _ rfl)) rfl ?_
        clear Hz az; intro az Hz
        refine LG Hz rfl rfl gd_gt (fun hb => r_mv Hz rfl) rfl ?_
        clear Hz az; intro az Hz
        refine LG Hz rfl rfl gd_gt (fun hb => r_eqI Hz (evg hb rfl) (evg hb rfl)) rfl ?_
        clear Hz az; intro az Hz
        refine LG Hz rfl rfl gd_gf (fun hb => r_and Hz (evg hb rfl) (evgc hb rfl) rfl) rfl ?_
        clear Hz az; intro az Hz
        refine LG Hz rfl rfl gd_t (fun hb => r_or Hz (evg hb rfl) rfl (evgc hb rfl)) rfl ?_
        clear Hz az; intro az Hz
        refine L (r_and Hz rfl rfl rfl) Hz rfl ?_
        clear Hz az; intro az Hz
        refine hK105 _ _ ?_
        refine br Hz rfl (fun hc115 => ?_) (fun hc115 => ?_)
        · -- if4
          have p116 := of_decide_eq_true (and_t hc115).1
          have d117 := (and_t hc115).2
          refine wp_seq_k fun K118 hK118 => ?_
          -- law.go:126
          refine wp_region_lit ?_
          refine L (r_mv Hz rfl) Hz rfl ?_
          clear Hz az; intro az Hz
          refine L (r_as Hz rfl) Hz rfl ?_
          clear Hz az; intro az Hz
          refine hK118 _ _ ?_
          refine wp_ret ?_
          show bodyPost _ _ _ .ret _ _
          refine ret_of (vs := [.bool (true)]) Hz Try.results5 ⟨rfl, trivial⟩ ?_
          exact ⟨rfl, O113⟩
        · -- else4
          have d119 := hc115
          refine wp_skip ?_
          refine hK104 _ _ ?_
          -- law.go:124
          refine wp_region_lit ?_
          refine L (r_mv Hz rfl) Hz rfl ?_
          clear Hz az; intro az Hz
          have i120 : I64 ((k : Int) + 1) := by unfold I64; omega
          refine L (r_addI (r := ((k : Int) + 1)) Hz rfl rfl rfl i120) Hz rfl ?_
          clear Hz az; intro az Hz
          refine L (r_as Hz rfl) Hz rfl ?_
          clear Hz az; intro az Hz
          exact ⟨_, (by omega), k + 1, rfl, Hz.cut ⟨rfl, rfl, rfl, rfl, rfl, rfl, trivial⟩, (by omega), (Lnk.heal_step hm108 hno hc115), o98⟩
      · -- else3
        have p121 := of_decide_eq_false hc102
        refine wp_exit ?_
        refine th_exit ?_
        refine th_exit ?_
        refine ib_hit ?_
        refine hK95 _ _ ?_
        refine wp_seq_k fun K122 hK122 => ?_
        -- law.go:129
        refine wp_region_lit ?_
        have B123 := (Blk.k B85 o98)
        refine L (r_ldA Try.isAgg25 Try.sizeOf25 Hz rfl (Blk.ca B123) rfl) Hz rfl ?_
        clear Hz az; intro az Hz
        refine L (r_mv Hz rfl) Hz rfl ?_
        clear Hz az; intro az Hz
        have h124 := (SliceOf.kp fS1 o98 (fun _ _ h => h) (fun _ _ _ _ h => h))
        have h125 := (SliceOf.kp fS2 o98 (fun _ _ h => h) (fun _ _ _ _ h => h))
        rw [List.take_of_length_le (by omega)] at hno
        have O126 : Only NoF w w54 := (Only.trans' O44 o53)
        have O127 : Only NoF w w97 := (Only.trans' (o_sg (o_sg (Only.trans' (Only.trans' O44 o53) o57) s62 (size_only O126) (oneF_ge hg59)) o84 (size_only O126) (oneF_ge hg59)) o98)
        have h128 := (SliceOf.kp f3 O127 (fun _ _ h => h) (fun _ _ _ _ h => h))
        refine LC Hz rfl rfl Try.call24 (Run_v (show AirV _ _ S from ⟨_, _, rfl, h124, h125⟩) h128 hrS (by omega)) rfl ?_
        rintro e w142 ⟨A129, c133, A130, c134, A131, c135, A132, c136, rfl, f137, f138, f139, f140, o141⟩; refine ⟨_, rfl, ?_⟩
        clear Hz az; intro az Hz
        obtain ⟨hcb, hcm⟩ := Lnk.cuts_runs l hcS hno
        have hrb := Lnk.right_runs (l := l) hrS; have hbc := runs_cuts S l; have hrc := runs_came S l
        have hbm := (Lnk.right_iff.1 hrb).2.2.1
        refine L (r_mv Hz rfl) Hz rfl ?_
        clear Hz az; intro az Hz
        refine L (r_ex Hz rfl rfl) Hz rfl ?_
        clear Hz az; intro az Hz
        refine L (r_ex Hz rfl rfl) Hz rfl ?_
        clear Hz az; intro az Hz
        refine L (r_ex Hz rfl rfl) Hz rfl ?_
        clear Hz az; intro az Hz
        refine LAl (v := .agg #[.slice none (0) 0, .slice none (0) 0]) zeroAir Hz rfl rfl ?_
        clear Hz az; intro g143 w144 hg147 hl148 o145 B146 az Hz
        refine LSt (cs' := [.slice A129 ((Lnk.runs S l).1.ms.length) c133, .slice A130 ((Lnk.runs S l).1.cs.length) c134]) Try.sizeOf25 Hz rfl rfl rfl rfl rfl ⟨rfl, rfl, trivial⟩ B146 rfl rfl fun w149 s150 B151 => ?_
        refine L (r_as Hz rfl) Hz rfl ?_
        clear Hz az; intro az Hz
        refine L (r_as Hz rfl) Hz rfl ?_
        clear Hz az; intro az Hz
        refine hK122 _ _ ?_
        refine wp_seq_k fun K152 hK152 => ?_
        refine wp_seq_k fun K153 hK153 => ?_
        -- law.go:130
        refine wp_region_lit ?_
        refine L (r_as Hz rfl) Hz rfl ?_
        clear Hz az; intro az Hz
        refine hK153 _ _ ?_
        refine wp_block ?_
        refine wp_loop_m (fun mz az W => ∃ i : Nat, mz = (Lnk.runs S l).2.1.length - i ∧ Fr 253 [(1, .int .i64 (x)), (2, .int .i64 (y)), (9, .bool (true)), (13, .pointer (some ((⟨g143, 0, none⟩ : Addr)))), (14, .slice A131 (((Lnk.runs S l).2.1).length) c135), (16, .int .i64 ((i : Int)))] az ∧ (i ≤ (Lnk.runs S l).2.1.length) ∧ Only NoF w149 W) ?_ ?_
        · -- start
          exact ⟨_, 0, rfl, Hz.cut ⟨rfl, rfl, rfl, rfl, rfl, rfl, trivial⟩, Nat.zero_le _, (Only.refl NoF w149)⟩
        clear Hz az
        rintro mz az w154 ⟨i, hm156, Hz, hi, o155⟩
        refine wp_seq_k fun K157 hK157 => ?_
        refine wp_seq_k fun K158 hK158 => ?_
        -- law.go:130
        refine wp_region_lit ?_
        refine L (r_mv Hz rfl) Hz rfl ?_
        clear Hz az; intro az Hz
        refine L (r_mv Hz rfl) Hz rfl ?_
        clear Hz az; intro az Hz
        refine L (r_lenL Try.underlying22 Hz rfl) Hz rfl ?_
        clear Hz az; intro az Hz
        refine L (r_ltI Hz rfl rfl) Hz rfl ?_
        clear Hz az; intro az Hz
        refine hK158 _ _ ?_
        refine br Hz rfl (fun hc159 => ?_) (fun hc159 => ?_)
        · -- if5
          have p160 := of_decide_eq_true hc159
          refine wp_skip ?_
          refine hK157 _ _ ?_
          refine wp_seq_k fun K161 hK161 => ?_
          refine wp_block ?_
          refine wp_seq_k fun K162 hK162 => ?_
          -- law.go:131
          refine wp_region_lit ?_
          refine L (r_mv Hz rfl) Hz rfl ?_
          clear Hz az; intro az Hz
          refine L (r_mv Hz rfl) Hz rfl ?_
          clear Hz az; intro az Hz
          have hk163 : i < ((Lnk.runs S l).2.1).length := by omega
          have O169 : Only NoF w142 w154 := (Only.trans' (o_sg o145 s150 (Nat.le_refl _) (oneF_ge hg147)) o155)
          have h170 := (SliceOf.kp f139 O169 (fun _ _ h => h) (fun _ _ _ _ h => h))
          obtain ⟨m164, hm165, ok166, hA167⟩ := Row.el KMsg h170 hk163
          have E168 : ∀ W, Only NoF w154 W → CA W (eA A131 3 (i)) [.int .i64 (m164.a), .int .i64 (m164.b), strV (m164.t)] := Row.ce KMsg h170 hm165 rfl
          refine L (r_ia (k := i) (size := 3) Try.underlying22 Try.sizeOf27 Hz rfl rfl rfl hk163 hA167) Hz rfl ?_
          clear Hz az; intro az Hz
          refine L (r_fa (m' := 0) Try.underlying27 rfl Try.sizeOf3 rfl Hz rfl rfl) Hz rfl ?_
          clear Hz az; intro az Hz
          refine L (r_ld Try.isAgg3 Hz rfl ((E168 _ (Only.refl NoF w154)) 0 _ rfl)) Hz rfl ?_
          clear Hz az; intro az Hz
          refine L (r_mv Hz rfl) Hz rfl ?_
          clear Hz az; intro az Hz
          refine L (r_eqI Hz rfl rfl) Hz rfl ?_
          clear Hz az; intro az Hz
          refine L (r_mv Hz rfl) Hz rfl ?_
          clear Hz az; intro az Hz
          refine LG Hz rfl rfl gd_t (fun hb => r_mv Hz rfl) rfl ?_
          clear Hz az; intro az Hz
          refine LG Hz rfl rfl gd_t (fun hb => r_mv Hz rfl) rfl ?_
          clear Hz az; intro az Hz
          refine LG Hz rfl rfl gd_t (fun hb => r_ia (k := i) (size := 3) Try.underlying22 Try.sizeOf27 Hz (evg hb rfl) (evg hb rfl) rfl hk163 hA167) rfl ?_
          clear Hz az; intro az Hz
          refine LG Hz rfl rfl gd_t (fun hb => r_fa (m' := 1) Try.underlying27 rfl Try.sizeOf3 rfl Hz (evg hb rfl) rfl) rfl ?_
          clear Hz az; intro az Hz
          refine LG Hz rfl rfl gd_t (fun hb => r_ld Try.isAgg3 Hz (evg hb rfl) ((E168 _ (Only.refl NoF w154)) 1 _ rfl)) rfl ?_
          clear Hz az; intro az Hz
          refine LG Hz rfl rfl gd_t (fun hb => r_mv Hz rfl) rfl ?_
          clear Hz az; intro az Hz
          refine LG Hz rfl rfl gd_t (fun hb => r_eqI Hz (evg hb rfl) (evg hb rfl)) rfl ?_
          clear Hz az; intro az Hz
          refine L (r_and Hz rfl rfl rfl) Hz rfl ?_
          clear Hz az; intro az Hz
          refine L (r_mv Hz rfl) Hz rfl ?_
          clear Hz az; intro az Hz
          refine LG Hz rfl rfl gd_f (fun hb => r_mv Hz rfl) rfl ?_
          clear Hz az; intro az Hz
          refine LG Hz rfl rfl gd_f (fun hb => r_mv Hz rfl) rfl ?_
          clear Hz az; intro az Hz
          refine LG Hz rfl rfl gd_f (fun hb => r_ia (k := i) (size := 3) Try.underlying22 Try.sizeOf27 Hz (evg hb rfl) (evg hb rfl) rfl hk163 hA167) rfl ?_
          clear Hz az; intro az Hz
          refine LG Hz rfl rfl gd_f (fun hb => r_fa (m' := 0) Try.underlying27 rfl Try.sizeOf3 rfl Hz (evg hb rfl) rfl) rfl ?_
          clear Hz az; intro az Hz
          refine LG Hz rfl rfl gd_f (fun hb => r_ld Try.isAgg3 Hz (evg hb rfl) ((E168 _ (Only.refl NoF w154)) 0 _ rfl)) rfl ?_
          clear Hz az; intro az Hz
          refine LG Hz rfl rfl gd_f (fun hb => r_mv Hz rfl) rfl ?_
          clear Hz az; intro az Hz
          refine LG Hz rfl rfl gd_f (fun hb => r_eqI Hz (evg hb rfl) (evg hb rfl)) rfl ?_
          clear Hz az; intro az Hz
          refine LG Hz rfl rfl gd_f (fun hb => r_mv Hz (evg hb rfl)) rfl ?_
          clear Hz az; intro az Hz
          refine LG Hz rfl rfl gd_gt (fun hb => r_mv Hz rfl) rfl ?_
          clear Hz az; intro az Hz
          refine LG Hz rfl rfl gd_gt (fun hb => r_mv Hz rfl) rfl ?_
          clear Hz az; intro az Hz
          refine LG Hz rfl rfl gd_gt (fun hb => r_ia (k := i) (size := 3) Try.underlying22 Try.sizeOf27 Hz (evg hb rfl) (evg hb rfl) rfl hk163 hA167) rfl ?_
          clear Hz az; intro az Hz
          refine LG Hz rfl rfl gd_gt (fun hb => r_fa (m' := 1) Try.underlying27 rfl Try.sizeOf3 rfl Hz (evg hb rfl) rfl) rfl ?_
          clear Hz az; intro az Hz
          refine LG Hz rfl rfl gd_gt (fun hb => r_ld Try.isAgg3 Hz (evg hb rfl) ((E168 _ (Only.refl NoF w154)) 1 _ rfl)) rfl ?_
          clear Hz az; intro az Hz
          refine LG Hz rfl rfl gd_gt (fun hb => r_mv Hz rfl) rfl ?_
          clear Hz az; intro az Hz
          refine LG Hz rfl rfl gd_gt (fun hb => r_eqI Hz (evg hb rfl) (evg hb rfl)) rfl ?_
          clear Hz az; intro az Hz
          refine LG Hz rfl rfl gd_f (fun hb => r_and Hz (evg hb rfl) (evgc hb rfl) rfl) rfl ?_
          clear Hz az; intro az Hz
          refine L (r_or Hz rfl rfl rfl) Hz rfl ?_
          clear Hz az; intro az Hz
          refine hK162 _ _ ?_
          refine br Hz rfl (fun hc171 => ?_) (fun hc171 => ?_)
          · -- if6
            have d172 := hc171
            exact absurd (Lnk.pair_of hc171) (hcm m164 (List.mem_of_getElem? hm165))
          · -- else6
            have d173 := (or_f hc171).1
            have d174 := (or_f hc171).2
            refine wp_skip ?_
            refine hK161 _ _ ?_
            -- law.go:130
            refine wp_region_lit ?_
            refine L (r_mv Hz rfl) Hz rfl ?_
            clear Hz az; intro az Hz
            have i175 : I64 ((i : Int) + 1) := by unfold I64; omega
            refine L (r_addI (r := ((i : Int) + 1)) Hz rfl rfl rfl i175) Hz rfl ?_
            clear Hz az; intro az Hz
            refine L (r_as Hz rfl) Hz rfl ?_
            clear Hz az; intro az Hz
            exact ⟨_, (by omega), i + 1, rfl, Hz.cut ⟨rfl, rfl, rfl, rfl, rfl, rfl, trivial⟩, (by omega), o155⟩
        · -- else5
          have p176 := of_decide_eq_false hc159
          refine wp_exit ?_
          refine th_exit ?_
          refine th_exit ?_
          refine ib_hit ?_
          refine hK152 _ _ ?_
          refine wp_seq_k fun K177 hK177 => ?_
          -- law.go:135
          refine wp_region_lit ?_
          have B178 := (Blk.k B151 o155)
          refine L (r_ldA Try.isAgg25 Try.sizeOf25 Hz rfl (Blk.ca B178) rfl) Hz rfl ?_
          clear Hz az; intro az Hz
          refine L (r_mv Hz rfl) Hz rfl ?_
          clear Hz az; intro az Hz
          refine L (r_mv Hz rfl) Hz rfl ?_
          clear Hz az; intro az Hz
          have O179 : Only NoF w142 w154 := (Only.trans' (o_sg o145 s150 (Nat.le_refl _) (oneF_ge hg147)) o155)
          have h180 := (SliceOf.kp f137 O179 (fun _ _ h => h) (fun _ _ _ _ h => h))
          have h181 := SliceOf.pl h180
          have h182 := (SliceOf.kp f138 O179 (fun _ _ h => h) (fun _ _ _ _ h => h))
          have h183 := SliceOf.pl h182
          refine LC Hz rfl rfl Try.call20 (Heal_v (show AirV _ _ (Lnk.runs S l).1 from ⟨_, _, rfl, h181, h183⟩) (Lnk.right_few_ hrb (by omega)) x y) rfl ?_
          rintro e w191 ⟨A184, c186, A185, c187, rfl, f188, f189, o190⟩; refine ⟨_, rfl, ?_⟩
          clear Hz az; intro az Hz
          obtain ⟨hh1, hh2, hh3, hh4, hh5⟩ := Lnk.heal_ok hrb hhs hcb
          have hhl := congrArg List.length hh2
          refine L (r_mv Hz rfl) Hz rfl ?_
          clear Hz az; intro az Hz
          refine L (r_ex Hz rfl rfl) Hz rfl ?_
          clear Hz az; intro az Hz
          refine L (r_ex Hz rfl rfl) Hz rfl ?_
          clear Hz az; intro az Hz
          refine LAl (v := .agg #[.slice none (0) 0, .slice none (0) 0]) zeroAir Hz rfl rfl ?_
          clear Hz az; intro g192 w193 hg196 hl197 o194 B195 az Hz
          refine LSt (cs' := [.slice A184 ((Lnk.heal (Lnk.runs S l).1 x y).1.ms.length) c186, .slice A185 ((Lnk.heal (Lnk.runs S l).1 x y).1.cs.length) c187]) Try.sizeOf25 Hz rfl rfl rfl rfl rfl ⟨rfl, rfl, trivial⟩ B195 rfl rfl fun w198 s199 B200 => ?_
          refine L (r_as Hz rfl) Hz rfl ?_
          clear Hz az; intro az Hz
          refine hK177 _ _ ?_
          refine wp_seq_k fun K201 hK201 => ?_
          refine wp_seq_k fun K202 hK202 => ?_
          -- law.go:136
          refine wp_region_lit ?_
          refine L (r_mv Hz rfl) Hz rfl ?_
          clear Hz az; intro az Hz
          refine L (r_neI Hz rfl rfl) Hz rfl ?_
          clear Hz az; intro az Hz
          refine L (r_mv Hz rfl) Hz rfl ?_
          clear Hz az; intro az Hz
          refine LG Hz rfl rfl gd_f (fun hb => r_fa (m' := 0) Try.underlying25 rfl Try.sizeOf22 rfl Hz rfl rfl) rfl ?_
          clear Hz az; intro az Hz
          refine LG Hz rfl rfl gd_f (fun hb => r_ld Try.isAgg22 Hz (evg hb rfl) ((Blk.ca B200) 0 _ rfl)) rfl ?_
          clear Hz az; intro az Hz
          refine LG Hz rfl rfl gd_f (fun hb => r_lenL Try.underlying22 Hz (evg hb rfl)) rfl ?_
          clear Hz az; intro az Hz
          refine LG Hz rfl rfl gd_f (fun hb => r_fa (m' := 0) Try.underlying25 rfl Try.sizeOf22 rfl Hz rfl rfl) rfl ?_
          clear Hz az; intro az Hz
          have O204 := (Only.trans (Only.trans (Only.trans (Only.refl (fun _ => True) w144) s150 (fun _ _ => .inl trivial)) o155 (fun _ _ => .inl trivial)) o190 (fun _ _ => .inl trivial))
          have ne203 : g143 ≠ g192 := (ne_of hl148 (Nat.le_trans (size_only O204) hg196))
          have B205 := (Blk.st (Blk.k (Blk.k B178 o190) o194) s199 ne203)
          refine LG Hz rfl rfl gd_f (fun hb => r_ld Try.isAgg22 Hz (evg hb rfl) ((Blk.ca B205) 0 _ rfl)) rfl ?_
          clear Hz az; intro az Hz
          refine LG Hz rfl rfl gd_f (fun hb => r_lenL Try.underlying22 Hz (evg hb rfl)) rfl ?_
          clear Hz az; intro az Hz
          refine LG Hz rfl rfl gd_f (fun hb => r_neI Hz (evg hb rfl) (evg hb rfl)) rfl ?_
          clear Hz az; intro az Hz
          refine L (r_or Hz rfl rfl rfl) Hz rfl ?_
          clear Hz az; intro az Hz
          refine hK202 _ _ ?_
          refine br Hz rfl (fun hc206 => ?_) (fun hc206 => ?_)
          · -- if7
            have d207 := hc206
            exfalso; rcases or_t hc206 with h | h
            · exact of_decide_eq_false (nt_t h) hh1
            · have := of_decide_eq_false (nt_t h); omega
          · -- else7
            have p208 := of_decide_eq_true (nt_f (or_f hc206).1)
            have p209 := of_decide_eq_true (nt_f (or_f hc206).2)
            refine wp_skip ?_
            refine hK201 _ _ ?_
            refine wp_seq_k fun K210 hK210 => ?_
            refine wp_seq_k fun K211 hK211 => ?_
            -- law.go:139
            refine wp_region_lit ?_
            refine L (r_as Hz rfl) Hz rfl ?_
            clear Hz az; intro az Hz
            refine hK211 _ _ ?_
            refine wp_block ?_
            refine wp_loop_m (fun mz az W => ∃ q : Nat, mz = (Lnk.heal (Lnk.runs S l).1 x y).1.ms.length - q ∧ Fr 253 [(1, .int .i64 (x)), (2, .int .i64 (y)), (9, .bool (true)), (13, .pointer (some ((⟨g143, 0, none⟩ : Addr)))), (17, .pointer (some ((⟨g192, 0, none⟩ : Addr)))), (19, .int .i64 ((q : Int)))] az ∧ (q ≤ (Lnk.heal (Lnk.runs S l).1 x y).1.ms.length) ∧ Only NoF w198 W) ?_ ?_
            · -- start
              exact ⟨_, 0, rfl, Hz.cut ⟨rfl, rfl, rfl, rfl, rfl, rfl, trivial⟩, Nat.zero_le _, (Only.refl NoF w198)⟩
            clear Hz az
            rintro mz az w212 ⟨q, hm214, Hz, hq, o213⟩
            refine wp_seq_k fun K215 hK215 => ?_
            refine wp_seq_k fun K216 hK216 => ?_
            -- law.go:139
            refine wp_region_lit ?_
            refine L (r_mv Hz rfl) Hz rfl ?_
            clear Hz az; intro az Hz
            refine L (r_fa (m' := 0) Try.underlying25 rfl Try.sizeOf22 rfl Hz rfl rfl) Hz rfl ?_
            clear Hz az; intro az Hz
            have B217 := (Blk.k B200 o213)
            refine L (r_ld Try.isAgg22 Hz rfl ((Blk.ca B217) 0 _ rfl)) Hz rfl ?_
            clear Hz az; intro az Hz
            refine L (r_lenL Try.underlying22 Hz rfl) Hz rfl ?_
            clear Hz az; intro az Hz
            refine L (r_ltI Hz rfl rfl) Hz rfl ?_
            clear Hz az; intro az Hz
            refine L (r_mv Hz rfl) Hz rfl ?_
            clear Hz az; intro az Hz
            refine LG Hz rfl rfl gd_t (fun hb => r_mv Hz rfl) rfl ?_
            clear Hz az; intro az Hz
            refine LG Hz rfl rfl gd_t (fun hb => r_ltI Hz (evg hb rfl) rfl) rfl ?_
            clear Hz az; intro az Hz
            refine L (r_and Hz rfl rfl rfl) Hz rfl ?_
            clear Hz az; intro az Hz
            refine hK216 _ _ ?_
            refine br Hz rfl (fun hc218 => ?_) (fun hc218 => ?_)
            · -- if8
              have p219 := of_decide_eq_true (and_t hc218).1
              have p220 := of_decide_eq_true (and_t hc218).2
              refine wp_skip ?_
              refine hK215 _ _ ?_
              refine wp_seq_k fun K221 hK221 => ?_
              refine wp_block ?_
              refine wp_seq_k fun K222 hK222 => ?_
              -- law.go:140
              refine wp_region_lit ?_
              refine L (r_fa (m' := 0) Try.underlying25 rfl Try.sizeOf22 rfl Hz rfl rfl) Hz rfl ?_
              clear Hz az; intro az Hz
              refine L (r_ld Try.isAgg22 Hz rfl ((Blk.ca B217) 0 _ rfl)) Hz rfl ?_
              clear Hz az; intro az Hz
              refine L (r_mv Hz rfl) Hz rfl ?_
              clear Hz az; intro az Hz
              have hk223 : q < ((Lnk.heal (Lnk.runs S l).1 x y).1.ms).length := by omega
              have O229 : Only NoF w191 w212 := (Only.trans' (o_sg o194 s199 (Nat.le_refl _) (oneF_ge hg196)) o213)
              have h230 := (SliceOf.kp f188 O229 (fun _ _ h => h) (fun _ _ _ _ h => h))
              have h231 := SliceOf.pl h230
              obtain ⟨m224, hm225, ok226, hA227⟩ := Row.el KMsg h231 hk223
              have E228 : ∀ W, Only NoF w212 W → CA W (eA A184 3 (q)) [.int .i64 (m224.a), .int .i64 (m224.b), strV (m224.t)] := Row.ce KMsg h231 hm225 rfl
              refine L (r_ia (k := q) (size := 3) Try.underlying22 Try.sizeOf27 Hz rfl rfl rfl hk223 hA227) Hz rfl ?_
              clear Hz az; intro az Hz
              refine L (r_ldA Try.isAgg27 Try.sizeOf27 Hz rfl (E228 _ (Only.refl NoF w212)) rfl) Hz rfl ?_
              clear Hz az; intro az Hz
              refine LAl (v := .agg #[.int .i64 (0), .int .i64 (0), strV ([])]) zeroMsg Hz rfl rfl ?_
              clear Hz az; intro g232 w233 hg236 hl237 o234 B235 az Hz
              refine LSt (cs' := [.int .i64 (m224.a), .int .i64 (m224.b), strV (m224.t)]) Try.sizeOf27 Hz rfl rfl rfl rfl rfl ⟨rfl, rfl, rfl, trivial⟩ B235 rfl rfl fun w238 s239 B240 => ?_
              refine hK222 _ _ ?_
              refine wp_seq_k fun K241 hK241 => ?_
              -- law.go:141
              refine wp_region_lit ?_
              have O243 := (Only.trans (Only.trans (Only.refl (fun _ => True) w193) s199 (fun _ _ => .inl trivial)) o213 (fun _ _ => .inl trivial))
              have ne242 : g192 ≠ g232 := (ne_of hl197 (Nat.le_trans (size_only O243) hg236))
              have B244 := (Blk.st (Blk.k B217 o234) s239 ne242)
              refine L (r_ldA Try.isAgg25 Try.sizeOf25 Hz rfl (Blk.ca B244) rfl) Hz rfl ?_
              clear Hz az; intro az Hz
              refine L (r_mv Hz rfl) Hz rfl ?_
              clear Hz az; intro az Hz
              have O245 : Only NoF w191 w238 := (o_sg (Only.trans' O229 o234) s239 (size_only O229) (oneF_ge hg236))
              have h246 := (SliceOf.kp f188 O245 (fun _ _ h => h) (fun _ _ _ _ h => h))
              have h247 := SliceOf.pl h246
              have h248 := (SliceOf.kp f189 O245 (fun _ _ h => h) (fun _ _ _ _ h => h))
              have h249 := SliceOf.pl h248
              refine LC Hz rfl rfl Try.call22 (Deliver_v (show AirV _ _ (Lnk.heal (Lnk.runs S l).1 x y).1 from ⟨_, _, rfl, h247, h249⟩) (Lnk.right_few_ hh3 (by omega)) (q : Int)) rfl ?_
              rintro e w257 ⟨A250, c252, A251, c253, rfl, f254, f255, o256⟩; refine ⟨_, rfl, ?_⟩
              clear Hz az; intro az Hz
              refine L (r_mv Hz rfl) Hz rfl ?_
              clear Hz az; intro az Hz
              refine L (r_ex Hz rfl rfl) Hz rfl ?_
              clear Hz az; intro az Hz
              refine L (r_ex Hz rfl rfl) Hz rfl ?_
              clear Hz az; intro az Hz
              refine L (r_ex Hz rfl rfl) Hz rfl ?_
              clear Hz az; intro az Hz
              refine LAl (v := .agg #[.slice none (0) 0, .slice none (0) 0]) zeroAir Hz rfl rfl ?_
              clear Hz az; intro g258 w259 hg262 hl263 o260 B261 az Hz
              refine LAl (v := .agg #[.int .i64 (0), .int .i64 (0), strV ([])]) zeroMsg Hz rfl rfl ?_
              clear Hz az; intro g264 w265 hg268 hl269 o266 B267 az Hz
              have B270 := (Blk.k B261 o266)
              refine LSt (cs' := [.slice A250 ((Lnk.deliver (Lnk.heal (Lnk.runs S l).1 x y).1 (q : Int)).1.ms.length) c252, .slice A251 ((Lnk.deliver (Lnk.heal (Lnk.runs S l).1 x y).1 (q : Int)).1.cs.length) c253]) Try.sizeOf25 Hz rfl rfl rfl rfl rfl ⟨rfl, rfl, trivial⟩ B270 rfl rfl fun w271 s272 B273 => ?_
              have ne274 : g264 ≠ g258 := (ne_of hl263 hg268).symm
              have B275 := (Blk.st B267 s272 ne274)
              refine LSt (cs' := [.int .i64 ((Lnk.deliver (Lnk.heal (Lnk.runs S l).1 x y).1 (q : Int)).2.1.a), .int .i64 ((Lnk.deliver (Lnk.heal (Lnk.runs S l).1 x y).1 (q : Int)).2.1.b), strV ((Lnk.deliver (Lnk.heal (Lnk.runs S l).1 x y).1 (q : Int)).2.1.t)]) Try.sizeOf27 Hz rfl rfl rfl rfl rfl ⟨rfl, rfl, rfl, trivial⟩ B275 rfl rfl fun w276 s277 B278 => ?_
              refine L (r_as Hz rfl) Hz rfl ?_
              clear Hz az; intro az Hz
              refine hK241 _ _ ?_
              refine wp_seq_k fun K279 hK279 => ?_
              -- law.go:142
              refine wp_region_lit ?_
              have O281 := (Only.trans (Only.trans (Only.trans (Only.trans (Only.trans (Only.trans (Only.refl (fun _ => True) w144) s150 (fun _ _ => .inl trivial)) o155 (fun _ _ => .inl trivial)) o190 (fun _ _ => .inl trivial)) o194 (fun _ _ => .inl trivial)) s199 (fun _ _ => .inl trivial)) o213 (fun _ _ => .inl trivial))
              have ne280 : g143 ≠ g232 := (ne_of hl148 (Nat.le_trans (size_only O281) hg236))
              have O283 := (Only.trans (Only.trans (Only.trans (Only.trans (Only.trans (Only.trans (Only.trans (Only.trans (Only.trans (Only.refl (fun _ => True) w144) s150 (fun _ _ => .inl trivial)) o155 (fun _ _ => .inl trivial)) o190 (fun _ _ => .inl trivial)) o194 (fun _ _ => .inl trivial)) s199 (fun _ _ => .inl trivial)) o213 (fun _ _ => .inl trivial)) o234 (fun _ _ => .inl trivial)) s239 (fun _ _ => .inl trivial)) o256 (fun _ _ => .inl trivial))
              have ne282 : g143 ≠ g258 := (ne_of hl148 (Nat.le_trans (size_only O283) hg262))
              have O285 := (Only.trans (Only.trans (Only.trans (Only.trans (Only.trans (Only.trans (Only.trans (Only.trans (Only.trans (Only.trans (Only.refl (fun _ => True) w144) s150 (fun _ _ => .inl trivial)) o155 (fun _ _ => .inl trivial)) o190 (fun _ _ => .inl trivial)) o194 (fun _ _ => .inl trivial)) s199 (fun _ _ => .inl trivial)) o213 (fun _ _ => .inl trivial)) o234 (fun _ _ => .inl trivial)) s239 (fun _ _ => .inl trivial)) o256 (fun _ _ => .inl trivial)) o260 (fun _ _ => .inl trivial))
              have ne284 : g143 ≠ g264 := (ne_of hl148 (Nat.le_trans (size_only O285) hg268))
              have B286 := (Blk.st (Blk.st (Blk.k (Blk.k (Blk.k (Blk.st (Blk.k (Blk.k B205 o213) o234) s239 ne280) o256) o260) o266) s272 ne282) s277 ne284)
              refine L (r_ldA Try.isAgg25 Try.sizeOf25 Hz rfl (Blk.ca B286) rfl) Hz rfl ?_
              clear Hz az; intro az Hz
              refine L (r_mv Hz rfl) Hz rfl ?_
              clear Hz az; intro az Hz
              have O287 : Only NoF w142 w191 := (Only.trans' O179 o190)
              have O288 : Only NoF w142 w212 := (Only.trans' (o_sg (Only.trans' O287 o194) s199 (size_only O287) (oneF_ge hg196)) o213)
              have O289 : Only NoF w142 w257 := (Only.trans' (o_sg (Only.trans' O288 o234) s239 (size_only O288) (oneF_ge hg236)) o256)
              have O290 : Only NoF w142 w259 := (Only.trans' O289 o260)
              have O291 : Only NoF w142 w276 := (o_sg (o_sg (Only.trans' (Only.trans' (Only.trans' (o_sg (Only.trans' (Only.trans' (o_sg (Only.trans' (Only.trans' O179 o190) o194) s199 (size_only O287) (oneF_ge hg196)) o213) o234) s239 (size_only O288) (oneF_ge hg236)) o256) o260) o266) s272 (size_only O289) (oneF_ge hg262)) s277 (size_only O290) (oneF_ge hg268))
              have h292 := (SliceOf.kp f137 O291 (fun _ _ h => h) (fun _ _ _ _ h => h))
              have h293 := SliceOf.pl h292
              have h294 := (SliceOf.kp f138 O291 (fun _ _ h => h) (fun _ _ _ _ h => h))
              have h295 := SliceOf.pl h294
              refine LC Hz rfl rfl Try.call22 (Deliver_v (show AirV _ _ (Lnk.runs S l).1 from ⟨_, _, rfl, h293, h295⟩) (Lnk.right_few_ hrb (by omega)) (q : Int)) rfl ?_
              rintro e w303 ⟨A296, c298, A297, c299, rfl, f300, f301, o302⟩; refine ⟨_, rfl, ?_⟩
              clear Hz az; intro az Hz
              refine L (r_mv Hz rfl) Hz rfl ?_
              clear Hz az; intro az Hz
              refine L (r_ex Hz rfl rfl) Hz rfl ?_
              clear Hz az; intro az Hz
              refine L (r_ex Hz rfl rfl) Hz rfl ?_
              clear Hz az; intro az Hz
              refine L (r_ex Hz rfl rfl) Hz rfl ?_
              clear Hz az; intro az Hz
              refine LAl (v := .agg #[.slice none (0) 0, .slice none (0) 0]) zeroAir Hz rfl rfl ?_
              clear Hz az; intro g304 w305 hg308 hl309 o306 B307 az Hz
              refine LAl (v := .agg #[.int .i64 (0), .int .i64 (0), strV ([])]) zeroMsg Hz rfl rfl ?_
              clear Hz az; intro g310 w311 hg314 hl315 o312 B313 az Hz
              have B316 := (Blk.k B307 o312)
              refine LSt (cs' := [.slice A296 ((Lnk.deliver (Lnk.runs S l).1 (q : Int)).1.ms.length) c298, .slice A297 ((Lnk.deliver (Lnk.runs S l).1 (q : Int)).1.cs.length) c299]) Try.sizeOf25 Hz rfl rfl rfl rfl rfl ⟨rfl, rfl, trivial⟩ B316 rfl rfl fun w317 s318 B319 => ?_
              have ne320 : g310 ≠ g304 := (ne_of hl309 hg314).symm
              have B321 := (Blk.st B313 s318 ne320)
              refine LSt (cs' := [.int .i64 ((Lnk.deliver (Lnk.runs S l).1 (q : Int)).2.1.a), .int .i64 ((Lnk.deliver (Lnk.runs S l).1 (q : Int)).2.1.b), strV ((Lnk.deliver (Lnk.runs S l).1 (q : Int)).2.1.t)]) Try.sizeOf27 Hz rfl rfl rfl rfl rfl ⟨rfl, rfl, rfl, trivial⟩ B321 rfl rfl fun w322 s323 B324 => ?_
              refine L (r_as Hz rfl) Hz rfl ?_
              clear Hz az; intro az Hz
              refine hK279 _ _ ?_
              refine wp_seq_k fun K325 hK325 => ?_
              -- law.go:143
              refine wp_region_lit ?_
              refine L (r_fa (m' := 0) Try.underlying27 rfl Try.sizeOf3 rfl Hz rfl rfl) Hz rfl ?_
              clear Hz az; intro az Hz
              have O327 := (Only.trans (Only.trans (Only.refl (fun _ => True) w233) s239 (fun _ _ => .inl trivial)) o256 (fun _ _ => .inl trivial))
              have ne326 : g232 ≠ g258 := (ne_of hl237 (Nat.le_trans (size_only O327) hg262))
              have O329 := (Only.trans (Only.trans (Only.trans (Only.refl (fun _ => True) w233) s239 (fun _ _ => .inl trivial)) o256 (fun _ _ => .inl trivial)) o260 (fun _ _ => .inl trivial))
              have ne328 : g232 ≠ g264 := (ne_of hl237 (Nat.le_trans (size_only O329) hg268))
              have O331 := (Only.trans (Only.trans (Only.trans (Only.trans (Only.trans (Only.trans (Only.trans (Only.refl (fun _ => True) w233) s239 (fun _ _ => .inl trivial)) o256 (fun _ _ => .inl trivial)) o260 (fun _ _ => .inl trivial)) o266 (fun _ _ => .inl trivial)) s272 (fun _ _ => .inl trivial)) s277 (fun _ _ => .inl trivial)) o302 (fun _ _ => .inl trivial))
              have ne330 : g232 ≠ g304 := (ne_of hl237 (Nat.le_trans (size_only O331) hg308))
              have O333 := (Only.trans (Only.trans (Only.trans (Only.trans (Only.trans (Only.trans (Only.trans (Only.trans (Only.refl (fun _ => True) w233) s239 (fun _ _ => .inl trivial)) o256 (fun _ _ => .inl trivial)) o260 (fun _ _ => .inl trivial)) o266 (fun _ _ => .inl trivial)) s272 (fun _ _ => .inl trivial)) s277 (fun _ _ => .inl trivial)) o302 (fun _ _ => .inl trivial)) o306 (fun _ _ => .inl trivial))
              have ne332 : g232 ≠ g310 := (ne_of hl237 (Nat.le_trans (size_only O333) hg314))
              have B334 := (Blk.st (Blk.st (Blk.k (Blk.k (Blk.k (Blk.st (Blk.st (Blk.k (Blk.k (Blk.k B240 o256) o260) o266) s272 ne326) s277 ne328) o302) o306) o312) s318 ne330) s323 ne332)
              refine L (r_ld Try.isAgg3 Hz rfl ((Blk.ca B334) 0 _ rfl)) Hz rfl ?_
              clear Hz az; intro az Hz
              refine L (r_mv Hz rfl) Hz rfl ?_
              clear Hz az; intro az Hz
              refine L (r_eqI Hz rfl rfl) Hz rfl ?_
              clear Hz az; intro az Hz
              refine L (r_mv Hz rfl) Hz rfl ?_
              clear Hz az; intro az Hz
              refine LG Hz rfl rfl gd_f (fun hb => r_fa (m' := 0) Try.underlying27 rfl Try.sizeOf3 rfl Hz rfl rfl) rfl ?_
              clear Hz az; intro az Hz
              refine LG Hz rfl rfl gd_f (fun hb => r_ld Try.isAgg3 Hz (evg hb rfl) ((Blk.ca B334) 0 _ rfl)) rfl ?_
              clear Hz az; intro az Hz
              refine LG Hz rfl rfl gd_f (fun hb => r_mv Hz rfl) rfl ?_
              clear Hz az; intro az Hz
              refine LG Hz rfl rfl gd_f (fun hb => r_eqI Hz (evg hb rfl) (evg hb rfl)) rfl ?_
              clear Hz az; intro az Hz
              refine L (r_or Hz rfl rfl rfl) Hz rfl ?_
              clear Hz az; intro az Hz
              refine L (r_mv Hz rfl) Hz rfl ?_
              clear Hz az; intro az Hz
              refine LG Hz rfl rfl gd_t (fun hb => r_fa (m' := 1) Try.underlying27 rfl Try.sizeOf3 rfl Hz rfl rfl) rfl ?_
              clear Hz az; intro az Hz
              refine LG Hz rfl rfl gd_t (fun hb => r_ld Try.isAgg3 Hz (evg hb rfl) ((Blk.ca B334) 1 _ rfl)) rfl ?_
              clear Hz az; intro az Hz
              refine LG Hz rfl rfl gd_t (fun hb => r_mv Hz rfl) rfl ?_
              clear Hz az; intro az Hz
              refine LG Hz rfl rfl gd_t (fun hb => r_eqI Hz (evg hb rfl) (evg hb rfl)) rfl ?_
              clear Hz az; intro az Hz
              refine LG Hz rfl rfl gd_t (fun hb => r_mv Hz (evg hb rfl)) rfl ?_
              clear Hz az; intro az Hz
              refine LG Hz rfl rfl gd_gf (fun hb => r_fa (m' := 1) Try.underlying27 rfl Try.sizeOf3 rfl Hz rfl rfl) rfl ?_
              clear Hz az; intro az Hz
              refine LG Hz rfl rfl gd_gf (fun hb => r_ld Try.isAgg3 Hz (evg hb rfl) ((Blk.ca B334) 1 _ rfl)) rfl ?_
              clear Hz az; intro az Hz
              refine LG Hz rfl rfl gd_gf (fun hb => r_mv Hz rfl) rfl ?_
              clear Hz az; intro az Hz
              refine LG Hz rfl rfl gd_gf (fun hb => r_eqI Hz (evg hb rfl) (evg hb rfl)) rfl ?_
              clear Hz az; intro az Hz
              refine LG Hz rfl rfl gd_t (fun hb => r_or Hz (evg hb rfl) rfl (evgc hb rfl)) rfl ?_
              clear Hz az; intro az Hz
              refine L (r_and Hz rfl rfl rfl) Hz rfl ?_
              clear Hz az; intro az Hz
              refine L (r_mv Hz rfl) Hz rfl ?_
              clear Hz az; intro az Hz
              refine LG Hz rfl rfl gd_t (fun hb => r_mv Hz rfl) rfl ?_
              clear Hz az; intro az Hz
              refine LG Hz rfl rfl gd_t (fun hb => r_neI Hz (evg hb rfl) rfl) rfl ?_
              clear Hz az; intro az Hz
              refine LG Hz rfl rfl gd_t (fun hb => r_mv Hz (evg hb rfl)) rfl ?_
              clear Hz az; intro az Hz
              have O336 := (Only.trans (Only.trans (Only.trans (Only.refl (fun _ => True) w265) s272 (fun _ _ => .inl trivial)) s277 (fun _ _ => .inl trivial)) o302 (fun _ _ => .inl trivial))
              have ne335 : g264 ≠ g304 := (ne_of hl269 (Nat.le_trans (size_only O336) hg308))
              have O338 := (Only.trans (Only.trans (Only.trans (Only.trans (Only.refl (fun _ => True) w265) s272 (fun _ _ => .inl trivial)) s277 (fun _ _ => .inl trivial)) o302 (fun _ _ => .inl trivial)) o306 (fun _ _ => .inl trivial))
              have ne337 : g264 ≠ g310 := (ne_of hl269 (Nat.le_trans (size_only O338) hg314))
              have B339 := (Blk.st (Blk.st (Blk.k (Blk.k (Blk.k B278 o302) o306) o312) s318 ne335) s323 ne337)
              refine LG Hz rfl rfl gd_gf (fun hb => r_ldA Try.isAgg27 Try.sizeOf27 Hz rfl (Blk.ca B339) rfl) rfl ?_
              clear Hz az; intro az Hz
              refine LG Hz rfl rfl gd_gf (fun hb => r_ldA Try.isAgg27 Try.sizeOf27 Hz rfl (Blk.ca B334) rfl) rfl ?_
              clear Hz az; intro az Hz
              refine LG Hz rfl rfl gd_gf (fun hb => r_neA guardMsg (fun w => neqMsg w (Lnk.deliver (Lnk.heal (Lnk.runs S l).1 x y).1 (q : Int)).2.1 m224) Hz (evg hb rfl) (evg hb rfl)) rfl ?_
              clear Hz az; intro az Hz
              refine LG Hz rfl rfl gd_t (fun hb => r_or Hz (evg hb rfl) rfl (evgc hb rfl)) rfl ?_
              clear Hz az; intro az Hz
              refine LG Hz rfl rfl gd_t (fun hb => r_mv Hz (evg hb rfl)) rfl ?_
              clear Hz az; intro az Hz
              refine LG Hz rfl rfl gd_gf (fun hb => r_fa (m' := 0) Try.underlying25 rfl Try.sizeOf22 rfl Hz rfl rfl) rfl ?_
              clear Hz az; intro az Hz
              have ne340 : g258 ≠ g264 := (ne_of hl263 hg268)
              have O342 := (Only.trans (Only.trans (Only.trans (Only.trans (Only.refl (fun _ => True) w259) o266 (fun _ _ => .inl trivial)) s272 (fun _ _ => .inl trivial)) s277 (fun _ _ => .inl trivial)) o302 (fun _ _ => .inl trivial))
              have ne341 : g258 ≠ g304 := (ne_of hl263 (Nat.le_trans (size_only O342) hg308))
              have O344 := (Only.trans (Only.trans (Only.trans (Only.trans (Only.trans (Only.refl (fun _ => True) w259) o266 (fun _ _ => .inl trivial)) s272 (fun _ _ => .inl trivial)) s277 (fun _ _ => .inl trivial)) o302 (fun _ _ => .inl trivial)) o306 (fun _ _ => .inl trivial))
              have ne343 : g258 ≠ g310 := (ne_of hl263 (Nat.le_trans (size_only O344) hg314))
              have B345 := (Blk.st (Blk.st (Blk.k (Blk.k (Blk.k (Blk.st B273 s277 ne340) o302) o306) o312) s318 ne341) s323 ne343)
              refine LG Hz rfl rfl gd_gf (fun hb => r_ld Try.isAgg22 Hz (evg hb rfl) ((Blk.ca B345) 0 _ rfl)) rfl ?_
              clear Hz az; intro az Hz
              refine LG Hz rfl rfl gd_gf (fun hb => r_lenL Try.underlying22 Hz (evg hb rfl)) rfl ?_
              clear Hz az; intro az Hz
              refine LG Hz rfl rfl gd_gf (fun hb => r_fa (m' := 0) Try.underlying25 rfl Try.sizeOf22 rfl Hz rfl rfl) rfl ?_
              clear Hz az; intro az Hz
              have O347 := (Only.trans (Only.trans (Only.trans (Only.trans (Only.trans (Only.refl (fun _ => True) w193) s199 (fun _ _ => .inl trivial)) o213 (fun _ _ => .inl trivial)) o234 (fun _ _ => .inl trivial)) s239 (fun _ _ => .inl trivial)) o256 (fun _ _ => .inl trivial))
              have ne346 : g192 ≠ g258 := (ne_of hl197 (Nat.le_trans (size_only O347) hg262))
              have O349 := (Only.trans (Only.trans (Only.trans (Only.trans (Only.trans (Only.trans (Only.refl (fun _ => True) w193) s199 (fun _ _ => .inl trivial)) o213 (fun _ _ => .inl trivial)) o234 (fun _ _ => .inl trivial)) s239 (fun _ _ => .inl trivial)) o256 (fun _ _ => .inl trivial)) o260 (fun _ _ => .inl trivial))
              have ne348 : g192 ≠ g264 := (ne_of hl197 (Nat.le_trans (size_only O349) hg268))
              have O351 := (Only.trans (Only.trans (Only.trans (Only.trans (Only.trans (Only.trans (Only.trans (Only.trans (Only.trans (Only.trans (Only.refl (fun _ => True) w193) s199 (fun _ _ => .inl trivial)) o213 (fun _ _ => .inl trivial)) o234 (fun _ _ => .inl trivial)) s239 (fun _ _ => .inl trivial)) o256 (fun _ _ => .inl trivial)) o260 (fun _ _ => .inl trivial)) o266 (fun _ _ => .inl trivial)) s272 (fun _ _ => .inl trivial)) s277 (fun _ _ => .inl trivial)) o302 (fun _ _ => .inl trivial))
              have ne350 : g192 ≠ g304 := (ne_of hl197 (Nat.le_trans (size_only O351) hg308))
              have O353 := (Only.trans (Only.trans (Only.trans (Only.trans (Only.trans (Only.trans (Only.trans (Only.trans (Only.trans (Only.trans (Only.trans (Only.refl (fun _ => True) w193) s199 (fun _ _ => .inl trivial)) o213 (fun _ _ => .inl trivial)) o234 (fun _ _ => .inl trivial)) s239 (fun _ _ => .inl trivial)) o256 (fun _ _ => .inl trivial)) o260 (fun _ _ => .inl trivial)) o266 (fun _ _ => .inl trivial)) s272 (fun _ _ => .inl trivial)) s277 (fun _ _ => .inl trivial)) o302 (fun _ _ => .inl trivial)) o306 (fun _ _ => .inl trivial))
              have ne352 : g192 ≠ g310 := (ne_of hl197 (Nat.le_trans (size_only O353) hg314))
              have B354 := (Blk.st (Blk.st (Blk.k (Blk.k (Blk.k (Blk.st (Blk.st (Blk.k (Blk.k (Blk.k B244 o256) o260) o266) s272 ne346) s277 ne348) o302) o306) o312) s318 ne350) s323 ne352)
              refine LG Hz rfl rfl gd_gf (fun hb => r_ld Try.isAgg22 Hz (evg hb rfl) ((Blk.ca B354) 0 _ rfl)) rfl ?_
              clear Hz az; intro az Hz
              refine LG Hz rfl rfl gd_gf (fun hb => r_lenL Try.underlying22 Hz (evg hb rfl)) rfl ?_
              clear Hz az; intro az Hz
              have i355 : I64 (((Lnk.heal (Lnk.runs S l).1 x y).1.ms.length : Nat) - 1) := by unfold I64; omega
              refine LG Hz rfl rfl gd_gf (fun hb => r_subI (r := (((Lnk.heal (Lnk.runs S l).1 x y).1.ms.length : Nat) - 1)) Hz (evg hb rfl) rfl rfl i355) rfl ?_
              clear Hz az; intro az Hz
              refine LG Hz rfl rfl gd_gf (fun hb => r_neI Hz (evg hb rfl) (evg hb rfl)) rfl ?_
              clear Hz az; intro az Hz
              refine LG Hz rfl rfl gd_t (fun hb => r_or Hz (evg hb rfl) rfl (evgc hb rfl)) rfl ?_
              clear Hz az; intro az Hz
              refine LG Hz rfl rfl gd_t (fun hb => r_mv Hz (evg hb rfl)) rfl ?_
              clear Hz az; intro az Hz
              refine LG Hz rfl rfl gd_gf (fun hb => r_mv Hz rfl) rfl ?_
              clear Hz az; intro az Hz
              refine LG Hz rfl rfl gd_gf (fun hb => r_neI Hz (evg hb rfl) rfl) rfl ?_
              clear Hz az; intro az Hz
              refine LG Hz rfl rfl gd_t (fun hb => r_or Hz (evg hb rfl) rfl (evgc hb rfl)) rfl ?_
              clear Hz az; intro az Hz
              refine L (r_and Hz rfl rfl rfl) Hz rfl ?_
              clear Hz az; intro az Hz
              refine hK325 _ _ ?_
              refine br Hz rfl (fun hc356 => ?_) (fun hc356 => ?_)
              · -- if9
                have d357 := (and_t (and_t hc356).1).1
                have d358 := (and_t (and_t hc356).1).2
                have d359 := (and_t hc356).2
                exfalso; obtain ⟨hb9, ho9⟩ := and_t hc356
                obtain ⟨x1, x2, x3, x4⟩ := Lnk.cuts_final hrb hhs hcb hm225 hb9
                rcases or_t ho9 with h | h
                · rcases or_t h with h | h
                  · rcases or_t h with h | h
                    · exact of_decide_eq_false (nt_t h) x1
                    · exact of_decide_eq_false (nt_t h) x2
                  · exact of_decide_eq_false (nt_t h) x3
                · exact of_decide_eq_false (nt_t h) x4
              · -- else9
                have d360 := hc356
                refine wp_skip ?_
                refine hK221 _ _ ?_
                -- law.go:139
                refine wp_region_lit ?_
                refine L (r_mv Hz rfl) Hz rfl ?_
                clear Hz az; intro az Hz
                have i361 : I64 ((q : Int) + 1) := by unfold I64; omega
                refine L (r_addI (r := ((q : Int) + 1)) Hz rfl rfl rfl i361) Hz rfl ?_
                clear Hz az; intro az Hz
                refine L (r_as Hz rfl) Hz rfl ?_
                clear Hz az; intro az Hz
                have O362 : Only NoF w198 w257 := (Only.trans' (o_sg (Only.trans' o213 o234) s239 (size_only o213) (oneF_ge hg236)) o256)
                have O363 : Only NoF w198 w259 := (Only.trans' O362 o260)
                have O364 : Only NoF w198 w303 := (Only.trans' (o_sg (o_sg (Only.trans' O363 o266) s272 (size_only O362) (oneF_ge hg262)) s277 (size_only O363) (oneF_ge hg268)) o302)
                have O365 : Only NoF w198 w305 := (Only.trans' O364 o306)
                have O366 : Only NoF w198 w322 := (o_sg (o_sg (Only.trans' (Only.trans' (Only.trans' (o_sg (o_sg (Only.trans' (Only.trans' (Only.trans' (o_sg (Only.trans' o213 o234) s239 (size_only o213) (oneF_ge hg236)) o256) o260) o266) s272 (size_only O362) (oneF_ge hg262)) s277 (size_only O363) (oneF_ge hg268)) o302) o306) o312) s318 (size_only O364) (oneF_ge hg308)) s323 (size_only O365) (oneF_ge hg314))
                exact ⟨_, (by omega), q + 1, rfl, Hz.cut ⟨rfl, rfl, rfl, rfl, rfl, rfl, trivial⟩, (by omega), O366⟩
            · -- else8
              have d367 := hc218
              refine wp_exit ?_
              refine th_exit ?_
              refine th_exit ?_
              refine ib_hit ?_
              refine hK210 _ _ ?_
              refine wp_seq_k fun K368 hK368 => ?_
              -- law.go:147
              refine wp_region_lit ?_
              refine L (r_mv Hz rfl) Hz rfl ?_
              clear Hz az; intro az Hz
              refine L (r_as Hz rfl) Hz rfl ?_
              clear Hz az; intro az Hz
              refine hK368 _ _ ?_
              refine wp_ret ?_
              show bodyPost _ _ _ .ret _ _
              refine ret_of (vs := [.bool (true)]) Hz Try.results5 ⟨rfl, trivial⟩ ?_
              have O369 : Only NoF w w142 := (Only.trans' O127 o141)
              have O370 : Only NoF w w191 := (Only.trans' (Only.trans' (o_sg (Only.trans' O369 o145) s150 (size_only O369) (oneF_ge hg147)) o155) o190)
              have O371 : Only NoF w w212 := (Only.trans' (o_sg (Only.trans' (Only.trans' (Only.trans' (o_sg (Only.trans' (Only.trans' O127 o141) o145) s150 (size_only O369) (oneF_ge hg147)) o155) o190) o194) s199 (size_only O370) (oneF_ge hg196)) o213)
              exact ⟨rfl, O371⟩
end Go.Proofs.Ytocbfobakmieoaa
