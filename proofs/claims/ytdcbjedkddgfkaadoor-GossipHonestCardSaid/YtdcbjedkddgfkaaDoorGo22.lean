/-
  Gossip: GossipHonest, walked: it returns true. Condition: the listed variables.
-/
import Derived.Test.YtdcbjedkddgfkaaDoorGpM
namespace Go.Proofs.YtdcbjedkddgfkaaDoor
set_option linter.unusedVariables false
set_option linter.unusedSimpArgs false
set_option linter.unusedSectionVars false
open Go.RowKit
theorem next39 {w : World} {v v2 : Value} {l : List NM} (f1 : NotesV w w v l) {q : List RM} (f2 : RefsV w v2 q) {h d : Int} (hh : I64 h) (hd : I64 d) {t : Str} (ht : t.length ≤ maxLen) (hl : l.length ≤ 1000) (hq : q.length ≤ 1000) (hz : check (l ++ [(⟨h, ((l.length : Nat) : Int), d, none, q, 0, t⟩ : NM)]) = 0) :
 Calls Tryd.prog 29 #[v, .int .i64 h, .int .i64 d, v2, strV t] w (fun e w' => ∃ A c, e = .returned (.tuple #[.agg #[.int .i64 h, .int .i64 ((l.length : Nat) : Int), .int .i64 d, .slice A q.length c, strV t], .int .i64 0]) ∧ Only NoF w w' ∧ (KNote w').ok ⟨h, ((l.length : Nat) : Int), d, A, q, c, t⟩ ∧ SliceOf (geB w.heap.size) 2 KRef.R w' (.slice A q.length c) q) := by
 refine (Next_v f1 f2 hh hd ht hl hq).mono ?_
 rintro e w' ⟨v, rfl, o, h | h⟩
 · exact absurd hz h.1
 · obtain ⟨_, ⟨mh, mn, md, A, ml, c, ms⟩, rfl, h1, h2, h3, h4, h5, ok, sg⟩ := h
   simp only at h1 h2 h3 h4 h5
   subst h1 h2 h3 h4 h5
   exact ⟨A, c, by rw [hz], o, ok, sg⟩
set_option maxRecDepth 20000 in
set_option maxHeartbeats 4000000 in
theorem honest39_ {w : World} (hG : Gr w) {T : List TM} {A1 : Option Addr} {c1 : Nat} (f1 : SliceOf AllB 3 KStp.R w (.slice A1 T.length c1) T) {Y : List UInt8} {A2 : Option Addr} {c2 : Nat} (f2 : SliceOf AllB 1 KU8.R w (.slice A2 Y.length c2) Y) : Calls Tryd.prog 7 [.slice A1 (T.length) c1, .slice A2 (Y.length) c2].toArray w (Fix (.bool true) w) := by
 refine calls_start Tryd.func7 rfl rfl ?_
 intro az Z
 rw [Tryd.ntmps7] at Z
 refine wp_seq_k fun _ k1 => wp_region_lit ?_
 refine L (r_as Z rfl) Z rfl ?_; clear Z az; intro az Z
 refine k1 _ _ (wp_seq_k fun _ k2 => wp_region_lit ?_)
 have G3 := Gr.k hG (Only.refl NoF w)
 refine LCV (v := .bool (true)) Z rfl rfl Tryd.call9 (small39_v G3) rfl fun w4 o5 => ?_; clear Z az; intro az Z
 refine L (r_as Z rfl) Z rfl ?_; clear Z az; intro az Z
 refine k2 _ _ (wp_seq_k fun _ k6 => ?_)
 refine wp_seq_k fun _ k7 => wp_region_lit ?_
 refine L (r_mv Z rfl) Z rfl ?_; clear Z az; intro az Z
 refine L (r_lenL Tryd.underlying53 Z rfl) Z rfl ?_; clear Z az; intro az Z
 refine L (r_gtI Z rfl rfl) Z rfl ?_; clear Z az; intro az Z
 refine L (r_mv Z rfl) Z rfl ?_; clear Z az; intro az Z
 refine LG Z rfl rfl gd_f (fun hb => r_mv Z rfl) rfl ?_; clear Z az; intro az Z
 refine LG Z rfl rfl gd_f (fun hb => r_lenL Tryd.underlying23 Z (evg hb rfl)) rfl ?_; clear Z az; intro az Z
 refine LG Z rfl rfl gd_f (fun hb => r_gtI Z (evg hb rfl) rfl) rfl ?_; clear Z az; intro az Z
 refine L (r_or Z rfl rfl rfl) Z rfl ?_; clear Z az; intro az Z
 refine k7 _ _ ?_
 refine br Z rfl (fun hc8 => ?_) (fun hc8 => ?_)
 ·
  have d9 := hc8
  refine wp_seq_k fun _ k10 => wp_region_lit ?_
  refine L (r_mv Z rfl) Z rfl ?_; clear Z az; intro az Z
  refine L (r_as Z rfl) Z rfl ?_; clear Z az; intro az Z
  refine k10 _ _ ?_
  refine wp_ret ?_
  show bodyPost _ _ _ .ret _ _
  refine ret_of (vs := [.bool (true)]) Z Tryd.results7 ⟨rfl, trivial⟩ ?_
  exact ⟨rfl, o5⟩
 ·
  have p11 := of_decide_eq_false (or_f hc8).1
  have p12 := of_decide_eq_false (or_f hc8).2
  refine wp_skip ?_
  refine k6 _ _ (wp_seq_k fun _ k13 => wp_region_lit ?_)
  obtain ⟨A14, w15, hw, hA, r16, o17⟩ := Row.madeN (w := w4) KRr (e := 22) (l := List.replicate 8 (⟨none, [], 0⟩ : NR)) (m := 8) List.length_replicate (by unfold maxLen; omega)
  refine L (r_mk1 (m := 8) (x := (⟨none, [], 0⟩ : NR)) (v := .slice none 0 0) (b := 24) KRr Tryd.underlying29 (by kernel_rfl) (by decide) rfl rfl rfl Z rfl rfl (by decide)) Z rfl ?_
  rw [← hw, ← hA]; clear Z az; intro az Z
  clear hw hA
  obtain ⟨N18, hN19⟩ : ∃ N0 : List NR, N0 = List.replicate 8 (⟨none, [], 0⟩ : NR) := ⟨_, rfl⟩
  rw [← hN19] at r16
  have hl20 : N18.length = 8 := by rw [hN19, List.length_replicate]
  have ok21 : ∀ zq ∈ N18, KRr.ok zq := by rw [hN19]; intro zq hq; rw [List.eq_of_mem_replicate hq]; exact trivial
  refine L (r_as Z rfl) Z rfl ?_; clear Z az; intro az Z
  refine k13 _ _ (wp_seq_k fun _ k22 => wp_region_lit ?_)
  obtain ⟨A23, w24, hw, hA, r25, o26⟩ := Row.madeN (w := w15) KInt (e := 3) (l := List.replicate 8 (0 : Int)) (m := 8) List.length_replicate (by unfold maxLen; omega)
  refine L (r_mk1 (m := 8) (x := (0 : Int)) (v := .int .i64 0) (b := 8) KInt Tryd.underlying31 (by kernel_rfl) (by decide) rfl rfl rfl Z rfl rfl (by decide)) Z rfl ?_
  rw [← hw, ← hA]; clear Z az; intro az Z
  clear hw hA
  obtain ⟨N27, hN28⟩ : ∃ N0 : List Int, N0 = List.replicate 8 (0 : Int) := ⟨_, rfl⟩
  rw [← hN28] at r25
  have hl29 : N27.length = 8 := by rw [hN28, List.length_replicate]
  have ok30 : ∀ zq ∈ N27, KInt.ok zq := by rw [hN28]; intro zq hq; rw [List.eq_of_mem_replicate hq]; exact (by show I64 0; unfold I64; omega)
  refine L (r_as Z rfl) Z rfl ?_; clear Z az; intro az Z
  refine k22 _ _ (wp_seq_k fun _ k31 => wp_region_lit ?_)
  obtain ⟨A32, w33, hw, hA, r34, o35⟩ := made0 (w := w24) (e := 42) (size := 5)
  refine L (r_bs0 Tryd.underlying22 Tryd.sizeOf42) Z rfl ?_
  rw [← hw, ← hA]; clear Z az; intro az Z
  clear hw hA
  refine L (r_as Z rfl) Z rfl ?_; clear Z az; intro az Z
  refine k31 _ _ (wp_seq_k fun _ k36 => ?_)
  refine wp_seq_k fun _ k37 => wp_region_lit ?_
  refine L (r_as Z rfl) Z rfl ?_; clear Z az; intro az Z
  refine k37 _ _ ?_
  refine wp_block ?_
  have O38 : Only NoF w4 w24 := (Only.trans' o17 o26)
  refine wp_loop_m (fun mz az W => ∃ i : Nat, ∃ KL : List NR, ∃ D : List Int, ∃ a : List NM, ∃ Ao : Option Addr, ∃ co : Nat, mz = T.length - i ∧ Fr 187 [(0, .slice A1 (T.length) c1), (1, .slice A2 (Y.length) c2), (5, .bool (true)), (6, .slice A14 (8) 8), (7, .slice A23 (8) 8), (9, .int .i64 ((i : Int))), (8, .slice Ao (a.length) co)] az ∧ (i ≤ T.length) ∧ (HonK KL D (List.map ns a) i) ∧ (KL.length = 8) ∧ (D.length = 8) ∧ Only NoF w4 W ∧ W.ownsRow w4.heap.size 22 1 (.slice A14 (8) 8) 8 (List.flatMap KRr.cells KL) ∧ W.ownsRow w4.heap.size 3 1 (.slice A23 (8) 8) 8 (List.flatMap KInt.cells D) ∧ W.ownsRow w4.heap.size 42 5 (.slice Ao (a.length) co) a.length (List.flatMap KN0.cells a) ∧ KOk (FK (.slice A14 (8) 8) (.slice A23 (8) 8) (.slice Ao (a.length) co)) W KL ∧ OkNs (SKr (FK (.slice A14 (8) 8) (.slice A23 (8) 8) (.slice Ao (a.length) co)) W) W a) ?_ ?_
  ·
   have O39 : Only NoF w4 w33 := (Only.trans' O38 o35)
   have r40 := (ow_k (ow_k r16 o26) o35)
   have r41 := (ow_k r25 o35)
   exact ⟨_, 0, N18, N27, [], A32, 0, rfl, Z.cut ⟨rfl, rfl, rfl, rfl, rfl, rfl, rfl, trivial⟩, Nat.zero_le _, (by rw [hN19, hN28]; exact honk_start), hl20, hl29, O39, (ow_low r40 (Nat.le_refl _)), (ow_low r41 (size_only o17)), (ow_low r34 (size_only O38)), (by rw [hN19]; exact KOk.start), OkNs.nil⟩
  clear Z az
  rintro mz az w42 ⟨i, KL, D, a, Ao, co, hm44, Z, hi, H, hKl, hDl, o43, rK, rD, rA, hK, hA⟩
  have hDok : ∀ z ∈ D, KInt.ok z := fun z hz => by obtain ⟨p, hp⟩ := List.getElem?_of_mem hz; have h0 := hon_bnd H.h hp (by omega); show I64 z; unfold I64; omega
  have hal : a.length ≤ i := by have h0 := H.h.le; rwa [List.length_map] at h0
  refine wp_seq_k fun _ k45 => ?_
  refine wp_seq_k fun _ k46 => wp_region_lit ?_
  refine L (r_mv Z rfl) Z rfl ?_; clear Z az; intro az Z
  refine L (r_mv Z rfl) Z rfl ?_; clear Z az; intro az Z
  refine L (r_lenL Tryd.underlying53 Z rfl) Z rfl ?_; clear Z az; intro az Z
  refine L (r_ltI Z rfl rfl) Z rfl ?_; clear Z az; intro az Z
  refine k46 _ _ ?_
  refine br Z rfl (fun hc47 => ?_) (fun hc47 => ?_)
  ·
   have p48 := of_decide_eq_true hc47
   refine wp_skip ?_
   refine k45 _ _ (wp_seq_k fun _ k49 => ?_)
   refine wp_block ?_
   refine wp_seq_k fun _ k50 => wp_region_lit ?_
   refine L (r_mv Z rfl) Z rfl ?_; clear Z az; intro az Z
   refine L (r_mv Z rfl) Z rfl ?_; clear Z az; intro az Z
   have hk51 : i < (T).length := by omega
   have O57 : Only NoF w w42 := (Only.trans' o5 o43)
   have h58 := (SliceOf.kp f1 O57 (fun _ _ h => h) (fun _ _ _ _ h => h))
   obtain ⟨m52, hm53, ok54, hA55⟩ := Row.el KStp h58 hk51
   have E56 : ∀ W, Only NoF w42 W → CA W (eA A1 3 (i)) [.int .i64 (m52.h), .int .i64 (m52.f), .int .i64 (m52.d)] := Row.ce KStp h58 hm53 rfl
   have hx9 := tm9 m52.d
   have hx8 := tm9b m52.d
   refine L (r_ia (k := i) (size := 3) Tryd.underlying53 Tryd.sizeOf55 Z rfl rfl rfl hk51 hA55) Z rfl ?_; clear Z az; intro az Z
   refine L (r_ldA Tryd.isAgg55 Tryd.sizeOf55 Z rfl (E56 _ (Only.refl NoF w42)) rfl) Z rfl ?_; clear Z az; intro az Z
   refine LAl (v := .agg #[.int .i64 (0), .int .i64 (0), .int .i64 (0)]) Tryd.zeroValue55 Z rfl rfl ?_
   clear Z az; intro g59 w60 hg63 hl64 o61 B62 az Z
   refine LSt (cs' := [.int .i64 (m52.h), .int .i64 (m52.f), .int .i64 (m52.d)]) Tryd.sizeOf55 Z rfl rfl rfl rfl rfl ⟨rfl, rfl, rfl, trivial⟩ B62 rfl rfl fun w65 s66 B67 => ?_
   refine k50 _ _ (wp_seq_k fun _ k68 => ?_)
   refine wp_seq_k fun _ k69 => wp_region_lit ?_
   refine L (r_fa (m' := 0) Tryd.underlying55 rfl Tryd.sizeOf3 rfl Z rfl rfl) Z rfl ?_; clear Z az; intro az Z
   refine L (r_ld Tryd.isAgg3 Z rfl ((Blk.ca B67) 0 _ rfl)) Z rfl ?_; clear Z az; intro az Z
   refine L (r_ltI Z rfl rfl) Z rfl ?_; clear Z az; intro az Z
   refine L (r_mv Z rfl) Z rfl ?_; clear Z az; intro az Z
   refine LG Z rfl rfl gd_f (fun hb => r_fa (m' := 0) Tryd.underlying55 rfl Tryd.sizeOf3 rfl Z rfl rfl) rfl ?_; clear Z az; intro az Z
   refine LG Z rfl rfl gd_f (fun hb => r_ld Tryd.isAgg3 Z (evg hb rfl) ((Blk.ca B67) 0 _ rfl)) rfl ?_; clear Z az; intro az Z
   refine LG Z rfl rfl gd_f (fun hb => r_geI Z (evg hb rfl) rfl) rfl ?_; clear Z az; intro az Z
   refine L (r_or Z rfl rfl rfl) Z rfl ?_; clear Z az; intro az Z
   refine k69 _ _ ?_
   refine br Z rfl (fun hc70 => ?_) (fun hc70 => ?_)
   ·
    have d71 := hc70
    refine wp_exit ?_
    refine th_exit ?_
    refine ib_hit ?_
    refine k49 _ _ ?_
    refine wp_region_lit ?_
    refine L (r_mv Z rfl) Z rfl ?_; clear Z az; intro az Z
    have i72 : I64 (((i : Int) + 1)) := by unfold I64; omega
    refine L (r_addI (r := ((i : Int) + 1)) Z rfl rfl rfl i72) Z rfl ?_; clear Z az; intro az Z
    refine L (r_as Z rfl) Z rfl ?_; clear Z az; intro az Z
    have O73 : Only NoF w4 w65 := (o_sg (Only.trans' o43 o61) s66 (size_only o43) (oneF_ge hg63))
    have r74 := (ow_only (ow_k rK o61) s66 (fun k hk => lt_F (oneF_ge hg63) (Nat.le_refl _) k (ownF_lt rK k hk)))
    have r75 := (ow_only (ow_k rD o61) s66 (fun k hk => lt_F (oneF_ge hg63) (Nat.le_refl _) k (ownF_lt rD k hk)))
    have r76 := (ow_only (ow_k rA o61) s66 (fun k hk => lt_F (oneF_ge hg63) (Nat.le_refl _) k (ownF_lt rA k hk)))
    have O77 : Only NoF w42 w65 := (o_sg o61 s66 (Nat.le_refl _) (oneF_ge hg63))
    exact ⟨_, (by omega), i + 1, KL, D, a, Ao, co, rfl, Z.cut ⟨rfl, rfl, rfl, rfl, rfl, rfl, rfl, trivial⟩, (by omega), (honk_up H), hKl, hDl, O73, r74, r75, r76, (KOk.mv hK O77 (fun _ h => h.elim)), (OkNs.mv hA O77 (fun _ h => h.elim))⟩
   ·
    have p78 := of_decide_eq_false (or_f hc70).1
    have p79 := of_decide_eq_false (or_f hc70).2
    obtain ⟨q80, hq81⟩ : ∃ q : Nat, m52.h = (q : Int) := ⟨m52.h.toNat, by omega⟩
    refine wp_skip ?_
    refine k68 _ _ (wp_seq_k fun _ k82 => ?_)
    refine wp_seq_k fun _ k83 => wp_region_lit ?_
    refine L (r_fa (m' := 1) Tryd.underlying55 rfl Tryd.sizeOf3 rfl Z rfl rfl) Z rfl ?_; clear Z az; intro az Z
    refine L (r_ld Tryd.isAgg3 Z rfl ((Blk.ca B67) 1 _ rfl)) Z rfl ?_; clear Z az; intro az Z
    refine L (r_geI Z rfl rfl) Z rfl ?_; clear Z az; intro az Z
    refine L (r_mv Z rfl) Z rfl ?_; clear Z az; intro az Z
    refine LG Z rfl rfl gd_t (fun hb => r_fa (m' := 1) Tryd.underlying55 rfl Tryd.sizeOf3 rfl Z rfl rfl) rfl ?_; clear Z az; intro az Z
    refine LG Z rfl rfl gd_t (fun hb => r_ld Tryd.isAgg3 Z (evg hb rfl) ((Blk.ca B67) 1 _ rfl)) rfl ?_; clear Z az; intro az Z
    refine LG Z rfl rfl gd_t (fun hb => r_ltI Z (evg hb rfl) rfl) rfl ?_; clear Z az; intro az Z
    refine L (r_and Z rfl rfl rfl) Z rfl ?_; clear Z az; intro az Z
    refine k83 _ _ ?_
    refine br Z rfl (fun hc84 => ?_) (fun hc84 => ?_)
    ·
     have p85 := of_decide_eq_true (and_t hc84).1
     have p86 := of_decide_eq_true (and_t hc84).2
     obtain ⟨q87, hq88⟩ : ∃ q : Nat, m52.f = (q : Int) := ⟨m52.f.toNat, by omega⟩
     refine wp_seq_k fun _ k89 => ?_
     refine reg_p NoF 1 [10] (.rd 0 (.rd 1 (.rd 2 (.rd 3 (.rd 4 (.rd 5 (.rd 6 (.rd 7 (.rd 8 (.rd 9 (.ex 10 (.rd 11 (.rd 12 (.rd 13 (.rd 14 (.rd 15 .nil)))))))))))))))) (by kernel_rfl) (by kernel_rfl) (fun _ _ _ _ _ h => h) fun w90 o91 => ?_
     have B92 := (Blk.k B67 o91)
     refine Pl.MSP (b := true) (by kernel_rfl) (fun W oW => r_mv Z rfl) Z rfl rfl ?_; clear Z az; intro az Z
     refine Pl.MSP (b := true) (by kernel_rfl) (fun W oW => r_fa (m' := 0) Tryd.underlying55 rfl Tryd.sizeOf3 rfl Z rfl rfl) Z rfl rfl ?_; clear Z az; intro az Z
     refine Pl.MSP (b := true) (by kernel_rfl) (fun W oW => r_ld Tryd.isAgg3 Z rfl ((Blk.ca (Blk.k B92 oW)) 0 _ rfl)) Z rfl rfl ?_; clear Z az; intro az Z
     have r93 := (ow_k (ow_only (ow_k rK o61) s66 (fun k hk => lt_F (oneF_ge hg63) (Nat.le_refl _) k (ownF_lt rK k hk))) o91)
     have h94 := Row.ownN KRr r93 hKl (fun _ _ => trivial)
     have hk95 : q80 < 8 := by omega
     have hk96 : q80 < (KL).length := by omega
     obtain ⟨m97, hm98, ok99, hA100⟩ := Row.el KRr h94 hk96
     have E101 : ∀ W, Only NoF w90 W → CA W (eA A14 1 (q80)) [.slice m97.A (m97.l.length) m97.c] := Row.ce KRr h94 hm98 rfl
     have hl102 := honk_len H (by omega) hm98
     refine Pl.MSP (b := true) (by kernel_rfl) (fun W oW => r_ia (k := q80) (size := 1) Tryd.underlying29 Tryd.sizeOf22 Z rfl rfl hq81 hk95 hA100) Z rfl rfl ?_; clear Z az; intro az Z
     refine Pl.MSP (b := true) (by kernel_rfl) (fun W oW => r_ld Tryd.isAgg22 Z rfl (CA.first (E101 _ (Only.trans' (Only.refl NoF w90) oW)))) Z rfl rfl ?_; clear Z az; intro az Z
     refine Pl.MSP (b := true) (by kernel_rfl) (fun W oW => r_mv Z rfl) Z rfl rfl ?_; clear Z az; intro az Z
     refine Pl.MSP (b := true) (by kernel_rfl) (fun W oW => r_fa (m' := 1) Tryd.underlying55 rfl Tryd.sizeOf3 rfl Z rfl rfl) Z rfl rfl ?_; clear Z az; intro az Z
     refine Pl.MSP (b := true) (by kernel_rfl) (fun W oW => r_ld Tryd.isAgg3 Z rfl ((Blk.ca (Blk.k B92 oW)) 1 _ rfl)) Z rfl rfl ?_; clear Z az; intro az Z
     have hk103 : q87 < 8 := by omega
     have hk104 : q87 < (KL).length := by omega
     obtain ⟨m105, hm106, ok107, hA108⟩ := Row.el KRr h94 hk104
     have E109 : ∀ W, Only NoF w90 W → CA W (eA A14 1 (q87)) [.slice m105.A (m105.l.length) m105.c] := Row.ce KRr h94 hm106 rfl
     have hl110 := honk_len H (by omega) hm106
     refine Pl.MSP (b := true) (by kernel_rfl) (fun W oW => r_ia (k := q87) (size := 1) Tryd.underlying29 Tryd.sizeOf22 Z rfl rfl hq88 hk103 hA108) Z rfl rfl ?_; clear Z az; intro az Z
     refine Pl.MSP (b := true) (by kernel_rfl) (fun W oW => r_ld Tryd.isAgg22 Z rfl (CA.first (E109 _ (Only.trans' (Only.refl NoF w90) oW)))) Z rfl rfl ?_; clear Z az; intro az Z
     have O123 : Only NoF w w90 := (Only.trans' (o_sg (Only.trans' O57 o61) s66 (size_only O57) (oneF_ge hg63)) o91)
     have G122 := Gr.k hG O123
     have O124 : Only NoF w42 w90 := (Only.trans' (o_sg o61 s66 (Nat.le_refl _) (oneF_ge hg63)) o91)
     have hC125 := Talk_v_ G122 (NtV.k (hK _ (List.mem_of_getElem? hm98)).nt O124) (NtV.k (hK _ (List.mem_of_getElem? hm106)).nt O124) (by omega) (by omega)
     refine Pl.MSC Z rfl rfl rfl Tryd.call28 (hC125) rfl ?_
     rintro e w126 ⟨A111, c112, L113, A114, c115, L116, rfl, hL117, hL118, hN119, hN120, o121⟩; refine ⟨_, rfl, ⟨fun _ => o121, (Only.trans (Only.refl NoF w90) o121 (fun _ h => h.elim))⟩, ?_⟩
     clear Z az; intro az Z
     have nt127 : NtV w126 (.slice A111 (L113.length) c112) L113 := ⟨SliceOf.pl hN119.1, OkNs.pl hN119.2⟩
     have hm128 : L113.length ≤ 1000000 := (lss_lim hL117 (by omega))
     have nt129 : NtV w126 (.slice A114 (L116.length) c115) L116 := ⟨SliceOf.pl hN120.1, OkNs.pl hN120.2⟩
     have hm130 : L116.length ≤ 1000000 := (lss_lim hL118 (by omega))
     have hsl := sent_len hL117
     refine Pl.MSP (b := true) (by kernel_rfl) (fun W oW => r_mv Z rfl) Z rfl rfl ?_; clear Z az; intro az Z
     refine Pl.MSP (b := true) (by kernel_rfl) (fun W oW => r_ex Z rfl rfl) Z rfl rfl ?_; clear Z az; intro az Z
     refine Pl.MSP (b := true) (by kernel_rfl) (fun W oW => r_ex Z rfl rfl) Z rfl rfl ?_; clear Z az; intro az Z
     refine Pl.MSP (b := true) (by kernel_rfl) (fun W oW => r_as Z rfl) Z rfl rfl ?_; clear Z az; intro az Z
     refine Pl.MSP (b := true) (by kernel_rfl) (fun W oW => r_as Z rfl) Z rfl rfl ?_; clear Z az; intro az Z
     refine wpPl_nil ?_
     refine k89 _ _ ?_
     refine reg_p (ownF (.slice A14 (8) 8)) 1 [9, 11] (.rd 0 (.rd 1 (.rd 2 (.rd 3 (.rd 4 (.rd 5 (.rd 6 (.rd 7 (.rd 8 (.ex 9 (.rd 10 (.ex 11 .nil)))))))))))) (by kernel_rfl) (by kernel_rfl) (fun _ _ _ _ _ h => h) fun w131 o132 => ?_
     have B133 := (Blk.k (Blk.k B92 o121) o132)
     refine Pl.MSP (b := true) (by kernel_rfl) (fun W oW => r_mv Z rfl) Z rfl rfl ?_; clear Z az; intro az Z
     refine Pl.MSP (b := true) (by kernel_rfl) (fun W oW => r_fa (m' := 0) Tryd.underlying55 rfl Tryd.sizeOf3 rfl Z rfl rfl) Z rfl rfl ?_; clear Z az; intro az Z
     refine Pl.MSP (b := true) (by kernel_rfl) (fun W oW => r_ld Tryd.isAgg3 Z rfl ((Blk.ca (Blk.k B133 oW)) 0 _ rfl)) Z rfl rfl ?_; clear Z az; intro az Z
     refine Pl.MSP (b := true) (by kernel_rfl) (fun W oW => r_mv Z rfl) Z rfl rfl ?_; clear Z az; intro az Z
     refine Pl.MSP (b := true) (by kernel_rfl) (fun W oW => r_fa (m' := 0) Tryd.underlying55 rfl Tryd.sizeOf3 rfl Z rfl rfl) Z rfl rfl ?_; clear Z az; intro az Z
     refine Pl.MSP (b := true) (by kernel_rfl) (fun W oW => r_ld Tryd.isAgg3 Z rfl ((Blk.ca (Blk.k B133 oW)) 0 _ rfl)) Z rfl rfl ?_; clear Z az; intro az Z
     have r134 := (ow_k (ow_k r93 o121) o132)
     have h135 := Row.ownN KRr r134 hKl (fun _ _ => trivial)
     refine Pl.MSP (b := true) (by kernel_rfl) (fun W oW => r_ia (k := q80) (size := 1) Tryd.underlying29 Tryd.sizeOf22 Z rfl rfl hq81 hk95 hA100) Z rfl rfl ?_; clear Z az; intro az Z
     have O136 : Only NoF w90 w131 := (Only.trans' o121 o132)
     refine Pl.MSP (b := true) (by kernel_rfl) (fun W oW => r_ld Tryd.isAgg22 Z rfl (CA.first (E101 _ (Only.trans' O136 oW)))) Z rfl rfl ?_; clear Z az; intro az Z
     refine Pl.MSP (b := true) (by kernel_rfl) (fun W oW => r_mv Z rfl) Z rfl rfl ?_; clear Z az; intro az Z
     have O138 : Only NoF w w131 := (Only.trans' (Only.trans' O123 o121) o132)
     have G137 := Gr.k hG O138
     have O139 : Only NoF w42 w131 := (Only.trans' (Only.trans' O124 o121) o132)
     have hC147 := Join_v_ G137 (NtV.k (hK _ (List.mem_of_getElem? hm98)).nt O139) (NtV.k nt127 o132) (by first | omega | (simp only [List.length_cons, List.length_nil]; omega))
     refine Pl.MSC Z rfl rfl rfl Tryd.call11 (hC147) rfl ?_
     rintro e w148 ⟨A140, c141, L142, rfl, hL143, hS144, hN145, o146⟩; refine ⟨_, rfl, ⟨fun _ => o146, (Only.trans (Only.refl (ownF (.slice A14 (8) 8)) w131) o146 (fun _ h => h.elim))⟩, ?_⟩
     clear Z az; intro az Z
     have nt149 : NtV w148 (.slice A140 (L142.length) c141) L142 := ⟨SliceOf.pl hS144, OkNs.pl hN145⟩
     have hm150 : L142.length ≤ 1000000 := (by have h0 := congrArg List.length hL143; rw [List.length_map] at h0; rw [h0]; exact Nat.le_trans (joinN_le _) (by (try simp only [List.length_append, List.length_cons, List.length_nil]); omega))
     have r151 := (ow_k r134 o146)
     have h152 := Row.ownN KRr r151 hKl (fun _ _ => trivial)
     refine Pl.MSP (b := true) (by kernel_rfl) (fun W oW => r_ia (k := q80) (size := 1) Tryd.underlying29 Tryd.sizeOf22 Z rfl rfl hq81 hk95 hA100) Z rfl rfl ?_; clear Z az; intro az Z
     have O153 : Only NoF w42 w148 := (Only.trans' O139 o146)
     have r155 := (ow_k (ow_k (ow_k (ow_only (ow_k rD o61) s66 (fun k hk => lt_F (oneF_ge hg63) (Nat.le_refl _) k (ownF_lt rD k hk))) o91) o121) o132)
     have r156 := (ow_k (ow_k (ow_k (ow_only (ow_k rA o61) s66 (fun k hk => lt_F (oneF_ge hg63) (Nat.le_refl _) k (ownF_lt rA k hk))) o91) o121) o132)
     have hx154 : NtS (SKr (FK (.slice A14 (8) 8) (.slice A23 (8) 8) (.slice Ao (a.length) co)) w148) w148 (.slice A140 (L142.length) c141) L142 := (NtS.new hS144 hN145 (FK.lt (ownF_lt r134) (ownF_lt r155) (ownF_lt r156))).mv (Only.refl NoF w148) (fun _ h => h.elim)
     have hk157 := (KOk.mv hK O153 (fun _ h => h.elim))
     have hk165 : q80 < 8 := by omega
     refine Pl.MSSQ (k := q80) (x := (⟨A140, L142, c141⟩ : NR)) KRr Tryd.sizeOf22 Z rfl rfl rfl rfl rfl r151 hKl hk165 fun w158 o159 r160 => ?_
     obtain ⟨N161, hN162⟩ : ∃ N0, N0 = List.set KL q80 (⟨A140, L142, c141⟩ : NR) := ⟨_, rfl⟩
     rw [← hN162] at r160
     have hl163 : N161.length = 8 := by rw [hN162]; exact List.length_set.trans hKl
     have ok164 : ∀ zq ∈ N161, KRr.ok zq := by rw [hN162]; exact set_ok (fun _ _ => trivial) trivial
     refine ⟨⟨fun h => absurd h (by decide), (Only.trans (Only.trans (Only.refl (ownF (.slice A14 (8) 8)) w131) o146 (fun _ h => h.elim)) o159 (fun _ h => .inl h))⟩, ?_⟩
     have hk166 : KOk (FK (.slice A14 (8) 8) (.slice A23 (8) 8) (.slice Ao (a.length) co)) w158 N161 := by rw [hN162]; exact (KOk.set hk157 hx154).mv o159 FK.k
     have ha167 : OkNs (SKr (FK (.slice A14 (8) 8) (.slice A23 (8) 8) (.slice Ao (a.length) co)) w158) w158 a := OkNs.mv (OkNs.mv hA O153 (fun _ h => h.elim)) o159 FK.k
     have H168 := honk_learn H hm98 hm106 hL117 (X := (⟨A140, L142, c141⟩ : NR)) hL143
     rw [← hN162] at H168
     refine wpPl_nil ?_
     refine k82 _ _ (wp_seq_k fun _ k169 => ?_)
     refine reg_p (ownF (.slice A23 (8) 8)) 0 [15] (.rd 0 (.rd 1 (.rd 2 (.rd 3 (.rd 4 (.rd 5 (.rd 6 (.rd 7 (.rd 8 (.rd 9 (.rd 10 (.rd 11 (.rd 12 (.rd 13 (.rd 14 (.ex 15 .nil)))))))))))))))) (by kernel_rfl) (by kernel_rfl) (fun _ _ _ _ _ h => h) fun w170 o171 => ?_
     have B172 := (Blk.k (Blk.only (Blk.k B133 o146) o159 (fun h => absurd ((ownF_lt rK) _ h) (Nat.not_lt.2 (Nat.le_trans (Nat.le_refl _) hg63)))) o171)
     refine Pl.MSP (b := true) (by kernel_rfl) (fun W oW => r_mv Z rfl) Z rfl rfl ?_; clear Z az; intro az Z
     refine Pl.MSP (b := true) (by kernel_rfl) (fun W oW => r_fa (m' := 0) Tryd.underlying55 rfl Tryd.sizeOf3 rfl Z rfl rfl) Z rfl rfl ?_; clear Z az; intro az Z
     refine Pl.MSP (b := true) (by kernel_rfl) (fun W oW => r_ld Tryd.isAgg3 Z rfl ((Blk.ca (Blk.k B172 oW)) 0 _ rfl)) Z rfl rfl ?_; clear Z az; intro az Z
     refine Pl.MSP (b := true) (by kernel_rfl) (fun W oW => r_mv Z rfl) Z rfl rfl ?_; clear Z az; intro az Z
     refine Pl.MSP (b := true) (by kernel_rfl) (fun W oW => r_fa (m' := 0) Tryd.underlying55 rfl Tryd.sizeOf3 rfl Z rfl rfl) Z rfl rfl ?_; clear Z az; intro az Z
     refine Pl.MSP (b := true) (by kernel_rfl) (fun W oW => r_ld Tryd.isAgg3 Z rfl ((Blk.ca (Blk.k B172 oW)) 0 _ rfl)) Z rfl rfl ?_; clear Z az; intro az Z
     have r173 := (ow_k (ow_only (ow_k r155 o146) o159 (ow_ne (ow_k r155 o146) r151 (by decide))) o171)
     have h174 := Row.ownN KInt r173 hDl hDok
     have hk175 : q80 < 8 := by omega
     have hk176 : q80 < (D).length := by omega
     obtain ⟨m177, hm178, ok179, hA180⟩ := Row.el KInt h174 hk176
     have E181 : ∀ W, Only NoF w170 W → CA W (eA A23 1 (q80)) [.int .i64 (m177)] := Row.ce KInt h174 hm178 rfl
     have hdb := hon_bnd H168.h hm178 (by omega)
     refine Pl.MSP (b := true) (by kernel_rfl) (fun W oW => r_ia (k := q80) (size := 1) Tryd.underlying31 Tryd.sizeOf3 Z rfl rfl hq81 hk175 hA180) Z rfl rfl ?_; clear Z az; intro az Z
     refine Pl.MSP (b := true) (by kernel_rfl) (fun W oW => r_ld Tryd.isAgg3 Z rfl (CA.first (E181 _ (Only.trans' (Only.refl NoF w170) oW)))) Z rfl rfl ?_; clear Z az; intro az Z
     refine Pl.MSP (b := true) (by kernel_rfl) (fun W oW => r_fa (m' := 2) Tryd.underlying55 rfl Tryd.sizeOf3 rfl Z rfl rfl) Z rfl rfl ?_; clear Z az; intro az Z
     refine Pl.MSP (b := true) (by kernel_rfl) (fun W oW => r_ld Tryd.isAgg3 Z rfl ((Blk.ca (Blk.k B172 oW)) 2 _ rfl)) Z rfl rfl ?_; clear Z az; intro az Z
     refine Pl.MSP (b := true) (by kernel_rfl) (fun W oW => r_remI Z rfl rfl (by decide)) Z rfl rfl ?_; clear Z az; intro az Z
     have i182 : I64 (((Int.tmod m52.d 9) + 9)) := by unfold I64; omega
     refine Pl.MSP (b := true) (by kernel_rfl) (fun W oW => r_addI (r := ((Int.tmod m52.d 9) + 9)) Z rfl rfl rfl i182) Z rfl rfl ?_; clear Z az; intro az Z
     refine Pl.MSP (b := true) (by kernel_rfl) (fun W oW => r_remI Z rfl rfl (by decide)) Z rfl rfl ?_; clear Z az; intro az Z
     have i183 : I64 ((m177 + (Int.tmod ((Int.tmod m52.d 9) + 9) 9))) := by unfold I64; omega
     refine Pl.MSP (b := true) (by kernel_rfl) (fun W oW => r_addI (r := (m177 + (Int.tmod ((Int.tmod m52.d 9) + 9) 9))) Z rfl rfl rfl i183) Z rfl rfl ?_; clear Z az; intro az Z
     refine Pl.MSP (b := true) (by kernel_rfl) (fun W oW => r_ia (k := q80) (size := 1) Tryd.underlying31 Tryd.sizeOf3 Z rfl rfl hq81 hk175 hA180) Z rfl rfl ?_; clear Z az; intro az Z
     have hk191 : q80 < 8 := by omega
     refine Pl.MSSQ (k := q80) (x := (m177 + (Int.tmod ((Int.tmod m52.d 9) + 9) 9))) KInt Tryd.sizeOf3 Z rfl rfl rfl rfl rfl r173 hDl hk191 fun w184 o185 r186 => ?_
     obtain ⟨N187, hN188⟩ : ∃ N0, N0 = List.set D q80 (m177 + (Int.tmod ((Int.tmod m52.d 9) + 9) 9)) := ⟨_, rfl⟩
     rw [← hN188] at r186
     have hl189 : N187.length = 8 := by rw [hN188]; exact List.length_set.trans hDl
     have ok190 : ∀ zq ∈ N187, KInt.ok zq := by rw [hN188]; exact set_ok hDok (by show I64 _; unfold I64; omega)
     refine ⟨⟨fun h => absurd h (by decide), (Only.trans (Only.refl (ownF (.slice A23 (8) 8)) w170) o185 (fun _ h => .inl h))⟩, ?_⟩
     have hk192 : KOk (FK (.slice A14 (8) 8) (.slice A23 (8) 8) (.slice Ao (a.length) co)) w184 N161 := ((KOk.mv hk166 o171 (fun _ h => h.elim))).mv o185 FK.d
     have ha193 : OkNs (SKr (FK (.slice A14 (8) 8) (.slice A23 (8) 8) (.slice Ao (a.length) co)) w184) w184 a := OkNs.mv (OkNs.mv ha167 o171 (fun _ h => h.elim)) o185 FK.d
     refine wpPl_nil ?_
     refine k169 _ _ (wp_seq_k fun _ k194 => ?_)
     refine reg_p NoF 4 [7, 20, 21, 25, 26] (.rd 0 (.rd 1 (.rd 2 (.rd 3 (.rd 4 (.rd 5 (.rd 6 (.rd 8 (.rd 9 (.rd 10 (.rd 11 (.rd 12 (.rd 13 (.rd 14 (.rd 15 (.rd 16 (.rd 17 (.rd 18 (.rd 19 (.fork 7 (.fork 20 (.fork 21 (.rd 22 (.rd 23 (.rd 24 (.ex 25 (.ex 26 (.rd 27 .nil)))))) 25 (.ex 21 (.rd 22 (.rd 23 (.rd 24 (.ex 26 (.rd 27 .nil))))))) 25 (.ex 20 (.ex 21 (.rd 22 (.rd 23 (.rd 24 (.ex 26 (.rd 27 .nil)))))))) 25 (.ex 7 (.ex 20 (.ex 21 (.rd 22 (.rd 23 (.rd 24 (.ex 26 (.rd 27 .nil)))))))))))))))))))))))))))) (by kernel_rfl) (by kernel_rfl) (fun _ _ _ _ _ h => h) fun w195 o196 => ?_
     have B197 := (Blk.k (Blk.only B172 o185 (fun h => absurd ((ownF_lt rD) _ h) (Nat.not_lt.2 (Nat.le_trans (Nat.le_refl _) hg63)))) o196)
     refine Pl.MSP (b := true) (by kernel_rfl) (fun W oW => r_mv Z rfl) Z rfl rfl ?_; clear Z az; intro az Z
     refine Pl.MSP (b := true) (by kernel_rfl) (fun W oW => r_fa (m' := 0) Tryd.underlying55 rfl Tryd.sizeOf3 rfl Z rfl rfl) Z rfl rfl ?_; clear Z az; intro az Z
     refine Pl.MSP (b := true) (by kernel_rfl) (fun W oW => r_ld Tryd.isAgg3 Z rfl ((Blk.ca (Blk.k B197 oW)) 0 _ rfl)) Z rfl rfl ?_; clear Z az; intro az Z
     have r198 := (ow_k (ow_only (ow_k r160 o171) o185 (ow_ne (ow_k r160 o171) r173 (by decide))) o196)
     have h199 := Row.ownN KRr r198 hl163 ok164
     have hk200 : q80 < 8 := by omega
     have hk201 : q80 < (N161).length := by omega
     obtain ⟨m202, hm203, ok204, hA205⟩ := Row.el KRr h199 hk201
     have E206 : ∀ W, Only NoF w195 W → CA W (eA A14 1 (q80)) [.slice m202.A (m202.l.length) m202.c] := Row.ce KRr h199 hm203 rfl
     have hl207 := honk_len H168 (by omega) hm203
     refine Pl.MSP (b := true) (by kernel_rfl) (fun W oW => r_ia (k := q80) (size := 1) Tryd.underlying29 Tryd.sizeOf22 Z rfl rfl hq81 hk200 hA205) Z rfl rfl ?_; clear Z az; intro az Z
     refine Pl.MSP (b := true) (by kernel_rfl) (fun W oW => r_ld Tryd.isAgg22 Z rfl (CA.first (E206 _ (Only.trans' (Only.refl NoF w195) oW)))) Z rfl rfl ?_; clear Z az; intro az Z
     refine Pl.MSP (b := true) (by kernel_rfl) (fun W oW => r_fa (m' := 0) Tryd.underlying55 rfl Tryd.sizeOf3 rfl Z rfl rfl) Z rfl rfl ?_; clear Z az; intro az Z
     refine Pl.MSP (b := true) (by kernel_rfl) (fun W oW => r_ld Tryd.isAgg3 Z rfl ((Blk.ca (Blk.k B197 oW)) 0 _ rfl)) Z rfl rfl ?_; clear Z az; intro az Z
     refine Pl.MSP (b := true) (by kernel_rfl) (fun W oW => r_fa (m' := 0) Tryd.underlying55 rfl Tryd.sizeOf3 rfl Z rfl rfl) Z rfl rfl ?_; clear Z az; intro az Z
     refine Pl.MSP (b := true) (by kernel_rfl) (fun W oW => r_ld Tryd.isAgg3 Z rfl ((Blk.ca (Blk.k B197 oW)) 0 _ rfl)) Z rfl rfl ?_; clear Z az; intro az Z
     refine Pl.MSP (b := true) (by kernel_rfl) (fun W oW => r_mv Z rfl) Z rfl rfl ?_; clear Z az; intro az Z
     refine Pl.MSP (b := true) (by kernel_rfl) (fun W oW => r_fa (m' := 0) Tryd.underlying55 rfl Tryd.sizeOf3 rfl Z rfl rfl) Z rfl rfl ?_; clear Z az; intro az Z
     refine Pl.MSP (b := true) (by kernel_rfl) (fun W oW => r_ld Tryd.isAgg3 Z rfl ((Blk.ca (Blk.k B197 oW)) 0 _ rfl)) Z rfl rfl ?_; clear Z az; intro az Z
     have r208 := (ow_k r186 o196)
     have h209 := Row.ownN KInt r208 hl189 ok190
     have hk210 : q80 < 8 := by omega
     have hk211 : q80 < (N187).length := by omega
     obtain ⟨m212, hm213, ok214, hA215⟩ := Row.el KInt h209 hk211
     have E216 : ∀ W, Only NoF w195 W → CA W (eA A23 1 (q80)) [.int .i64 (m212)] := Row.ce KInt h209 hm213 rfl
     have hdv : m212 = (m177 + (Int.tmod ((Int.tmod m52.d 9) + 9) 9)) := by have h0 := hm213; rw [hN188, List.getElem?_set_self (by omega)] at h0; exact (Option.some.inj h0).symm
     refine Pl.MSP (b := true) (by kernel_rfl) (fun W oW => r_ia (k := q80) (size := 1) Tryd.underlying31 Tryd.sizeOf3 Z rfl rfl hq81 hk210 hA215) Z rfl rfl ?_; clear Z az; intro az Z
     refine Pl.MSP (b := true) (by kernel_rfl) (fun W oW => r_ld Tryd.isAgg3 Z rfl (CA.first (E216 _ (Only.trans' (Only.refl NoF w195) oW)))) Z rfl rfl ?_; clear Z az; intro az Z
     refine Pl.MSP (b := true) (by kernel_rfl) (fun W oW => r_mv Z rfl) Z rfl rfl ?_; clear Z az; intro az Z
     refine Pl.MSP (b := true) (by kernel_rfl) (fun W oW => r_fa (m' := 0) Tryd.underlying55 rfl Tryd.sizeOf3 rfl Z rfl rfl) Z rfl rfl ?_; clear Z az; intro az Z
     refine Pl.MSP (b := true) (by kernel_rfl) (fun W oW => r_ld Tryd.isAgg3 Z rfl ((Blk.ca (Blk.k B197 oW)) 0 _ rfl)) Z rfl rfl ?_; clear Z az; intro az Z
     refine Pl.MSP (b := true) (by kernel_rfl) (fun W oW => r_ia (k := q80) (size := 1) Tryd.underlying29 Tryd.sizeOf22 Z rfl rfl hq81 hk200 hA205) Z rfl rfl ?_; clear Z az; intro az Z
     refine Pl.MSP (b := true) (by kernel_rfl) (fun W oW => r_ld Tryd.isAgg22 Z rfl (CA.first (E206 _ (Only.trans' (Only.refl NoF w195) oW)))) Z rfl rfl ?_; clear Z az; intro az Z
     refine wpPl_fork ?_ ?_
     ·
      have O218 : Only NoF w w195 := (Only.trans' (o_sg (Only.trans' (o_sg (Only.trans' O138 o146) o159 (size_only o5) (ownF_ge rK)) o171) o185 (size_only o5) (ownF_ge rD)) o196)
      have G217 := Gr.k hG O218
      have hC226 := Past_v_ G217 (NtV.k (hk192 _ (List.mem_of_getElem? hm203)).nt o196) (by omega) m52.h
      refine Pl.MSC Z rfl rfl rfl Tryd.call16 (hC226) rfl ?_
      rintro e w227 ⟨A219, c220, L221, rfl, hL222, hS223, hN224, o225⟩; refine ⟨_, rfl, ⟨fun _ => o225, (Only.trans (Only.refl NoF w195) o225 (fun _ h => h.elim))⟩, ?_⟩
      clear Z az; intro az Z
      have nt228 : NtV w227 (.slice A219 (L221.length) c220) L221 := ⟨SliceOf.pl hS223, OkNs.pl hN224⟩
      have hm229 : L221.length ≤ 1000000 := (pst_lim hL222)
      have hpl := honk_past H168 (by omega) hm203 hL222
      refine wpPl_fork ?_ ?_
      ·
       have O231 : Only NoF w w227 := (Only.trans' O218 o225)
       have G230 := Gr.k hG O231
       have O232 : Only NoF w184 w227 := (Only.trans' o196 o225)
       have hC238 := wants_v_ G230 (NtV.k (hk192 _ (List.mem_of_getElem? hm203)).nt O232) (by omega)
       refine Pl.MSC Z rfl rfl rfl Tryd.call30 (hC238) rfl ?_
       rintro e w239 ⟨A233, c234, rfl, r235, ok237, o236⟩; refine ⟨_, rfl, ⟨fun _ => (Only.trans' o225 o236), (Only.trans (Only.trans (Only.refl NoF w195) o225 (fun _ h => h.elim)) o236 (fun _ h => h.elim))⟩, ?_⟩
       clear Z az; intro az Z
       have hw8 := honk_wants H168 (by omega) hm203
       refine wpPl_fork ?_ ?_
       ·
        have hz := honk_check H168 (by omega) hm203 hm178 (e2 := m212) (by omega) hq81 hL222
        have h245 := Row.own KRef r235 ok237
        have h246 := SliceOf.pl h245
        have hC247 := next39 (NtV.notes (NtV.k nt228 o236)) h246 (by unfold I64; omega) (by unfold I64; omega) (t := [116]) (by decide) (by omega) (by omega) hz
        refine Pl.MSC Z rfl rfl rfl Tryd.call29 (hC247) rfl ?_
        rintro e w248 ⟨A240, c241, rfl, o242, ok243, sg244⟩; refine ⟨_, rfl, ⟨fun _ => (Only.trans' (Only.trans' o225 o236) o242), (Only.trans (Only.trans (Only.trans (Only.refl NoF w195) o225 (fun _ h => h.elim)) o236 (fun _ h => h.elim)) o242 (fun _ h => h.elim))⟩, ?_⟩
        clear Z az; intro az Z
        refine Pl.MSP (b := true) (by kernel_rfl) (fun W oW => r_mv Z rfl) Z rfl rfl ?_; clear Z az; intro az Z
        refine Pl.MSP (b := true) (by kernel_rfl) (fun W oW => r_ex Z rfl rfl) Z rfl rfl ?_; clear Z az; intro az Z
        refine Pl.MSP (b := false) (by kernel_rfl) (fun W oW => r_ex Z rfl rfl) Z rfl rfl ?_; clear Z az; intro az Z
        obtain ⟨g249, w250, hw, hA, hg253, hl254, o251, B252⟩ := newBlk (w := w248) (e := 42) (cs := [.int .i64 (0), .int .i64 (0), .int .i64 (0), .slice none (0) 0, strV ([])])
        refine Pl.MD (r_al (v := .agg #[.int .i64 (0), .int .i64 (0), .int .i64 (0), .slice none (0) 0, strV ([])]) Tryd.zeroValue42 rfl) Z rfl rfl ?_ ?_
        · rw [← hw]; exact ⟨fun _ => (Only.trans' (Only.trans' (Only.trans' o225 o236) o242) o251), (Only.trans (Only.trans (Only.trans (Only.trans (Only.refl NoF w195) o225 (fun _ h => h.elim)) o236 (fun _ h => h.elim)) o242 (fun _ h => h.elim)) o251 (fun _ h => h.elim))⟩
        rw [← hw, ← hA]; clear Z az; intro az Z
        clear hw hA
        refine Pl.MSS (cs' := [.int .i64 (m52.h), .int .i64 (((L221.length : Nat) : Int)), .int .i64 (m212), .slice A240 ((wantsN (headsN (joinN m202.l))).length) c241, strV ([116])]) Tryd.sizeOf42 Z rfl rfl rfl rfl rfl rfl ⟨rfl, rfl, rfl, rfl, rfl, trivial⟩ B252 rfl rfl fun w255 s256 B257 => ?_
        have O258 : Only NoF w195 w248 := (Only.trans' (Only.trans' o225 o236) o242)
        refine ⟨⟨fun h => absurd h (by decide), (Only.trans (Only.trans (Only.trans (Only.trans (Only.trans (Only.refl NoF w195) o225 (fun _ h => h.elim)) o236 (fun _ h => h.elim)) o242 (fun _ h => h.elim)) o251 (fun _ h => h.elim)) s256 (fun k h => .inr (Nat.le_trans (size_only O258) ((oneF_ge hg253) k h))))⟩, ?_⟩
        refine Pl.MSP (b := false) (by kernel_rfl) (fun W oW => r_as Z rfl) Z rfl rfl ?_; clear Z az; intro az Z
        refine wpPl_nil ?_
        refine k194 _ _ (wp_seq_k fun _ k259 => ?_)
        refine wp_seq_k fun _ k260 => wp_region_lit ?_
        refine L (r_mv Z rfl) Z rfl ?_; clear Z az; intro az Z
        refine L ((r_cast (b := false) (r_neRI Z rfl rfl) (by decide))) Z rfl ?_; clear Z az; intro az Z
        refine k260 _ _ ?_
        refine br_false Z rfl ?_
        refine wp_skip ?_
        refine k259 _ _ (wp_seq_k fun _ k261 => ?_)
        refine reg_p (ownF (.slice A14 (8) 8)) 2 [9, 10, 12] (.rd 0 (.rd 1 (.rd 2 (.rd 3 (.rd 4 (.rd 5 (.rd 6 (.rd 7 (.rd 8 (.ex 9 (.ex 10 (.rd 11 (.ex 12 .nil))))))))))))) (by kernel_rfl) (by kernel_rfl) (fun _ _ _ _ _ h => h) fun w262 o263 => ?_
        have O265 := (Only.trans (Only.trans (Only.trans (Only.trans (Only.trans (Only.trans (Only.trans (Only.trans (Only.trans (Only.trans (Only.trans (Only.trans (Only.refl (fun _ => True) w60) s66 (fun _ _ => .inl trivial)) o91 (fun _ _ => .inl trivial)) o121 (fun _ _ => .inl trivial)) o132 (fun _ _ => .inl trivial)) o146 (fun _ _ => .inl trivial)) o159 (fun _ _ => .inl trivial)) o171 (fun _ _ => .inl trivial)) o185 (fun _ _ => .inl trivial)) o196 (fun _ _ => .inl trivial)) o225 (fun _ _ => .inl trivial)) o236 (fun _ _ => .inl trivial)) o242 (fun _ _ => .inl trivial))
        have ne264 : g59 ≠ g249 := (ne_of hl64 (Nat.le_trans (size_only O265) hg253))
        have B266 := (Blk.k (Blk.st (Blk.k (Blk.k (Blk.k (Blk.k B197 o225) o236) o242) o251) s256 ne264) o263)
        have B267 := (Blk.k B257 o263)
        refine Pl.MSP (b := true) (by kernel_rfl) (fun W oW => r_mv Z rfl) Z rfl rfl ?_; clear Z az; intro az Z
        refine Pl.MSP (b := true) (by kernel_rfl) (fun W oW => r_fa (m' := 0) Tryd.underlying55 rfl Tryd.sizeOf3 rfl Z rfl rfl) Z rfl rfl ?_; clear Z az; intro az Z
        refine Pl.MSP (b := true) (by kernel_rfl) (fun W oW => r_ld Tryd.isAgg3 Z rfl ((Blk.ca (Blk.k B266 oW)) 0 _ rfl)) Z rfl rfl ?_; clear Z az; intro az Z
        refine Pl.MSP (b := true) (by kernel_rfl) (fun W oW => r_mv Z rfl) Z rfl rfl ?_; clear Z az; intro az Z
        refine Pl.MSP (b := true) (by kernel_rfl) (fun W oW => r_fa (m' := 0) Tryd.underlying55 rfl Tryd.sizeOf3 rfl Z rfl rfl) Z rfl rfl ?_; clear Z az; intro az Z
        refine Pl.MSP (b := true) (by kernel_rfl) (fun W oW => r_ld Tryd.isAgg3 Z rfl ((Blk.ca (Blk.k B266 oW)) 0 _ rfl)) Z rfl rfl ?_; clear Z az; intro az Z
        have O268 := (Only.trans (Only.trans (Only.trans (Only.trans (Only.trans (Only.trans (Only.trans (Only.trans (Only.trans (Only.trans (Only.trans (Only.trans (Only.trans (Only.refl (fun _ => True) w42) o61 (fun _ _ => .inl trivial)) s66 (fun _ _ => .inl trivial)) o91 (fun _ _ => .inl trivial)) o121 (fun _ _ => .inl trivial)) o132 (fun _ _ => .inl trivial)) o146 (fun _ _ => .inl trivial)) o159 (fun _ _ => .inl trivial)) o171 (fun _ _ => .inl trivial)) o185 (fun _ _ => .inl trivial)) o196 (fun _ _ => .inl trivial)) o225 (fun _ _ => .inl trivial)) o236 (fun _ _ => .inl trivial)) o242 (fun _ _ => .inl trivial))
        have r269 := (ow_k (ow_only (ow_k (ow_k (ow_k (ow_k r198 o225) o236) o242) o251) s256 (fun k hk => lt_F (oneF_ge hg253) (size_only O268) k (ownF_lt rK k hk))) o263)
        have h270 := Row.ownN KRr r269 hl163 ok164
        refine Pl.MSP (b := true) (by kernel_rfl) (fun W oW => r_ia (k := q80) (size := 1) Tryd.underlying29 Tryd.sizeOf22 Z rfl rfl hq81 hk200 hA205) Z rfl rfl ?_; clear Z az; intro az Z
        have O271 : Only NoF w195 w262 := (Only.trans' (o_sg (Only.trans' O258 o251) s256 (size_only O258) (oneF_ge hg253)) o263)
        refine Pl.MSP (b := true) (by kernel_rfl) (fun W oW => r_ld Tryd.isAgg22 Z rfl (CA.first (E206 _ (Only.trans' O271 oW)))) Z rfl rfl ?_; clear Z az; intro az Z
        refine Pl.MSP (b := true) (by kernel_rfl) (fun W oW => r_ldA Tryd.isAgg42 Tryd.sizeOf42 Z rfl (Blk.ca (Blk.k B267 oW)) rfl) Z rfl rfl ?_; clear Z az; intro az Z
        obtain ⟨A272, w273, hw, hA, r274, o275⟩ := Row.made (w := w262) KN0 (e := 42) ([(⟨m52.h, ((L221.length : Nat) : Int), m212, A240, (wantsN (headsN (joinN m202.l))), c241, [116]⟩ : NM)] : List NM) (by simp only [List.length_cons, List.length_nil]; unfold maxLen; omega)
        refine Pl.MD (r_bs (z := .agg #[.int .i64 (0), .int .i64 (0), .int .i64 (0), .slice none (0) 0, strV ([])]) (size := 5) (vs := [(0, .agg #[.int .i64 (m52.h), .int .i64 (((L221.length : Nat) : Int)), .int .i64 (m212), .slice A240 ((wantsN (headsN (joinN m202.l))).length) c241, strV ([116])])]) (cs := List.flatMap KN0.cells [(⟨m52.h, ((L221.length : Nat) : Int), m212, A240, (wantsN (headsN (joinN m202.l))), c241, [116]⟩ : NM)]) Tryd.underlying22 Tryd.sizeOf42 Tryd.zeroValue42 rfl (Fr.evalps Z rfl) (by kernel_rfl)) Z rfl rfl ?_ ?_
        · rw [← hw]; exact ⟨fun _ => o275, (Only.trans (Only.refl (ownF (.slice A14 (8) 8)) w262) o275 (fun _ h => h.elim))⟩
        rw [← hw, ← hA]; clear Z az; intro az Z
        clear hw hA
        have ok276 : ∀ zq ∈ ([(⟨m52.h, ((L221.length : Nat) : Int), m212, A240, (wantsN (headsN (joinN m202.l))), c241, [116]⟩ : NM)] : List NM), KN0.ok zq := by intro zq hx; simp only [List.mem_cons, List.not_mem_nil, or_false] at hx; rcases hx with rfl <;> first | exact trivial
        have O278 : Only NoF w w248 := (Only.trans' (Only.trans' O231 o236) o242)
        have O279 : Only NoF w w273 := (Only.trans' (Only.trans' (o_sg (Only.trans' (Only.trans' (Only.trans' O231 o236) o242) o251) s256 (size_only O278) (oneF_ge hg253)) o263) o275)
        have G277 := Gr.k hG O279
        have O280 : Only NoF w184 w248 := (Only.trans' (Only.trans' O232 o236) o242)
        have O281 : Only NoF w184 w273 := (Only.trans' (Only.trans' (o_sg (Only.trans' (Only.trans' (Only.trans' O232 o236) o242) o251) s256 (size_only O280) (oneF_ge hg253)) o263) o275)
        have O282 : Only NoF w248 w273 := (Only.trans' (Only.trans' (o_sg o251 s256 (Nat.le_refl _) (oneF_ge hg253)) o263) o275)
        have h283 := (SliceOf.kp sg244 O282 (fun _ _ h => h) (fun _ _ _ _ h => h))
        have h284 := SliceOf.pl h283
        have nt285 : NtV w273 (.slice A272 (List.length ([(⟨m52.h, ((L221.length : Nat) : Int), m212, A240, (wantsN (headsN (joinN m202.l))), c241, [116]⟩ : NM)] : List NM)) 1) [(⟨m52.h, ((L221.length : Nat) : Int), m212, A240, (wantsN (headsN (joinN m202.l))), c241, [116]⟩ : NM)] := ⟨SliceOf.pl (Row.own KN0 r274 (fun _ _ => trivial)), (ok_cons (okN_mk (by unfold I64; omega) h284 (by unfold maxLen; decide)) OkNs.nil)⟩
        have hC293 := Join_v_ G277 (NtV.k (hk192 _ (List.mem_of_getElem? hm203)).nt O281) nt285 (by first | omega | (simp only [List.length_cons, List.length_nil]; omega))
        refine Pl.MSC Z rfl rfl rfl Tryd.call11 (hC293) rfl ?_
        rintro e w294 ⟨A286, c287, L288, rfl, hL289, hS290, hN291, o292⟩; refine ⟨_, rfl, ⟨fun _ => (Only.trans' o275 o292), (Only.trans (Only.trans (Only.refl (ownF (.slice A14 (8) 8)) w262) o275 (fun _ h => h.elim)) o292 (fun _ h => h.elim))⟩, ?_⟩
        clear Z az; intro az Z
        have nt295 : NtV w294 (.slice A286 (L288.length) c287) L288 := ⟨SliceOf.pl hS290, OkNs.pl hN291⟩
        have hm296 : L288.length ≤ 1000000 := (by have h0 := congrArg List.length hL289; rw [List.length_map] at h0; rw [h0]; exact Nat.le_trans (joinN_le _) (by (try simp only [List.length_append, List.length_cons, List.length_nil]); omega))
        have r297 := (ow_k (ow_k r269 o275) o292)
        have h298 := Row.ownN KRr r297 hl163 ok164
        refine Pl.MSP (b := true) (by kernel_rfl) (fun W oW => r_ia (k := q80) (size := 1) Tryd.underlying29 Tryd.sizeOf22 Z rfl rfl hq81 hk200 hA205) Z rfl rfl ?_; clear Z az; intro az Z
        have O299 : Only NoF w184 w294 := (Only.trans' O281 o292)
        have O301 : Only NoF w248 w294 := (Only.trans' O282 o292)
        have h302 := (SliceOf.kp sg244 O301 (fun _ _ h => h) (fun _ _ _ _ h => h))
        have r303 := (ow_k (ow_k r198 o225) o236)
        have r304 := (ow_k (ow_k r208 o225) o236)
        have r305 := (ow_k (ow_k (ow_k (ow_only (ow_k (ow_only (ow_k r156 o146) o159 (ow_ne (ow_k r156 o146) r151 (by decide))) o171) o185 (ow_ne (ow_k (ow_only (ow_k r156 o146) o159 (ow_ne (ow_k r156 o146) r151 (by decide))) o171) r173 (by decide))) o196) o225) o236)
        have hn300 : okN (SKr (FK (.slice A14 (8) 8) (.slice A23 (8) 8) (.slice Ao (a.length) co)) w294) w294 (⟨m52.h, ((L221.length : Nat) : Int), m212, A240, (wantsN (headsN (joinN m202.l))), c241, [116]⟩ : NM) := okN.new (okN_mk (by unfold I64; omega) h302 (by decide)) ((FK.lt (ownF_lt r303) (ownF_lt r304) (ownF_lt r305)))
        have r307 := (ow_k r269 o275)
        have r308 := (ow_k (ow_k (ow_only (ow_k (ow_k r304 o242) o251) s256 (fun k hk => lt_F (oneF_ge hg253) (size_only O268) k (ownF_lt rD k hk))) o263) o275)
        have r309 := (ow_k (ow_k (ow_only (ow_k (ow_k r305 o242) o251) s256 (fun k hk => lt_F (oneF_ge hg253) (size_only O268) k (ownF_lt rA k hk))) o263) o275)
        have hx306 : NtS (SKr (FK (.slice A14 (8) 8) (.slice A23 (8) 8) (.slice Ao (a.length) co)) w294) w294 (.slice A286 (L288.length) c287) L288 := (NtS.new hS290 hN291 (FK.lt (ownF_lt r307) (ownF_lt r308) (ownF_lt r309))).mv (Only.refl NoF w294) (fun _ h => h.elim)
        have hk310 := (KOk.mv hk192 O299 (fun _ h => h.elim))
        have hk318 : q80 < 8 := by omega
        refine Pl.MSSQ (k := q80) (x := (⟨A286, L288, c287⟩ : NR)) KRr Tryd.sizeOf22 Z rfl rfl rfl rfl rfl r297 hl163 hk318 fun w311 o312 r313 => ?_
        obtain ⟨N314, hN315⟩ : ∃ N0, N0 = List.set N161 q80 (⟨A286, L288, c287⟩ : NR) := ⟨_, rfl⟩
        rw [← hN315] at r313
        have hl316 : N314.length = 8 := by rw [hN315]; exact List.length_set.trans hl163
        have ok317 : ∀ zq ∈ N314, KRr.ok zq := by rw [hN315]; exact set_ok ok164 trivial
        refine ⟨⟨fun h => absurd h (by decide), (Only.trans (Only.trans (Only.trans (Only.refl (ownF (.slice A14 (8) 8)) w262) o275 (fun _ h => h.elim)) o292 (fun _ h => h.elim)) o312 (fun _ h => .inl h))⟩, ?_⟩
        have hk319 : KOk (FK (.slice A14 (8) 8) (.slice A23 (8) 8) (.slice Ao (a.length) co)) w311 N314 := by rw [hN315]; exact (KOk.set hk310 hx306).mv o312 FK.k
        have ha320 : OkNs (SKr (FK (.slice A14 (8) 8) (.slice A23 (8) 8) (.slice Ao (a.length) co)) w311) w311 a := OkNs.mv (OkNs.mv ha193 O299 (fun _ h => h.elim)) o312 FK.k
        have hn321 := okN.mv hn300 o312 FK.k
        have H322 := honk_seal H168 (by omega) hm203 hm178 (by omega) hq81 hL222 (X := (⟨A286, L288, c287⟩ : NR)) hL289
        rw [← hN315] at H322
        refine wpPl_nil ?_
        refine k261 _ _ ?_
        refine wp_region_lit ?_
        refine L (r_mv Z rfl) Z rfl ?_; clear Z az; intro az Z
        have B323 := (Blk.only (Blk.k (Blk.k B267 o275) o292) o312 (fun h => absurd ((ownF_lt rK) _ h) (Nat.not_lt.2 (Nat.le_trans (size_only O268) hg253))))
        refine L (r_ldA Tryd.isAgg42 Tryd.sizeOf42 Z rfl (Blk.ca B323) rfl) Z rfl ?_; clear Z az; intro az Z
        obtain ⟨A324, w325, hw, hA, r326, o327⟩ := Row.made (w := w311) KN0 (e := 42) ([(⟨m52.h, ((L221.length : Nat) : Int), m212, A240, (wantsN (headsN (joinN m202.l))), c241, [116]⟩ : NM)] : List NM) (by simp only [List.length_cons, List.length_nil]; unfold maxLen; omega)
        refine L (r_bs (z := .agg #[.int .i64 (0), .int .i64 (0), .int .i64 (0), .slice none (0) 0, strV ([])]) (size := 5) (vs := [(0, .agg #[.int .i64 (m52.h), .int .i64 (((L221.length : Nat) : Int)), .int .i64 (m212), .slice A240 ((wantsN (headsN (joinN m202.l))).length) c241, strV ([116])])]) (cs := List.flatMap KN0.cells [(⟨m52.h, ((L221.length : Nat) : Int), m212, A240, (wantsN (headsN (joinN m202.l))), c241, [116]⟩ : NM)]) Tryd.underlying22 Tryd.sizeOf42 Tryd.zeroValue42 rfl (Fr.evalps Z rfl) (by kernel_rfl)) Z rfl ?_
        rw [← hw, ← hA]; clear Z az; intro az Z
        clear hw hA
        have ok328 : ∀ zq ∈ ([(⟨m52.h, ((L221.length : Nat) : Int), m212, A240, (wantsN (headsN (joinN m202.l))), c241, [116]⟩ : NM)] : List NM), KN0.ok zq := by intro zq hx; simp only [List.mem_cons, List.not_mem_nil, or_false] at hx; rcases hx with rfl <;> first | exact trivial
        have hk329 := (KOk.mv hk319 o327 (fun _ h => h.elim))
        have ha330 := OkNs.app (OkNs.mv ha320 o327 (fun _ h => h.elim)) (okN.mv hn321 o327 (fun _ h => h.elim))
        have r332 := (ow_k (ow_only (ow_k r309 o292) o312 (ow_ne (ow_k r309 o292) r297 (by decide))) o327)
        have h333 := SliceOf.pl (Row.own KN0 r326 ok328)
        have hb341 : (List.length (a) + List.length ([(⟨m52.h, ((L221.length : Nat) : Int), m212, A240, (wantsN (headsN (joinN m202.l))), c241, [116]⟩ : NM)])) * 64 ≤ 140737488355328 := by (simp only [List.length_cons, List.length_nil]; omega)
        have O342 : Only NoF w4 w248 := (Only.trans' (Only.trans' (Only.trans' (Only.trans' (o_sg (Only.trans' (o_sg (Only.trans' (Only.trans' (Only.trans' (Only.trans' (o_sg (Only.trans' o43 o61) s66 (size_only o43) (oneF_ge hg63)) o91) o121) o132) o146) o159 (Nat.le_refl _) (ownF_ge rK)) o171) o185 (Nat.le_refl _) (ownF_ge rD)) o196) o225) o236) o242)
        have O343 : Only NoF w4 w325 := (Only.trans' (o_sg (Only.trans' (Only.trans' (Only.trans' (o_sg (Only.trans' (Only.trans' (Only.trans' (Only.trans' (Only.trans' (o_sg (Only.trans' (o_sg (Only.trans' (Only.trans' (Only.trans' (Only.trans' (o_sg (Only.trans' o43 o61) s66 (size_only o43) (oneF_ge hg63)) o91) o121) o132) o146) o159 (Nat.le_refl _) (ownF_ge rK)) o171) o185 (Nat.le_refl _) (ownF_ge rD)) o196) o225) o236) o242) o251) s256 (size_only O342) (oneF_ge hg253)) o263) o275) o292) o312 (Nat.le_refl _) (ownF_ge rK)) o327)
        obtain ⟨A334, c335, w336, hr337, r338, o339, al340⟩ := Row.app (P := Tryd.prog) (l := a) (l2 := [(⟨m52.h, ((L221.length : Nat) : Int), m212, A240, (wantsN (headsN (joinN m202.l))), c241, [116]⟩ : NM)]) KN0 elemNote r332 h333 hb341 (by unfold maxLen; omega) (size_only O343)
        refine L (r_app hr337 Z rfl rfl) Z rfl ?_; clear Z az; intro az Z
        have ok344 : ∀ zq ∈ (a ++ [(⟨m52.h, ((L221.length : Nat) : Int), m212, A240, (wantsN (headsN (joinN m202.l))), c241, [116]⟩ : NM)]), KN0.ok zq := (fun x hx => (List.mem_append.1 hx).elim ((fun _ _ => trivial) x) ((Row.oks KN0 h333) x))
        have h345 := Row.own KN0 r338 ok344
        have hf346 : ∀ k, FK (.slice A14 (8) 8) (.slice A23 (8) 8) (.slice A334 (((a ++ [(⟨m52.h, ((L221.length : Nat) : Int), m212, A240, (wantsN (headsN (joinN m202.l))), c241, [116]⟩ : NM)])).length) c335) k → FK (.slice A14 (8) 8) (.slice A23 (8) 8) (.slice Ao (a.length) co) k ∨ w325.heap.size ≤ k := FK.ap fun k h => (app_Fg al340 h).elim .inl (fun h => .inr (by omega))
        have hk347 : KOk (FK (.slice A14 (8) 8) (.slice A23 (8) 8) (.slice A334 (((a ++ [(⟨m52.h, ((L221.length : Nat) : Int), m212, A240, (wantsN (headsN (joinN m202.l))), c241, [116]⟩ : NM)])).length) c335)) w336 N314 := KOk.mvA hk329 o339 FK.a hf346
        have ha348 := OkNs.mvA ha330 o339 FK.a hf346
        refine L (r_as Z rfl) Z rfl ?_; clear Z az; intro az Z
        refine k49 _ _ ?_
        refine wp_region_lit ?_
        refine L (r_mv Z rfl) Z rfl ?_; clear Z az; intro az Z
        have i349 : I64 (((i : Int) + 1)) := by unfold I64; omega
        refine L (r_addI (r := ((i : Int) + 1)) Z rfl rfl rfl i349) Z rfl ?_; clear Z az; intro az Z
        refine L (r_as Z rfl) Z rfl ?_; clear Z az; intro az Z
        have he9 : List.set D q80 m212 = N187 := by rw [hdv]; exact hN188.symm
        have H350 : HonK N314 N187 (List.map ns (a ++ [(⟨m52.h, ((L221.length : Nat) : Int), m212, A240, (wantsN (headsN (joinN m202.l))), c241, [116]⟩ : NM)])) (i + 1) := by have h0 := H322; rw [he9] at h0; exact h0
        have O351 : Only NoF w4 w336 := (o_sg O343 o339 (Nat.le_refl _) (ownF_ge rA))
        have r352 := (ow_only (ow_k r313 o327) o339 (ow_ne (ow_k r313 o327) r332 (by decide)))
        have r353 := (ow_only (ow_k (ow_only (ow_k r308 o292) o312 (ow_ne (ow_k r308 o292) r297 (by decide))) o327) o339 (ow_ne (ow_k (ow_only (ow_k r308 o292) o312 (ow_ne (ow_k r308 o292) r297 (by decide))) o327) r332 (by decide)))
        exact ⟨_, (by omega), i + 1, N314, N187, (a ++ [(⟨m52.h, ((L221.length : Nat) : Int), m212, A240, (wantsN (headsN (joinN m202.l))), c241, [116]⟩ : NM)]), A334, c335, rfl, Z.cut ⟨rfl, rfl, rfl, rfl, rfl, rfl, rfl, trivial⟩, (by omega), H350, hl316, hl189, O351, r352, r353, r338, hk347, ha348⟩
       ·
        obtain ⟨g354, w355, hw, hA, hg358, hl359, o356, B357⟩ := newBlk (w := w239) (e := 42) (cs := [.int .i64 (0), .int .i64 (0), .int .i64 (0), .slice none (0) 0, strV ([])])
        refine Pl.MD (r_al (v := .agg #[.int .i64 (0), .int .i64 (0), .int .i64 (0), .slice none (0) 0, strV ([])]) Tryd.zeroValue42 rfl) Z rfl rfl ?_ ?_
        · rw [← hw]; exact ⟨fun _ => (Only.trans' (Only.trans' o225 o236) o356), (Only.trans (Only.trans (Only.trans (Only.refl NoF w195) o225 (fun _ h => h.elim)) o236 (fun _ h => h.elim)) o356 (fun _ h => h.elim))⟩
        rw [← hw, ← hA]; clear Z az; intro az Z
        clear hw hA
        have hz := honk_check H168 (by omega) hm203 hm178 (e2 := m212) (by omega) hq81 hL222
        have O365 : Only NoF w227 w355 := (Only.trans' o236 o356)
        have h366 := Row.own KRef r235 ok237
        have h367 := (SliceOf.kp h366 o356 (fun _ _ h => h) (fun _ _ _ _ h => h))
        have h368 := SliceOf.pl h367
        have hC369 := next39 (NtV.notes (NtV.k nt228 O365)) h368 (by unfold I64; omega) (by unfold I64; omega) (t := [116]) (by decide) (by omega) (by omega) hz
        refine Pl.MSC Z rfl rfl rfl Tryd.call29 (hC369) rfl ?_
        rintro e w370 ⟨A360, c361, rfl, o362, ok363, sg364⟩; refine ⟨_, rfl, ⟨fun _ => (Only.trans' (Only.trans' (Only.trans' o225 o236) o356) o362), (Only.trans (Only.trans (Only.trans (Only.trans (Only.refl NoF w195) o225 (fun _ h => h.elim)) o236 (fun _ h => h.elim)) o356 (fun _ h => h.elim)) o362 (fun _ h => h.elim))⟩, ?_⟩
        clear Z az; intro az Z
        refine Pl.MSP (b := true) (by kernel_rfl) (fun W oW => r_mv Z rfl) Z rfl rfl ?_; clear Z az; intro az Z
        refine Pl.MSP (b := true) (by kernel_rfl) (fun W oW => r_ex Z rfl rfl) Z rfl rfl ?_; clear Z az; intro az Z
        refine Pl.MSP (b := false) (by kernel_rfl) (fun W oW => r_ex Z rfl rfl) Z rfl rfl ?_; clear Z az; intro az Z
        have B371 := (Blk.k B357 o362)
        refine Pl.MSS (cs' := [.int .i64 (m52.h), .int .i64 (((L221.length : Nat) : Int)), .int .i64 (m212), .slice A360 ((wantsN (headsN (joinN m202.l))).length) c361, strV ([116])]) Tryd.sizeOf42 Z rfl rfl rfl rfl rfl rfl ⟨rfl, rfl, rfl, rfl, rfl, trivial⟩ B371 rfl rfl fun w372 s373 B374 => ?_
        have O375 : Only NoF w195 w239 := (Only.trans' o225 o236)
        refine ⟨⟨fun h => absurd h (by decide), (Only.trans (Only.trans (Only.trans (Only.trans (Only.trans (Only.refl NoF w195) o225 (fun _ h => h.elim)) o236 (fun _ h => h.elim)) o356 (fun _ h => h.elim)) o362 (fun _ h => h.elim)) s373 (fun k h => .inr (Nat.le_trans (size_only O375) ((oneF_ge hg358) k h))))⟩, ?_⟩
        refine Pl.MSP (b := false) (by kernel_rfl) (fun W oW => r_as Z rfl) Z rfl rfl ?_; clear Z az; intro az Z
        refine wpPl_nil ?_
        refine k194 _ _ (wp_seq_k fun _ k376 => ?_)
        refine wp_seq_k fun _ k377 => wp_region_lit ?_
        refine L (r_mv Z rfl) Z rfl ?_; clear Z az; intro az Z
        refine L ((r_cast (b := false) (r_neRI Z rfl rfl) (by decide))) Z rfl ?_; clear Z az; intro az Z
        refine k377 _ _ ?_
        refine br_false Z rfl ?_
        refine wp_skip ?_
        refine k376 _ _ (wp_seq_k fun _ k378 => ?_)
        refine reg_p (ownF (.slice A14 (8) 8)) 2 [9, 10, 12] (.rd 0 (.rd 1 (.rd 2 (.rd 3 (.rd 4 (.rd 5 (.rd 6 (.rd 7 (.rd 8 (.ex 9 (.ex 10 (.rd 11 (.ex 12 .nil))))))))))))) (by kernel_rfl) (by kernel_rfl) (fun _ _ _ _ _ h => h) fun w379 o380 => ?_
        have O382 := (Only.trans (Only.trans (Only.trans (Only.trans (Only.trans (Only.trans (Only.trans (Only.trans (Only.trans (Only.trans (Only.trans (Only.refl (fun _ => True) w60) s66 (fun _ _ => .inl trivial)) o91 (fun _ _ => .inl trivial)) o121 (fun _ _ => .inl trivial)) o132 (fun _ _ => .inl trivial)) o146 (fun _ _ => .inl trivial)) o159 (fun _ _ => .inl trivial)) o171 (fun _ _ => .inl trivial)) o185 (fun _ _ => .inl trivial)) o196 (fun _ _ => .inl trivial)) o225 (fun _ _ => .inl trivial)) o236 (fun _ _ => .inl trivial))
        have ne381 : g59 ≠ g354 := (ne_of hl64 (Nat.le_trans (size_only O382) hg358))
        have B383 := (Blk.k (Blk.st (Blk.k (Blk.k (Blk.k (Blk.k B197 o225) o236) o356) o362) s373 ne381) o380)
        have B384 := (Blk.k B374 o380)
        refine Pl.MSP (b := true) (by kernel_rfl) (fun W oW => r_mv Z rfl) Z rfl rfl ?_; clear Z az; intro az Z
        refine Pl.MSP (b := true) (by kernel_rfl) (fun W oW => r_fa (m' := 0) Tryd.underlying55 rfl Tryd.sizeOf3 rfl Z rfl rfl) Z rfl rfl ?_; clear Z az; intro az Z
        refine Pl.MSP (b := true) (by kernel_rfl) (fun W oW => r_ld Tryd.isAgg3 Z rfl ((Blk.ca (Blk.k B383 oW)) 0 _ rfl)) Z rfl rfl ?_; clear Z az; intro az Z
        refine Pl.MSP (b := true) (by kernel_rfl) (fun W oW => r_mv Z rfl) Z rfl rfl ?_; clear Z az; intro az Z
        refine Pl.MSP (b := true) (by kernel_rfl) (fun W oW => r_fa (m' := 0) Tryd.underlying55 rfl Tryd.sizeOf3 rfl Z rfl rfl) Z rfl rfl ?_; clear Z az; intro az Z
        refine Pl.MSP (b := true) (by kernel_rfl) (fun W oW => r_ld Tryd.isAgg3 Z rfl ((Blk.ca (Blk.k B383 oW)) 0 _ rfl)) Z rfl rfl ?_; clear Z az; intro az Z
        have O385 := (Only.trans (Only.trans (Only.trans (Only.trans (Only.trans (Only.trans (Only.trans (Only.trans (Only.trans (Only.trans (Only.trans (Only.trans (Only.refl (fun _ => True) w42) o61 (fun _ _ => .inl trivial)) s66 (fun _ _ => .inl trivial)) o91 (fun _ _ => .inl trivial)) o121 (fun _ _ => .inl trivial)) o132 (fun _ _ => .inl trivial)) o146 (fun _ _ => .inl trivial)) o159 (fun _ _ => .inl trivial)) o171 (fun _ _ => .inl trivial)) o185 (fun _ _ => .inl trivial)) o196 (fun _ _ => .inl trivial)) o225 (fun _ _ => .inl trivial)) o236 (fun _ _ => .inl trivial))
        have r386 := (ow_k (ow_only (ow_k (ow_k (ow_k (ow_k r198 o225) o236) o356) o362) s373 (fun k hk => lt_F (oneF_ge hg358) (size_only O385) k (ownF_lt rK k hk))) o380)
        have h387 := Row.ownN KRr r386 hl163 ok164
        refine Pl.MSP (b := true) (by kernel_rfl) (fun W oW => r_ia (k := q80) (size := 1) Tryd.underlying29 Tryd.sizeOf22 Z rfl rfl hq81 hk200 hA205) Z rfl rfl ?_; clear Z az; intro az Z
        have O388 : Only NoF w195 w379 := (Only.trans' (o_sg (Only.trans' (Only.trans' O375 o356) o362) s373 (size_only O375) (oneF_ge hg358)) o380)
        refine Pl.MSP (b := true) (by kernel_rfl) (fun W oW => r_ld Tryd.isAgg22 Z rfl (CA.first (E206 _ (Only.trans' O388 oW)))) Z rfl rfl ?_; clear Z az; intro az Z
        refine Pl.MSP (b := true) (by kernel_rfl) (fun W oW => r_ldA Tryd.isAgg42 Tryd.sizeOf42 Z rfl (Blk.ca (Blk.k B384 oW)) rfl) Z rfl rfl ?_; clear Z az; intro az Z
        obtain ⟨A389, w390, hw, hA, r391, o392⟩ := Row.made (w := w379) KN0 (e := 42) ([(⟨m52.h, ((L221.length : Nat) : Int), m212, A360, (wantsN (headsN (joinN m202.l))), c361, [116]⟩ : NM)] : List NM) (by simp only [List.length_cons, List.length_nil]; unfold maxLen; omega)
        refine Pl.MD (r_bs (z := .agg #[.int .i64 (0), .int .i64 (0), .int .i64 (0), .slice none (0) 0, strV ([])]) (size := 5) (vs := [(0, .agg #[.int .i64 (m52.h), .int .i64 (((L221.length : Nat) : Int)), .int .i64 (m212), .slice A360 ((wantsN (headsN (joinN m202.l))).length) c361, strV ([116])])]) (cs := List.flatMap KN0.cells [(⟨m52.h, ((L221.length : Nat) : Int), m212, A360, (wantsN (headsN (joinN m202.l))), c361, [116]⟩ : NM)]) Tryd.underlying22 Tryd.sizeOf42 Tryd.zeroValue42 rfl (Fr.evalps Z rfl) (by kernel_rfl)) Z rfl rfl ?_ ?_
        · rw [← hw]; exact ⟨fun _ => o392, (Only.trans (Only.refl (ownF (.slice A14 (8) 8)) w379) o392 (fun _ h => h.elim))⟩
        rw [← hw, ← hA]; clear Z az; intro az Z
        clear hw hA
        have ok393 : ∀ zq ∈ ([(⟨m52.h, ((L221.length : Nat) : Int), m212, A360, (wantsN (headsN (joinN m202.l))), c361, [116]⟩ : NM)] : List NM), KN0.ok zq := by intro zq hx; simp only [List.mem_cons, List.not_mem_nil, or_false] at hx; rcases hx with rfl <;> first | exact trivial
        have O395 : Only NoF w w239 := (Only.trans' O231 o236)
        have O396 : Only NoF w w390 := (Only.trans' (Only.trans' (o_sg (Only.trans' (Only.trans' (Only.trans' O231 o236) o356) o362) s373 (size_only O395) (oneF_ge hg358)) o380) o392)
        have G394 := Gr.k hG O396
        have O397 : Only NoF w184 w239 := (Only.trans' O232 o236)
        have O398 : Only NoF w184 w390 := (Only.trans' (Only.trans' (o_sg (Only.trans' (Only.trans' (Only.trans' O232 o236) o356) o362) s373 (size_only O397) (oneF_ge hg358)) o380) o392)
        have O399 : Only NoF w372 w390 := (Only.trans' o380 o392)
        have h400 := (SliceOf.kp (SliceOf.kp sg364 s373 (ge_F (oneF_lt hl359) (Nat.le_refl _)) (fun _ _ _ _ h => h)) O399 (fun _ _ h => h) (fun _ _ _ _ h => h))
        have h401 := SliceOf.pl h400
        have nt402 : NtV w390 (.slice A389 (List.length ([(⟨m52.h, ((L221.length : Nat) : Int), m212, A360, (wantsN (headsN (joinN m202.l))), c361, [116]⟩ : NM)] : List NM)) 1) [(⟨m52.h, ((L221.length : Nat) : Int), m212, A360, (wantsN (headsN (joinN m202.l))), c361, [116]⟩ : NM)] := ⟨SliceOf.pl (Row.own KN0 r391 (fun _ _ => trivial)), (ok_cons (okN_mk (by unfold I64; omega) h401 (by unfold maxLen; decide)) OkNs.nil)⟩
        have hC410 := Join_v_ G394 (NtV.k (hk192 _ (List.mem_of_getElem? hm203)).nt O398) nt402 (by first | omega | (simp only [List.length_cons, List.length_nil]; omega))
        refine Pl.MSC Z rfl rfl rfl Tryd.call11 (hC410) rfl ?_
        rintro e w411 ⟨A403, c404, L405, rfl, hL406, hS407, hN408, o409⟩; refine ⟨_, rfl, ⟨fun _ => (Only.trans' o392 o409), (Only.trans (Only.trans (Only.refl (ownF (.slice A14 (8) 8)) w379) o392 (fun _ h => h.elim)) o409 (fun _ h => h.elim))⟩, ?_⟩
        clear Z az; intro az Z
        have nt412 : NtV w411 (.slice A403 (L405.length) c404) L405 := ⟨SliceOf.pl hS407, OkNs.pl hN408⟩
        have hm413 : L405.length ≤ 1000000 := (by have h0 := congrArg List.length hL406; rw [List.length_map] at h0; rw [h0]; exact Nat.le_trans (joinN_le _) (by (try simp only [List.length_append, List.length_cons, List.length_nil]); omega))
        have r414 := (ow_k (ow_k r386 o392) o409)
        have h415 := Row.ownN KRr r414 hl163 ok164
        refine Pl.MSP (b := true) (by kernel_rfl) (fun W oW => r_ia (k := q80) (size := 1) Tryd.underlying29 Tryd.sizeOf22 Z rfl rfl hq81 hk200 hA205) Z rfl rfl ?_; clear Z az; intro az Z
        have O416 : Only NoF w184 w411 := (Only.trans' O398 o409)
        have h418 := (SliceOf.kp h400 o409 (fun _ _ h => h) (fun _ _ _ _ h => h))
        have r419 := (ow_k (ow_k (ow_k r198 o225) o236) o356)
        have r420 := (ow_k (ow_k (ow_k r208 o225) o236) o356)
        have r421 := (ow_k (ow_k (ow_k (ow_k (ow_only (ow_k (ow_only (ow_k r156 o146) o159 (ow_ne (ow_k r156 o146) r151 (by decide))) o171) o185 (ow_ne (ow_k (ow_only (ow_k r156 o146) o159 (ow_ne (ow_k r156 o146) r151 (by decide))) o171) r173 (by decide))) o196) o225) o236) o356)
        have hn417 : okN (SKr (FK (.slice A14 (8) 8) (.slice A23 (8) 8) (.slice Ao (a.length) co)) w411) w411 (⟨m52.h, ((L221.length : Nat) : Int), m212, A360, (wantsN (headsN (joinN m202.l))), c361, [116]⟩ : NM) := okN.new (okN_mk (by unfold I64; omega) h418 (by decide)) ((FK.lt (ownF_lt r419) (ownF_lt r420) (ownF_lt r421)))
        have r423 := (ow_k r386 o392)
        have r424 := (ow_k (ow_k (ow_only (ow_k r420 o362) s373 (fun k hk => lt_F (oneF_ge hg358) (size_only O385) k (ownF_lt rD k hk))) o380) o392)
        have r425 := (ow_k (ow_k (ow_only (ow_k r421 o362) s373 (fun k hk => lt_F (oneF_ge hg358) (size_only O385) k (ownF_lt rA k hk))) o380) o392)
        have hx422 : NtS (SKr (FK (.slice A14 (8) 8) (.slice A23 (8) 8) (.slice Ao (a.length) co)) w411) w411 (.slice A403 (L405.length) c404) L405 := (NtS.new hS407 hN408 (FK.lt (ownF_lt r423) (ownF_lt r424) (ownF_lt r425))).mv (Only.refl NoF w411) (fun _ h => h.elim)
        have hk426 := (KOk.mv hk192 O416 (fun _ h => h.elim))
        have hk434 : q80 < 8 := by omega
        refine Pl.MSSQ (k := q80) (x := (⟨A403, L405, c404⟩ : NR)) KRr Tryd.sizeOf22 Z rfl rfl rfl rfl rfl r414 hl163 hk434 fun w427 o428 r429 => ?_
        obtain ⟨N430, hN431⟩ : ∃ N0, N0 = List.set N161 q80 (⟨A403, L405, c404⟩ : NR) := ⟨_, rfl⟩
        rw [← hN431] at r429
        have hl432 : N430.length = 8 := by rw [hN431]; exact List.length_set.trans hl163
        have ok433 : ∀ zq ∈ N430, KRr.ok zq := by rw [hN431]; exact set_ok ok164 trivial
        refine ⟨⟨fun h => absurd h (by decide), (Only.trans (Only.trans (Only.trans (Only.refl (ownF (.slice A14 (8) 8)) w379) o392 (fun _ h => h.elim)) o409 (fun _ h => h.elim)) o428 (fun _ h => .inl h))⟩, ?_⟩
        have hk435 : KOk (FK (.slice A14 (8) 8) (.slice A23 (8) 8) (.slice Ao (a.length) co)) w427 N430 := by rw [hN431]; exact (KOk.set hk426 hx422).mv o428 FK.k
        have ha436 : OkNs (SKr (FK (.slice A14 (8) 8) (.slice A23 (8) 8) (.slice Ao (a.length) co)) w427) w427 a := OkNs.mv (OkNs.mv ha193 O416 (fun _ h => h.elim)) o428 FK.k
        have hn437 := okN.mv hn417 o428 FK.k
        have H438 := honk_seal H168 (by omega) hm203 hm178 (by omega) hq81 hL222 (X := (⟨A403, L405, c404⟩ : NR)) hL406
        rw [← hN431] at H438
        refine wpPl_nil ?_
        refine k378 _ _ ?_
        refine wp_region_lit ?_
        refine L (r_mv Z rfl) Z rfl ?_; clear Z az; intro az Z
        have B439 := (Blk.only (Blk.k (Blk.k B384 o392) o409) o428 (fun h => absurd ((ownF_lt rK) _ h) (Nat.not_lt.2 (Nat.le_trans (size_only O385) hg358))))
        refine L (r_ldA Tryd.isAgg42 Tryd.sizeOf42 Z rfl (Blk.ca B439) rfl) Z rfl ?_; clear Z az; intro az Z
        obtain ⟨A440, w441, hw, hA, r442, o443⟩ := Row.made (w := w427) KN0 (e := 42) ([(⟨m52.h, ((L221.length : Nat) : Int), m212, A360, (wantsN (headsN (joinN m202.l))), c361, [116]⟩ : NM)] : List NM) (by simp only [List.length_cons, List.length_nil]; unfold maxLen; omega)
        refine L (r_bs (z := .agg #[.int .i64 (0), .int .i64 (0), .int .i64 (0), .slice none (0) 0, strV ([])]) (size := 5) (vs := [(0, .agg #[.int .i64 (m52.h), .int .i64 (((L221.length : Nat) : Int)), .int .i64 (m212), .slice A360 ((wantsN (headsN (joinN m202.l))).length) c361, strV ([116])])]) (cs := List.flatMap KN0.cells [(⟨m52.h, ((L221.length : Nat) : Int), m212, A360, (wantsN (headsN (joinN m202.l))), c361, [116]⟩ : NM)]) Tryd.underlying22 Tryd.sizeOf42 Tryd.zeroValue42 rfl (Fr.evalps Z rfl) (by kernel_rfl)) Z rfl ?_
        rw [← hw, ← hA]; clear Z az; intro az Z
        clear hw hA
        have ok444 : ∀ zq ∈ ([(⟨m52.h, ((L221.length : Nat) : Int), m212, A360, (wantsN (headsN (joinN m202.l))), c361, [116]⟩ : NM)] : List NM), KN0.ok zq := by intro zq hx; simp only [List.mem_cons, List.not_mem_nil, or_false] at hx; rcases hx with rfl <;> first | exact trivial
        have hk445 := (KOk.mv hk435 o443 (fun _ h => h.elim))
        have ha446 := OkNs.app (OkNs.mv ha436 o443 (fun _ h => h.elim)) (okN.mv hn437 o443 (fun _ h => h.elim))
        have r448 := (ow_k (ow_only (ow_k r425 o409) o428 (ow_ne (ow_k r425 o409) r414 (by decide))) o443)
        have h449 := SliceOf.pl (Row.own KN0 r442 ok444)
        have hb457 : (List.length (a) + List.length ([(⟨m52.h, ((L221.length : Nat) : Int), m212, A360, (wantsN (headsN (joinN m202.l))), c361, [116]⟩ : NM)])) * 64 ≤ 140737488355328 := by (simp only [List.length_cons, List.length_nil]; omega)
        have O458 : Only NoF w4 w239 := (Only.trans' (Only.trans' (Only.trans' (o_sg (Only.trans' (o_sg (Only.trans' (Only.trans' (Only.trans' (Only.trans' (o_sg (Only.trans' o43 o61) s66 (size_only o43) (oneF_ge hg63)) o91) o121) o132) o146) o159 (Nat.le_refl _) (ownF_ge rK)) o171) o185 (Nat.le_refl _) (ownF_ge rD)) o196) o225) o236)
        have O459 : Only NoF w4 w441 := (Only.trans' (o_sg (Only.trans' (Only.trans' (Only.trans' (o_sg (Only.trans' (Only.trans' (Only.trans' (Only.trans' (Only.trans' (o_sg (Only.trans' (o_sg (Only.trans' (Only.trans' (Only.trans' (Only.trans' (o_sg (Only.trans' o43 o61) s66 (size_only o43) (oneF_ge hg63)) o91) o121) o132) o146) o159 (Nat.le_refl _) (ownF_ge rK)) o171) o185 (Nat.le_refl _) (ownF_ge rD)) o196) o225) o236) o356) o362) s373 (size_only O458) (oneF_ge hg358)) o380) o392) o409) o428 (Nat.le_refl _) (ownF_ge rK)) o443)
        obtain ⟨A450, c451, w452, hr453, r454, o455, al456⟩ := Row.app (P := Tryd.prog) (l := a) (l2 := [(⟨m52.h, ((L221.length : Nat) : Int), m212, A360, (wantsN (headsN (joinN m202.l))), c361, [116]⟩ : NM)]) KN0 elemNote r448 h449 hb457 (by unfold maxLen; omega) (size_only O459)
        refine L (r_app hr453 Z rfl rfl) Z rfl ?_; clear Z az; intro az Z
        have ok460 : ∀ zq ∈ (a ++ [(⟨m52.h, ((L221.length : Nat) : Int), m212, A360, (wantsN (headsN (joinN m202.l))), c361, [116]⟩ : NM)]), KN0.ok zq := (fun x hx => (List.mem_append.1 hx).elim ((fun _ _ => trivial) x) ((Row.oks KN0 h449) x))
        have h461 := Row.own KN0 r454 ok460
        have hf462 : ∀ k, FK (.slice A14 (8) 8) (.slice A23 (8) 8) (.slice A450 (((a ++ [(⟨m52.h, ((L221.length : Nat) : Int), m212, A360, (wantsN (headsN (joinN m202.l))), c361, [116]⟩ : NM)])).length) c451) k → FK (.slice A14 (8) 8) (.slice A23 (8) 8) (.slice Ao (a.length) co) k ∨ w441.heap.size ≤ k := FK.ap fun k h => (app_Fg al456 h).elim .inl (fun h => .inr (by omega))
        have hk463 : KOk (FK (.slice A14 (8) 8) (.slice A23 (8) 8) (.slice A450 (((a ++ [(⟨m52.h, ((L221.length : Nat) : Int), m212, A360, (wantsN (headsN (joinN m202.l))), c361, [116]⟩ : NM)])).length) c451)) w452 N430 := KOk.mvA hk445 o455 FK.a hf462
        have ha464 := OkNs.mvA ha446 o455 FK.a hf462
        refine L (r_as Z rfl) Z rfl ?_; clear Z az; intro az Z
        refine k49 _ _ ?_
        refine wp_region_lit ?_
        refine L (r_mv Z rfl) Z rfl ?_; clear Z az; intro az Z
        have i465 : I64 (((i : Int) + 1)) := by unfold I64; omega
        refine L (r_addI (r := ((i : Int) + 1)) Z rfl rfl rfl i465) Z rfl ?_; clear Z az; intro az Z
        refine L (r_as Z rfl) Z rfl ?_; clear Z az; intro az Z
        have he9 : List.set D q80 m212 = N187 := by rw [hdv]; exact hN188.symm
        have H466 : HonK N430 N187 (List.map ns (a ++ [(⟨m52.h, ((L221.length : Nat) : Int), m212, A360, (wantsN (headsN (joinN m202.l))), c361, [116]⟩ : NM)])) (i + 1) := by have h0 := H438; rw [he9] at h0; exact h0
        have O467 : Only NoF w4 w452 := (o_sg O459 o455 (Nat.le_refl _) (ownF_ge rA))
        have r468 := (ow_only (ow_k r429 o443) o455 (ow_ne (ow_k r429 o443) r448 (by decide)))
        have r469 := (ow_only (ow_k (ow_only (ow_k r424 o409) o428 (ow_ne (ow_k r424 o409) r414 (by decide))) o443) o455 (ow_ne (ow_k (ow_only (ow_k r424 o409) o428 (ow_ne (ow_k r424 o409) r414 (by decide))) o443) r448 (by decide)))
        exact ⟨_, (by omega), i + 1, N430, N187, (a ++ [(⟨m52.h, ((L221.length : Nat) : Int), m212, A360, (wantsN (headsN (joinN m202.l))), c361, [116]⟩ : NM)]), A450, c451, rfl, Z.cut ⟨rfl, rfl, rfl, rfl, rfl, rfl, rfl, trivial⟩, (by omega), H466, hl432, hl189, O467, r468, r469, r454, hk463, ha464⟩
      ·
       obtain ⟨g470, w471, hw, hA, hg474, hl475, o472, B473⟩ := newBlk (w := w227) (e := 42) (cs := [.int .i64 (0), .int .i64 (0), .int .i64 (0), .slice none (0) 0, strV ([])])
       refine Pl.MD (r_al (v := .agg #[.int .i64 (0), .int .i64 (0), .int .i64 (0), .slice none (0) 0, strV ([])]) Tryd.zeroValue42 rfl) Z rfl rfl ?_ ?_
       · rw [← hw]; exact ⟨fun _ => (Only.trans' o225 o472), (Only.trans (Only.trans (Only.refl NoF w195) o225 (fun _ h => h.elim)) o472 (fun _ h => h.elim))⟩
       rw [← hw, ← hA]; clear Z az; intro az Z
       clear hw hA
       have O477 : Only NoF w w471 := (Only.trans' (Only.trans' O218 o225) o472)
       have G476 := Gr.k hG O477
       have O478 : Only NoF w184 w471 := (Only.trans' (Only.trans' o196 o225) o472)
       have hC484 := wants_v_ G476 (NtV.k (hk192 _ (List.mem_of_getElem? hm203)).nt O478) (by omega)
       refine Pl.MSC Z rfl rfl rfl Tryd.call30 (hC484) rfl ?_
       rintro e w485 ⟨A479, c480, rfl, r481, ok483, o482⟩; refine ⟨_, rfl, ⟨fun _ => (Only.trans' (Only.trans' o225 o472) o482), (Only.trans (Only.trans (Only.trans (Only.refl NoF w195) o225 (fun _ h => h.elim)) o472 (fun _ h => h.elim)) o482 (fun _ h => h.elim))⟩, ?_⟩
       clear Z az; intro az Z
       have hw8 := honk_wants H168 (by omega) hm203
       have hz := honk_check H168 (by omega) hm203 hm178 (e2 := m212) (by omega) hq81 hL222
       have O491 : Only NoF w227 w485 := (Only.trans' o472 o482)
       have h492 := Row.own KRef r481 ok483
       have h493 := SliceOf.pl h492
       have hC494 := next39 (NtV.notes (NtV.k nt228 O491)) h493 (by unfold I64; omega) (by unfold I64; omega) (t := [116]) (by decide) (by omega) (by omega) hz
       refine Pl.MSC Z rfl rfl rfl Tryd.call29 (hC494) rfl ?_
       rintro e w495 ⟨A486, c487, rfl, o488, ok489, sg490⟩; refine ⟨_, rfl, ⟨fun _ => (Only.trans' (Only.trans' (Only.trans' o225 o472) o482) o488), (Only.trans (Only.trans (Only.trans (Only.trans (Only.refl NoF w195) o225 (fun _ h => h.elim)) o472 (fun _ h => h.elim)) o482 (fun _ h => h.elim)) o488 (fun _ h => h.elim))⟩, ?_⟩
       clear Z az; intro az Z
       refine Pl.MSP (b := true) (by kernel_rfl) (fun W oW => r_mv Z rfl) Z rfl rfl ?_; clear Z az; intro az Z
       refine Pl.MSP (b := true) (by kernel_rfl) (fun W oW => r_ex Z rfl rfl) Z rfl rfl ?_; clear Z az; intro az Z
       refine Pl.MSP (b := false) (by kernel_rfl) (fun W oW => r_ex Z rfl rfl) Z rfl rfl ?_; clear Z az; intro az Z
       have B496 := (Blk.k (Blk.k B473 o482) o488)
       refine Pl.MSS (cs' := [.int .i64 (m52.h), .int .i64 (((L221.length : Nat) : Int)), .int .i64 (m212), .slice A486 ((wantsN (headsN (joinN m202.l))).length) c487, strV ([116])]) Tryd.sizeOf42 Z rfl rfl rfl rfl rfl rfl ⟨rfl, rfl, rfl, rfl, rfl, trivial⟩ B496 rfl rfl fun w497 s498 B499 => ?_
       refine ⟨⟨fun h => absurd h (by decide), (Only.trans (Only.trans (Only.trans (Only.trans (Only.trans (Only.refl NoF w195) o225 (fun _ h => h.elim)) o472 (fun _ h => h.elim)) o482 (fun _ h => h.elim)) o488 (fun _ h => h.elim)) s498 (fun k h => .inr (Nat.le_trans (size_only o225) ((oneF_ge hg474) k h))))⟩, ?_⟩
       refine Pl.MSP (b := false) (by kernel_rfl) (fun W oW => r_as Z rfl) Z rfl rfl ?_; clear Z az; intro az Z
       refine wpPl_nil ?_
       refine k194 _ _ (wp_seq_k fun _ k500 => ?_)
       refine wp_seq_k fun _ k501 => wp_region_lit ?_
       refine L (r_mv Z rfl) Z rfl ?_; clear Z az; intro az Z
       refine L ((r_cast (b := false) (r_neRI Z rfl rfl) (by decide))) Z rfl ?_; clear Z az; intro az Z
       refine k501 _ _ ?_
       refine br_false Z rfl ?_
       refine wp_skip ?_
       refine k500 _ _ (wp_seq_k fun _ k502 => ?_)
       refine reg_p (ownF (.slice A14 (8) 8)) 2 [9, 10, 12] (.rd 0 (.rd 1 (.rd 2 (.rd 3 (.rd 4 (.rd 5 (.rd 6 (.rd 7 (.rd 8 (.ex 9 (.ex 10 (.rd 11 (.ex 12 .nil))))))))))))) (by kernel_rfl) (by kernel_rfl) (fun _ _ _ _ _ h => h) fun w503 o504 => ?_
       have O506 := (Only.trans (Only.trans (Only.trans (Only.trans (Only.trans (Only.trans (Only.trans (Only.trans (Only.trans (Only.trans (Only.refl (fun _ => True) w60) s66 (fun _ _ => .inl trivial)) o91 (fun _ _ => .inl trivial)) o121 (fun _ _ => .inl trivial)) o132 (fun _ _ => .inl trivial)) o146 (fun _ _ => .inl trivial)) o159 (fun _ _ => .inl trivial)) o171 (fun _ _ => .inl trivial)) o185 (fun _ _ => .inl trivial)) o196 (fun _ _ => .inl trivial)) o225 (fun _ _ => .inl trivial))
       have ne505 : g59 ≠ g470 := (ne_of hl64 (Nat.le_trans (size_only O506) hg474))
       have B507 := (Blk.k (Blk.st (Blk.k (Blk.k (Blk.k (Blk.k B197 o225) o472) o482) o488) s498 ne505) o504)
       have B508 := (Blk.k B499 o504)
       refine Pl.MSP (b := true) (by kernel_rfl) (fun W oW => r_mv Z rfl) Z rfl rfl ?_; clear Z az; intro az Z
       refine Pl.MSP (b := true) (by kernel_rfl) (fun W oW => r_fa (m' := 0) Tryd.underlying55 rfl Tryd.sizeOf3 rfl Z rfl rfl) Z rfl rfl ?_; clear Z az; intro az Z
       refine Pl.MSP (b := true) (by kernel_rfl) (fun W oW => r_ld Tryd.isAgg3 Z rfl ((Blk.ca (Blk.k B507 oW)) 0 _ rfl)) Z rfl rfl ?_; clear Z az; intro az Z
       refine Pl.MSP (b := true) (by kernel_rfl) (fun W oW => r_mv Z rfl) Z rfl rfl ?_; clear Z az; intro az Z
       refine Pl.MSP (b := true) (by kernel_rfl) (fun W oW => r_fa (m' := 0) Tryd.underlying55 rfl Tryd.sizeOf3 rfl Z rfl rfl) Z rfl rfl ?_; clear Z az; intro az Z
       refine Pl.MSP (b := true) (by kernel_rfl) (fun W oW => r_ld Tryd.isAgg3 Z rfl ((Blk.ca (Blk.k B507 oW)) 0 _ rfl)) Z rfl rfl ?_; clear Z az; intro az Z
       have O509 := (Only.trans (Only.trans (Only.trans (Only.trans (Only.trans (Only.trans (Only.trans (Only.trans (Only.trans (Only.trans (Only.trans (Only.refl (fun _ => True) w42) o61 (fun _ _ => .inl trivial)) s66 (fun _ _ => .inl trivial)) o91 (fun _ _ => .inl trivial)) o121 (fun _ _ => .inl trivial)) o132 (fun _ _ => .inl trivial)) o146 (fun _ _ => .inl trivial)) o159 (fun _ _ => .inl trivial)) o171 (fun _ _ => .inl trivial)) o185 (fun _ _ => .inl trivial)) o196 (fun _ _ => .inl trivial)) o225 (fun _ _ => .inl trivial))
       have r510 := (ow_k (ow_only (ow_k (ow_k (ow_k (ow_k r198 o225) o472) o482) o488) s498 (fun k hk => lt_F (oneF_ge hg474) (size_only O509) k (ownF_lt rK k hk))) o504)
       have h511 := Row.ownN KRr r510 hl163 ok164
       refine Pl.MSP (b := true) (by kernel_rfl) (fun W oW => r_ia (k := q80) (size := 1) Tryd.underlying29 Tryd.sizeOf22 Z rfl rfl hq81 hk200 hA205) Z rfl rfl ?_; clear Z az; intro az Z
       have O512 : Only NoF w195 w503 := (Only.trans' (o_sg (Only.trans' (Only.trans' (Only.trans' o225 o472) o482) o488) s498 (size_only o225) (oneF_ge hg474)) o504)
       refine Pl.MSP (b := true) (by kernel_rfl) (fun W oW => r_ld Tryd.isAgg22 Z rfl (CA.first (E206 _ (Only.trans' O512 oW)))) Z rfl rfl ?_; clear Z az; intro az Z
       refine Pl.MSP (b := true) (by kernel_rfl) (fun W oW => r_ldA Tryd.isAgg42 Tryd.sizeOf42 Z rfl (Blk.ca (Blk.k B508 oW)) rfl) Z rfl rfl ?_; clear Z az; intro az Z
       obtain ⟨A513, w514, hw, hA, r515, o516⟩ := Row.made (w := w503) KN0 (e := 42) ([(⟨m52.h, ((L221.length : Nat) : Int), m212, A486, (wantsN (headsN (joinN m202.l))), c487, [116]⟩ : NM)] : List NM) (by simp only [List.length_cons, List.length_nil]; unfold maxLen; omega)
       refine Pl.MD (r_bs (z := .agg #[.int .i64 (0), .int .i64 (0), .int .i64 (0), .slice none (0) 0, strV ([])]) (size := 5) (vs := [(0, .agg #[.int .i64 (m52.h), .int .i64 (((L221.length : Nat) : Int)), .int .i64 (m212), .slice A486 ((wantsN (headsN (joinN m202.l))).length) c487, strV ([116])])]) (cs := List.flatMap KN0.cells [(⟨m52.h, ((L221.length : Nat) : Int), m212, A486, (wantsN (headsN (joinN m202.l))), c487, [116]⟩ : NM)]) Tryd.underlying22 Tryd.sizeOf42 Tryd.zeroValue42 rfl (Fr.evalps Z rfl) (by kernel_rfl)) Z rfl rfl ?_ ?_
       · rw [← hw]; exact ⟨fun _ => o516, (Only.trans (Only.refl (ownF (.slice A14 (8) 8)) w503) o516 (fun _ h => h.elim))⟩
       rw [← hw, ← hA]; clear Z az; intro az Z
       clear hw hA
       have ok517 : ∀ zq ∈ ([(⟨m52.h, ((L221.length : Nat) : Int), m212, A486, (wantsN (headsN (joinN m202.l))), c487, [116]⟩ : NM)] : List NM), KN0.ok zq := by intro zq hx; simp only [List.mem_cons, List.not_mem_nil, or_false] at hx; rcases hx with rfl <;> first | exact trivial
       have O519 : Only NoF w w227 := (Only.trans' O218 o225)
       have O520 : Only NoF w w514 := (Only.trans' (Only.trans' (o_sg (Only.trans' (Only.trans' O477 o482) o488) s498 (size_only O519) (oneF_ge hg474)) o504) o516)
       have G518 := Gr.k hG O520
       have O521 : Only NoF w184 w227 := (Only.trans' o196 o225)
       have O522 : Only NoF w184 w514 := (Only.trans' (Only.trans' (o_sg (Only.trans' (Only.trans' O478 o482) o488) s498 (size_only O521) (oneF_ge hg474)) o504) o516)
       have O523 : Only NoF w497 w514 := (Only.trans' o504 o516)
       have h524 := (SliceOf.kp (SliceOf.kp sg490 s498 (ge_F (oneF_lt hl475) (size_only o482)) (fun _ _ _ _ h => h)) O523 (fun _ _ h => h) (fun _ _ _ _ h => h))
       have h525 := SliceOf.pl h524
       have nt526 : NtV w514 (.slice A513 (List.length ([(⟨m52.h, ((L221.length : Nat) : Int), m212, A486, (wantsN (headsN (joinN m202.l))), c487, [116]⟩ : NM)] : List NM)) 1) [(⟨m52.h, ((L221.length : Nat) : Int), m212, A486, (wantsN (headsN (joinN m202.l))), c487, [116]⟩ : NM)] := ⟨SliceOf.pl (Row.own KN0 r515 (fun _ _ => trivial)), (ok_cons (okN_mk (by unfold I64; omega) h525 (by unfold maxLen; decide)) OkNs.nil)⟩
       have hC534 := Join_v_ G518 (NtV.k (hk192 _ (List.mem_of_getElem? hm203)).nt O522) nt526 (by first | omega | (simp only [List.length_cons, List.length_nil]; omega))
       refine Pl.MSC Z rfl rfl rfl Tryd.call11 (hC534) rfl ?_
       rintro e w535 ⟨A527, c528, L529, rfl, hL530, hS531, hN532, o533⟩; refine ⟨_, rfl, ⟨fun _ => (Only.trans' o516 o533), (Only.trans (Only.trans (Only.refl (ownF (.slice A14 (8) 8)) w503) o516 (fun _ h => h.elim)) o533 (fun _ h => h.elim))⟩, ?_⟩
       clear Z az; intro az Z
       have nt536 : NtV w535 (.slice A527 (L529.length) c528) L529 := ⟨SliceOf.pl hS531, OkNs.pl hN532⟩
       have hm537 : L529.length ≤ 1000000 := (by have h0 := congrArg List.length hL530; rw [List.length_map] at h0; rw [h0]; exact Nat.le_trans (joinN_le _) (by (try simp only [List.length_append, List.length_cons, List.length_nil]); omega))
       have r538 := (ow_k (ow_k r510 o516) o533)
       have h539 := Row.ownN KRr r538 hl163 ok164
       refine Pl.MSP (b := true) (by kernel_rfl) (fun W oW => r_ia (k := q80) (size := 1) Tryd.underlying29 Tryd.sizeOf22 Z rfl rfl hq81 hk200 hA205) Z rfl rfl ?_; clear Z az; intro az Z
       have O540 : Only NoF w184 w535 := (Only.trans' O522 o533)
       have h542 := (SliceOf.kp h524 o533 (fun _ _ h => h) (fun _ _ _ _ h => h))
       have r543 := (ow_k (ow_k (ow_k r198 o225) o472) o482)
       have r544 := (ow_k (ow_k (ow_k r208 o225) o472) o482)
       have r545 := (ow_k (ow_k (ow_k (ow_k (ow_only (ow_k (ow_only (ow_k r156 o146) o159 (ow_ne (ow_k r156 o146) r151 (by decide))) o171) o185 (ow_ne (ow_k (ow_only (ow_k r156 o146) o159 (ow_ne (ow_k r156 o146) r151 (by decide))) o171) r173 (by decide))) o196) o225) o472) o482)
       have hn541 : okN (SKr (FK (.slice A14 (8) 8) (.slice A23 (8) 8) (.slice Ao (a.length) co)) w535) w535 (⟨m52.h, ((L221.length : Nat) : Int), m212, A486, (wantsN (headsN (joinN m202.l))), c487, [116]⟩ : NM) := okN.new (okN_mk (by unfold I64; omega) h542 (by decide)) ((FK.lt (ownF_lt r543) (ownF_lt r544) (ownF_lt r545)))
       have r547 := (ow_k r510 o516)
       have r548 := (ow_k (ow_k (ow_only (ow_k r544 o488) s498 (fun k hk => lt_F (oneF_ge hg474) (size_only O509) k (ownF_lt rD k hk))) o504) o516)
       have r549 := (ow_k (ow_k (ow_only (ow_k r545 o488) s498 (fun k hk => lt_F (oneF_ge hg474) (size_only O509) k (ownF_lt rA k hk))) o504) o516)
       have hx546 : NtS (SKr (FK (.slice A14 (8) 8) (.slice A23 (8) 8) (.slice Ao (a.length) co)) w535) w535 (.slice A527 (L529.length) c528) L529 := (NtS.new hS531 hN532 (FK.lt (ownF_lt r547) (ownF_lt r548) (ownF_lt r549))).mv (Only.refl NoF w535) (fun _ h => h.elim)
       have hk550 := (KOk.mv hk192 O540 (fun _ h => h.elim))
       have hk558 : q80 < 8 := by omega
       refine Pl.MSSQ (k := q80) (x := (⟨A527, L529, c528⟩ : NR)) KRr Tryd.sizeOf22 Z rfl rfl rfl rfl rfl r538 hl163 hk558 fun w551 o552 r553 => ?_
       obtain ⟨N554, hN555⟩ : ∃ N0, N0 = List.set N161 q80 (⟨A527, L529, c528⟩ : NR) := ⟨_, rfl⟩
       rw [← hN555] at r553
       have hl556 : N554.length = 8 := by rw [hN555]; exact List.length_set.trans hl163
       have ok557 : ∀ zq ∈ N554, KRr.ok zq := by rw [hN555]; exact set_ok ok164 trivial
       refine ⟨⟨fun h => absurd h (by decide), (Only.trans (Only.trans (Only.trans (Only.refl (ownF (.slice A14 (8) 8)) w503) o516 (fun _ h => h.elim)) o533 (fun _ h => h.elim)) o552 (fun _ h => .inl h))⟩, ?_⟩
       have hk559 : KOk (FK (.slice A14 (8) 8) (.slice A23 (8) 8) (.slice Ao (a.length) co)) w551 N554 := by rw [hN555]; exact (KOk.set hk550 hx546).mv o552 FK.k
       have ha560 : OkNs (SKr (FK (.slice A14 (8) 8) (.slice A23 (8) 8) (.slice Ao (a.length) co)) w551) w551 a := OkNs.mv (OkNs.mv ha193 O540 (fun _ h => h.elim)) o552 FK.k
       have hn561 := okN.mv hn541 o552 FK.k
       have H562 := honk_seal H168 (by omega) hm203 hm178 (by omega) hq81 hL222 (X := (⟨A527, L529, c528⟩ : NR)) hL530
       rw [← hN555] at H562
       refine wpPl_nil ?_
       refine k502 _ _ ?_
       refine wp_region_lit ?_
       refine L (r_mv Z rfl) Z rfl ?_; clear Z az; intro az Z
       have B563 := (Blk.only (Blk.k (Blk.k B508 o516) o533) o552 (fun h => absurd ((ownF_lt rK) _ h) (Nat.not_lt.2 (Nat.le_trans (size_only O509) hg474))))
       refine L (r_ldA Tryd.isAgg42 Tryd.sizeOf42 Z rfl (Blk.ca B563) rfl) Z rfl ?_; clear Z az; intro az Z
       obtain ⟨A564, w565, hw, hA, r566, o567⟩ := Row.made (w := w551) KN0 (e := 42) ([(⟨m52.h, ((L221.length : Nat) : Int), m212, A486, (wantsN (headsN (joinN m202.l))), c487, [116]⟩ : NM)] : List NM) (by simp only [List.length_cons, List.length_nil]; unfold maxLen; omega)
       refine L (r_bs (z := .agg #[.int .i64 (0), .int .i64 (0), .int .i64 (0), .slice none (0) 0, strV ([])]) (size := 5) (vs := [(0, .agg #[.int .i64 (m52.h), .int .i64 (((L221.length : Nat) : Int)), .int .i64 (m212), .slice A486 ((wantsN (headsN (joinN m202.l))).length) c487, strV ([116])])]) (cs := List.flatMap KN0.cells [(⟨m52.h, ((L221.length : Nat) : Int), m212, A486, (wantsN (headsN (joinN m202.l))), c487, [116]⟩ : NM)]) Tryd.underlying22 Tryd.sizeOf42 Tryd.zeroValue42 rfl (Fr.evalps Z rfl) (by kernel_rfl)) Z rfl ?_
       rw [← hw, ← hA]; clear Z az; intro az Z
       clear hw hA
       have ok568 : ∀ zq ∈ ([(⟨m52.h, ((L221.length : Nat) : Int), m212, A486, (wantsN (headsN (joinN m202.l))), c487, [116]⟩ : NM)] : List NM), KN0.ok zq := by intro zq hx; simp only [List.mem_cons, List.not_mem_nil, or_false] at hx; rcases hx with rfl <;> first | exact trivial
       have hk569 := (KOk.mv hk559 o567 (fun _ h => h.elim))
       have ha570 := OkNs.app (OkNs.mv ha560 o567 (fun _ h => h.elim)) (okN.mv hn561 o567 (fun _ h => h.elim))
       have r572 := (ow_k (ow_only (ow_k r549 o533) o552 (ow_ne (ow_k r549 o533) r538 (by decide))) o567)
       have h573 := SliceOf.pl (Row.own KN0 r566 ok568)
       have hb581 : (List.length (a) + List.length ([(⟨m52.h, ((L221.length : Nat) : Int), m212, A486, (wantsN (headsN (joinN m202.l))), c487, [116]⟩ : NM)])) * 64 ≤ 140737488355328 := by (simp only [List.length_cons, List.length_nil]; omega)
       have O582 : Only NoF w4 w227 := (Only.trans' (Only.trans' (o_sg (Only.trans' (o_sg (Only.trans' (Only.trans' (Only.trans' (Only.trans' (o_sg (Only.trans' o43 o61) s66 (size_only o43) (oneF_ge hg63)) o91) o121) o132) o146) o159 (Nat.le_refl _) (ownF_ge rK)) o171) o185 (Nat.le_refl _) (ownF_ge rD)) o196) o225)
       have O583 : Only NoF w4 w565 := (Only.trans' (o_sg (Only.trans' (Only.trans' (Only.trans' (o_sg (Only.trans' (Only.trans' (Only.trans' (Only.trans' (Only.trans' (o_sg (Only.trans' (o_sg (Only.trans' (Only.trans' (Only.trans' (Only.trans' (o_sg (Only.trans' o43 o61) s66 (size_only o43) (oneF_ge hg63)) o91) o121) o132) o146) o159 (Nat.le_refl _) (ownF_ge rK)) o171) o185 (Nat.le_refl _) (ownF_ge rD)) o196) o225) o472) o482) o488) s498 (size_only O582) (oneF_ge hg474)) o504) o516) o533) o552 (Nat.le_refl _) (ownF_ge rK)) o567)
       obtain ⟨A574, c575, w576, hr577, r578, o579, al580⟩ := Row.app (P := Tryd.prog) (l := a) (l2 := [(⟨m52.h, ((L221.length : Nat) : Int), m212, A486, (wantsN (headsN (joinN m202.l))), c487, [116]⟩ : NM)]) KN0 elemNote r572 h573 hb581 (by unfold maxLen; omega) (size_only O583)
       refine L (r_app hr577 Z rfl rfl) Z rfl ?_; clear Z az; intro az Z
       have ok584 : ∀ zq ∈ (a ++ [(⟨m52.h, ((L221.length : Nat) : Int), m212, A486, (wantsN (headsN (joinN m202.l))), c487, [116]⟩ : NM)]), KN0.ok zq := (fun x hx => (List.mem_append.1 hx).elim ((fun _ _ => trivial) x) ((Row.oks KN0 h573) x))
       have h585 := Row.own KN0 r578 ok584
       have hf586 : ∀ k, FK (.slice A14 (8) 8) (.slice A23 (8) 8) (.slice A574 (((a ++ [(⟨m52.h, ((L221.length : Nat) : Int), m212, A486, (wantsN (headsN (joinN m202.l))), c487, [116]⟩ : NM)])).length) c575) k → FK (.slice A14 (8) 8) (.slice A23 (8) 8) (.slice Ao (a.length) co) k ∨ w565.heap.size ≤ k := FK.ap fun k h => (app_Fg al580 h).elim .inl (fun h => .inr (by omega))
       have hk587 : KOk (FK (.slice A14 (8) 8) (.slice A23 (8) 8) (.slice A574 (((a ++ [(⟨m52.h, ((L221.length : Nat) : Int), m212, A486, (wantsN (headsN (joinN m202.l))), c487, [116]⟩ : NM)])).length) c575)) w576 N554 := KOk.mvA hk569 o579 FK.a hf586
       have ha588 := OkNs.mvA ha570 o579 FK.a hf586
       refine L (r_as Z rfl) Z rfl ?_; clear Z az; intro az Z
       refine k49 _ _ ?_
       refine wp_region_lit ?_
       refine L (r_mv Z rfl) Z rfl ?_; clear Z az; intro az Z
       have i589 : I64 (((i : Int) + 1)) := by unfold I64; omega
       refine L (r_addI (r := ((i : Int) + 1)) Z rfl rfl rfl i589) Z rfl ?_; clear Z az; intro az Z
       refine L (r_as Z rfl) Z rfl ?_; clear Z az; intro az Z
       have he9 : List.set D q80 m212 = N187 := by rw [hdv]; exact hN188.symm
       have H590 : HonK N554 N187 (List.map ns (a ++ [(⟨m52.h, ((L221.length : Nat) : Int), m212, A486, (wantsN (headsN (joinN m202.l))), c487, [116]⟩ : NM)])) (i + 1) := by have h0 := H562; rw [he9] at h0; exact h0
       have O591 : Only NoF w4 w576 := (o_sg O583 o579 (Nat.le_refl _) (ownF_ge rA))
       have r592 := (ow_only (ow_k r553 o567) o579 (ow_ne (ow_k r553 o567) r572 (by decide)))
       have r593 := (ow_only (ow_k (ow_only (ow_k r548 o533) o552 (ow_ne (ow_k r548 o533) r538 (by decide))) o567) o579 (ow_ne (ow_k (ow_only (ow_k r548 o533) o552 (ow_ne (ow_k r548 o533) r538 (by decide))) o567) r572 (by decide)))
       exact ⟨_, (by omega), i + 1, N554, N187, (a ++ [(⟨m52.h, ((L221.length : Nat) : Int), m212, A486, (wantsN (headsN (joinN m202.l))), c487, [116]⟩ : NM)]), A574, c575, rfl, Z.cut ⟨rfl, rfl, rfl, rfl, rfl, rfl, rfl, trivial⟩, (by omega), H590, hl556, hl189, O591, r592, r593, r578, hk587, ha588⟩
     ·
      obtain ⟨g594, w595, hw, hA, hg598, hl599, o596, B597⟩ := newBlk (w := w195) (e := 42) (cs := [.int .i64 (0), .int .i64 (0), .int .i64 (0), .slice none (0) 0, strV ([])])
      refine Pl.MD (r_al (v := .agg #[.int .i64 (0), .int .i64 (0), .int .i64 (0), .slice none (0) 0, strV ([])]) Tryd.zeroValue42 rfl) Z rfl rfl ?_ ?_
      · rw [← hw]; exact ⟨fun _ => o596, (Only.trans (Only.refl NoF w195) o596 (fun _ h => h.elim))⟩
      rw [← hw, ← hA]; clear Z az; intro az Z
      clear hw hA
      have O601 : Only NoF w w595 := (Only.trans' (Only.trans' (o_sg (Only.trans' (o_sg (Only.trans' O138 o146) o159 (size_only o5) (ownF_ge rK)) o171) o185 (size_only o5) (ownF_ge rD)) o196) o596)
      have G600 := Gr.k hG O601
      have O602 : Only NoF w184 w595 := (Only.trans' o196 o596)
      have hC610 := Past_v_ G600 (NtV.k (hk192 _ (List.mem_of_getElem? hm203)).nt O602) (by omega) m52.h
      refine Pl.MSC Z rfl rfl rfl Tryd.call16 (hC610) rfl ?_
      rintro e w611 ⟨A603, c604, L605, rfl, hL606, hS607, hN608, o609⟩; refine ⟨_, rfl, ⟨fun _ => (Only.trans' o596 o609), (Only.trans (Only.trans (Only.refl NoF w195) o596 (fun _ h => h.elim)) o609 (fun _ h => h.elim))⟩, ?_⟩
      clear Z az; intro az Z
      have nt612 : NtV w611 (.slice A603 (L605.length) c604) L605 := ⟨SliceOf.pl hS607, OkNs.pl hN608⟩
      have hm613 : L605.length ≤ 1000000 := (pst_lim hL606)
      have hpl := honk_past H168 (by omega) hm203 hL606
      have O615 : Only NoF w w611 := (Only.trans' O601 o609)
      have G614 := Gr.k hG O615
      have O616 : Only NoF w184 w611 := (Only.trans' O602 o609)
      have hC622 := wants_v_ G614 (NtV.k (hk192 _ (List.mem_of_getElem? hm203)).nt O616) (by omega)
      refine Pl.MSC Z rfl rfl rfl Tryd.call30 (hC622) rfl ?_
      rintro e w623 ⟨A617, c618, rfl, r619, ok621, o620⟩; refine ⟨_, rfl, ⟨fun _ => (Only.trans' (Only.trans' o596 o609) o620), (Only.trans (Only.trans (Only.trans (Only.refl NoF w195) o596 (fun _ h => h.elim)) o609 (fun _ h => h.elim)) o620 (fun _ h => h.elim))⟩, ?_⟩
      clear Z az; intro az Z
      have hw8 := honk_wants H168 (by omega) hm203
      have hz := honk_check H168 (by omega) hm203 hm178 (e2 := m212) (by omega) hq81 hL606
      have h629 := Row.own KRef r619 ok621
      have h630 := SliceOf.pl h629
      have hC631 := next39 (NtV.notes (NtV.k nt612 o620)) h630 (by unfold I64; omega) (by unfold I64; omega) (t := [116]) (by decide) (by omega) (by omega) hz
      refine Pl.MSC Z rfl rfl rfl Tryd.call29 (hC631) rfl ?_
      rintro e w632 ⟨A624, c625, rfl, o626, ok627, sg628⟩; refine ⟨_, rfl, ⟨fun _ => (Only.trans' (Only.trans' (Only.trans' o596 o609) o620) o626), (Only.trans (Only.trans (Only.trans (Only.trans (Only.refl NoF w195) o596 (fun _ h => h.elim)) o609 (fun _ h => h.elim)) o620 (fun _ h => h.elim)) o626 (fun _ h => h.elim))⟩, ?_⟩
      clear Z az; intro az Z
      refine Pl.MSP (b := true) (by kernel_rfl) (fun W oW => r_mv Z rfl) Z rfl rfl ?_; clear Z az; intro az Z
      refine Pl.MSP (b := true) (by kernel_rfl) (fun W oW => r_ex Z rfl rfl) Z rfl rfl ?_; clear Z az; intro az Z
      refine Pl.MSP (b := false) (by kernel_rfl) (fun W oW => r_ex Z rfl rfl) Z rfl rfl ?_; clear Z az; intro az Z
      have B633 := (Blk.k (Blk.k (Blk.k B597 o609) o620) o626)
      refine Pl.MSS (cs' := [.int .i64 (m52.h), .int .i64 (((L605.length : Nat) : Int)), .int .i64 (m212), .slice A624 ((wantsN (headsN (joinN m202.l))).length) c625, strV ([116])]) Tryd.sizeOf42 Z rfl rfl rfl rfl rfl rfl ⟨rfl, rfl, rfl, rfl, rfl, trivial⟩ B633 rfl rfl fun w634 s635 B636 => ?_
      refine ⟨⟨fun h => absurd h (by decide), (Only.trans (Only.trans (Only.trans (Only.trans (Only.trans (Only.refl NoF w195) o596 (fun _ h => h.elim)) o609 (fun _ h => h.elim)) o620 (fun _ h => h.elim)) o626 (fun _ h => h.elim)) s635 (fun k h => .inr (Nat.le_trans (Nat.le_refl _) ((oneF_ge hg598) k h))))⟩, ?_⟩
      refine Pl.MSP (b := false) (by kernel_rfl) (fun W oW => r_as Z rfl) Z rfl rfl ?_; clear Z az; intro az Z
      refine wpPl_nil ?_
      refine k194 _ _ (wp_seq_k fun _ k637 => ?_)
      refine wp_seq_k fun _ k638 => wp_region_lit ?_
      refine L (r_mv Z rfl) Z rfl ?_; clear Z az; intro az Z
      refine L ((r_cast (b := false) (r_neRI Z rfl rfl) (by decide))) Z rfl ?_; clear Z az; intro az Z
      refine k638 _ _ ?_
      refine br_false Z rfl ?_
      refine wp_skip ?_
      refine k637 _ _ (wp_seq_k fun _ k639 => ?_)
      refine reg_p (ownF (.slice A14 (8) 8)) 2 [9, 10, 12] (.rd 0 (.rd 1 (.rd 2 (.rd 3 (.rd 4 (.rd 5 (.rd 6 (.rd 7 (.rd 8 (.ex 9 (.ex 10 (.rd 11 (.ex 12 .nil))))))))))))) (by kernel_rfl) (by kernel_rfl) (fun _ _ _ _ _ h => h) fun w640 o641 => ?_
      have O643 := (Only.trans (Only.trans (Only.trans (Only.trans (Only.trans (Only.trans (Only.trans (Only.trans (Only.trans (Only.refl (fun _ => True) w60) s66 (fun _ _ => .inl trivial)) o91 (fun _ _ => .inl trivial)) o121 (fun _ _ => .inl trivial)) o132 (fun _ _ => .inl trivial)) o146 (fun _ _ => .inl trivial)) o159 (fun _ _ => .inl trivial)) o171 (fun _ _ => .inl trivial)) o185 (fun _ _ => .inl trivial)) o196 (fun _ _ => .inl trivial))
      have ne642 : g59 ≠ g594 := (ne_of hl64 (Nat.le_trans (size_only O643) hg598))
      have B644 := (Blk.k (Blk.st (Blk.k (Blk.k (Blk.k (Blk.k B197 o596) o609) o620) o626) s635 ne642) o641)
      have B645 := (Blk.k B636 o641)
      refine Pl.MSP (b := true) (by kernel_rfl) (fun W oW => r_mv Z rfl) Z rfl rfl ?_; clear Z az; intro az Z
      refine Pl.MSP (b := true) (by kernel_rfl) (fun W oW => r_fa (m' := 0) Tryd.underlying55 rfl Tryd.sizeOf3 rfl Z rfl rfl) Z rfl rfl ?_; clear Z az; intro az Z
      refine Pl.MSP (b := true) (by kernel_rfl) (fun W oW => r_ld Tryd.isAgg3 Z rfl ((Blk.ca (Blk.k B644 oW)) 0 _ rfl)) Z rfl rfl ?_; clear Z az; intro az Z
      refine Pl.MSP (b := true) (by kernel_rfl) (fun W oW => r_mv Z rfl) Z rfl rfl ?_; clear Z az; intro az Z
      refine Pl.MSP (b := true) (by kernel_rfl) (fun W oW => r_fa (m' := 0) Tryd.underlying55 rfl Tryd.sizeOf3 rfl Z rfl rfl) Z rfl rfl ?_; clear Z az; intro az Z
      refine Pl.MSP (b := true) (by kernel_rfl) (fun W oW => r_ld Tryd.isAgg3 Z rfl ((Blk.ca (Blk.k B644 oW)) 0 _ rfl)) Z rfl rfl ?_; clear Z az; intro az Z
      have O646 := (Only.trans (Only.trans (Only.trans (Only.trans (Only.trans (Only.trans (Only.trans (Only.trans (Only.trans (Only.trans (Only.refl (fun _ => True) w42) o61 (fun _ _ => .inl trivial)) s66 (fun _ _ => .inl trivial)) o91 (fun _ _ => .inl trivial)) o121 (fun _ _ => .inl trivial)) o132 (fun _ _ => .inl trivial)) o146 (fun _ _ => .inl trivial)) o159 (fun _ _ => .inl trivial)) o171 (fun _ _ => .inl trivial)) o185 (fun _ _ => .inl trivial)) o196 (fun _ _ => .inl trivial))
      have r647 := (ow_k (ow_only (ow_k (ow_k (ow_k (ow_k r198 o596) o609) o620) o626) s635 (fun k hk => lt_F (oneF_ge hg598) (size_only O646) k (ownF_lt rK k hk))) o641)
      have h648 := Row.ownN KRr r647 hl163 ok164
      refine Pl.MSP (b := true) (by kernel_rfl) (fun W oW => r_ia (k := q80) (size := 1) Tryd.underlying29 Tryd.sizeOf22 Z rfl rfl hq81 hk200 hA205) Z rfl rfl ?_; clear Z az; intro az Z
      have O649 : Only NoF w195 w640 := (Only.trans' (o_sg (Only.trans' (Only.trans' (Only.trans' o596 o609) o620) o626) s635 (Nat.le_refl _) (oneF_ge hg598)) o641)
      refine Pl.MSP (b := true) (by kernel_rfl) (fun W oW => r_ld Tryd.isAgg22 Z rfl (CA.first (E206 _ (Only.trans' O649 oW)))) Z rfl rfl ?_; clear Z az; intro az Z
      refine Pl.MSP (b := true) (by kernel_rfl) (fun W oW => r_ldA Tryd.isAgg42 Tryd.sizeOf42 Z rfl (Blk.ca (Blk.k B645 oW)) rfl) Z rfl rfl ?_; clear Z az; intro az Z
      obtain ⟨A650, w651, hw, hA, r652, o653⟩ := Row.made (w := w640) KN0 (e := 42) ([(⟨m52.h, ((L605.length : Nat) : Int), m212, A624, (wantsN (headsN (joinN m202.l))), c625, [116]⟩ : NM)] : List NM) (by simp only [List.length_cons, List.length_nil]; unfold maxLen; omega)
      refine Pl.MD (r_bs (z := .agg #[.int .i64 (0), .int .i64 (0), .int .i64 (0), .slice none (0) 0, strV ([])]) (size := 5) (vs := [(0, .agg #[.int .i64 (m52.h), .int .i64 (((L605.length : Nat) : Int)), .int .i64 (m212), .slice A624 ((wantsN (headsN (joinN m202.l))).length) c625, strV ([116])])]) (cs := List.flatMap KN0.cells [(⟨m52.h, ((L605.length : Nat) : Int), m212, A624, (wantsN (headsN (joinN m202.l))), c625, [116]⟩ : NM)]) Tryd.underlying22 Tryd.sizeOf42 Tryd.zeroValue42 rfl (Fr.evalps Z rfl) (by kernel_rfl)) Z rfl rfl ?_ ?_
      · rw [← hw]; exact ⟨fun _ => o653, (Only.trans (Only.refl (ownF (.slice A14 (8) 8)) w640) o653 (fun _ h => h.elim))⟩
      rw [← hw, ← hA]; clear Z az; intro az Z
      clear hw hA
      have ok654 : ∀ zq ∈ ([(⟨m52.h, ((L605.length : Nat) : Int), m212, A624, (wantsN (headsN (joinN m202.l))), c625, [116]⟩ : NM)] : List NM), KN0.ok zq := by intro zq hx; simp only [List.mem_cons, List.not_mem_nil, or_false] at hx; rcases hx with rfl <;> first | exact trivial
      have O656 : Only NoF w w195 := (Only.trans' (o_sg (Only.trans' (o_sg (Only.trans' O138 o146) o159 (size_only o5) (ownF_ge rK)) o171) o185 (size_only o5) (ownF_ge rD)) o196)
      have O657 : Only NoF w w651 := (Only.trans' (Only.trans' (o_sg (Only.trans' (Only.trans' O615 o620) o626) s635 (size_only O656) (oneF_ge hg598)) o641) o653)
      have G655 := Gr.k hG O657
      have O658 : Only NoF w184 w651 := (Only.trans' (Only.trans' (o_sg (Only.trans' (Only.trans' O616 o620) o626) s635 (size_only o196) (oneF_ge hg598)) o641) o653)
      have O659 : Only NoF w595 w623 := (Only.trans' o609 o620)
      have O660 : Only NoF w634 w651 := (Only.trans' o641 o653)
      have h661 := (SliceOf.kp (SliceOf.kp sg628 s635 (ge_F (oneF_lt hl599) (size_only O659)) (fun _ _ _ _ h => h)) O660 (fun _ _ h => h) (fun _ _ _ _ h => h))
      have h662 := SliceOf.pl h661
      have nt663 : NtV w651 (.slice A650 (List.length ([(⟨m52.h, ((L605.length : Nat) : Int), m212, A624, (wantsN (headsN (joinN m202.l))), c625, [116]⟩ : NM)] : List NM)) 1) [(⟨m52.h, ((L605.length : Nat) : Int), m212, A624, (wantsN (headsN (joinN m202.l))), c625, [116]⟩ : NM)] := ⟨SliceOf.pl (Row.own KN0 r652 (fun _ _ => trivial)), (ok_cons (okN_mk (by unfold I64; omega) h662 (by unfold maxLen; decide)) OkNs.nil)⟩
      have hC671 := Join_v_ G655 (NtV.k (hk192 _ (List.mem_of_getElem? hm203)).nt O658) nt663 (by first | omega | (simp only [List.length_cons, List.length_nil]; omega))
      refine Pl.MSC Z rfl rfl rfl Tryd.call11 (hC671) rfl ?_
      rintro e w672 ⟨A664, c665, L666, rfl, hL667, hS668, hN669, o670⟩; refine ⟨_, rfl, ⟨fun _ => (Only.trans' o653 o670), (Only.trans (Only.trans (Only.refl (ownF (.slice A14 (8) 8)) w640) o653 (fun _ h => h.elim)) o670 (fun _ h => h.elim))⟩, ?_⟩
      clear Z az; intro az Z
      have nt673 : NtV w672 (.slice A664 (L666.length) c665) L666 := ⟨SliceOf.pl hS668, OkNs.pl hN669⟩
      have hm674 : L666.length ≤ 1000000 := (by have h0 := congrArg List.length hL667; rw [List.length_map] at h0; rw [h0]; exact Nat.le_trans (joinN_le _) (by (try simp only [List.length_append, List.length_cons, List.length_nil]); omega))
      have r675 := (ow_k (ow_k r647 o653) o670)
      have h676 := Row.ownN KRr r675 hl163 ok164
      refine Pl.MSP (b := true) (by kernel_rfl) (fun W oW => r_ia (k := q80) (size := 1) Tryd.underlying29 Tryd.sizeOf22 Z rfl rfl hq81 hk200 hA205) Z rfl rfl ?_; clear Z az; intro az Z
      have O677 : Only NoF w184 w672 := (Only.trans' O658 o670)
      have h679 := (SliceOf.kp h661 o670 (fun _ _ h => h) (fun _ _ _ _ h => h))
      have r680 := (ow_k (ow_k (ow_k r198 o596) o609) o620)
      have r681 := (ow_k (ow_k (ow_k r208 o596) o609) o620)
      have r682 := (ow_k (ow_k (ow_k (ow_k (ow_only (ow_k (ow_only (ow_k r156 o146) o159 (ow_ne (ow_k r156 o146) r151 (by decide))) o171) o185 (ow_ne (ow_k (ow_only (ow_k r156 o146) o159 (ow_ne (ow_k r156 o146) r151 (by decide))) o171) r173 (by decide))) o196) o596) o609) o620)
      have hn678 : okN (SKr (FK (.slice A14 (8) 8) (.slice A23 (8) 8) (.slice Ao (a.length) co)) w672) w672 (⟨m52.h, ((L605.length : Nat) : Int), m212, A624, (wantsN (headsN (joinN m202.l))), c625, [116]⟩ : NM) := okN.new (okN_mk (by unfold I64; omega) h679 (by decide)) ((FK.lt (ownF_lt r680) (ownF_lt r681) (ownF_lt r682)))
      have r684 := (ow_k r647 o653)
      have r685 := (ow_k (ow_k (ow_only (ow_k r681 o626) s635 (fun k hk => lt_F (oneF_ge hg598) (size_only O646) k (ownF_lt rD k hk))) o641) o653)
      have r686 := (ow_k (ow_k (ow_only (ow_k r682 o626) s635 (fun k hk => lt_F (oneF_ge hg598) (size_only O646) k (ownF_lt rA k hk))) o641) o653)
      have hx683 : NtS (SKr (FK (.slice A14 (8) 8) (.slice A23 (8) 8) (.slice Ao (a.length) co)) w672) w672 (.slice A664 (L666.length) c665) L666 := (NtS.new hS668 hN669 (FK.lt (ownF_lt r684) (ownF_lt r685) (ownF_lt r686))).mv (Only.refl NoF w672) (fun _ h => h.elim)
      have hk687 := (KOk.mv hk192 O677 (fun _ h => h.elim))
      have hk695 : q80 < 8 := by omega
      refine Pl.MSSQ (k := q80) (x := (⟨A664, L666, c665⟩ : NR)) KRr Tryd.sizeOf22 Z rfl rfl rfl rfl rfl r675 hl163 hk695 fun w688 o689 r690 => ?_
      obtain ⟨N691, hN692⟩ : ∃ N0, N0 = List.set N161 q80 (⟨A664, L666, c665⟩ : NR) := ⟨_, rfl⟩
      rw [← hN692] at r690
      have hl693 : N691.length = 8 := by rw [hN692]; exact List.length_set.trans hl163
      have ok694 : ∀ zq ∈ N691, KRr.ok zq := by rw [hN692]; exact set_ok ok164 trivial
      refine ⟨⟨fun h => absurd h (by decide), (Only.trans (Only.trans (Only.trans (Only.refl (ownF (.slice A14 (8) 8)) w640) o653 (fun _ h => h.elim)) o670 (fun _ h => h.elim)) o689 (fun _ h => .inl h))⟩, ?_⟩
      have hk696 : KOk (FK (.slice A14 (8) 8) (.slice A23 (8) 8) (.slice Ao (a.length) co)) w688 N691 := by rw [hN692]; exact (KOk.set hk687 hx683).mv o689 FK.k
      have ha697 : OkNs (SKr (FK (.slice A14 (8) 8) (.slice A23 (8) 8) (.slice Ao (a.length) co)) w688) w688 a := OkNs.mv (OkNs.mv ha193 O677 (fun _ h => h.elim)) o689 FK.k
      have hn698 := okN.mv hn678 o689 FK.k
      have H699 := honk_seal H168 (by omega) hm203 hm178 (by omega) hq81 hL606 (X := (⟨A664, L666, c665⟩ : NR)) hL667
      rw [← hN692] at H699
      refine wpPl_nil ?_
      refine k639 _ _ ?_
      refine wp_region_lit ?_
      refine L (r_mv Z rfl) Z rfl ?_; clear Z az; intro az Z
      have B700 := (Blk.only (Blk.k (Blk.k B645 o653) o670) o689 (fun h => absurd ((ownF_lt rK) _ h) (Nat.not_lt.2 (Nat.le_trans (size_only O646) hg598))))
      refine L (r_ldA Tryd.isAgg42 Tryd.sizeOf42 Z rfl (Blk.ca B700) rfl) Z rfl ?_; clear Z az; intro az Z
      obtain ⟨A701, w702, hw, hA, r703, o704⟩ := Row.made (w := w688) KN0 (e := 42) ([(⟨m52.h, ((L605.length : Nat) : Int), m212, A624, (wantsN (headsN (joinN m202.l))), c625, [116]⟩ : NM)] : List NM) (by simp only [List.length_cons, List.length_nil]; unfold maxLen; omega)
      refine L (r_bs (z := .agg #[.int .i64 (0), .int .i64 (0), .int .i64 (0), .slice none (0) 0, strV ([])]) (size := 5) (vs := [(0, .agg #[.int .i64 (m52.h), .int .i64 (((L605.length : Nat) : Int)), .int .i64 (m212), .slice A624 ((wantsN (headsN (joinN m202.l))).length) c625, strV ([116])])]) (cs := List.flatMap KN0.cells [(⟨m52.h, ((L605.length : Nat) : Int), m212, A624, (wantsN (headsN (joinN m202.l))), c625, [116]⟩ : NM)]) Tryd.underlying22 Tryd.sizeOf42 Tryd.zeroValue42 rfl (Fr.evalps Z rfl) (by kernel_rfl)) Z rfl ?_
      rw [← hw, ← hA]; clear Z az; intro az Z
      clear hw hA
      have ok705 : ∀ zq ∈ ([(⟨m52.h, ((L605.length : Nat) : Int), m212, A624, (wantsN (headsN (joinN m202.l))), c625, [116]⟩ : NM)] : List NM), KN0.ok zq := by intro zq hx; simp only [List.mem_cons, List.not_mem_nil, or_false] at hx; rcases hx with rfl <;> first | exact trivial
      have hk706 := (KOk.mv hk696 o704 (fun _ h => h.elim))
      have ha707 := OkNs.app (OkNs.mv ha697 o704 (fun _ h => h.elim)) (okN.mv hn698 o704 (fun _ h => h.elim))
      have r709 := (ow_k (ow_only (ow_k r686 o670) o689 (ow_ne (ow_k r686 o670) r675 (by decide))) o704)
      have h710 := SliceOf.pl (Row.own KN0 r703 ok705)
      have hb718 : (List.length (a) + List.length ([(⟨m52.h, ((L605.length : Nat) : Int), m212, A624, (wantsN (headsN (joinN m202.l))), c625, [116]⟩ : NM)])) * 64 ≤ 140737488355328 := by (simp only [List.length_cons, List.length_nil]; omega)
      have O719 : Only NoF w4 w195 := (Only.trans' (o_sg (Only.trans' (o_sg (Only.trans' (Only.trans' (Only.trans' (Only.trans' (o_sg (Only.trans' o43 o61) s66 (size_only o43) (oneF_ge hg63)) o91) o121) o132) o146) o159 (Nat.le_refl _) (ownF_ge rK)) o171) o185 (Nat.le_refl _) (ownF_ge rD)) o196)
      have O720 : Only NoF w4 w702 := (Only.trans' (o_sg (Only.trans' (Only.trans' (Only.trans' (o_sg (Only.trans' (Only.trans' (Only.trans' (Only.trans' (Only.trans' (o_sg (Only.trans' (o_sg (Only.trans' (Only.trans' (Only.trans' (Only.trans' (o_sg (Only.trans' o43 o61) s66 (size_only o43) (oneF_ge hg63)) o91) o121) o132) o146) o159 (Nat.le_refl _) (ownF_ge rK)) o171) o185 (Nat.le_refl _) (ownF_ge rD)) o196) o596) o609) o620) o626) s635 (size_only O719) (oneF_ge hg598)) o641) o653) o670) o689 (Nat.le_refl _) (ownF_ge rK)) o704)
      obtain ⟨A711, c712, w713, hr714, r715, o716, al717⟩ := Row.app (P := Tryd.prog) (l := a) (l2 := [(⟨m52.h, ((L605.length : Nat) : Int), m212, A624, (wantsN (headsN (joinN m202.l))), c625, [116]⟩ : NM)]) KN0 elemNote r709 h710 hb718 (by unfold maxLen; omega) (size_only O720)
      refine L (r_app hr714 Z rfl rfl) Z rfl ?_; clear Z az; intro az Z
      have ok721 : ∀ zq ∈ (a ++ [(⟨m52.h, ((L605.length : Nat) : Int), m212, A624, (wantsN (headsN (joinN m202.l))), c625, [116]⟩ : NM)]), KN0.ok zq := (fun x hx => (List.mem_append.1 hx).elim ((fun _ _ => trivial) x) ((Row.oks KN0 h710) x))
      have h722 := Row.own KN0 r715 ok721
      have hf723 : ∀ k, FK (.slice A14 (8) 8) (.slice A23 (8) 8) (.slice A711 (((a ++ [(⟨m52.h, ((L605.length : Nat) : Int), m212, A624, (wantsN (headsN (joinN m202.l))), c625, [116]⟩ : NM)])).length) c712) k → FK (.slice A14 (8) 8) (.slice A23 (8) 8) (.slice Ao (a.length) co) k ∨ w702.heap.size ≤ k := FK.ap fun k h => (app_Fg al717 h).elim .inl (fun h => .inr (by omega))
      have hk724 : KOk (FK (.slice A14 (8) 8) (.slice A23 (8) 8) (.slice A711 (((a ++ [(⟨m52.h, ((L605.length : Nat) : Int), m212, A624, (wantsN (headsN (joinN m202.l))), c625, [116]⟩ : NM)])).length) c712)) w713 N691 := KOk.mvA hk706 o716 FK.a hf723
      have ha725 := OkNs.mvA ha707 o716 FK.a hf723
      refine L (r_as Z rfl) Z rfl ?_; clear Z az; intro az Z
      refine k49 _ _ ?_
      refine wp_region_lit ?_
      refine L (r_mv Z rfl) Z rfl ?_; clear Z az; intro az Z
      have i726 : I64 (((i : Int) + 1)) := by unfold I64; omega
      refine L (r_addI (r := ((i : Int) + 1)) Z rfl rfl rfl i726) Z rfl ?_; clear Z az; intro az Z
      refine L (r_as Z rfl) Z rfl ?_; clear Z az; intro az Z
      have he9 : List.set D q80 m212 = N187 := by rw [hdv]; exact hN188.symm
      have H727 : HonK N691 N187 (List.map ns (a ++ [(⟨m52.h, ((L605.length : Nat) : Int), m212, A624, (wantsN (headsN (joinN m202.l))), c625, [116]⟩ : NM)])) (i + 1) := by have h0 := H699; rw [he9] at h0; exact h0
      have O728 : Only NoF w4 w713 := (o_sg O720 o716 (Nat.le_refl _) (ownF_ge rA))
      have r729 := (ow_only (ow_k r690 o704) o716 (ow_ne (ow_k r690 o704) r709 (by decide)))
      have r730 := (ow_only (ow_k (ow_only (ow_k r685 o670) o689 (ow_ne (ow_k r685 o670) r675 (by decide))) o704) o716 (ow_ne (ow_k (ow_only (ow_k r685 o670) o689 (ow_ne (ow_k r685 o670) r675 (by decide))) o704) r709 (by decide)))
      exact ⟨_, (by omega), i + 1, N691, N187, (a ++ [(⟨m52.h, ((L605.length : Nat) : Int), m212, A624, (wantsN (headsN (joinN m202.l))), c625, [116]⟩ : NM)]), A711, c712, rfl, Z.cut ⟨rfl, rfl, rfl, rfl, rfl, rfl, rfl, trivial⟩, (by omega), H727, hl693, hl189, O728, r729, r730, r715, hk724, ha725⟩
    ·
     have d731 := hc84
     refine wp_skip ?_
     refine k82 _ _ (wp_seq_k fun _ k732 => ?_)
     refine reg_p (ownF (.slice A23 (8) 8)) 0 [15] (.rd 0 (.rd 1 (.rd 2 (.rd 3 (.rd 4 (.rd 5 (.rd 6 (.rd 7 (.rd 8 (.rd 9 (.rd 10 (.rd 11 (.rd 12 (.rd 13 (.rd 14 (.ex 15 .nil)))))))))))))))) (by kernel_rfl) (by kernel_rfl) (fun _ _ _ _ _ h => h) fun w733 o734 => ?_
     have B735 := (Blk.k B67 o734)
     refine Pl.MSP (b := true) (by kernel_rfl) (fun W oW => r_mv Z rfl) Z rfl rfl ?_; clear Z az; intro az Z
     refine Pl.MSP (b := true) (by kernel_rfl) (fun W oW => r_fa (m' := 0) Tryd.underlying55 rfl Tryd.sizeOf3 rfl Z rfl rfl) Z rfl rfl ?_; clear Z az; intro az Z
     refine Pl.MSP (b := true) (by kernel_rfl) (fun W oW => r_ld Tryd.isAgg3 Z rfl ((Blk.ca (Blk.k B735 oW)) 0 _ rfl)) Z rfl rfl ?_; clear Z az; intro az Z
     refine Pl.MSP (b := true) (by kernel_rfl) (fun W oW => r_mv Z rfl) Z rfl rfl ?_; clear Z az; intro az Z
     refine Pl.MSP (b := true) (by kernel_rfl) (fun W oW => r_fa (m' := 0) Tryd.underlying55 rfl Tryd.sizeOf3 rfl Z rfl rfl) Z rfl rfl ?_; clear Z az; intro az Z
     refine Pl.MSP (b := true) (by kernel_rfl) (fun W oW => r_ld Tryd.isAgg3 Z rfl ((Blk.ca (Blk.k B735 oW)) 0 _ rfl)) Z rfl rfl ?_; clear Z az; intro az Z
     have r736 := (ow_k (ow_only (ow_k rD o61) s66 (fun k hk => lt_F (oneF_ge hg63) (Nat.le_refl _) k (ownF_lt rD k hk))) o734)
     have h737 := Row.ownN KInt r736 hDl hDok
     have hk738 : q80 < 8 := by omega
     have hk739 : q80 < (D).length := by omega
     obtain ⟨m740, hm741, ok742, hA743⟩ := Row.el KInt h737 hk739
     have E744 : ∀ W, Only NoF w733 W → CA W (eA A23 1 (q80)) [.int .i64 (m740)] := Row.ce KInt h737 hm741 rfl
     have hdb := hon_bnd H.h hm741 (by omega)
     refine Pl.MSP (b := true) (by kernel_rfl) (fun W oW => r_ia (k := q80) (size := 1) Tryd.underlying31 Tryd.sizeOf3 Z rfl rfl hq81 hk738 hA743) Z rfl rfl ?_; clear Z az; intro az Z
     refine Pl.MSP (b := true) (by kernel_rfl) (fun W oW => r_ld Tryd.isAgg3 Z rfl (CA.first (E744 _ (Only.trans' (Only.refl NoF w733) oW)))) Z rfl rfl ?_; clear Z az; intro az Z
     refine Pl.MSP (b := true) (by kernel_rfl) (fun W oW => r_fa (m' := 2) Tryd.underlying55 rfl Tryd.sizeOf3 rfl Z rfl rfl) Z rfl rfl ?_; clear Z az; intro az Z
     refine Pl.MSP (b := true) (by kernel_rfl) (fun W oW => r_ld Tryd.isAgg3 Z rfl ((Blk.ca (Blk.k B735 oW)) 2 _ rfl)) Z rfl rfl ?_; clear Z az; intro az Z
     refine Pl.MSP (b := true) (by kernel_rfl) (fun W oW => r_remI Z rfl rfl (by decide)) Z rfl rfl ?_; clear Z az; intro az Z
     have i745 : I64 (((Int.tmod m52.d 9) + 9)) := by unfold I64; omega
     refine Pl.MSP (b := true) (by kernel_rfl) (fun W oW => r_addI (r := ((Int.tmod m52.d 9) + 9)) Z rfl rfl rfl i745) Z rfl rfl ?_; clear Z az; intro az Z
     refine Pl.MSP (b := true) (by kernel_rfl) (fun W oW => r_remI Z rfl rfl (by decide)) Z rfl rfl ?_; clear Z az; intro az Z
     have i746 : I64 ((m740 + (Int.tmod ((Int.tmod m52.d 9) + 9) 9))) := by unfold I64; omega
     refine Pl.MSP (b := true) (by kernel_rfl) (fun W oW => r_addI (r := (m740 + (Int.tmod ((Int.tmod m52.d 9) + 9) 9))) Z rfl rfl rfl i746) Z rfl rfl ?_; clear Z az; intro az Z
     refine Pl.MSP (b := true) (by kernel_rfl) (fun W oW => r_ia (k := q80) (size := 1) Tryd.underlying31 Tryd.sizeOf3 Z rfl rfl hq81 hk738 hA743) Z rfl rfl ?_; clear Z az; intro az Z
     have O747 : Only NoF w42 w733 := (Only.trans' (o_sg o61 s66 (Nat.le_refl _) (oneF_ge hg63)) o734)
     have hk755 : q80 < 8 := by omega
     refine Pl.MSSQ (k := q80) (x := (m740 + (Int.tmod ((Int.tmod m52.d 9) + 9) 9))) KInt Tryd.sizeOf3 Z rfl rfl rfl rfl rfl r736 hDl hk755 fun w748 o749 r750 => ?_
     obtain ⟨N751, hN752⟩ : ∃ N0, N0 = List.set D q80 (m740 + (Int.tmod ((Int.tmod m52.d 9) + 9) 9)) := ⟨_, rfl⟩
     rw [← hN752] at r750
     have hl753 : N751.length = 8 := by rw [hN752]; exact List.length_set.trans hDl
     have ok754 : ∀ zq ∈ N751, KInt.ok zq := by rw [hN752]; exact set_ok hDok (by show I64 _; unfold I64; omega)
     refine ⟨⟨fun h => absurd h (by decide), (Only.trans (Only.refl (ownF (.slice A23 (8) 8)) w733) o749 (fun _ h => .inl h))⟩, ?_⟩
     have hk756 : KOk (FK (.slice A14 (8) 8) (.slice A23 (8) 8) (.slice Ao (a.length) co)) w748 KL := ((KOk.mv hK O747 (fun _ h => h.elim))).mv o749 FK.d
     have ha757 : OkNs (SKr (FK (.slice A14 (8) 8) (.slice A23 (8) 8) (.slice Ao (a.length) co)) w748) w748 a := OkNs.mv (OkNs.mv hA O747 (fun _ h => h.elim)) o749 FK.d
     refine wpPl_nil ?_
     refine k732 _ _ (wp_seq_k fun _ k758 => ?_)
     refine reg_p NoF 4 [7, 20, 21, 25, 26] (.rd 0 (.rd 1 (.rd 2 (.rd 3 (.rd 4 (.rd 5 (.rd 6 (.rd 8 (.rd 9 (.rd 10 (.rd 11 (.rd 12 (.rd 13 (.rd 14 (.rd 15 (.rd 16 (.rd 17 (.rd 18 (.rd 19 (.fork 7 (.fork 20 (.fork 21 (.rd 22 (.rd 23 (.rd 24 (.ex 25 (.ex 26 (.rd 27 .nil)))))) 25 (.ex 21 (.rd 22 (.rd 23 (.rd 24 (.ex 26 (.rd 27 .nil))))))) 25 (.ex 20 (.ex 21 (.rd 22 (.rd 23 (.rd 24 (.ex 26 (.rd 27 .nil)))))))) 25 (.ex 7 (.ex 20 (.ex 21 (.rd 22 (.rd 23 (.rd 24 (.ex 26 (.rd 27 .nil)))))))))))))))))))))))))))) (by kernel_rfl) (by kernel_rfl) (fun _ _ _ _ _ h => h) fun w759 o760 => ?_
     have B761 := (Blk.k (Blk.only B735 o749 (fun h => absurd ((ownF_lt rD) _ h) (Nat.not_lt.2 (Nat.le_trans (Nat.le_refl _) hg63)))) o760)
     refine Pl.MSP (b := true) (by kernel_rfl) (fun W oW => r_mv Z rfl) Z rfl rfl ?_; clear Z az; intro az Z
     refine Pl.MSP (b := true) (by kernel_rfl) (fun W oW => r_fa (m' := 0) Tryd.underlying55 rfl Tryd.sizeOf3 rfl Z rfl rfl) Z rfl rfl ?_; clear Z az; intro az Z
     refine Pl.MSP (b := true) (by kernel_rfl) (fun W oW => r_ld Tryd.isAgg3 Z rfl ((Blk.ca (Blk.k B761 oW)) 0 _ rfl)) Z rfl rfl ?_; clear Z az; intro az Z
     have r762 := (ow_k (ow_only (ow_k (ow_only (ow_k rK o61) s66 (fun k hk => lt_F (oneF_ge hg63) (Nat.le_refl _) k (ownF_lt rK k hk))) o734) o749 (ow_ne (ow_k (ow_only (ow_k rK o61) s66 (fun k hk => lt_F (oneF_ge hg63) (Nat.le_refl _) k (ownF_lt rK k hk))) o734) r736 (by decide))) o760)
     have h763 := Row.ownN KRr r762 hKl (fun _ _ => trivial)
     have hk764 : q80 < 8 := by omega
     have hk765 : q80 < (KL).length := by omega
     obtain ⟨m766, hm767, ok768, hA769⟩ := Row.el KRr h763 hk765
     have E770 : ∀ W, Only NoF w759 W → CA W (eA A14 1 (q80)) [.slice m766.A (m766.l.length) m766.c] := Row.ce KRr h763 hm767 rfl
     have hl771 := honk_len H (by omega) hm767
     refine Pl.MSP (b := true) (by kernel_rfl) (fun W oW => r_ia (k := q80) (size := 1) Tryd.underlying29 Tryd.sizeOf22 Z rfl rfl hq81 hk764 hA769) Z rfl rfl ?_; clear Z az; intro az Z
     refine Pl.MSP (b := true) (by kernel_rfl) (fun W oW => r_ld Tryd.isAgg22 Z rfl (CA.first (E770 _ (Only.trans' (Only.refl NoF w759) oW)))) Z rfl rfl ?_; clear Z az; intro az Z
     refine Pl.MSP (b := true) (by kernel_rfl) (fun W oW => r_fa (m' := 0) Tryd.underlying55 rfl Tryd.sizeOf3 rfl Z rfl rfl) Z rfl rfl ?_; clear Z az; intro az Z
     refine Pl.MSP (b := true) (by kernel_rfl) (fun W oW => r_ld Tryd.isAgg3 Z rfl ((Blk.ca (Blk.k B761 oW)) 0 _ rfl)) Z rfl rfl ?_; clear Z az; intro az Z
     refine Pl.MSP (b := true) (by kernel_rfl) (fun W oW => r_fa (m' := 0) Tryd.underlying55 rfl Tryd.sizeOf3 rfl Z rfl rfl) Z rfl rfl ?_; clear Z az; intro az Z
     refine Pl.MSP (b := true) (by kernel_rfl) (fun W oW => r_ld Tryd.isAgg3 Z rfl ((Blk.ca (Blk.k B761 oW)) 0 _ rfl)) Z rfl rfl ?_; clear Z az; intro az Z
     refine Pl.MSP (b := true) (by kernel_rfl) (fun W oW => r_mv Z rfl) Z rfl rfl ?_; clear Z az; intro az Z
     refine Pl.MSP (b := true) (by kernel_rfl) (fun W oW => r_fa (m' := 0) Tryd.underlying55 rfl Tryd.sizeOf3 rfl Z rfl rfl) Z rfl rfl ?_; clear Z az; intro az Z
     refine Pl.MSP (b := true) (by kernel_rfl) (fun W oW => r_ld Tryd.isAgg3 Z rfl ((Blk.ca (Blk.k B761 oW)) 0 _ rfl)) Z rfl rfl ?_; clear Z az; intro az Z
     have r772 := (ow_k r750 o760)
     have h773 := Row.ownN KInt r772 hl753 ok754
     have hk774 : q80 < 8 := by omega
     have hk775 : q80 < (N751).length := by omega
     obtain ⟨m776, hm777, ok778, hA779⟩ := Row.el KInt h773 hk775
     have E780 : ∀ W, Only NoF w759 W → CA W (eA A23 1 (q80)) [.int .i64 (m776)] := Row.ce KInt h773 hm777 rfl
     have hdv : m776 = (m740 + (Int.tmod ((Int.tmod m52.d 9) + 9) 9)) := by have h0 := hm777; rw [hN752, List.getElem?_set_self (by omega)] at h0; exact (Option.some.inj h0).symm
     refine Pl.MSP (b := true) (by kernel_rfl) (fun W oW => r_ia (k := q80) (size := 1) Tryd.underlying31 Tryd.sizeOf3 Z rfl rfl hq81 hk774 hA779) Z rfl rfl ?_; clear Z az; intro az Z
     refine Pl.MSP (b := true) (by kernel_rfl) (fun W oW => r_ld Tryd.isAgg3 Z rfl (CA.first (E780 _ (Only.trans' (Only.refl NoF w759) oW)))) Z rfl rfl ?_; clear Z az; intro az Z
     refine Pl.MSP (b := true) (by kernel_rfl) (fun W oW => r_mv Z rfl) Z rfl rfl ?_; clear Z az; intro az Z
     refine Pl.MSP (b := true) (by kernel_rfl) (fun W oW => r_fa (m' := 0) Tryd.underlying55 rfl Tryd.sizeOf3 rfl Z rfl rfl) Z rfl rfl ?_; clear Z az; intro az Z
     refine Pl.MSP (b := true) (by kernel_rfl) (fun W oW => r_ld Tryd.isAgg3 Z rfl ((Blk.ca (Blk.k B761 oW)) 0 _ rfl)) Z rfl rfl ?_; clear Z az; intro az Z
     refine Pl.MSP (b := true) (by kernel_rfl) (fun W oW => r_ia (k := q80) (size := 1) Tryd.underlying29 Tryd.sizeOf22 Z rfl rfl hq81 hk764 hA769) Z rfl rfl ?_; clear Z az; intro az Z
     refine Pl.MSP (b := true) (by kernel_rfl) (fun W oW => r_ld Tryd.isAgg22 Z rfl (CA.first (E770 _ (Only.trans' (Only.refl NoF w759) oW)))) Z rfl rfl ?_; clear Z az; intro az Z
     refine wpPl_fork ?_ ?_
     ·
      have O782 : Only NoF w w759 := (Only.trans' (o_sg (Only.trans' (o_sg (Only.trans' O57 o61) s66 (size_only O57) (oneF_ge hg63)) o734) o749 (size_only o5) (ownF_ge rD)) o760)
      have G781 := Gr.k hG O782
      have hC790 := Past_v_ G781 (NtV.k (hk756 _ (List.mem_of_getElem? hm767)).nt o760) (by omega) m52.h
      refine Pl.MSC Z rfl rfl rfl Tryd.call16 (hC790) rfl ?_
      rintro e w791 ⟨A783, c784, L785, rfl, hL786, hS787, hN788, o789⟩; refine ⟨_, rfl, ⟨fun _ => o789, (Only.trans (Only.refl NoF w759) o789 (fun _ h => h.elim))⟩, ?_⟩
      clear Z az; intro az Z
      have nt792 : NtV w791 (.slice A783 (L785.length) c784) L785 := ⟨SliceOf.pl hS787, OkNs.pl hN788⟩
      have hm793 : L785.length ≤ 1000000 := (pst_lim hL786)
      have hpl := honk_past H (by omega) hm767 hL786
      refine wpPl_fork ?_ ?_
      ·
       have O795 : Only NoF w w791 := (Only.trans' O782 o789)
       have G794 := Gr.k hG O795
       have O796 : Only NoF w748 w791 := (Only.trans' o760 o789)
       have hC802 := wants_v_ G794 (NtV.k (hk756 _ (List.mem_of_getElem? hm767)).nt O796) (by omega)
       refine Pl.MSC Z rfl rfl rfl Tryd.call30 (hC802) rfl ?_
       rintro e w803 ⟨A797, c798, rfl, r799, ok801, o800⟩; refine ⟨_, rfl, ⟨fun _ => (Only.trans' o789 o800), (Only.trans (Only.trans (Only.refl NoF w759) o789 (fun _ h => h.elim)) o800 (fun _ h => h.elim))⟩, ?_⟩
       clear Z az; intro az Z
       have hw8 := honk_wants H (by omega) hm767
       refine wpPl_fork ?_ ?_
       ·
        have hz := honk_check H (by omega) hm767 hm741 (e2 := m776) (by omega) hq81 hL786
        have h809 := Row.own KRef r799 ok801
        have h810 := SliceOf.pl h809
        have hC811 := next39 (NtV.notes (NtV.k nt792 o800)) h810 (by unfold I64; omega) (by unfold I64; omega) (t := [116]) (by decide) (by omega) (by omega) hz
        refine Pl.MSC Z rfl rfl rfl Tryd.call29 (hC811) rfl ?_
        rintro e w812 ⟨A804, c805, rfl, o806, ok807, sg808⟩; refine ⟨_, rfl, ⟨fun _ => (Only.trans' (Only.trans' o789 o800) o806), (Only.trans (Only.trans (Only.trans (Only.refl NoF w759) o789 (fun _ h => h.elim)) o800 (fun _ h => h.elim)) o806 (fun _ h => h.elim))⟩, ?_⟩
        clear Z az; intro az Z
        refine Pl.MSP (b := true) (by kernel_rfl) (fun W oW => r_mv Z rfl) Z rfl rfl ?_; clear Z az; intro az Z
        refine Pl.MSP (b := true) (by kernel_rfl) (fun W oW => r_ex Z rfl rfl) Z rfl rfl ?_; clear Z az; intro az Z
        refine Pl.MSP (b := false) (by kernel_rfl) (fun W oW => r_ex Z rfl rfl) Z rfl rfl ?_; clear Z az; intro az Z
        obtain ⟨g813, w814, hw, hA, hg817, hl818, o815, B816⟩ := newBlk (w := w812) (e := 42) (cs := [.int .i64 (0), .int .i64 (0), .int .i64 (0), .slice none (0) 0, strV ([])])
        refine Pl.MD (r_al (v := .agg #[.int .i64 (0), .int .i64 (0), .int .i64 (0), .slice none (0) 0, strV ([])]) Tryd.zeroValue42 rfl) Z rfl rfl ?_ ?_
        · rw [← hw]; exact ⟨fun _ => (Only.trans' (Only.trans' (Only.trans' o789 o800) o806) o815), (Only.trans (Only.trans (Only.trans (Only.trans (Only.refl NoF w759) o789 (fun _ h => h.elim)) o800 (fun _ h => h.elim)) o806 (fun _ h => h.elim)) o815 (fun _ h => h.elim))⟩
        rw [← hw, ← hA]; clear Z az; intro az Z
        clear hw hA
        refine Pl.MSS (cs' := [.int .i64 (m52.h), .int .i64 (((L785.length : Nat) : Int)), .int .i64 (m776), .slice A804 ((wantsN (headsN (joinN m766.l))).length) c805, strV ([116])]) Tryd.sizeOf42 Z rfl rfl rfl rfl rfl rfl ⟨rfl, rfl, rfl, rfl, rfl, trivial⟩ B816 rfl rfl fun w819 s820 B821 => ?_
        have O822 : Only NoF w759 w812 := (Only.trans' (Only.trans' o789 o800) o806)
        refine ⟨⟨fun h => absurd h (by decide), (Only.trans (Only.trans (Only.trans (Only.trans (Only.trans (Only.refl NoF w759) o789 (fun _ h => h.elim)) o800 (fun _ h => h.elim)) o806 (fun _ h => h.elim)) o815 (fun _ h => h.elim)) s820 (fun k h => .inr (Nat.le_trans (size_only O822) ((oneF_ge hg817) k h))))⟩, ?_⟩
        refine Pl.MSP (b := false) (by kernel_rfl) (fun W oW => r_as Z rfl) Z rfl rfl ?_; clear Z az; intro az Z
        refine wpPl_nil ?_
        refine k758 _ _ (wp_seq_k fun _ k823 => ?_)
        refine wp_seq_k fun _ k824 => wp_region_lit ?_
        refine L (r_mv Z rfl) Z rfl ?_; clear Z az; intro az Z
        refine L ((r_cast (b := false) (r_neRI Z rfl rfl) (by decide))) Z rfl ?_; clear Z az; intro az Z
        refine k824 _ _ ?_
        refine br_false Z rfl ?_
        refine wp_skip ?_
        refine k823 _ _ (wp_seq_k fun _ k825 => ?_)
        refine reg_p (ownF (.slice A14 (8) 8)) 2 [9, 10, 12] (.rd 0 (.rd 1 (.rd 2 (.rd 3 (.rd 4 (.rd 5 (.rd 6 (.rd 7 (.rd 8 (.ex 9 (.ex 10 (.rd 11 (.ex 12 .nil))))))))))))) (by kernel_rfl) (by kernel_rfl) (fun _ _ _ _ _ h => h) fun w826 o827 => ?_
        have O829 := (Only.trans (Only.trans (Only.trans (Only.trans (Only.trans (Only.trans (Only.trans (Only.refl (fun _ => True) w60) s66 (fun _ _ => .inl trivial)) o734 (fun _ _ => .inl trivial)) o749 (fun _ _ => .inl trivial)) o760 (fun _ _ => .inl trivial)) o789 (fun _ _ => .inl trivial)) o800 (fun _ _ => .inl trivial)) o806 (fun _ _ => .inl trivial))
        have ne828 : g59 ≠ g813 := (ne_of hl64 (Nat.le_trans (size_only O829) hg817))
        have B830 := (Blk.k (Blk.st (Blk.k (Blk.k (Blk.k (Blk.k B761 o789) o800) o806) o815) s820 ne828) o827)
        have B831 := (Blk.k B821 o827)
        refine Pl.MSP (b := true) (by kernel_rfl) (fun W oW => r_mv Z rfl) Z rfl rfl ?_; clear Z az; intro az Z
        refine Pl.MSP (b := true) (by kernel_rfl) (fun W oW => r_fa (m' := 0) Tryd.underlying55 rfl Tryd.sizeOf3 rfl Z rfl rfl) Z rfl rfl ?_; clear Z az; intro az Z
        refine Pl.MSP (b := true) (by kernel_rfl) (fun W oW => r_ld Tryd.isAgg3 Z rfl ((Blk.ca (Blk.k B830 oW)) 0 _ rfl)) Z rfl rfl ?_; clear Z az; intro az Z
        refine Pl.MSP (b := true) (by kernel_rfl) (fun W oW => r_mv Z rfl) Z rfl rfl ?_; clear Z az; intro az Z
        refine Pl.MSP (b := true) (by kernel_rfl) (fun W oW => r_fa (m' := 0) Tryd.underlying55 rfl Tryd.sizeOf3 rfl Z rfl rfl) Z rfl rfl ?_; clear Z az; intro az Z
        refine Pl.MSP (b := true) (by kernel_rfl) (fun W oW => r_ld Tryd.isAgg3 Z rfl ((Blk.ca (Blk.k B830 oW)) 0 _ rfl)) Z rfl rfl ?_; clear Z az; intro az Z
        have O832 := (Only.trans (Only.trans (Only.trans (Only.trans (Only.trans (Only.trans (Only.trans (Only.trans (Only.refl (fun _ => True) w42) o61 (fun _ _ => .inl trivial)) s66 (fun _ _ => .inl trivial)) o734 (fun _ _ => .inl trivial)) o749 (fun _ _ => .inl trivial)) o760 (fun _ _ => .inl trivial)) o789 (fun _ _ => .inl trivial)) o800 (fun _ _ => .inl trivial)) o806 (fun _ _ => .inl trivial))
        have r833 := (ow_k (ow_only (ow_k (ow_k (ow_k (ow_k r762 o789) o800) o806) o815) s820 (fun k hk => lt_F (oneF_ge hg817) (size_only O832) k (ownF_lt rK k hk))) o827)
        have h834 := Row.ownN KRr r833 hKl (fun _ _ => trivial)
        refine Pl.MSP (b := true) (by kernel_rfl) (fun W oW => r_ia (k := q80) (size := 1) Tryd.underlying29 Tryd.sizeOf22 Z rfl rfl hq81 hk764 hA769) Z rfl rfl ?_; clear Z az; intro az Z
        have O835 : Only NoF w759 w826 := (Only.trans' (o_sg (Only.trans' O822 o815) s820 (size_only O822) (oneF_ge hg817)) o827)
        refine Pl.MSP (b := true) (by kernel_rfl) (fun W oW => r_ld Tryd.isAgg22 Z rfl (CA.first (E770 _ (Only.trans' O835 oW)))) Z rfl rfl ?_; clear Z az; intro az Z
        refine Pl.MSP (b := true) (by kernel_rfl) (fun W oW => r_ldA Tryd.isAgg42 Tryd.sizeOf42 Z rfl (Blk.ca (Blk.k B831 oW)) rfl) Z rfl rfl ?_; clear Z az; intro az Z
        obtain ⟨A836, w837, hw, hA, r838, o839⟩ := Row.made (w := w826) KN0 (e := 42) ([(⟨m52.h, ((L785.length : Nat) : Int), m776, A804, (wantsN (headsN (joinN m766.l))), c805, [116]⟩ : NM)] : List NM) (by simp only [List.length_cons, List.length_nil]; unfold maxLen; omega)
        refine Pl.MD (r_bs (z := .agg #[.int .i64 (0), .int .i64 (0), .int .i64 (0), .slice none (0) 0, strV ([])]) (size := 5) (vs := [(0, .agg #[.int .i64 (m52.h), .int .i64 (((L785.length : Nat) : Int)), .int .i64 (m776), .slice A804 ((wantsN (headsN (joinN m766.l))).length) c805, strV ([116])])]) (cs := List.flatMap KN0.cells [(⟨m52.h, ((L785.length : Nat) : Int), m776, A804, (wantsN (headsN (joinN m766.l))), c805, [116]⟩ : NM)]) Tryd.underlying22 Tryd.sizeOf42 Tryd.zeroValue42 rfl (Fr.evalps Z rfl) (by kernel_rfl)) Z rfl rfl ?_ ?_
        · rw [← hw]; exact ⟨fun _ => o839, (Only.trans (Only.refl (ownF (.slice A14 (8) 8)) w826) o839 (fun _ h => h.elim))⟩
        rw [← hw, ← hA]; clear Z az; intro az Z
        clear hw hA
        have ok840 : ∀ zq ∈ ([(⟨m52.h, ((L785.length : Nat) : Int), m776, A804, (wantsN (headsN (joinN m766.l))), c805, [116]⟩ : NM)] : List NM), KN0.ok zq := by intro zq hx; simp only [List.mem_cons, List.not_mem_nil, or_false] at hx; rcases hx with rfl <;> first | exact trivial
        have O842 : Only NoF w w812 := (Only.trans' (Only.trans' O795 o800) o806)
        have O843 : Only NoF w w837 := (Only.trans' (Only.trans' (o_sg (Only.trans' (Only.trans' (Only.trans' O795 o800) o806) o815) s820 (size_only O842) (oneF_ge hg817)) o827) o839)
        have G841 := Gr.k hG O843
        have O844 : Only NoF w748 w812 := (Only.trans' (Only.trans' O796 o800) o806)
        have O845 : Only NoF w748 w837 := (Only.trans' (Only.trans' (o_sg (Only.trans' (Only.trans' (Only.trans' O796 o800) o806) o815) s820 (size_only O844) (oneF_ge hg817)) o827) o839)
        have O846 : Only NoF w812 w837 := (Only.trans' (Only.trans' (o_sg o815 s820 (Nat.le_refl _) (oneF_ge hg817)) o827) o839)
        have h847 := (SliceOf.kp sg808 O846 (fun _ _ h => h) (fun _ _ _ _ h => h))
        have h848 := SliceOf.pl h847
        have nt849 : NtV w837 (.slice A836 (List.length ([(⟨m52.h, ((L785.length : Nat) : Int), m776, A804, (wantsN (headsN (joinN m766.l))), c805, [116]⟩ : NM)] : List NM)) 1) [(⟨m52.h, ((L785.length : Nat) : Int), m776, A804, (wantsN (headsN (joinN m766.l))), c805, [116]⟩ : NM)] := ⟨SliceOf.pl (Row.own KN0 r838 (fun _ _ => trivial)), (ok_cons (okN_mk (by unfold I64; omega) h848 (by unfold maxLen; decide)) OkNs.nil)⟩
        have hC857 := Join_v_ G841 (NtV.k (hk756 _ (List.mem_of_getElem? hm767)).nt O845) nt849 (by first | omega | (simp only [List.length_cons, List.length_nil]; omega))
        refine Pl.MSC Z rfl rfl rfl Tryd.call11 (hC857) rfl ?_
        rintro e w858 ⟨A850, c851, L852, rfl, hL853, hS854, hN855, o856⟩; refine ⟨_, rfl, ⟨fun _ => (Only.trans' o839 o856), (Only.trans (Only.trans (Only.refl (ownF (.slice A14 (8) 8)) w826) o839 (fun _ h => h.elim)) o856 (fun _ h => h.elim))⟩, ?_⟩
        clear Z az; intro az Z
        have nt859 : NtV w858 (.slice A850 (L852.length) c851) L852 := ⟨SliceOf.pl hS854, OkNs.pl hN855⟩
        have hm860 : L852.length ≤ 1000000 := (by have h0 := congrArg List.length hL853; rw [List.length_map] at h0; rw [h0]; exact Nat.le_trans (joinN_le _) (by (try simp only [List.length_append, List.length_cons, List.length_nil]); omega))
        have r861 := (ow_k (ow_k r833 o839) o856)
        have h862 := Row.ownN KRr r861 hKl (fun _ _ => trivial)
        refine Pl.MSP (b := true) (by kernel_rfl) (fun W oW => r_ia (k := q80) (size := 1) Tryd.underlying29 Tryd.sizeOf22 Z rfl rfl hq81 hk764 hA769) Z rfl rfl ?_; clear Z az; intro az Z
        have O863 : Only NoF w748 w858 := (Only.trans' O845 o856)
        have O865 : Only NoF w812 w858 := (Only.trans' O846 o856)
        have h866 := (SliceOf.kp sg808 O865 (fun _ _ h => h) (fun _ _ _ _ h => h))
        have r867 := (ow_k (ow_k r762 o789) o800)
        have r868 := (ow_k (ow_k r772 o789) o800)
        have r869 := (ow_k (ow_k (ow_k (ow_only (ow_k (ow_only (ow_k rA o61) s66 (fun k hk => lt_F (oneF_ge hg63) (Nat.le_refl _) k (ownF_lt rA k hk))) o734) o749 (ow_ne (ow_k (ow_only (ow_k rA o61) s66 (fun k hk => lt_F (oneF_ge hg63) (Nat.le_refl _) k (ownF_lt rA k hk))) o734) r736 (by decide))) o760) o789) o800)
        have hn864 : okN (SKr (FK (.slice A14 (8) 8) (.slice A23 (8) 8) (.slice Ao (a.length) co)) w858) w858 (⟨m52.h, ((L785.length : Nat) : Int), m776, A804, (wantsN (headsN (joinN m766.l))), c805, [116]⟩ : NM) := okN.new (okN_mk (by unfold I64; omega) h866 (by decide)) ((FK.lt (ownF_lt r867) (ownF_lt r868) (ownF_lt r869)))
        have r871 := (ow_k r833 o839)
        have r872 := (ow_k (ow_k (ow_only (ow_k (ow_k r868 o806) o815) s820 (fun k hk => lt_F (oneF_ge hg817) (size_only O832) k (ownF_lt rD k hk))) o827) o839)
        have r873 := (ow_k (ow_k (ow_only (ow_k (ow_k r869 o806) o815) s820 (fun k hk => lt_F (oneF_ge hg817) (size_only O832) k (ownF_lt rA k hk))) o827) o839)
        have hx870 : NtS (SKr (FK (.slice A14 (8) 8) (.slice A23 (8) 8) (.slice Ao (a.length) co)) w858) w858 (.slice A850 (L852.length) c851) L852 := (NtS.new hS854 hN855 (FK.lt (ownF_lt r871) (ownF_lt r872) (ownF_lt r873))).mv (Only.refl NoF w858) (fun _ h => h.elim)
        have hk874 := (KOk.mv hk756 O863 (fun _ h => h.elim))
        have hk882 : q80 < 8 := by omega
        refine Pl.MSSQ (k := q80) (x := (⟨A850, L852, c851⟩ : NR)) KRr Tryd.sizeOf22 Z rfl rfl rfl rfl rfl r861 hKl hk882 fun w875 o876 r877 => ?_
        obtain ⟨N878, hN879⟩ : ∃ N0, N0 = List.set KL q80 (⟨A850, L852, c851⟩ : NR) := ⟨_, rfl⟩
        rw [← hN879] at r877
        have hl880 : N878.length = 8 := by rw [hN879]; exact List.length_set.trans hKl
        have ok881 : ∀ zq ∈ N878, KRr.ok zq := by rw [hN879]; exact set_ok (fun _ _ => trivial) trivial
        refine ⟨⟨fun h => absurd h (by decide), (Only.trans (Only.trans (Only.trans (Only.refl (ownF (.slice A14 (8) 8)) w826) o839 (fun _ h => h.elim)) o856 (fun _ h => h.elim)) o876 (fun _ h => .inl h))⟩, ?_⟩
        have hk883 : KOk (FK (.slice A14 (8) 8) (.slice A23 (8) 8) (.slice Ao (a.length) co)) w875 N878 := by rw [hN879]; exact (KOk.set hk874 hx870).mv o876 FK.k
        have ha884 : OkNs (SKr (FK (.slice A14 (8) 8) (.slice A23 (8) 8) (.slice Ao (a.length) co)) w875) w875 a := OkNs.mv (OkNs.mv ha757 O863 (fun _ h => h.elim)) o876 FK.k
        have hn885 := okN.mv hn864 o876 FK.k
        have H886 := honk_seal H (by omega) hm767 hm741 (by omega) hq81 hL786 (X := (⟨A850, L852, c851⟩ : NR)) hL853
        rw [← hN879] at H886
        refine wpPl_nil ?_
        refine k825 _ _ ?_
        refine wp_region_lit ?_
        refine L (r_mv Z rfl) Z rfl ?_; clear Z az; intro az Z
        have B887 := (Blk.only (Blk.k (Blk.k B831 o839) o856) o876 (fun h => absurd ((ownF_lt rK) _ h) (Nat.not_lt.2 (Nat.le_trans (size_only O832) hg817))))
        refine L (r_ldA Tryd.isAgg42 Tryd.sizeOf42 Z rfl (Blk.ca B887) rfl) Z rfl ?_; clear Z az; intro az Z
        obtain ⟨A888, w889, hw, hA, r890, o891⟩ := Row.made (w := w875) KN0 (e := 42) ([(⟨m52.h, ((L785.length : Nat) : Int), m776, A804, (wantsN (headsN (joinN m766.l))), c805, [116]⟩ : NM)] : List NM) (by simp only [List.length_cons, List.length_nil]; unfold maxLen; omega)
        refine L (r_bs (z := .agg #[.int .i64 (0), .int .i64 (0), .int .i64 (0), .slice none (0) 0, strV ([])]) (size := 5) (vs := [(0, .agg #[.int .i64 (m52.h), .int .i64 (((L785.length : Nat) : Int)), .int .i64 (m776), .slice A804 ((wantsN (headsN (joinN m766.l))).length) c805, strV ([116])])]) (cs := List.flatMap KN0.cells [(⟨m52.h, ((L785.length : Nat) : Int), m776, A804, (wantsN (headsN (joinN m766.l))), c805, [116]⟩ : NM)]) Tryd.underlying22 Tryd.sizeOf42 Tryd.zeroValue42 rfl (Fr.evalps Z rfl) (by kernel_rfl)) Z rfl ?_
        rw [← hw, ← hA]; clear Z az; intro az Z
        clear hw hA
        have ok892 : ∀ zq ∈ ([(⟨m52.h, ((L785.length : Nat) : Int), m776, A804, (wantsN (headsN (joinN m766.l))), c805, [116]⟩ : NM)] : List NM), KN0.ok zq := by intro zq hx; simp only [List.mem_cons, List.not_mem_nil, or_false] at hx; rcases hx with rfl <;> first | exact trivial
        have hk893 := (KOk.mv hk883 o891 (fun _ h => h.elim))
        have ha894 := OkNs.app (OkNs.mv ha884 o891 (fun _ h => h.elim)) (okN.mv hn885 o891 (fun _ h => h.elim))
        have r896 := (ow_k (ow_only (ow_k r873 o856) o876 (ow_ne (ow_k r873 o856) r861 (by decide))) o891)
        have h897 := SliceOf.pl (Row.own KN0 r890 ok892)
        have hb905 : (List.length (a) + List.length ([(⟨m52.h, ((L785.length : Nat) : Int), m776, A804, (wantsN (headsN (joinN m766.l))), c805, [116]⟩ : NM)])) * 64 ≤ 140737488355328 := by (simp only [List.length_cons, List.length_nil]; omega)
        have O906 : Only NoF w4 w812 := (Only.trans' (Only.trans' (Only.trans' (Only.trans' (o_sg (Only.trans' (o_sg (Only.trans' o43 o61) s66 (size_only o43) (oneF_ge hg63)) o734) o749 (Nat.le_refl _) (ownF_ge rD)) o760) o789) o800) o806)
        have O907 : Only NoF w4 w889 := (Only.trans' (o_sg (Only.trans' (Only.trans' (Only.trans' (o_sg (Only.trans' (Only.trans' (Only.trans' (Only.trans' (Only.trans' (o_sg (Only.trans' (o_sg (Only.trans' o43 o61) s66 (size_only o43) (oneF_ge hg63)) o734) o749 (Nat.le_refl _) (ownF_ge rD)) o760) o789) o800) o806) o815) s820 (size_only O906) (oneF_ge hg817)) o827) o839) o856) o876 (Nat.le_refl _) (ownF_ge rK)) o891)
        obtain ⟨A898, c899, w900, hr901, r902, o903, al904⟩ := Row.app (P := Tryd.prog) (l := a) (l2 := [(⟨m52.h, ((L785.length : Nat) : Int), m776, A804, (wantsN (headsN (joinN m766.l))), c805, [116]⟩ : NM)]) KN0 elemNote r896 h897 hb905 (by unfold maxLen; omega) (size_only O907)
        refine L (r_app hr901 Z rfl rfl) Z rfl ?_; clear Z az; intro az Z
        have ok908 : ∀ zq ∈ (a ++ [(⟨m52.h, ((L785.length : Nat) : Int), m776, A804, (wantsN (headsN (joinN m766.l))), c805, [116]⟩ : NM)]), KN0.ok zq := (fun x hx => (List.mem_append.1 hx).elim ((fun _ _ => trivial) x) ((Row.oks KN0 h897) x))
        have h909 := Row.own KN0 r902 ok908
        have hf910 : ∀ k, FK (.slice A14 (8) 8) (.slice A23 (8) 8) (.slice A898 (((a ++ [(⟨m52.h, ((L785.length : Nat) : Int), m776, A804, (wantsN (headsN (joinN m766.l))), c805, [116]⟩ : NM)])).length) c899) k → FK (.slice A14 (8) 8) (.slice A23 (8) 8) (.slice Ao (a.length) co) k ∨ w889.heap.size ≤ k := FK.ap fun k h => (app_Fg al904 h).elim .inl (fun h => .inr (by omega))
        have hk911 : KOk (FK (.slice A14 (8) 8) (.slice A23 (8) 8) (.slice A898 (((a ++ [(⟨m52.h, ((L785.length : Nat) : Int), m776, A804, (wantsN (headsN (joinN m766.l))), c805, [116]⟩ : NM)])).length) c899)) w900 N878 := KOk.mvA hk893 o903 FK.a hf910
        have ha912 := OkNs.mvA ha894 o903 FK.a hf910
        refine L (r_as Z rfl) Z rfl ?_; clear Z az; intro az Z
        refine k49 _ _ ?_
        refine wp_region_lit ?_
        refine L (r_mv Z rfl) Z rfl ?_; clear Z az; intro az Z
        have i913 : I64 (((i : Int) + 1)) := by unfold I64; omega
        refine L (r_addI (r := ((i : Int) + 1)) Z rfl rfl rfl i913) Z rfl ?_; clear Z az; intro az Z
        refine L (r_as Z rfl) Z rfl ?_; clear Z az; intro az Z
        have he9 : List.set D q80 m776 = N751 := by rw [hdv]; exact hN752.symm
        have H914 : HonK N878 N751 (List.map ns (a ++ [(⟨m52.h, ((L785.length : Nat) : Int), m776, A804, (wantsN (headsN (joinN m766.l))), c805, [116]⟩ : NM)])) (i + 1) := by have h0 := H886; rw [he9] at h0; exact h0
        have O915 : Only NoF w4 w900 := (o_sg O907 o903 (Nat.le_refl _) (ownF_ge rA))
        have r916 := (ow_only (ow_k r877 o891) o903 (ow_ne (ow_k r877 o891) r896 (by decide)))
        have r917 := (ow_only (ow_k (ow_only (ow_k r872 o856) o876 (ow_ne (ow_k r872 o856) r861 (by decide))) o891) o903 (ow_ne (ow_k (ow_only (ow_k r872 o856) o876 (ow_ne (ow_k r872 o856) r861 (by decide))) o891) r896 (by decide)))
        exact ⟨_, (by omega), i + 1, N878, N751, (a ++ [(⟨m52.h, ((L785.length : Nat) : Int), m776, A804, (wantsN (headsN (joinN m766.l))), c805, [116]⟩ : NM)]), A898, c899, rfl, Z.cut ⟨rfl, rfl, rfl, rfl, rfl, rfl, rfl, trivial⟩, (by omega), H914, hl880, hl753, O915, r916, r917, r902, hk911, ha912⟩
       ·
        obtain ⟨g918, w919, hw, hA, hg922, hl923, o920, B921⟩ := newBlk (w := w803) (e := 42) (cs := [.int .i64 (0), .int .i64 (0), .int .i64 (0), .slice none (0) 0, strV ([])])
        refine Pl.MD (r_al (v := .agg #[.int .i64 (0), .int .i64 (0), .int .i64 (0), .slice none (0) 0, strV ([])]) Tryd.zeroValue42 rfl) Z rfl rfl ?_ ?_
        · rw [← hw]; exact ⟨fun _ => (Only.trans' (Only.trans' o789 o800) o920), (Only.trans (Only.trans (Only.trans (Only.refl NoF w759) o789 (fun _ h => h.elim)) o800 (fun _ h => h.elim)) o920 (fun _ h => h.elim))⟩
        rw [← hw, ← hA]; clear Z az; intro az Z
        clear hw hA
        have hz := honk_check H (by omega) hm767 hm741 (e2 := m776) (by omega) hq81 hL786
        have O929 : Only NoF w791 w919 := (Only.trans' o800 o920)
        have h930 := Row.own KRef r799 ok801
        have h931 := (SliceOf.kp h930 o920 (fun _ _ h => h) (fun _ _ _ _ h => h))
        have h932 := SliceOf.pl h931
        have hC933 := next39 (NtV.notes (NtV.k nt792 O929)) h932 (by unfold I64; omega) (by unfold I64; omega) (t := [116]) (by decide) (by omega) (by omega) hz
        refine Pl.MSC Z rfl rfl rfl Tryd.call29 (hC933) rfl ?_
        rintro e w934 ⟨A924, c925, rfl, o926, ok927, sg928⟩; refine ⟨_, rfl, ⟨fun _ => (Only.trans' (Only.trans' (Only.trans' o789 o800) o920) o926), (Only.trans (Only.trans (Only.trans (Only.trans (Only.refl NoF w759) o789 (fun _ h => h.elim)) o800 (fun _ h => h.elim)) o920 (fun _ h => h.elim)) o926 (fun _ h => h.elim))⟩, ?_⟩
        clear Z az; intro az Z
        refine Pl.MSP (b := true) (by kernel_rfl) (fun W oW => r_mv Z rfl) Z rfl rfl ?_; clear Z az; intro az Z
        refine Pl.MSP (b := true) (by kernel_rfl) (fun W oW => r_ex Z rfl rfl) Z rfl rfl ?_; clear Z az; intro az Z
        refine Pl.MSP (b := false) (by kernel_rfl) (fun W oW => r_ex Z rfl rfl) Z rfl rfl ?_; clear Z az; intro az Z
        have B935 := (Blk.k B921 o926)
        refine Pl.MSS (cs' := [.int .i64 (m52.h), .int .i64 (((L785.length : Nat) : Int)), .int .i64 (m776), .slice A924 ((wantsN (headsN (joinN m766.l))).length) c925, strV ([116])]) Tryd.sizeOf42 Z rfl rfl rfl rfl rfl rfl ⟨rfl, rfl, rfl, rfl, rfl, trivial⟩ B935 rfl rfl fun w936 s937 B938 => ?_
        have O939 : Only NoF w759 w803 := (Only.trans' o789 o800)
        refine ⟨⟨fun h => absurd h (by decide), (Only.trans (Only.trans (Only.trans (Only.trans (Only.trans (Only.refl NoF w759) o789 (fun _ h => h.elim)) o800 (fun _ h => h.elim)) o920 (fun _ h => h.elim)) o926 (fun _ h => h.elim)) s937 (fun k h => .inr (Nat.le_trans (size_only O939) ((oneF_ge hg922) k h))))⟩, ?_⟩
        refine Pl.MSP (b := false) (by kernel_rfl) (fun W oW => r_as Z rfl) Z rfl rfl ?_; clear Z az; intro az Z
        refine wpPl_nil ?_
        refine k758 _ _ (wp_seq_k fun _ k940 => ?_)
        refine wp_seq_k fun _ k941 => wp_region_lit ?_
        refine L (r_mv Z rfl) Z rfl ?_; clear Z az; intro az Z
        refine L ((r_cast (b := false) (r_neRI Z rfl rfl) (by decide))) Z rfl ?_; clear Z az; intro az Z
        refine k941 _ _ ?_
        refine br_false Z rfl ?_
        refine wp_skip ?_
        refine k940 _ _ (wp_seq_k fun _ k942 => ?_)
        refine reg_p (ownF (.slice A14 (8) 8)) 2 [9, 10, 12] (.rd 0 (.rd 1 (.rd 2 (.rd 3 (.rd 4 (.rd 5 (.rd 6 (.rd 7 (.rd 8 (.ex 9 (.ex 10 (.rd 11 (.ex 12 .nil))))))))))))) (by kernel_rfl) (by kernel_rfl) (fun _ _ _ _ _ h => h) fun w943 o944 => ?_
        have O946 := (Only.trans (Only.trans (Only.trans (Only.trans (Only.trans (Only.trans (Only.refl (fun _ => True) w60) s66 (fun _ _ => .inl trivial)) o734 (fun _ _ => .inl trivial)) o749 (fun _ _ => .inl trivial)) o760 (fun _ _ => .inl trivial)) o789 (fun _ _ => .inl trivial)) o800 (fun _ _ => .inl trivial))
        have ne945 : g59 ≠ g918 := (ne_of hl64 (Nat.le_trans (size_only O946) hg922))
        have B947 := (Blk.k (Blk.st (Blk.k (Blk.k (Blk.k (Blk.k B761 o789) o800) o920) o926) s937 ne945) o944)
        have B948 := (Blk.k B938 o944)
        refine Pl.MSP (b := true) (by kernel_rfl) (fun W oW => r_mv Z rfl) Z rfl rfl ?_; clear Z az; intro az Z
        refine Pl.MSP (b := true) (by kernel_rfl) (fun W oW => r_fa (m' := 0) Tryd.underlying55 rfl Tryd.sizeOf3 rfl Z rfl rfl) Z rfl rfl ?_; clear Z az; intro az Z
        refine Pl.MSP (b := true) (by kernel_rfl) (fun W oW => r_ld Tryd.isAgg3 Z rfl ((Blk.ca (Blk.k B947 oW)) 0 _ rfl)) Z rfl rfl ?_; clear Z az; intro az Z
        refine Pl.MSP (b := true) (by kernel_rfl) (fun W oW => r_mv Z rfl) Z rfl rfl ?_; clear Z az; intro az Z
        refine Pl.MSP (b := true) (by kernel_rfl) (fun W oW => r_fa (m' := 0) Tryd.underlying55 rfl Tryd.sizeOf3 rfl Z rfl rfl) Z rfl rfl ?_; clear Z az; intro az Z
        refine Pl.MSP (b := true) (by kernel_rfl) (fun W oW => r_ld Tryd.isAgg3 Z rfl ((Blk.ca (Blk.k B947 oW)) 0 _ rfl)) Z rfl rfl ?_; clear Z az; intro az Z
        have O949 := (Only.trans (Only.trans (Only.trans (Only.trans (Only.trans (Only.trans (Only.trans (Only.refl (fun _ => True) w42) o61 (fun _ _ => .inl trivial)) s66 (fun _ _ => .inl trivial)) o734 (fun _ _ => .inl trivial)) o749 (fun _ _ => .inl trivial)) o760 (fun _ _ => .inl trivial)) o789 (fun _ _ => .inl trivial)) o800 (fun _ _ => .inl trivial))
        have r950 := (ow_k (ow_only (ow_k (ow_k (ow_k (ow_k r762 o789) o800) o920) o926) s937 (fun k hk => lt_F (oneF_ge hg922) (size_only O949) k (ownF_lt rK k hk))) o944)
        have h951 := Row.ownN KRr r950 hKl (fun _ _ => trivial)
        refine Pl.MSP (b := true) (by kernel_rfl) (fun W oW => r_ia (k := q80) (size := 1) Tryd.underlying29 Tryd.sizeOf22 Z rfl rfl hq81 hk764 hA769) Z rfl rfl ?_; clear Z az; intro az Z
        have O952 : Only NoF w759 w943 := (Only.trans' (o_sg (Only.trans' (Only.trans' O939 o920) o926) s937 (size_only O939) (oneF_ge hg922)) o944)
        refine Pl.MSP (b := true) (by kernel_rfl) (fun W oW => r_ld Tryd.isAgg22 Z rfl (CA.first (E770 _ (Only.trans' O952 oW)))) Z rfl rfl ?_; clear Z az; intro az Z
        refine Pl.MSP (b := true) (by kernel_rfl) (fun W oW => r_ldA Tryd.isAgg42 Tryd.sizeOf42 Z rfl (Blk.ca (Blk.k B948 oW)) rfl) Z rfl rfl ?_; clear Z az; intro az Z
        obtain ⟨A953, w954, hw, hA, r955, o956⟩ := Row.made (w := w943) KN0 (e := 42) ([(⟨m52.h, ((L785.length : Nat) : Int), m776, A924, (wantsN (headsN (joinN m766.l))), c925, [116]⟩ : NM)] : List NM) (by simp only [List.length_cons, List.length_nil]; unfold maxLen; omega)
        refine Pl.MD (r_bs (z := .agg #[.int .i64 (0), .int .i64 (0), .int .i64 (0), .slice none (0) 0, strV ([])]) (size := 5) (vs := [(0, .agg #[.int .i64 (m52.h), .int .i64 (((L785.length : Nat) : Int)), .int .i64 (m776), .slice A924 ((wantsN (headsN (joinN m766.l))).length) c925, strV ([116])])]) (cs := List.flatMap KN0.cells [(⟨m52.h, ((L785.length : Nat) : Int), m776, A924, (wantsN (headsN (joinN m766.l))), c925, [116]⟩ : NM)]) Tryd.underlying22 Tryd.sizeOf42 Tryd.zeroValue42 rfl (Fr.evalps Z rfl) (by kernel_rfl)) Z rfl rfl ?_ ?_
        · rw [← hw]; exact ⟨fun _ => o956, (Only.trans (Only.refl (ownF (.slice A14 (8) 8)) w943) o956 (fun _ h => h.elim))⟩
        rw [← hw, ← hA]; clear Z az; intro az Z
        clear hw hA
        have ok957 : ∀ zq ∈ ([(⟨m52.h, ((L785.length : Nat) : Int), m776, A924, (wantsN (headsN (joinN m766.l))), c925, [116]⟩ : NM)] : List NM), KN0.ok zq := by intro zq hx; simp only [List.mem_cons, List.not_mem_nil, or_false] at hx; rcases hx with rfl <;> first | exact trivial
        have O959 : Only NoF w w803 := (Only.trans' O795 o800)
        have O960 : Only NoF w w954 := (Only.trans' (Only.trans' (o_sg (Only.trans' (Only.trans' (Only.trans' O795 o800) o920) o926) s937 (size_only O959) (oneF_ge hg922)) o944) o956)
        have G958 := Gr.k hG O960
        have O961 : Only NoF w748 w803 := (Only.trans' O796 o800)
        have O962 : Only NoF w748 w954 := (Only.trans' (Only.trans' (o_sg (Only.trans' (Only.trans' (Only.trans' O796 o800) o920) o926) s937 (size_only O961) (oneF_ge hg922)) o944) o956)
        have O963 : Only NoF w936 w954 := (Only.trans' o944 o956)
        have h964 := (SliceOf.kp (SliceOf.kp sg928 s937 (ge_F (oneF_lt hl923) (Nat.le_refl _)) (fun _ _ _ _ h => h)) O963 (fun _ _ h => h) (fun _ _ _ _ h => h))
        have h965 := SliceOf.pl h964
        have nt966 : NtV w954 (.slice A953 (List.length ([(⟨m52.h, ((L785.length : Nat) : Int), m776, A924, (wantsN (headsN (joinN m766.l))), c925, [116]⟩ : NM)] : List NM)) 1) [(⟨m52.h, ((L785.length : Nat) : Int), m776, A924, (wantsN (headsN (joinN m766.l))), c925, [116]⟩ : NM)] := ⟨SliceOf.pl (Row.own KN0 r955 (fun _ _ => trivial)), (ok_cons (okN_mk (by unfold I64; omega) h965 (by unfold maxLen; decide)) OkNs.nil)⟩
        have hC974 := Join_v_ G958 (NtV.k (hk756 _ (List.mem_of_getElem? hm767)).nt O962) nt966 (by first | omega | (simp only [List.length_cons, List.length_nil]; omega))
        refine Pl.MSC Z rfl rfl rfl Tryd.call11 (hC974) rfl ?_
        rintro e w975 ⟨A967, c968, L969, rfl, hL970, hS971, hN972, o973⟩; refine ⟨_, rfl, ⟨fun _ => (Only.trans' o956 o973), (Only.trans (Only.trans (Only.refl (ownF (.slice A14 (8) 8)) w943) o956 (fun _ h => h.elim)) o973 (fun _ h => h.elim))⟩, ?_⟩
        clear Z az; intro az Z
        have nt976 : NtV w975 (.slice A967 (L969.length) c968) L969 := ⟨SliceOf.pl hS971, OkNs.pl hN972⟩
        have hm977 : L969.length ≤ 1000000 := (by have h0 := congrArg List.length hL970; rw [List.length_map] at h0; rw [h0]; exact Nat.le_trans (joinN_le _) (by (try simp only [List.length_append, List.length_cons, List.length_nil]); omega))
        have r978 := (ow_k (ow_k r950 o956) o973)
        have h979 := Row.ownN KRr r978 hKl (fun _ _ => trivial)
        refine Pl.MSP (b := true) (by kernel_rfl) (fun W oW => r_ia (k := q80) (size := 1) Tryd.underlying29 Tryd.sizeOf22 Z rfl rfl hq81 hk764 hA769) Z rfl rfl ?_; clear Z az; intro az Z
        have O980 : Only NoF w748 w975 := (Only.trans' O962 o973)
        have h982 := (SliceOf.kp h964 o973 (fun _ _ h => h) (fun _ _ _ _ h => h))
        have r983 := (ow_k (ow_k (ow_k r762 o789) o800) o920)
        have r984 := (ow_k (ow_k (ow_k r772 o789) o800) o920)
        have r985 := (ow_k (ow_k (ow_k (ow_k (ow_only (ow_k (ow_only (ow_k rA o61) s66 (fun k hk => lt_F (oneF_ge hg63) (Nat.le_refl _) k (ownF_lt rA k hk))) o734) o749 (ow_ne (ow_k (ow_only (ow_k rA o61) s66 (fun k hk => lt_F (oneF_ge hg63) (Nat.le_refl _) k (ownF_lt rA k hk))) o734) r736 (by decide))) o760) o789) o800) o920)
        have hn981 : okN (SKr (FK (.slice A14 (8) 8) (.slice A23 (8) 8) (.slice Ao (a.length) co)) w975) w975 (⟨m52.h, ((L785.length : Nat) : Int), m776, A924, (wantsN (headsN (joinN m766.l))), c925, [116]⟩ : NM) := okN.new (okN_mk (by unfold I64; omega) h982 (by decide)) ((FK.lt (ownF_lt r983) (ownF_lt r984) (ownF_lt r985)))
        have r987 := (ow_k r950 o956)
        have r988 := (ow_k (ow_k (ow_only (ow_k r984 o926) s937 (fun k hk => lt_F (oneF_ge hg922) (size_only O949) k (ownF_lt rD k hk))) o944) o956)
        have r989 := (ow_k (ow_k (ow_only (ow_k r985 o926) s937 (fun k hk => lt_F (oneF_ge hg922) (size_only O949) k (ownF_lt rA k hk))) o944) o956)
        have hx986 : NtS (SKr (FK (.slice A14 (8) 8) (.slice A23 (8) 8) (.slice Ao (a.length) co)) w975) w975 (.slice A967 (L969.length) c968) L969 := (NtS.new hS971 hN972 (FK.lt (ownF_lt r987) (ownF_lt r988) (ownF_lt r989))).mv (Only.refl NoF w975) (fun _ h => h.elim)
        have hk990 := (KOk.mv hk756 O980 (fun _ h => h.elim))
        have hk998 : q80 < 8 := by omega
        refine Pl.MSSQ (k := q80) (x := (⟨A967, L969, c968⟩ : NR)) KRr Tryd.sizeOf22 Z rfl rfl rfl rfl rfl r978 hKl hk998 fun w991 o992 r993 => ?_
        obtain ⟨N994, hN995⟩ : ∃ N0, N0 = List.set KL q80 (⟨A967, L969, c968⟩ : NR) := ⟨_, rfl⟩
        rw [← hN995] at r993
        have hl996 : N994.length = 8 := by rw [hN995]; exact List.length_set.trans hKl
        have ok997 : ∀ zq ∈ N994, KRr.ok zq := by rw [hN995]; exact set_ok (fun _ _ => trivial) trivial
        refine ⟨⟨fun h => absurd h (by decide), (Only.trans (Only.trans (Only.trans (Only.refl (ownF (.slice A14 (8) 8)) w943) o956 (fun _ h => h.elim)) o973 (fun _ h => h.elim)) o992 (fun _ h => .inl h))⟩, ?_⟩
        have hk999 : KOk (FK (.slice A14 (8) 8) (.slice A23 (8) 8) (.slice Ao (a.length) co)) w991 N994 := by rw [hN995]; exact (KOk.set hk990 hx986).mv o992 FK.k
        have ha1000 : OkNs (SKr (FK (.slice A14 (8) 8) (.slice A23 (8) 8) (.slice Ao (a.length) co)) w991) w991 a := OkNs.mv (OkNs.mv ha757 O980 (fun _ h => h.elim)) o992 FK.k
        have hn1001 := okN.mv hn981 o992 FK.k
        have H1002 := honk_seal H (by omega) hm767 hm741 (by omega) hq81 hL786 (X := (⟨A967, L969, c968⟩ : NR)) hL970
        rw [← hN995] at H1002
        refine wpPl_nil ?_
        refine k942 _ _ ?_
        refine wp_region_lit ?_
        refine L (r_mv Z rfl) Z rfl ?_; clear Z az; intro az Z
        have B1003 := (Blk.only (Blk.k (Blk.k B948 o956) o973) o992 (fun h => absurd ((ownF_lt rK) _ h) (Nat.not_lt.2 (Nat.le_trans (size_only O949) hg922))))
        refine L (r_ldA Tryd.isAgg42 Tryd.sizeOf42 Z rfl (Blk.ca B1003) rfl) Z rfl ?_; clear Z az; intro az Z
        obtain ⟨A1004, w1005, hw, hA, r1006, o1007⟩ := Row.made (w := w991) KN0 (e := 42) ([(⟨m52.h, ((L785.length : Nat) : Int), m776, A924, (wantsN (headsN (joinN m766.l))), c925, [116]⟩ : NM)] : List NM) (by simp only [List.length_cons, List.length_nil]; unfold maxLen; omega)
        refine L (r_bs (z := .agg #[.int .i64 (0), .int .i64 (0), .int .i64 (0), .slice none (0) 0, strV ([])]) (size := 5) (vs := [(0, .agg #[.int .i64 (m52.h), .int .i64 (((L785.length : Nat) : Int)), .int .i64 (m776), .slice A924 ((wantsN (headsN (joinN m766.l))).length) c925, strV ([116])])]) (cs := List.flatMap KN0.cells [(⟨m52.h, ((L785.length : Nat) : Int), m776, A924, (wantsN (headsN (joinN m766.l))), c925, [116]⟩ : NM)]) Tryd.underlying22 Tryd.sizeOf42 Tryd.zeroValue42 rfl (Fr.evalps Z rfl) (by kernel_rfl)) Z rfl ?_
        rw [← hw, ← hA]; clear Z az; intro az Z
        clear hw hA
        have ok1008 : ∀ zq ∈ ([(⟨m52.h, ((L785.length : Nat) : Int), m776, A924, (wantsN (headsN (joinN m766.l))), c925, [116]⟩ : NM)] : List NM), KN0.ok zq := by intro zq hx; simp only [List.mem_cons, List.not_mem_nil, or_false] at hx; rcases hx with rfl <;> first | exact trivial
        have hk1009 := (KOk.mv hk999 o1007 (fun _ h => h.elim))
        have ha1010 := OkNs.app (OkNs.mv ha1000 o1007 (fun _ h => h.elim)) (okN.mv hn1001 o1007 (fun _ h => h.elim))
        have r1012 := (ow_k (ow_only (ow_k r989 o973) o992 (ow_ne (ow_k r989 o973) r978 (by decide))) o1007)
        have h1013 := SliceOf.pl (Row.own KN0 r1006 ok1008)
        have hb1021 : (List.length (a) + List.length ([(⟨m52.h, ((L785.length : Nat) : Int), m776, A924, (wantsN (headsN (joinN m766.l))), c925, [116]⟩ : NM)])) * 64 ≤ 140737488355328 := by (simp only [List.length_cons, List.length_nil]; omega)
        have O1022 : Only NoF w4 w803 := (Only.trans' (Only.trans' (Only.trans' (o_sg (Only.trans' (o_sg (Only.trans' o43 o61) s66 (size_only o43) (oneF_ge hg63)) o734) o749 (Nat.le_refl _) (ownF_ge rD)) o760) o789) o800)
        have O1023 : Only NoF w4 w1005 := (Only.trans' (o_sg (Only.trans' (Only.trans' (Only.trans' (o_sg (Only.trans' (Only.trans' (Only.trans' (Only.trans' (Only.trans' (o_sg (Only.trans' (o_sg (Only.trans' o43 o61) s66 (size_only o43) (oneF_ge hg63)) o734) o749 (Nat.le_refl _) (ownF_ge rD)) o760) o789) o800) o920) o926) s937 (size_only O1022) (oneF_ge hg922)) o944) o956) o973) o992 (Nat.le_refl _) (ownF_ge rK)) o1007)
        obtain ⟨A1014, c1015, w1016, hr1017, r1018, o1019, al1020⟩ := Row.app (P := Tryd.prog) (l := a) (l2 := [(⟨m52.h, ((L785.length : Nat) : Int), m776, A924, (wantsN (headsN (joinN m766.l))), c925, [116]⟩ : NM)]) KN0 elemNote r1012 h1013 hb1021 (by unfold maxLen; omega) (size_only O1023)
        refine L (r_app hr1017 Z rfl rfl) Z rfl ?_; clear Z az; intro az Z
        have ok1024 : ∀ zq ∈ (a ++ [(⟨m52.h, ((L785.length : Nat) : Int), m776, A924, (wantsN (headsN (joinN m766.l))), c925, [116]⟩ : NM)]), KN0.ok zq := (fun x hx => (List.mem_append.1 hx).elim ((fun _ _ => trivial) x) ((Row.oks KN0 h1013) x))
        have h1025 := Row.own KN0 r1018 ok1024
        have hf1026 : ∀ k, FK (.slice A14 (8) 8) (.slice A23 (8) 8) (.slice A1014 (((a ++ [(⟨m52.h, ((L785.length : Nat) : Int), m776, A924, (wantsN (headsN (joinN m766.l))), c925, [116]⟩ : NM)])).length) c1015) k → FK (.slice A14 (8) 8) (.slice A23 (8) 8) (.slice Ao (a.length) co) k ∨ w1005.heap.size ≤ k := FK.ap fun k h => (app_Fg al1020 h).elim .inl (fun h => .inr (by omega))
        have hk1027 : KOk (FK (.slice A14 (8) 8) (.slice A23 (8) 8) (.slice A1014 (((a ++ [(⟨m52.h, ((L785.length : Nat) : Int), m776, A924, (wantsN (headsN (joinN m766.l))), c925, [116]⟩ : NM)])).length) c1015)) w1016 N994 := KOk.mvA hk1009 o1019 FK.a hf1026
        have ha1028 := OkNs.mvA ha1010 o1019 FK.a hf1026
        refine L (r_as Z rfl) Z rfl ?_; clear Z az; intro az Z
        refine k49 _ _ ?_
        refine wp_region_lit ?_
        refine L (r_mv Z rfl) Z rfl ?_; clear Z az; intro az Z
        have i1029 : I64 (((i : Int) + 1)) := by unfold I64; omega
        refine L (r_addI (r := ((i : Int) + 1)) Z rfl rfl rfl i1029) Z rfl ?_; clear Z az; intro az Z
        refine L (r_as Z rfl) Z rfl ?_; clear Z az; intro az Z
        have he9 : List.set D q80 m776 = N751 := by rw [hdv]; exact hN752.symm
        have H1030 : HonK N994 N751 (List.map ns (a ++ [(⟨m52.h, ((L785.length : Nat) : Int), m776, A924, (wantsN (headsN (joinN m766.l))), c925, [116]⟩ : NM)])) (i + 1) := by have h0 := H1002; rw [he9] at h0; exact h0
        have O1031 : Only NoF w4 w1016 := (o_sg O1023 o1019 (Nat.le_refl _) (ownF_ge rA))
        have r1032 := (ow_only (ow_k r993 o1007) o1019 (ow_ne (ow_k r993 o1007) r1012 (by decide)))
        have r1033 := (ow_only (ow_k (ow_only (ow_k r988 o973) o992 (ow_ne (ow_k r988 o973) r978 (by decide))) o1007) o1019 (ow_ne (ow_k (ow_only (ow_k r988 o973) o992 (ow_ne (ow_k r988 o973) r978 (by decide))) o1007) r1012 (by decide)))
        exact ⟨_, (by omega), i + 1, N994, N751, (a ++ [(⟨m52.h, ((L785.length : Nat) : Int), m776, A924, (wantsN (headsN (joinN m766.l))), c925, [116]⟩ : NM)]), A1014, c1015, rfl, Z.cut ⟨rfl, rfl, rfl, rfl, rfl, rfl, rfl, trivial⟩, (by omega), H1030, hl996, hl753, O1031, r1032, r1033, r1018, hk1027, ha1028⟩
      ·
       obtain ⟨g1034, w1035, hw, hA, hg1038, hl1039, o1036, B1037⟩ := newBlk (w := w791) (e := 42) (cs := [.int .i64 (0), .int .i64 (0), .int .i64 (0), .slice none (0) 0, strV ([])])
       refine Pl.MD (r_al (v := .agg #[.int .i64 (0), .int .i64 (0), .int .i64 (0), .slice none (0) 0, strV ([])]) Tryd.zeroValue42 rfl) Z rfl rfl ?_ ?_
       · rw [← hw]; exact ⟨fun _ => (Only.trans' o789 o1036), (Only.trans (Only.trans (Only.refl NoF w759) o789 (fun _ h => h.elim)) o1036 (fun _ h => h.elim))⟩
       rw [← hw, ← hA]; clear Z az; intro az Z
       clear hw hA
       have O1041 : Only NoF w w1035 := (Only.trans' (Only.trans' O782 o789) o1036)
       have G1040 := Gr.k hG O1041
       have O1042 : Only NoF w748 w1035 := (Only.trans' (Only.trans' o760 o789) o1036)
       have hC1048 := wants_v_ G1040 (NtV.k (hk756 _ (List.mem_of_getElem? hm767)).nt O1042) (by omega)
       refine Pl.MSC Z rfl rfl rfl Tryd.call30 (hC1048) rfl ?_
       rintro e w1049 ⟨A1043, c1044, rfl, r1045, ok1047, o1046⟩; refine ⟨_, rfl, ⟨fun _ => (Only.trans' (Only.trans' o789 o1036) o1046), (Only.trans (Only.trans (Only.trans (Only.refl NoF w759) o789 (fun _ h => h.elim)) o1036 (fun _ h => h.elim)) o1046 (fun _ h => h.elim))⟩, ?_⟩
       clear Z az; intro az Z
       have hw8 := honk_wants H (by omega) hm767
       have hz := honk_check H (by omega) hm767 hm741 (e2 := m776) (by omega) hq81 hL786
       have O1055 : Only NoF w791 w1049 := (Only.trans' o1036 o1046)
       have h1056 := Row.own KRef r1045 ok1047
       have h1057 := SliceOf.pl h1056
       have hC1058 := next39 (NtV.notes (NtV.k nt792 O1055)) h1057 (by unfold I64; omega) (by unfold I64; omega) (t := [116]) (by decide) (by omega) (by omega) hz
       refine Pl.MSC Z rfl rfl rfl Tryd.call29 (hC1058) rfl ?_
       rintro e w1059 ⟨A1050, c1051, rfl, o1052, ok1053, sg1054⟩; refine ⟨_, rfl, ⟨fun _ => (Only.trans' (Only.trans' (Only.trans' o789 o1036) o1046) o1052), (Only.trans (Only.trans (Only.trans (Only.trans (Only.refl NoF w759) o789 (fun _ h => h.elim)) o1036 (fun _ h => h.elim)) o1046 (fun _ h => h.elim)) o1052 (fun _ h => h.elim))⟩, ?_⟩
       clear Z az; intro az Z
       refine Pl.MSP (b := true) (by kernel_rfl) (fun W oW => r_mv Z rfl) Z rfl rfl ?_; clear Z az; intro az Z
       refine Pl.MSP (b := true) (by kernel_rfl) (fun W oW => r_ex Z rfl rfl) Z rfl rfl ?_; clear Z az; intro az Z
       refine Pl.MSP (b := false) (by kernel_rfl) (fun W oW => r_ex Z rfl rfl) Z rfl rfl ?_; clear Z az; intro az Z
       have B1060 := (Blk.k (Blk.k B1037 o1046) o1052)
       refine Pl.MSS (cs' := [.int .i64 (m52.h), .int .i64 (((L785.length : Nat) : Int)), .int .i64 (m776), .slice A1050 ((wantsN (headsN (joinN m766.l))).length) c1051, strV ([116])]) Tryd.sizeOf42 Z rfl rfl rfl rfl rfl rfl ⟨rfl, rfl, rfl, rfl, rfl, trivial⟩ B1060 rfl rfl fun w1061 s1062 B1063 => ?_
       refine ⟨⟨fun h => absurd h (by decide), (Only.trans (Only.trans (Only.trans (Only.trans (Only.trans (Only.refl NoF w759) o789 (fun _ h => h.elim)) o1036 (fun _ h => h.elim)) o1046 (fun _ h => h.elim)) o1052 (fun _ h => h.elim)) s1062 (fun k h => .inr (Nat.le_trans (size_only o789) ((oneF_ge hg1038) k h))))⟩, ?_⟩
       refine Pl.MSP (b := false) (by kernel_rfl) (fun W oW => r_as Z rfl) Z rfl rfl ?_; clear Z az; intro az Z
       refine wpPl_nil ?_
       refine k758 _ _ (wp_seq_k fun _ k1064 => ?_)
       refine wp_seq_k fun _ k1065 => wp_region_lit ?_
       refine L (r_mv Z rfl) Z rfl ?_; clear Z az; intro az Z
       refine L ((r_cast (b := false) (r_neRI Z rfl rfl) (by decide))) Z rfl ?_; clear Z az; intro az Z
       refine k1065 _ _ ?_
       refine br_false Z rfl ?_
       refine wp_skip ?_
       refine k1064 _ _ (wp_seq_k fun _ k1066 => ?_)
       refine reg_p (ownF (.slice A14 (8) 8)) 2 [9, 10, 12] (.rd 0 (.rd 1 (.rd 2 (.rd 3 (.rd 4 (.rd 5 (.rd 6 (.rd 7 (.rd 8 (.ex 9 (.ex 10 (.rd 11 (.ex 12 .nil))))))))))))) (by kernel_rfl) (by kernel_rfl) (fun _ _ _ _ _ h => h) fun w1067 o1068 => ?_
       have O1070 := (Only.trans (Only.trans (Only.trans (Only.trans (Only.trans (Only.refl (fun _ => True) w60) s66 (fun _ _ => .inl trivial)) o734 (fun _ _ => .inl trivial)) o749 (fun _ _ => .inl trivial)) o760 (fun _ _ => .inl trivial)) o789 (fun _ _ => .inl trivial))
       have ne1069 : g59 ≠ g1034 := (ne_of hl64 (Nat.le_trans (size_only O1070) hg1038))
       have B1071 := (Blk.k (Blk.st (Blk.k (Blk.k (Blk.k (Blk.k B761 o789) o1036) o1046) o1052) s1062 ne1069) o1068)
       have B1072 := (Blk.k B1063 o1068)
       refine Pl.MSP (b := true) (by kernel_rfl) (fun W oW => r_mv Z rfl) Z rfl rfl ?_; clear Z az; intro az Z
       refine Pl.MSP (b := true) (by kernel_rfl) (fun W oW => r_fa (m' := 0) Tryd.underlying55 rfl Tryd.sizeOf3 rfl Z rfl rfl) Z rfl rfl ?_; clear Z az; intro az Z
       refine Pl.MSP (b := true) (by kernel_rfl) (fun W oW => r_ld Tryd.isAgg3 Z rfl ((Blk.ca (Blk.k B1071 oW)) 0 _ rfl)) Z rfl rfl ?_; clear Z az; intro az Z
       refine Pl.MSP (b := true) (by kernel_rfl) (fun W oW => r_mv Z rfl) Z rfl rfl ?_; clear Z az; intro az Z
       refine Pl.MSP (b := true) (by kernel_rfl) (fun W oW => r_fa (m' := 0) Tryd.underlying55 rfl Tryd.sizeOf3 rfl Z rfl rfl) Z rfl rfl ?_; clear Z az; intro az Z
       refine Pl.MSP (b := true) (by kernel_rfl) (fun W oW => r_ld Tryd.isAgg3 Z rfl ((Blk.ca (Blk.k B1071 oW)) 0 _ rfl)) Z rfl rfl ?_; clear Z az; intro az Z
       have O1073 := (Only.trans (Only.trans (Only.trans (Only.trans (Only.trans (Only.trans (Only.refl (fun _ => True) w42) o61 (fun _ _ => .inl trivial)) s66 (fun _ _ => .inl trivial)) o734 (fun _ _ => .inl trivial)) o749 (fun _ _ => .inl trivial)) o760 (fun _ _ => .inl trivial)) o789 (fun _ _ => .inl trivial))
       have r1074 := (ow_k (ow_only (ow_k (ow_k (ow_k (ow_k r762 o789) o1036) o1046) o1052) s1062 (fun k hk => lt_F (oneF_ge hg1038) (size_only O1073) k (ownF_lt rK k hk))) o1068)
       have h1075 := Row.ownN KRr r1074 hKl (fun _ _ => trivial)
       refine Pl.MSP (b := true) (by kernel_rfl) (fun W oW => r_ia (k := q80) (size := 1) Tryd.underlying29 Tryd.sizeOf22 Z rfl rfl hq81 hk764 hA769) Z rfl rfl ?_; clear Z az; intro az Z
       have O1076 : Only NoF w759 w1067 := (Only.trans' (o_sg (Only.trans' (Only.trans' (Only.trans' o789 o1036) o1046) o1052) s1062 (size_only o789) (oneF_ge hg1038)) o1068)
       refine Pl.MSP (b := true) (by kernel_rfl) (fun W oW => r_ld Tryd.isAgg22 Z rfl (CA.first (E770 _ (Only.trans' O1076 oW)))) Z rfl rfl ?_; clear Z az; intro az Z
       refine Pl.MSP (b := true) (by kernel_rfl) (fun W oW => r_ldA Tryd.isAgg42 Tryd.sizeOf42 Z rfl (Blk.ca (Blk.k B1072 oW)) rfl) Z rfl rfl ?_; clear Z az; intro az Z
       obtain ⟨A1077, w1078, hw, hA, r1079, o1080⟩ := Row.made (w := w1067) KN0 (e := 42) ([(⟨m52.h, ((L785.length : Nat) : Int), m776, A1050, (wantsN (headsN (joinN m766.l))), c1051, [116]⟩ : NM)] : List NM) (by simp only [List.length_cons, List.length_nil]; unfold maxLen; omega)
       refine Pl.MD (r_bs (z := .agg #[.int .i64 (0), .int .i64 (0), .int .i64 (0), .slice none (0) 0, strV ([])]) (size := 5) (vs := [(0, .agg #[.int .i64 (m52.h), .int .i64 (((L785.length : Nat) : Int)), .int .i64 (m776), .slice A1050 ((wantsN (headsN (joinN m766.l))).length) c1051, strV ([116])])]) (cs := List.flatMap KN0.cells [(⟨m52.h, ((L785.length : Nat) : Int), m776, A1050, (wantsN (headsN (joinN m766.l))), c1051, [116]⟩ : NM)]) Tryd.underlying22 Tryd.sizeOf42 Tryd.zeroValue42 rfl (Fr.evalps Z rfl) (by kernel_rfl)) Z rfl rfl ?_ ?_
       · rw [← hw]; exact ⟨fun _ => o1080, (Only.trans (Only.refl (ownF (.slice A14 (8) 8)) w1067) o1080 (fun _ h => h.elim))⟩
       rw [← hw, ← hA]; clear Z az; intro az Z
       clear hw hA
       have ok1081 : ∀ zq ∈ ([(⟨m52.h, ((L785.length : Nat) : Int), m776, A1050, (wantsN (headsN (joinN m766.l))), c1051, [116]⟩ : NM)] : List NM), KN0.ok zq := by intro zq hx; simp only [List.mem_cons, List.not_mem_nil, or_false] at hx; rcases hx with rfl <;> first | exact trivial
       have O1083 : Only NoF w w791 := (Only.trans' O782 o789)
       have O1084 : Only NoF w w1078 := (Only.trans' (Only.trans' (o_sg (Only.trans' (Only.trans' O1041 o1046) o1052) s1062 (size_only O1083) (oneF_ge hg1038)) o1068) o1080)
       have G1082 := Gr.k hG O1084
       have O1085 : Only NoF w748 w791 := (Only.trans' o760 o789)
       have O1086 : Only NoF w748 w1078 := (Only.trans' (Only.trans' (o_sg (Only.trans' (Only.trans' O1042 o1046) o1052) s1062 (size_only O1085) (oneF_ge hg1038)) o1068) o1080)
       have O1087 : Only NoF w1061 w1078 := (Only.trans' o1068 o1080)
       have h1088 := (SliceOf.kp (SliceOf.kp sg1054 s1062 (ge_F (oneF_lt hl1039) (size_only o1046)) (fun _ _ _ _ h => h)) O1087 (fun _ _ h => h) (fun _ _ _ _ h => h))
       have h1089 := SliceOf.pl h1088
       have nt1090 : NtV w1078 (.slice A1077 (List.length ([(⟨m52.h, ((L785.length : Nat) : Int), m776, A1050, (wantsN (headsN (joinN m766.l))), c1051, [116]⟩ : NM)] : List NM)) 1) [(⟨m52.h, ((L785.length : Nat) : Int), m776, A1050, (wantsN (headsN (joinN m766.l))), c1051, [116]⟩ : NM)] := ⟨SliceOf.pl (Row.own KN0 r1079 (fun _ _ => trivial)), (ok_cons (okN_mk (by unfold I64; omega) h1089 (by unfold maxLen; decide)) OkNs.nil)⟩
       have hC1098 := Join_v_ G1082 (NtV.k (hk756 _ (List.mem_of_getElem? hm767)).nt O1086) nt1090 (by first | omega | (simp only [List.length_cons, List.length_nil]; omega))
       refine Pl.MSC Z rfl rfl rfl Tryd.call11 (hC1098) rfl ?_
       rintro e w1099 ⟨A1091, c1092, L1093, rfl, hL1094, hS1095, hN1096, o1097⟩; refine ⟨_, rfl, ⟨fun _ => (Only.trans' o1080 o1097), (Only.trans (Only.trans (Only.refl (ownF (.slice A14 (8) 8)) w1067) o1080 (fun _ h => h.elim)) o1097 (fun _ h => h.elim))⟩, ?_⟩
       clear Z az; intro az Z
       have nt1100 : NtV w1099 (.slice A1091 (L1093.length) c1092) L1093 := ⟨SliceOf.pl hS1095, OkNs.pl hN1096⟩
       have hm1101 : L1093.length ≤ 1000000 := (by have h0 := congrArg List.length hL1094; rw [List.length_map] at h0; rw [h0]; exact Nat.le_trans (joinN_le _) (by (try simp only [List.length_append, List.length_cons, List.length_nil]); omega))
       have r1102 := (ow_k (ow_k r1074 o1080) o1097)
       have h1103 := Row.ownN KRr r1102 hKl (fun _ _ => trivial)
       refine Pl.MSP (b := true) (by kernel_rfl) (fun W oW => r_ia (k := q80) (size := 1) Tryd.underlying29 Tryd.sizeOf22 Z rfl rfl hq81 hk764 hA769) Z rfl rfl ?_; clear Z az; intro az Z
       have O1104 : Only NoF w748 w1099 := (Only.trans' O1086 o1097)
       have h1106 := (SliceOf.kp h1088 o1097 (fun _ _ h => h) (fun _ _ _ _ h => h))
       have r1107 := (ow_k (ow_k (ow_k r762 o789) o1036) o1046)
       have r1108 := (ow_k (ow_k (ow_k r772 o789) o1036) o1046)
       have r1109 := (ow_k (ow_k (ow_k (ow_k (ow_only (ow_k (ow_only (ow_k rA o61) s66 (fun k hk => lt_F (oneF_ge hg63) (Nat.le_refl _) k (ownF_lt rA k hk))) o734) o749 (ow_ne (ow_k (ow_only (ow_k rA o61) s66 (fun k hk => lt_F (oneF_ge hg63) (Nat.le_refl _) k (ownF_lt rA k hk))) o734) r736 (by decide))) o760) o789) o1036) o1046)
       have hn1105 : okN (SKr (FK (.slice A14 (8) 8) (.slice A23 (8) 8) (.slice Ao (a.length) co)) w1099) w1099 (⟨m52.h, ((L785.length : Nat) : Int), m776, A1050, (wantsN (headsN (joinN m766.l))), c1051, [116]⟩ : NM) := okN.new (okN_mk (by unfold I64; omega) h1106 (by decide)) ((FK.lt (ownF_lt r1107) (ownF_lt r1108) (ownF_lt r1109)))
       have r1111 := (ow_k r1074 o1080)
       have r1112 := (ow_k (ow_k (ow_only (ow_k r1108 o1052) s1062 (fun k hk => lt_F (oneF_ge hg1038) (size_only O1073) k (ownF_lt rD k hk))) o1068) o1080)
       have r1113 := (ow_k (ow_k (ow_only (ow_k r1109 o1052) s1062 (fun k hk => lt_F (oneF_ge hg1038) (size_only O1073) k (ownF_lt rA k hk))) o1068) o1080)
       have hx1110 : NtS (SKr (FK (.slice A14 (8) 8) (.slice A23 (8) 8) (.slice Ao (a.length) co)) w1099) w1099 (.slice A1091 (L1093.length) c1092) L1093 := (NtS.new hS1095 hN1096 (FK.lt (ownF_lt r1111) (ownF_lt r1112) (ownF_lt r1113))).mv (Only.refl NoF w1099) (fun _ h => h.elim)
       have hk1114 := (KOk.mv hk756 O1104 (fun _ h => h.elim))
       have hk1122 : q80 < 8 := by omega
       refine Pl.MSSQ (k := q80) (x := (⟨A1091, L1093, c1092⟩ : NR)) KRr Tryd.sizeOf22 Z rfl rfl rfl rfl rfl r1102 hKl hk1122 fun w1115 o1116 r1117 => ?_
       obtain ⟨N1118, hN1119⟩ : ∃ N0, N0 = List.set KL q80 (⟨A1091, L1093, c1092⟩ : NR) := ⟨_, rfl⟩
       rw [← hN1119] at r1117
       have hl1120 : N1118.length = 8 := by rw [hN1119]; exact List.length_set.trans hKl
       have ok1121 : ∀ zq ∈ N1118, KRr.ok zq := by rw [hN1119]; exact set_ok (fun _ _ => trivial) trivial
       refine ⟨⟨fun h => absurd h (by decide), (Only.trans (Only.trans (Only.trans (Only.refl (ownF (.slice A14 (8) 8)) w1067) o1080 (fun _ h => h.elim)) o1097 (fun _ h => h.elim)) o1116 (fun _ h => .inl h))⟩, ?_⟩
       have hk1123 : KOk (FK (.slice A14 (8) 8) (.slice A23 (8) 8) (.slice Ao (a.length) co)) w1115 N1118 := by rw [hN1119]; exact (KOk.set hk1114 hx1110).mv o1116 FK.k
       have ha1124 : OkNs (SKr (FK (.slice A14 (8) 8) (.slice A23 (8) 8) (.slice Ao (a.length) co)) w1115) w1115 a := OkNs.mv (OkNs.mv ha757 O1104 (fun _ h => h.elim)) o1116 FK.k
       have hn1125 := okN.mv hn1105 o1116 FK.k
       have H1126 := honk_seal H (by omega) hm767 hm741 (by omega) hq81 hL786 (X := (⟨A1091, L1093, c1092⟩ : NR)) hL1094
       rw [← hN1119] at H1126
       refine wpPl_nil ?_
       refine k1066 _ _ ?_
       refine wp_region_lit ?_
       refine L (r_mv Z rfl) Z rfl ?_; clear Z az; intro az Z
       have B1127 := (Blk.only (Blk.k (Blk.k B1072 o1080) o1097) o1116 (fun h => absurd ((ownF_lt rK) _ h) (Nat.not_lt.2 (Nat.le_trans (size_only O1073) hg1038))))
       refine L (r_ldA Tryd.isAgg42 Tryd.sizeOf42 Z rfl (Blk.ca B1127) rfl) Z rfl ?_; clear Z az; intro az Z
       obtain ⟨A1128, w1129, hw, hA, r1130, o1131⟩ := Row.made (w := w1115) KN0 (e := 42) ([(⟨m52.h, ((L785.length : Nat) : Int), m776, A1050, (wantsN (headsN (joinN m766.l))), c1051, [116]⟩ : NM)] : List NM) (by simp only [List.length_cons, List.length_nil]; unfold maxLen; omega)
       refine L (r_bs (z := .agg #[.int .i64 (0), .int .i64 (0), .int .i64 (0), .slice none (0) 0, strV ([])]) (size := 5) (vs := [(0, .agg #[.int .i64 (m52.h), .int .i64 (((L785.length : Nat) : Int)), .int .i64 (m776), .slice A1050 ((wantsN (headsN (joinN m766.l))).length) c1051, strV ([116])])]) (cs := List.flatMap KN0.cells [(⟨m52.h, ((L785.length : Nat) : Int), m776, A1050, (wantsN (headsN (joinN m766.l))), c1051, [116]⟩ : NM)]) Tryd.underlying22 Tryd.sizeOf42 Tryd.zeroValue42 rfl (Fr.evalps Z rfl) (by kernel_rfl)) Z rfl ?_
       rw [← hw, ← hA]; clear Z az; intro az Z
       clear hw hA
       have ok1132 : ∀ zq ∈ ([(⟨m52.h, ((L785.length : Nat) : Int), m776, A1050, (wantsN (headsN (joinN m766.l))), c1051, [116]⟩ : NM)] : List NM), KN0.ok zq := by intro zq hx; simp only [List.mem_cons, List.not_mem_nil, or_false] at hx; rcases hx with rfl <;> first | exact trivial
       have hk1133 := (KOk.mv hk1123 o1131 (fun _ h => h.elim))
       have ha1134 := OkNs.app (OkNs.mv ha1124 o1131 (fun _ h => h.elim)) (okN.mv hn1125 o1131 (fun _ h => h.elim))
       have r1136 := (ow_k (ow_only (ow_k r1113 o1097) o1116 (ow_ne (ow_k r1113 o1097) r1102 (by decide))) o1131)
       have h1137 := SliceOf.pl (Row.own KN0 r1130 ok1132)
       have hb1145 : (List.length (a) + List.length ([(⟨m52.h, ((L785.length : Nat) : Int), m776, A1050, (wantsN (headsN (joinN m766.l))), c1051, [116]⟩ : NM)])) * 64 ≤ 140737488355328 := by (simp only [List.length_cons, List.length_nil]; omega)
       have O1146 : Only NoF w4 w791 := (Only.trans' (Only.trans' (o_sg (Only.trans' (o_sg (Only.trans' o43 o61) s66 (size_only o43) (oneF_ge hg63)) o734) o749 (Nat.le_refl _) (ownF_ge rD)) o760) o789)
       have O1147 : Only NoF w4 w1129 := (Only.trans' (o_sg (Only.trans' (Only.trans' (Only.trans' (o_sg (Only.trans' (Only.trans' (Only.trans' (Only.trans' (Only.trans' (o_sg (Only.trans' (o_sg (Only.trans' o43 o61) s66 (size_only o43) (oneF_ge hg63)) o734) o749 (Nat.le_refl _) (ownF_ge rD)) o760) o789) o1036) o1046) o1052) s1062 (size_only O1146) (oneF_ge hg1038)) o1068) o1080) o1097) o1116 (Nat.le_refl _) (ownF_ge rK)) o1131)
       obtain ⟨A1138, c1139, w1140, hr1141, r1142, o1143, al1144⟩ := Row.app (P := Tryd.prog) (l := a) (l2 := [(⟨m52.h, ((L785.length : Nat) : Int), m776, A1050, (wantsN (headsN (joinN m766.l))), c1051, [116]⟩ : NM)]) KN0 elemNote r1136 h1137 hb1145 (by unfold maxLen; omega) (size_only O1147)
       refine L (r_app hr1141 Z rfl rfl) Z rfl ?_; clear Z az; intro az Z
       have ok1148 : ∀ zq ∈ (a ++ [(⟨m52.h, ((L785.length : Nat) : Int), m776, A1050, (wantsN (headsN (joinN m766.l))), c1051, [116]⟩ : NM)]), KN0.ok zq := (fun x hx => (List.mem_append.1 hx).elim ((fun _ _ => trivial) x) ((Row.oks KN0 h1137) x))
       have h1149 := Row.own KN0 r1142 ok1148
       have hf1150 : ∀ k, FK (.slice A14 (8) 8) (.slice A23 (8) 8) (.slice A1138 (((a ++ [(⟨m52.h, ((L785.length : Nat) : Int), m776, A1050, (wantsN (headsN (joinN m766.l))), c1051, [116]⟩ : NM)])).length) c1139) k → FK (.slice A14 (8) 8) (.slice A23 (8) 8) (.slice Ao (a.length) co) k ∨ w1129.heap.size ≤ k := FK.ap fun k h => (app_Fg al1144 h).elim .inl (fun h => .inr (by omega))
       have hk1151 : KOk (FK (.slice A14 (8) 8) (.slice A23 (8) 8) (.slice A1138 (((a ++ [(⟨m52.h, ((L785.length : Nat) : Int), m776, A1050, (wantsN (headsN (joinN m766.l))), c1051, [116]⟩ : NM)])).length) c1139)) w1140 N1118 := KOk.mvA hk1133 o1143 FK.a hf1150
       have ha1152 := OkNs.mvA ha1134 o1143 FK.a hf1150
       refine L (r_as Z rfl) Z rfl ?_; clear Z az; intro az Z
       refine k49 _ _ ?_
       refine wp_region_lit ?_
       refine L (r_mv Z rfl) Z rfl ?_; clear Z az; intro az Z
       have i1153 : I64 (((i : Int) + 1)) := by unfold I64; omega
       refine L (r_addI (r := ((i : Int) + 1)) Z rfl rfl rfl i1153) Z rfl ?_; clear Z az; intro az Z
       refine L (r_as Z rfl) Z rfl ?_; clear Z az; intro az Z
       have he9 : List.set D q80 m776 = N751 := by rw [hdv]; exact hN752.symm
       have H1154 : HonK N1118 N751 (List.map ns (a ++ [(⟨m52.h, ((L785.length : Nat) : Int), m776, A1050, (wantsN (headsN (joinN m766.l))), c1051, [116]⟩ : NM)])) (i + 1) := by have h0 := H1126; rw [he9] at h0; exact h0
       have O1155 : Only NoF w4 w1140 := (o_sg O1147 o1143 (Nat.le_refl _) (ownF_ge rA))
       have r1156 := (ow_only (ow_k r1117 o1131) o1143 (ow_ne (ow_k r1117 o1131) r1136 (by decide)))
       have r1157 := (ow_only (ow_k (ow_only (ow_k r1112 o1097) o1116 (ow_ne (ow_k r1112 o1097) r1102 (by decide))) o1131) o1143 (ow_ne (ow_k (ow_only (ow_k r1112 o1097) o1116 (ow_ne (ow_k r1112 o1097) r1102 (by decide))) o1131) r1136 (by decide)))
       exact ⟨_, (by omega), i + 1, N1118, N751, (a ++ [(⟨m52.h, ((L785.length : Nat) : Int), m776, A1050, (wantsN (headsN (joinN m766.l))), c1051, [116]⟩ : NM)]), A1138, c1139, rfl, Z.cut ⟨rfl, rfl, rfl, rfl, rfl, rfl, rfl, trivial⟩, (by omega), H1154, hl1120, hl753, O1155, r1156, r1157, r1142, hk1151, ha1152⟩
     ·
      obtain ⟨g1158, w1159, hw, hA, hg1162, hl1163, o1160, B1161⟩ := newBlk (w := w759) (e := 42) (cs := [.int .i64 (0), .int .i64 (0), .int .i64 (0), .slice none (0) 0, strV ([])])
      refine Pl.MD (r_al (v := .agg #[.int .i64 (0), .int .i64 (0), .int .i64 (0), .slice none (0) 0, strV ([])]) Tryd.zeroValue42 rfl) Z rfl rfl ?_ ?_
      · rw [← hw]; exact ⟨fun _ => o1160, (Only.trans (Only.refl NoF w759) o1160 (fun _ h => h.elim))⟩
      rw [← hw, ← hA]; clear Z az; intro az Z
      clear hw hA
      have O1165 : Only NoF w w1159 := (Only.trans' (Only.trans' (o_sg (Only.trans' (o_sg (Only.trans' O57 o61) s66 (size_only O57) (oneF_ge hg63)) o734) o749 (size_only o5) (ownF_ge rD)) o760) o1160)
      have G1164 := Gr.k hG O1165
      have O1166 : Only NoF w748 w1159 := (Only.trans' o760 o1160)
      have hC1174 := Past_v_ G1164 (NtV.k (hk756 _ (List.mem_of_getElem? hm767)).nt O1166) (by omega) m52.h
      refine Pl.MSC Z rfl rfl rfl Tryd.call16 (hC1174) rfl ?_
      rintro e w1175 ⟨A1167, c1168, L1169, rfl, hL1170, hS1171, hN1172, o1173⟩; refine ⟨_, rfl, ⟨fun _ => (Only.trans' o1160 o1173), (Only.trans (Only.trans (Only.refl NoF w759) o1160 (fun _ h => h.elim)) o1173 (fun _ h => h.elim))⟩, ?_⟩
      clear Z az; intro az Z
      have nt1176 : NtV w1175 (.slice A1167 (L1169.length) c1168) L1169 := ⟨SliceOf.pl hS1171, OkNs.pl hN1172⟩
      have hm1177 : L1169.length ≤ 1000000 := (pst_lim hL1170)
      have hpl := honk_past H (by omega) hm767 hL1170
      have O1179 : Only NoF w w1175 := (Only.trans' O1165 o1173)
      have G1178 := Gr.k hG O1179
      have O1180 : Only NoF w748 w1175 := (Only.trans' O1166 o1173)
      have hC1186 := wants_v_ G1178 (NtV.k (hk756 _ (List.mem_of_getElem? hm767)).nt O1180) (by omega)
      refine Pl.MSC Z rfl rfl rfl Tryd.call30 (hC1186) rfl ?_
      rintro e w1187 ⟨A1181, c1182, rfl, r1183, ok1185, o1184⟩; refine ⟨_, rfl, ⟨fun _ => (Only.trans' (Only.trans' o1160 o1173) o1184), (Only.trans (Only.trans (Only.trans (Only.refl NoF w759) o1160 (fun _ h => h.elim)) o1173 (fun _ h => h.elim)) o1184 (fun _ h => h.elim))⟩, ?_⟩
      clear Z az; intro az Z
      have hw8 := honk_wants H (by omega) hm767
      have hz := honk_check H (by omega) hm767 hm741 (e2 := m776) (by omega) hq81 hL1170
      have h1193 := Row.own KRef r1183 ok1185
      have h1194 := SliceOf.pl h1193
      have hC1195 := next39 (NtV.notes (NtV.k nt1176 o1184)) h1194 (by unfold I64; omega) (by unfold I64; omega) (t := [116]) (by decide) (by omega) (by omega) hz
      refine Pl.MSC Z rfl rfl rfl Tryd.call29 (hC1195) rfl ?_
      rintro e w1196 ⟨A1188, c1189, rfl, o1190, ok1191, sg1192⟩; refine ⟨_, rfl, ⟨fun _ => (Only.trans' (Only.trans' (Only.trans' o1160 o1173) o1184) o1190), (Only.trans (Only.trans (Only.trans (Only.trans (Only.refl NoF w759) o1160 (fun _ h => h.elim)) o1173 (fun _ h => h.elim)) o1184 (fun _ h => h.elim)) o1190 (fun _ h => h.elim))⟩, ?_⟩
      clear Z az; intro az Z
      refine Pl.MSP (b := true) (by kernel_rfl) (fun W oW => r_mv Z rfl) Z rfl rfl ?_; clear Z az; intro az Z
      refine Pl.MSP (b := true) (by kernel_rfl) (fun W oW => r_ex Z rfl rfl) Z rfl rfl ?_; clear Z az; intro az Z
      refine Pl.MSP (b := false) (by kernel_rfl) (fun W oW => r_ex Z rfl rfl) Z rfl rfl ?_; clear Z az; intro az Z
      have B1197 := (Blk.k (Blk.k (Blk.k B1161 o1173) o1184) o1190)
      refine Pl.MSS (cs' := [.int .i64 (m52.h), .int .i64 (((L1169.length : Nat) : Int)), .int .i64 (m776), .slice A1188 ((wantsN (headsN (joinN m766.l))).length) c1189, strV ([116])]) Tryd.sizeOf42 Z rfl rfl rfl rfl rfl rfl ⟨rfl, rfl, rfl, rfl, rfl, trivial⟩ B1197 rfl rfl fun w1198 s1199 B1200 => ?_
      refine ⟨⟨fun h => absurd h (by decide), (Only.trans (Only.trans (Only.trans (Only.trans (Only.trans (Only.refl NoF w759) o1160 (fun _ h => h.elim)) o1173 (fun _ h => h.elim)) o1184 (fun _ h => h.elim)) o1190 (fun _ h => h.elim)) s1199 (fun k h => .inr (Nat.le_trans (Nat.le_refl _) ((oneF_ge hg1162) k h))))⟩, ?_⟩
      refine Pl.MSP (b := false) (by kernel_rfl) (fun W oW => r_as Z rfl) Z rfl rfl ?_; clear Z az; intro az Z
      refine wpPl_nil ?_
      refine k758 _ _ (wp_seq_k fun _ k1201 => ?_)
      refine wp_seq_k fun _ k1202 => wp_region_lit ?_
      refine L (r_mv Z rfl) Z rfl ?_; clear Z az; intro az Z
      refine L ((r_cast (b := false) (r_neRI Z rfl rfl) (by decide))) Z rfl ?_; clear Z az; intro az Z
      refine k1202 _ _ ?_
      refine br_false Z rfl ?_
      refine wp_skip ?_
      refine k1201 _ _ (wp_seq_k fun _ k1203 => ?_)
      refine reg_p (ownF (.slice A14 (8) 8)) 2 [9, 10, 12] (.rd 0 (.rd 1 (.rd 2 (.rd 3 (.rd 4 (.rd 5 (.rd 6 (.rd 7 (.rd 8 (.ex 9 (.ex 10 (.rd 11 (.ex 12 .nil))))))))))))) (by kernel_rfl) (by kernel_rfl) (fun _ _ _ _ _ h => h) fun w1204 o1205 => ?_
      have O1207 := (Only.trans (Only.trans (Only.trans (Only.trans (Only.refl (fun _ => True) w60) s66 (fun _ _ => .inl trivial)) o734 (fun _ _ => .inl trivial)) o749 (fun _ _ => .inl trivial)) o760 (fun _ _ => .inl trivial))
      have ne1206 : g59 ≠ g1158 := (ne_of hl64 (Nat.le_trans (size_only O1207) hg1162))
      have B1208 := (Blk.k (Blk.st (Blk.k (Blk.k (Blk.k (Blk.k B761 o1160) o1173) o1184) o1190) s1199 ne1206) o1205)
      have B1209 := (Blk.k B1200 o1205)
      refine Pl.MSP (b := true) (by kernel_rfl) (fun W oW => r_mv Z rfl) Z rfl rfl ?_; clear Z az; intro az Z
      refine Pl.MSP (b := true) (by kernel_rfl) (fun W oW => r_fa (m' := 0) Tryd.underlying55 rfl Tryd.sizeOf3 rfl Z rfl rfl) Z rfl rfl ?_; clear Z az; intro az Z
      refine Pl.MSP (b := true) (by kernel_rfl) (fun W oW => r_ld Tryd.isAgg3 Z rfl ((Blk.ca (Blk.k B1208 oW)) 0 _ rfl)) Z rfl rfl ?_; clear Z az; intro az Z
      refine Pl.MSP (b := true) (by kernel_rfl) (fun W oW => r_mv Z rfl) Z rfl rfl ?_; clear Z az; intro az Z
      refine Pl.MSP (b := true) (by kernel_rfl) (fun W oW => r_fa (m' := 0) Tryd.underlying55 rfl Tryd.sizeOf3 rfl Z rfl rfl) Z rfl rfl ?_; clear Z az; intro az Z
      refine Pl.MSP (b := true) (by kernel_rfl) (fun W oW => r_ld Tryd.isAgg3 Z rfl ((Blk.ca (Blk.k B1208 oW)) 0 _ rfl)) Z rfl rfl ?_; clear Z az; intro az Z
      have O1210 := (Only.trans (Only.trans (Only.trans (Only.trans (Only.trans (Only.refl (fun _ => True) w42) o61 (fun _ _ => .inl trivial)) s66 (fun _ _ => .inl trivial)) o734 (fun _ _ => .inl trivial)) o749 (fun _ _ => .inl trivial)) o760 (fun _ _ => .inl trivial))
      have r1211 := (ow_k (ow_only (ow_k (ow_k (ow_k (ow_k r762 o1160) o1173) o1184) o1190) s1199 (fun k hk => lt_F (oneF_ge hg1162) (size_only O1210) k (ownF_lt rK k hk))) o1205)
      have h1212 := Row.ownN KRr r1211 hKl (fun _ _ => trivial)
      refine Pl.MSP (b := true) (by kernel_rfl) (fun W oW => r_ia (k := q80) (size := 1) Tryd.underlying29 Tryd.sizeOf22 Z rfl rfl hq81 hk764 hA769) Z rfl rfl ?_; clear Z az; intro az Z
      have O1213 : Only NoF w759 w1204 := (Only.trans' (o_sg (Only.trans' (Only.trans' (Only.trans' o1160 o1173) o1184) o1190) s1199 (Nat.le_refl _) (oneF_ge hg1162)) o1205)
      refine Pl.MSP (b := true) (by kernel_rfl) (fun W oW => r_ld Tryd.isAgg22 Z rfl (CA.first (E770 _ (Only.trans' O1213 oW)))) Z rfl rfl ?_; clear Z az; intro az Z
      refine Pl.MSP (b := true) (by kernel_rfl) (fun W oW => r_ldA Tryd.isAgg42 Tryd.sizeOf42 Z rfl (Blk.ca (Blk.k B1209 oW)) rfl) Z rfl rfl ?_; clear Z az; intro az Z
      obtain ⟨A1214, w1215, hw, hA, r1216, o1217⟩ := Row.made (w := w1204) KN0 (e := 42) ([(⟨m52.h, ((L1169.length : Nat) : Int), m776, A1188, (wantsN (headsN (joinN m766.l))), c1189, [116]⟩ : NM)] : List NM) (by simp only [List.length_cons, List.length_nil]; unfold maxLen; omega)
      refine Pl.MD (r_bs (z := .agg #[.int .i64 (0), .int .i64 (0), .int .i64 (0), .slice none (0) 0, strV ([])]) (size := 5) (vs := [(0, .agg #[.int .i64 (m52.h), .int .i64 (((L1169.length : Nat) : Int)), .int .i64 (m776), .slice A1188 ((wantsN (headsN (joinN m766.l))).length) c1189, strV ([116])])]) (cs := List.flatMap KN0.cells [(⟨m52.h, ((L1169.length : Nat) : Int), m776, A1188, (wantsN (headsN (joinN m766.l))), c1189, [116]⟩ : NM)]) Tryd.underlying22 Tryd.sizeOf42 Tryd.zeroValue42 rfl (Fr.evalps Z rfl) (by kernel_rfl)) Z rfl rfl ?_ ?_
      · rw [← hw]; exact ⟨fun _ => o1217, (Only.trans (Only.refl (ownF (.slice A14 (8) 8)) w1204) o1217 (fun _ h => h.elim))⟩
      rw [← hw, ← hA]; clear Z az; intro az Z
      clear hw hA
      have ok1218 : ∀ zq ∈ ([(⟨m52.h, ((L1169.length : Nat) : Int), m776, A1188, (wantsN (headsN (joinN m766.l))), c1189, [116]⟩ : NM)] : List NM), KN0.ok zq := by intro zq hx; simp only [List.mem_cons, List.not_mem_nil, or_false] at hx; rcases hx with rfl <;> first | exact trivial
      have O1220 : Only NoF w w759 := (Only.trans' (o_sg (Only.trans' (o_sg (Only.trans' O57 o61) s66 (size_only O57) (oneF_ge hg63)) o734) o749 (size_only o5) (ownF_ge rD)) o760)
      have O1221 : Only NoF w w1215 := (Only.trans' (Only.trans' (o_sg (Only.trans' (Only.trans' O1179 o1184) o1190) s1199 (size_only O1220) (oneF_ge hg1162)) o1205) o1217)
      have G1219 := Gr.k hG O1221
      have O1222 : Only NoF w748 w1215 := (Only.trans' (Only.trans' (o_sg (Only.trans' (Only.trans' O1180 o1184) o1190) s1199 (size_only o760) (oneF_ge hg1162)) o1205) o1217)
      have O1223 : Only NoF w1159 w1187 := (Only.trans' o1173 o1184)
      have O1224 : Only NoF w1198 w1215 := (Only.trans' o1205 o1217)
      have h1225 := (SliceOf.kp (SliceOf.kp sg1192 s1199 (ge_F (oneF_lt hl1163) (size_only O1223)) (fun _ _ _ _ h => h)) O1224 (fun _ _ h => h) (fun _ _ _ _ h => h))
      have h1226 := SliceOf.pl h1225
      have nt1227 : NtV w1215 (.slice A1214 (List.length ([(⟨m52.h, ((L1169.length : Nat) : Int), m776, A1188, (wantsN (headsN (joinN m766.l))), c1189, [116]⟩ : NM)] : List NM)) 1) [(⟨m52.h, ((L1169.length : Nat) : Int), m776, A1188, (wantsN (headsN (joinN m766.l))), c1189, [116]⟩ : NM)] := ⟨SliceOf.pl (Row.own KN0 r1216 (fun _ _ => trivial)), (ok_cons (okN_mk (by unfold I64; omega) h1226 (by unfold maxLen; decide)) OkNs.nil)⟩
      have hC1235 := Join_v_ G1219 (NtV.k (hk756 _ (List.mem_of_getElem? hm767)).nt O1222) nt1227 (by first | omega | (simp only [List.length_cons, List.length_nil]; omega))
      refine Pl.MSC Z rfl rfl rfl Tryd.call11 (hC1235) rfl ?_
      rintro e w1236 ⟨A1228, c1229, L1230, rfl, hL1231, hS1232, hN1233, o1234⟩; refine ⟨_, rfl, ⟨fun _ => (Only.trans' o1217 o1234), (Only.trans (Only.trans (Only.refl (ownF (.slice A14 (8) 8)) w1204) o1217 (fun _ h => h.elim)) o1234 (fun _ h => h.elim))⟩, ?_⟩
      clear Z az; intro az Z
      have nt1237 : NtV w1236 (.slice A1228 (L1230.length) c1229) L1230 := ⟨SliceOf.pl hS1232, OkNs.pl hN1233⟩
      have hm1238 : L1230.length ≤ 1000000 := (by have h0 := congrArg List.length hL1231; rw [List.length_map] at h0; rw [h0]; exact Nat.le_trans (joinN_le _) (by (try simp only [List.length_append, List.length_cons, List.length_nil]); omega))
      have r1239 := (ow_k (ow_k r1211 o1217) o1234)
      have h1240 := Row.ownN KRr r1239 hKl (fun _ _ => trivial)
      refine Pl.MSP (b := true) (by kernel_rfl) (fun W oW => r_ia (k := q80) (size := 1) Tryd.underlying29 Tryd.sizeOf22 Z rfl rfl hq81 hk764 hA769) Z rfl rfl ?_; clear Z az; intro az Z
      have O1241 : Only NoF w748 w1236 := (Only.trans' O1222 o1234)
      have h1243 := (SliceOf.kp h1225 o1234 (fun _ _ h => h) (fun _ _ _ _ h => h))
      have r1244 := (ow_k (ow_k (ow_k r762 o1160) o1173) o1184)
      have r1245 := (ow_k (ow_k (ow_k r772 o1160) o1173) o1184)
      have r1246 := (ow_k (ow_k (ow_k (ow_k (ow_only (ow_k (ow_only (ow_k rA o61) s66 (fun k hk => lt_F (oneF_ge hg63) (Nat.le_refl _) k (ownF_lt rA k hk))) o734) o749 (ow_ne (ow_k (ow_only (ow_k rA o61) s66 (fun k hk => lt_F (oneF_ge hg63) (Nat.le_refl _) k (ownF_lt rA k hk))) o734) r736 (by decide))) o760) o1160) o1173) o1184)
      have hn1242 : okN (SKr (FK (.slice A14 (8) 8) (.slice A23 (8) 8) (.slice Ao (a.length) co)) w1236) w1236 (⟨m52.h, ((L1169.length : Nat) : Int), m776, A1188, (wantsN (headsN (joinN m766.l))), c1189, [116]⟩ : NM) := okN.new (okN_mk (by unfold I64; omega) h1243 (by decide)) ((FK.lt (ownF_lt r1244) (ownF_lt r1245) (ownF_lt r1246)))
      have r1248 := (ow_k r1211 o1217)
      have r1249 := (ow_k (ow_k (ow_only (ow_k r1245 o1190) s1199 (fun k hk => lt_F (oneF_ge hg1162) (size_only O1210) k (ownF_lt rD k hk))) o1205) o1217)
      have r1250 := (ow_k (ow_k (ow_only (ow_k r1246 o1190) s1199 (fun k hk => lt_F (oneF_ge hg1162) (size_only O1210) k (ownF_lt rA k hk))) o1205) o1217)
      have hx1247 : NtS (SKr (FK (.slice A14 (8) 8) (.slice A23 (8) 8) (.slice Ao (a.length) co)) w1236) w1236 (.slice A1228 (L1230.length) c1229) L1230 := (NtS.new hS1232 hN1233 (FK.lt (ownF_lt r1248) (ownF_lt r1249) (ownF_lt r1250))).mv (Only.refl NoF w1236) (fun _ h => h.elim)
      have hk1251 := (KOk.mv hk756 O1241 (fun _ h => h.elim))
      have hk1259 : q80 < 8 := by omega
      refine Pl.MSSQ (k := q80) (x := (⟨A1228, L1230, c1229⟩ : NR)) KRr Tryd.sizeOf22 Z rfl rfl rfl rfl rfl r1239 hKl hk1259 fun w1252 o1253 r1254 => ?_
      obtain ⟨N1255, hN1256⟩ : ∃ N0, N0 = List.set KL q80 (⟨A1228, L1230, c1229⟩ : NR) := ⟨_, rfl⟩
      rw [← hN1256] at r1254
      have hl1257 : N1255.length = 8 := by rw [hN1256]; exact List.length_set.trans hKl
      have ok1258 : ∀ zq ∈ N1255, KRr.ok zq := by rw [hN1256]; exact set_ok (fun _ _ => trivial) trivial
      refine ⟨⟨fun h => absurd h (by decide), (Only.trans (Only.trans (Only.trans (Only.refl (ownF (.slice A14 (8) 8)) w1204) o1217 (fun _ h => h.elim)) o1234 (fun _ h => h.elim)) o1253 (fun _ h => .inl h))⟩, ?_⟩
      have hk1260 : KOk (FK (.slice A14 (8) 8) (.slice A23 (8) 8) (.slice Ao (a.length) co)) w1252 N1255 := by rw [hN1256]; exact (KOk.set hk1251 hx1247).mv o1253 FK.k
      have ha1261 : OkNs (SKr (FK (.slice A14 (8) 8) (.slice A23 (8) 8) (.slice Ao (a.length) co)) w1252) w1252 a := OkNs.mv (OkNs.mv ha757 O1241 (fun _ h => h.elim)) o1253 FK.k
      have hn1262 := okN.mv hn1242 o1253 FK.k
      have H1263 := honk_seal H (by omega) hm767 hm741 (by omega) hq81 hL1170 (X := (⟨A1228, L1230, c1229⟩ : NR)) hL1231
      rw [← hN1256] at H1263
      refine wpPl_nil ?_
      refine k1203 _ _ ?_
      refine wp_region_lit ?_
      refine L (r_mv Z rfl) Z rfl ?_; clear Z az; intro az Z
      have B1264 := (Blk.only (Blk.k (Blk.k B1209 o1217) o1234) o1253 (fun h => absurd ((ownF_lt rK) _ h) (Nat.not_lt.2 (Nat.le_trans (size_only O1210) hg1162))))
      refine L (r_ldA Tryd.isAgg42 Tryd.sizeOf42 Z rfl (Blk.ca B1264) rfl) Z rfl ?_; clear Z az; intro az Z
      obtain ⟨A1265, w1266, hw, hA, r1267, o1268⟩ := Row.made (w := w1252) KN0 (e := 42) ([(⟨m52.h, ((L1169.length : Nat) : Int), m776, A1188, (wantsN (headsN (joinN m766.l))), c1189, [116]⟩ : NM)] : List NM) (by simp only [List.length_cons, List.length_nil]; unfold maxLen; omega)
      refine L (r_bs (z := .agg #[.int .i64 (0), .int .i64 (0), .int .i64 (0), .slice none (0) 0, strV ([])]) (size := 5) (vs := [(0, .agg #[.int .i64 (m52.h), .int .i64 (((L1169.length : Nat) : Int)), .int .i64 (m776), .slice A1188 ((wantsN (headsN (joinN m766.l))).length) c1189, strV ([116])])]) (cs := List.flatMap KN0.cells [(⟨m52.h, ((L1169.length : Nat) : Int), m776, A1188, (wantsN (headsN (joinN m766.l))), c1189, [116]⟩ : NM)]) Tryd.underlying22 Tryd.sizeOf42 Tryd.zeroValue42 rfl (Fr.evalps Z rfl) (by kernel_rfl)) Z rfl ?_
      rw [← hw, ← hA]; clear Z az; intro az Z
      clear hw hA
      have ok1269 : ∀ zq ∈ ([(⟨m52.h, ((L1169.length : Nat) : Int), m776, A1188, (wantsN (headsN (joinN m766.l))), c1189, [116]⟩ : NM)] : List NM), KN0.ok zq := by intro zq hx; simp only [List.mem_cons, List.not_mem_nil, or_false] at hx; rcases hx with rfl <;> first | exact trivial
      have hk1270 := (KOk.mv hk1260 o1268 (fun _ h => h.elim))
      have ha1271 := OkNs.app (OkNs.mv ha1261 o1268 (fun _ h => h.elim)) (okN.mv hn1262 o1268 (fun _ h => h.elim))
      have r1273 := (ow_k (ow_only (ow_k r1250 o1234) o1253 (ow_ne (ow_k r1250 o1234) r1239 (by decide))) o1268)
      have h1274 := SliceOf.pl (Row.own KN0 r1267 ok1269)
      have hb1282 : (List.length (a) + List.length ([(⟨m52.h, ((L1169.length : Nat) : Int), m776, A1188, (wantsN (headsN (joinN m766.l))), c1189, [116]⟩ : NM)])) * 64 ≤ 140737488355328 := by (simp only [List.length_cons, List.length_nil]; omega)
      have O1283 : Only NoF w4 w759 := (Only.trans' (o_sg (Only.trans' (o_sg (Only.trans' o43 o61) s66 (size_only o43) (oneF_ge hg63)) o734) o749 (Nat.le_refl _) (ownF_ge rD)) o760)
      have O1284 : Only NoF w4 w1266 := (Only.trans' (o_sg (Only.trans' (Only.trans' (Only.trans' (o_sg (Only.trans' (Only.trans' (Only.trans' (Only.trans' (Only.trans' (o_sg (Only.trans' (o_sg (Only.trans' o43 o61) s66 (size_only o43) (oneF_ge hg63)) o734) o749 (Nat.le_refl _) (ownF_ge rD)) o760) o1160) o1173) o1184) o1190) s1199 (size_only O1283) (oneF_ge hg1162)) o1205) o1217) o1234) o1253 (Nat.le_refl _) (ownF_ge rK)) o1268)
      obtain ⟨A1275, c1276, w1277, hr1278, r1279, o1280, al1281⟩ := Row.app (P := Tryd.prog) (l := a) (l2 := [(⟨m52.h, ((L1169.length : Nat) : Int), m776, A1188, (wantsN (headsN (joinN m766.l))), c1189, [116]⟩ : NM)]) KN0 elemNote r1273 h1274 hb1282 (by unfold maxLen; omega) (size_only O1284)
      refine L (r_app hr1278 Z rfl rfl) Z rfl ?_; clear Z az; intro az Z
      have ok1285 : ∀ zq ∈ (a ++ [(⟨m52.h, ((L1169.length : Nat) : Int), m776, A1188, (wantsN (headsN (joinN m766.l))), c1189, [116]⟩ : NM)]), KN0.ok zq := (fun x hx => (List.mem_append.1 hx).elim ((fun _ _ => trivial) x) ((Row.oks KN0 h1274) x))
      have h1286 := Row.own KN0 r1279 ok1285
      have hf1287 : ∀ k, FK (.slice A14 (8) 8) (.slice A23 (8) 8) (.slice A1275 (((a ++ [(⟨m52.h, ((L1169.length : Nat) : Int), m776, A1188, (wantsN (headsN (joinN m766.l))), c1189, [116]⟩ : NM)])).length) c1276) k → FK (.slice A14 (8) 8) (.slice A23 (8) 8) (.slice Ao (a.length) co) k ∨ w1266.heap.size ≤ k := FK.ap fun k h => (app_Fg al1281 h).elim .inl (fun h => .inr (by omega))
      have hk1288 : KOk (FK (.slice A14 (8) 8) (.slice A23 (8) 8) (.slice A1275 (((a ++ [(⟨m52.h, ((L1169.length : Nat) : Int), m776, A1188, (wantsN (headsN (joinN m766.l))), c1189, [116]⟩ : NM)])).length) c1276)) w1277 N1255 := KOk.mvA hk1270 o1280 FK.a hf1287
      have ha1289 := OkNs.mvA ha1271 o1280 FK.a hf1287
      refine L (r_as Z rfl) Z rfl ?_; clear Z az; intro az Z
      refine k49 _ _ ?_
      refine wp_region_lit ?_
      refine L (r_mv Z rfl) Z rfl ?_; clear Z az; intro az Z
      have i1290 : I64 (((i : Int) + 1)) := by unfold I64; omega
      refine L (r_addI (r := ((i : Int) + 1)) Z rfl rfl rfl i1290) Z rfl ?_; clear Z az; intro az Z
      refine L (r_as Z rfl) Z rfl ?_; clear Z az; intro az Z
      have he9 : List.set D q80 m776 = N751 := by rw [hdv]; exact hN752.symm
      have H1291 : HonK N1255 N751 (List.map ns (a ++ [(⟨m52.h, ((L1169.length : Nat) : Int), m776, A1188, (wantsN (headsN (joinN m766.l))), c1189, [116]⟩ : NM)])) (i + 1) := by have h0 := H1263; rw [he9] at h0; exact h0
      have O1292 : Only NoF w4 w1277 := (o_sg O1284 o1280 (Nat.le_refl _) (ownF_ge rA))
      have r1293 := (ow_only (ow_k r1254 o1268) o1280 (ow_ne (ow_k r1254 o1268) r1273 (by decide)))
      have r1294 := (ow_only (ow_k (ow_only (ow_k r1249 o1234) o1253 (ow_ne (ow_k r1249 o1234) r1239 (by decide))) o1268) o1280 (ow_ne (ow_k (ow_only (ow_k r1249 o1234) o1253 (ow_ne (ow_k r1249 o1234) r1239 (by decide))) o1268) r1273 (by decide)))
      exact ⟨_, (by omega), i + 1, N1255, N751, (a ++ [(⟨m52.h, ((L1169.length : Nat) : Int), m776, A1188, (wantsN (headsN (joinN m766.l))), c1189, [116]⟩ : NM)]), A1275, c1276, rfl, Z.cut ⟨rfl, rfl, rfl, rfl, rfl, rfl, rfl, trivial⟩, (by omega), H1291, hl1257, hl753, O1292, r1293, r1294, r1279, hk1288, ha1289⟩
  ·
   have p1295 := of_decide_eq_false hc47
   refine wp_exit ?_
   refine th_exit ?_
   refine th_exit ?_
   refine ib_hit ?_
   refine k36 _ _ (wp_seq_k fun _ k1296 => wp_region_lit ?_)
   refine L (r_mv Z rfl) Z rfl ?_; clear Z az; intro az Z
   refine L (r_mv Z rfl) Z rfl ?_; clear Z az; intro az Z
   have nt1304 : NtV w42 (.slice Ao (a.length) co) a := ⟨SliceOf.pl (Row.own KN0 rA (fun _ _ => trivial)), hA.pl⟩
   have O1305 : Only NoF w w42 := (Only.trans' o5 o43)
   have h1306 := (SliceOf.kp f2 O1305 (fun _ _ h => h) (fun _ _ _ _ h => h))
   have hC1307 := shuf_v_ nt1304.1 (by omega) h1306 (by omega)
   refine LC Z rfl rfl Tryd.call13 (hC1307) rfl ?_
   rintro e w1308 ⟨A1297, c1298, O1299, rfl, hM1300, hl1301, r1302, o1303⟩; refine ⟨_, rfl, ?_⟩
   clear Z az; intro az Z
   have r1311 := (ow_k rA o1303)
   have nt1310 : NtV w1308 (.slice Ao (a.length) co) a := ⟨SliceOf.pl (Row.own KN0 r1311 (fun _ _ => trivial)), (OkNs.k hA.pl o1303)⟩
   have nt1309 : NtV w1308 (.slice A1297 (O1299.length) c1298) O1299 := ⟨SliceOf.pl (Row.own KN0 r1302 (fun _ _ => trivial)), fun x hx => nt1310.2 x ((hM1300 x).1 hx)⟩
   have hP := hon_all H.h (by omega) rfl hM1300
   refine L (r_as Z rfl) Z rfl ?_; clear Z az; intro az Z
   refine k1296 _ _ (wp_seq_k fun _ k1312 => wp_region_lit ?_)
   refine L (r_mv Z rfl) Z rfl ?_; clear Z az; intro az Z
   have O1314 : Only NoF w w1308 := (Only.trans' O1305 o1303)
   have G1313 := Gr.k hG O1314
   have hC1322 := Order_v_ G1313 nt1309 (by omega)
   refine LC Z rfl rfl Tryd.call17 (hC1322) rfl ?_
   rintro e w1323 ⟨A1315, c1316, L1317, rfl, hL1318, hS1319, hN1320, o1321⟩; refine ⟨_, rfl, ?_⟩
   clear Z az; intro az Z
   have nt1324 : NtV w1323 (.slice A1315 (L1317.length) c1316) L1317 := ⟨SliceOf.pl hS1319, OkNs.pl hN1320⟩
   have hm1325 : L1317.length ≤ 1000000 := (ord_lim hL1318 (by omega))
   refine L (r_as Z rfl) Z rfl ?_; clear Z az; intro az Z
   refine k1312 _ _ (wp_seq_k fun _ k1326 => ?_)
   refine wp_seq_k fun _ k1327 => wp_region_lit ?_
   refine L (r_mv Z rfl) Z rfl ?_; clear Z az; intro az Z
   have O1329 : Only NoF w w1323 := (Only.trans' O1314 o1321)
   have G1328 := Gr.k hG O1329
   have hC1334 := Forks_v_ G1328 (NtV.k nt1309 o1321) (by omega)
   refine LC Z rfl rfl Tryd.call15 (hC1334) rfl ?_
   rintro e w1335 ⟨A1330, c1331, rfl, r1332, o1333⟩; refine ⟨_, rfl, ?_⟩
   clear Z az; intro az Z
   refine L (r_len0 Tryd.underlying31 Z rfl (by rw [part_forks hP]; rfl)) Z rfl ?_; clear Z az; intro az Z
   refine L ((r_cast (b := false) (r_neRI Z rfl rfl) (by decide))) Z rfl ?_; clear Z az; intro az Z
   refine L (r_mv Z rfl) Z rfl ?_; clear Z az; intro az Z
   refine LT Z rfl rfl (r_mv Z rfl) rfl ?_; clear Z az; intro az Z
   have O1337 : Only NoF w w1335 := (Only.trans' O1329 o1333)
   have G1336 := Gr.k hG O1337
   have O1338 : Only NoF w1308 w1335 := (Only.trans' o1321 o1333)
   have hC1344 := Missing_v_ G1336 (NtV.k nt1309 O1338) (by omega)
   refine LCT Z rfl rfl rfl rfl Tryd.call20 (hC1344) rfl ?_
   rintro e w1345 ⟨A1339, c1340, rfl, r1341, ok1343, o1342⟩; refine ⟨_, rfl, ?_⟩
   clear Z az; intro az Z
   have hb1346 : (missN (joinN O1299)).length ≤ 400 := miss_len _
   refine LT Z rfl rfl (r_len0 Tryd.underlying36 Z rfl (by rw [part_miss hP]; rfl)) rfl ?_; clear Z az; intro az Z
   refine LT Z rfl rfl ((r_cast (b := false) (r_neRI Z rfl rfl) (by decide))) rfl ?_; clear Z az; intro az Z
   refine L (r_pick Z rfl rfl rfl) Z rfl ?_; clear Z az; intro az Z
   refine L (r_mv Z rfl) Z rfl ?_; clear Z az; intro az Z
   refine LT Z rfl rfl (r_mv Z rfl) rfl ?_; clear Z az; intro az Z
   refine LT Z rfl rfl (r_lenL Tryd.underlying22 Z rfl) rfl ?_; clear Z az; intro az Z
   refine LT Z rfl rfl (r_mv Z rfl) rfl ?_; clear Z az; intro az Z
   refine LT Z rfl rfl (r_lenL Tryd.underlying22 Z rfl) rfl ?_; clear Z az; intro az Z
   refine LT Z rfl rfl ((r_cast (b := false) (r_neI Z rfl rfl) (congrArg not (decide_eq_true (by have h1 := all_len hP; have h2 := congrArg List.length hL1318; rw [List.length_map] at h1 h2; omega))))) rfl ?_; clear Z az; intro az Z
   refine L (r_pick Z rfl rfl rfl) Z rfl ?_; clear Z az; intro az Z
   refine k1327 _ _ ?_
   refine br_false Z rfl ?_
   refine wp_skip ?_
   refine k1326 _ _ (wp_seq_k fun _ k1347 => ?_)
   refine wp_seq_k fun _ k1348 => wp_region_lit ?_
   refine L (r_as Z rfl) Z rfl ?_; clear Z az; intro az Z
   refine k1348 _ _ ?_
   refine wp_block ?_
   refine wp_loop_m (fun mz az W => ∃ j : Nat, mz = L1317.length - j ∧ Fr 187 [(5, .bool (true)), (8, .slice Ao (a.length) co), (16, .slice A1315 (L1317.length) c1316), (17, .int .i64 ((j : Int)))] az ∧ (j ≤ L1317.length) ∧ Only NoF w1345 W) ?_ ?_
   ·
    exact ⟨_, 0, rfl, Z.cut ⟨rfl, rfl, rfl, rfl, trivial⟩, Nat.zero_le _, (Only.refl NoF w1345)⟩
   clear Z az
   rintro mz az w1349 ⟨j, hm1351, Z, hj, o1350⟩
   refine wp_seq_k fun _ k1352 => ?_
   refine wp_seq_k fun _ k1353 => wp_region_lit ?_
   refine L (r_mv Z rfl) Z rfl ?_; clear Z az; intro az Z
   refine L (r_mv Z rfl) Z rfl ?_; clear Z az; intro az Z
   refine L (r_lenL Tryd.underlying22 Z rfl) Z rfl ?_; clear Z az; intro az Z
   refine L (r_ltI Z rfl rfl) Z rfl ?_; clear Z az; intro az Z
   refine k1353 _ _ ?_
   refine br Z rfl (fun hc1354 => ?_) (fun hc1354 => ?_)
   ·
    have p1355 := of_decide_eq_true hc1354
    refine wp_skip ?_
    refine k1352 _ _ (wp_seq_k fun _ k1356 => ?_)
    refine wp_block ?_
    refine wp_seq_k fun _ k1357 => ?_
    refine reg_p NoF 2 [5, 15] (.rd 0 (.rd 1 (.rd 2 (.rd 3 (.rd 4 (.ex 5 (.rd 6 (.rd 7 (.rd 8 (.rd 9 (.rd 10 (.rd 11 (.rd 12 (.rd 13 (.rd 14 (.ex 15 (.rd 16 (.rd 17 .nil)))))))))))))))))) (by kernel_rfl) (by kernel_rfl) (fun _ _ _ _ _ h => h) fun w1358 o1359 => ?_
    refine Pl.MSP (b := true) (by kernel_rfl) (fun W oW => r_mv Z rfl) Z rfl rfl ?_; clear Z az; intro az Z
    refine Pl.MSP (b := true) (by kernel_rfl) (fun W oW => r_mv Z rfl) Z rfl rfl ?_; clear Z az; intro az Z
    refine Pl.MSP (b := true) (by kernel_rfl) (fun W oW => r_mv Z rfl) Z rfl rfl ?_; clear Z az; intro az Z
    have hk1360 : j < (L1317).length := by omega
    have O1366 : Only NoF w1323 w1358 := (Only.trans' (Only.trans' (Only.trans' o1333 o1342) o1350) o1359)
    have h1367 := (SliceOf.kp nt1324.1 O1366 (fun _ _ h => h) (fun _ _ _ _ h => h))
    obtain ⟨m1361, hm1362, ok1363, hA1364⟩ := Row.el KN0 h1367 hk1360
    have E1365 : ∀ W, Only NoF w1358 W → CA W (eA A1315 5 (j)) [.int .i64 (m1361.h), .int .i64 (m1361.n), .int .i64 (m1361.d), .slice m1361.A (m1361.l.length) m1361.c, strV (m1361.s)] := Row.ce KN0 h1367 hm1362 rfl
    refine Pl.MSP (b := true) (by kernel_rfl) (fun W oW => r_ia (k := j) (size := 5) Tryd.underlying22 Tryd.sizeOf42 Z rfl rfl rfl hk1360 hA1364) Z rfl rfl ?_; clear Z az; intro az Z
    refine Pl.MSP (b := true) (by kernel_rfl) (fun W oW => r_ldA Tryd.isAgg42 Tryd.sizeOf42 Z rfl (E1365 _ (Only.trans' (Only.refl NoF w1358) oW)) rfl) Z rfl rfl ?_; clear Z az; intro az Z
    have O1368 : Only NoF w42 w1358 := (Only.trans' (Only.trans' (Only.trans' (Only.trans' (Only.trans' o1303 o1321) o1333) o1342) o1350) o1359)
    have r1370 := (ow_k (ow_k (ow_k (ow_k (ow_k r1311 o1321) o1333) o1342) o1350) o1359)
    have nt1369 : NtV w1358 (.slice Ao (a.length) co) a := ⟨SliceOf.pl (Row.own KN0 r1370 (fun _ _ => trivial)), (OkNs.k hA.pl O1368)⟩
    have h1371 := (SliceOf.kp (nt1324.2 _ (List.mem_of_getElem? hm1362)).2.2.2.1 O1366 (fun _ _ h => h) (fun _ _ _ _ h => h))
    refine Pl.MSV (v := .bool (true)) Z rfl rfl rfl Tryd.call23 (fix_eq (congrArg Value.bool (all_has hP rfl hL1318 hm1362)) (has39_v_ nt1369 (x := m1361) (okN.k (nt1324.2 _ (List.mem_of_getElem? hm1362)) O1366))) rfl (fun w' o' => ⟨fun _ => o', (Only.trans (Only.refl NoF w1358) o' (fun _ h => h.elim))⟩) fun w1372 o1373 => ?_; clear Z az; intro az Z
    refine Pl.MSP (b := true) (by kernel_rfl) (fun W oW => r_not Z rfl) Z rfl rfl ?_; clear Z az; intro az Z
    refine Pl.MSP (b := true) (by kernel_rfl) (fun W oW => r_mv Z rfl) Z rfl rfl ?_; clear Z az; intro az Z
    refine Pl.MSPT (b := true) (by kernel_rfl) Z rfl rfl (fun W oW => r_mv Z rfl) rfl rfl ?_; clear Z az; intro az Z
    refine Pl.MSPT (b := true) (by kernel_rfl) Z rfl rfl (fun W oW => r_mv Z rfl) rfl rfl ?_; clear Z az; intro az Z
    have O1374 : Only NoF w1323 w1372 := (Only.trans' O1366 o1373)
    have nt1375 := NtS.top (m := j) (NtV.k nt1324 O1374) (by omega)
    have hl1376 : (j : Int) = ((List.take j L1317).length : Int) := by rw [List.length_take, Nat.min_eq_left (by omega)]
    have hc1377 : (List.take j L1317).length ≤ c1316 := Nat.le_trans (by rw [List.length_take]; omega) (SliceOf.cap_ (NtV.k nt1324 O1374).1)
    refine Pl.MSPT (b := true) (by kernel_rfl) Z rfl rfl (fun W oW => r_slh (m := (List.take j L1317).length) (size := 5) Tryd.underlying22 Tryd.sizeOf42 Z rfl rfl hl1376 hc1377) rfl rfl ?_; clear Z az; intro az Z
    refine Pl.MSPT (b := true) (by kernel_rfl) Z rfl rfl (fun W oW => r_mv Z rfl) rfl rfl ?_; clear Z az; intro az Z
    refine Pl.MSPT (b := true) (by kernel_rfl) Z rfl rfl (fun W oW => r_mv Z rfl) rfl rfl ?_; clear Z az; intro az Z
    refine Pl.MSPT (b := true) (by kernel_rfl) Z rfl rfl (fun W oW => r_ia (k := j) (size := 5) Tryd.underlying22 Tryd.sizeOf42 Z rfl rfl rfl hk1360 hA1364) rfl rfl ?_; clear Z az; intro az Z
    refine Pl.MSPT (b := true) (by kernel_rfl) Z rfl rfl (fun W oW => r_ldA Tryd.isAgg42 Tryd.sizeOf42 Z rfl (E1365 _ (Only.trans' (Only.refl NoF w1358) oW)) rfl) rfl rfl ?_; clear Z az; intro az Z
    have h1378 := (SliceOf.kp (nt1324.2 _ (List.mem_of_getElem? hm1362)).2.2.2.1 O1374 (fun _ _ h => h) (fun _ _ _ _ h => h))
    refine Pl.MSGV (v := .bool (true)) Z rfl rfl gd_f rfl rfl (fun hb => rfl) Tryd.call24 (fun hb => fix_eq (congrArg Value.bool (all_placed hP hL1318 hm1362)) (placed_v_ nt1375.1 (by rw [List.length_take]; omega) (m := m1361) (okN.k (nt1324.2 _ (List.mem_of_getElem? hm1362)) O1374) (N := []) (SliceOf.nil_ _ _ _) (F := []) (SliceOf.nil_ _ _ _))) rfl (fun w' o' => ⟨fun _ => (Only.trans' o1373 o'), (Only.trans (Only.trans (Only.refl NoF w1358) o1373 (fun _ h => h.elim)) o' (fun _ h => h.elim))⟩) fun w1379 o1380 => ?_; clear Z az; intro az Z
    refine Pl.MSPT (b := true) (by kernel_rfl) Z rfl rfl (fun W oW => r_not Z rfl) rfl rfl ?_; clear Z az; intro az Z
    refine Pl.MSP (b := true) (by kernel_rfl) (fun W oW => r_pick Z rfl rfl rfl) Z rfl rfl ?_; clear Z az; intro az Z
    refine wpPl_nil ?_
    refine k1357 _ _ ?_
    refine br_false Z rfl ?_
    refine wp_skip ?_
    refine k1356 _ _ ?_
    refine wp_region_lit ?_
    refine L (r_mv Z rfl) Z rfl ?_; clear Z az; intro az Z
    have i1381 : I64 (((j : Int) + 1)) := by unfold I64; omega
    refine L (r_addI (r := ((j : Int) + 1)) Z rfl rfl rfl i1381) Z rfl ?_; clear Z az; intro az Z
    refine L (r_as Z rfl) Z rfl ?_; clear Z az; intro az Z
    have O1382 : Only NoF w1345 w1379 := (Only.trans' (Only.trans' (Only.trans' o1350 o1359) o1373) o1380)
    exact ⟨_, (by omega), j + 1, rfl, Z.cut ⟨rfl, rfl, rfl, rfl, trivial⟩, (by omega), O1382⟩
   ·
    have p1383 := of_decide_eq_false hc1354
    refine wp_exit ?_
    refine th_exit ?_
    refine th_exit ?_
    refine ib_hit ?_
    refine k1347 _ _ (wp_seq_k fun _ k1384 => wp_region_lit ?_)
    refine L (r_mv Z rfl) Z rfl ?_; clear Z az; intro az Z
    refine L (r_as Z rfl) Z rfl ?_; clear Z az; intro az Z
    refine k1384 _ _ ?_
    refine wp_ret ?_
    show bodyPost _ _ _ .ret _ _
    refine ret_of (vs := [.bool (true)]) Z Tryd.results7 ⟨rfl, trivial⟩ ?_
    have O1385 : Only NoF w w1349 := (Only.trans' (Only.trans' O1337 o1342) o1350)
    exact ⟨rfl, O1385⟩
theorem honest39_v {w : World} (hG : Gr w) {v1 v2 : Value} {T : List TM} (f1 : SliceOf AllB 3 KStp.R w v1 T) {Y : List UInt8} (f2 : SliceOf AllB 1 KU8.R w v2 Y) : Calls Tryd.prog 7 #[v1, v2] w (Fix (.bool true) w) := by
 obtain ⟨A1, c1, rfl, _⟩ := SliceOf.shape f1
 obtain ⟨A2, c2, rfl, _⟩ := SliceOf.shape f2
 exact honest39_ hG f1 f2
end Go.Proofs.YtdcbjedkddgfkaaDoor
