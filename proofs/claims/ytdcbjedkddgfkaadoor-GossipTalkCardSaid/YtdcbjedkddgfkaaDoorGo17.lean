/-
  Gossip: GossipTalk, walked: it returns true. Condition: the listed variables.
-/
import Derived.Test.YtdcbjedkddgfkaaDoorGoL
namespace Go.Proofs.YtdcbjedkddgfkaaDoor
set_option linter.unusedVariables false
set_option linter.unusedSimpArgs false
set_option linter.unusedSectionVars false
open Go.RowKit
set_option maxRecDepth 20000 in
set_option maxHeartbeats 4000000 in
theorem talk39_ {w : World} (hG : Gr w) {La : List NM} {A1 : Option Addr} {c1 : Nat} (t1 : NtV w (.slice A1 La.length c1) La) {Lb : List NM} {A2 : Option Addr} {c2 : Nat} (t2 : NtV w (.slice A2 Lb.length c2) Lb) : Calls Tryd.prog 6 [.slice A1 (La.length) c1, .slice A2 (Lb.length) c2].toArray w (Fix (.bool true) w) := by
 refine calls_start Tryd.func6 rfl rfl ?_
 intro az Z
 rw [Tryd.ntmps6] at Z
 refine wp_seq_k fun _ k1 => wp_region_lit ?_
 refine L (r_as Z rfl) Z rfl ?_; clear Z az; intro az Z
 refine k1 _ _ (wp_seq_k fun _ k2 => wp_region_lit ?_)
 have G3 := Gr.k hG (Only.refl NoF w)
 refine LCV (v := .bool (true)) Z rfl rfl Tryd.call9 (small39_v G3) rfl fun w4 o5 => ?_; clear Z az; intro az Z
 refine L (r_as Z rfl) Z rfl ?_; clear Z az; intro az Z
 refine k2 _ _ (wp_seq_k fun _ k6 => ?_)
 refine wp_seq_k fun _ k7 => wp_region_lit ?_
 refine L (r_mv Z rfl) Z rfl ?_; clear Z az; intro az Z
 refine LCV (v := .bool (few39 La 30)) Z rfl rfl Tryd.call10 (few39_v_ (NtV.k t1 o5) 30) rfl fun w8 o9 => ?_; clear Z az; intro az Z
 refine L (r_not Z rfl) Z rfl ?_; clear Z az; intro az Z
 refine L (r_mv Z rfl) Z rfl ?_; clear Z az; intro az Z
 refine LG Z rfl rfl gd_f (fun hb => r_mv Z rfl) rfl ?_; clear Z az; intro az Z
 have O10 : Only NoF w w8 := (Only.trans' o5 o9)
 refine LGV (v := .bool (few39 Lb 30)) Z rfl rfl gd_f rfl (fun hb => (evs_c (evg hb rfl) (evs_c rfl rfl))) Tryd.call10 (fun hb => few39_v_ (NtV.k t2 O10) 30) rfl fun w11 o12 => ?_; clear Z az; intro az Z
 refine LG Z rfl rfl gd_f (fun hb => r_not Z (evg hb rfl)) rfl ?_; clear Z az; intro az Z
 refine L (r_or Z rfl rfl rfl) Z rfl ?_; clear Z az; intro az Z
 refine k7 _ _ ?_
 refine br Z rfl (fun hc13 => ?_) (fun hc13 => ?_)
 ·
  have d14 := hc13
  refine wp_seq_k fun _ k15 => wp_region_lit ?_
  refine L (r_mv Z rfl) Z rfl ?_; clear Z az; intro az Z
  refine L (r_as Z rfl) Z rfl ?_; clear Z az; intro az Z
  refine k15 _ _ ?_
  refine wp_ret ?_
  show bodyPost _ _ _ .ret _ _
  refine ret_of (vs := [.bool (true)]) Z Tryd.results6 ⟨rfl, trivial⟩ ?_
  have O16 : Only NoF w w11 := (Only.trans' O10 o12)
  exact ⟨rfl, O16⟩
 ·
  have q17 : few39 La 30 = true := (nt_f (or_f hc13).1)
  have q18 : few39 Lb 30 = true := (nt_f (or_f hc13).2)
  have hlLa := few_le q17
  have hlLb := few_le q18
  refine wp_skip ?_
  refine k6 _ _ (wp_seq_k fun _ k19 => wp_region_lit ?_)
  refine L (r_mv Z rfl) Z rfl ?_; clear Z az; intro az Z
  refine L (r_mv Z rfl) Z rfl ?_; clear Z az; intro az Z
  have O21 : Only NoF w w11 := (Only.trans' O10 o12)
  have G20 := Gr.k hG O21
  have hC29 := Join_v_ G20 (NtV.k t1 O21) (NtV.k t2 O21) (by first | omega | (simp only [List.length_cons, List.length_nil]; omega))
  refine LC Z rfl rfl Tryd.call11 (hC29) rfl ?_
  rintro e w30 ⟨A22, c23, L24, rfl, hL25, hS26, hN27, o28⟩; refine ⟨_, rfl, ?_⟩
  clear Z az; intro az Z
  have nt31 : NtV w30 (.slice A22 (L24.length) c23) L24 := ⟨SliceOf.pl hS26, OkNs.pl hN27⟩
  have hm32 : L24.length ≤ 1000000 := (by have h0 := congrArg List.length hL25; rw [List.length_map] at h0; rw [h0]; first | exact Nat.le_trans (joinN_le _) (by simp only [List.length_append, List.length_cons, List.length_nil]; omega))
  refine L (r_as Z rfl) Z rfl ?_; clear Z az; intro az Z
  refine k19 _ _ (wp_seq_k fun _ k33 => wp_region_lit ?_)
  refine L (r_mv Z rfl) Z rfl ?_; clear Z az; intro az Z
  refine L (r_mv Z rfl) Z rfl ?_; clear Z az; intro az Z
  have O46 : Only NoF w w30 := (Only.trans' O21 o28)
  have G45 := Gr.k hG O46
  have hC47 := Talk_v_ G45 (NtV.k t1 O46) (NtV.k t2 O46) (by first | omega | (simp only [List.length_cons, List.length_nil]; omega)) (by first | omega | (simp only [List.length_cons, List.length_nil]; omega))
  refine LC Z rfl rfl Tryd.call28 (hC47) rfl ?_
  rintro e w48 ⟨A34, c35, L36, A37, c38, L39, rfl, hL40, hL41, hN42, hN43, o44⟩; refine ⟨_, rfl, ?_⟩
  clear Z az; intro az Z
  have nt49 : NtV w48 (.slice A34 (L36.length) c35) L36 := ⟨SliceOf.pl hN42.1, OkNs.pl hN42.2⟩
  have hm50 : L36.length ≤ 1000000 := (lss_lim hL40 (by first | omega | (simp only [List.length_cons, List.length_nil]; omega)))
  have nt51 : NtV w48 (.slice A37 (L39.length) c38) L39 := ⟨SliceOf.pl hN43.1, OkNs.pl hN43.2⟩
  have hm52 : L39.length ≤ 1000000 := (lss_lim hL41 (by first | omega | (simp only [List.length_cons, List.length_nil]; omega)))
  have hs1 := sent_len hL40
  have hs2 := sent_len hL41
  refine L (r_mv Z rfl) Z rfl ?_; clear Z az; intro az Z
  refine L (r_ex Z rfl rfl) Z rfl ?_; clear Z az; intro az Z
  refine L (r_ex Z rfl rfl) Z rfl ?_; clear Z az; intro az Z
  refine L (r_as Z rfl) Z rfl ?_; clear Z az; intro az Z
  refine L (r_as Z rfl) Z rfl ?_; clear Z az; intro az Z
  refine k33 _ _ (wp_seq_k fun _ k53 => wp_region_lit ?_)
  refine L (r_mv Z rfl) Z rfl ?_; clear Z az; intro az Z
  refine L (r_mv Z rfl) Z rfl ?_; clear Z az; intro az Z
  have O55 : Only NoF w w48 := (Only.trans' O46 o44)
  have G54 := Gr.k hG O55
  have hC63 := Join_v_ G54 (NtV.k t1 O55) nt49 (by first | omega | (simp only [List.length_cons, List.length_nil]; omega))
  refine LC Z rfl rfl Tryd.call11 (hC63) rfl ?_
  rintro e w64 ⟨A56, c57, L58, rfl, hL59, hS60, hN61, o62⟩; refine ⟨_, rfl, ?_⟩
  clear Z az; intro az Z
  have nt65 : NtV w64 (.slice A56 (L58.length) c57) L58 := ⟨SliceOf.pl hS60, OkNs.pl hN61⟩
  have hE66 : L58.map ns = joinN (La ++ Lb) := hL59.trans (talk_a2 hL40)
  have hm67 : L58.length ≤ 1000000 := (by have h0 := congrArg List.length hE66; rw [List.length_map] at h0; rw [h0]; first | exact Nat.le_trans (joinN_le _) (by simp only [List.length_append, List.length_cons, List.length_nil]; omega))
  refine L (r_as Z rfl) Z rfl ?_; clear Z az; intro az Z
  refine k53 _ _ (wp_seq_k fun _ k68 => wp_region_lit ?_)
  refine L (r_mv Z rfl) Z rfl ?_; clear Z az; intro az Z
  refine L (r_mv Z rfl) Z rfl ?_; clear Z az; intro az Z
  have O70 : Only NoF w w64 := (Only.trans' O55 o62)
  have G69 := Gr.k hG O70
  have hC78 := Join_v_ G69 (NtV.k nt51 o62) (NtV.k t2 O70) (by first | omega | (simp only [List.length_cons, List.length_nil]; omega))
  refine LC Z rfl rfl Tryd.call11 (hC78) rfl ?_
  rintro e w79 ⟨A71, c72, L73, rfl, hL74, hS75, hN76, o77⟩; refine ⟨_, rfl, ?_⟩
  clear Z az; intro az Z
  have nt80 : NtV w79 (.slice A71 (L73.length) c72) L73 := ⟨SliceOf.pl hS75, OkNs.pl hN76⟩
  have hE81 : L73.map ns = joinN (La ++ Lb) := hL74.trans (talk_b2 hL41)
  have hm82 : L73.length ≤ 1000000 := (by have h0 := congrArg List.length hE81; rw [List.length_map] at h0; rw [h0]; first | exact Nat.le_trans (joinN_le _) (by simp only [List.length_append, List.length_cons, List.length_nil]; omega))
  refine L (r_as Z rfl) Z rfl ?_; clear Z az; intro az Z
  refine k68 _ _ (wp_seq_k fun _ k83 => ?_)
  refine wp_seq_k fun _ k84 => wp_region_lit ?_
  refine L (r_mv Z rfl) Z rfl ?_; clear Z az; intro az Z
  refine L (r_mv Z rfl) Z rfl ?_; clear Z az; intro az Z
  have O85 : Only NoF w30 w79 := (Only.trans' (Only.trans' o44 o62) o77)
  refine LCV (v := .bool (true)) Z rfl rfl Tryd.call12 (fix_eq (congrArg Value.bool (decide_eq_true (hE66.trans hL25.symm))) (rSameChain_v (NtV.notes (NtV.k nt65 o77)) (NtV.notes (NtV.k nt31 O85)))) rfl fun w86 o87 => ?_; clear Z az; intro az Z
  refine L (r_not Z rfl) Z rfl ?_; clear Z az; intro az Z
  refine L (r_mv Z rfl) Z rfl ?_; clear Z az; intro az Z
  refine LT Z rfl rfl (r_mv Z rfl) rfl ?_; clear Z az; intro az Z
  refine LT Z rfl rfl (r_mv Z rfl) rfl ?_; clear Z az; intro az Z
  have O88 : Only NoF w30 w86 := (Only.trans' O85 o87)
  refine LGV (v := .bool (true)) Z rfl rfl gd_f rfl (fun hb => rfl) Tryd.call12 (fun hb => fix_eq (congrArg Value.bool (decide_eq_true (hE81.trans hL25.symm))) (rSameChain_v (NtV.notes (NtV.k nt80 o87)) (NtV.notes (NtV.k nt31 O88)))) rfl fun w89 o90 => ?_; clear Z az; intro az Z
  refine LT Z rfl rfl (r_not Z rfl) rfl ?_; clear Z az; intro az Z
  refine L (r_pick Z rfl rfl rfl) Z rfl ?_; clear Z az; intro az Z
  refine L (r_mv Z rfl) Z rfl ?_; clear Z az; intro az Z
  refine LT Z rfl rfl (r_mv Z rfl) rfl ?_; clear Z az; intro az Z
  refine LT Z rfl rfl (r_lenL Tryd.underlying22 Z rfl) rfl ?_; clear Z az; intro az Z
  refine LT Z rfl rfl (r_mv Z rfl) rfl ?_; clear Z az; intro az Z
  refine LT Z rfl rfl (r_lenL Tryd.underlying22 Z rfl) rfl ?_; clear Z az; intro az Z
  refine LT Z rfl rfl ((r_cast (r_gtI Z rfl rfl) (decide_eq_false (by omega)))) rfl ?_; clear Z az; intro az Z
  refine L (r_pick Z rfl rfl rfl) Z rfl ?_; clear Z az; intro az Z
  refine L (r_mv Z rfl) Z rfl ?_; clear Z az; intro az Z
  refine LT Z rfl rfl (r_mv Z rfl) rfl ?_; clear Z az; intro az Z
  refine LT Z rfl rfl (r_lenL Tryd.underlying22 Z rfl) rfl ?_; clear Z az; intro az Z
  refine LT Z rfl rfl (r_mv Z rfl) rfl ?_; clear Z az; intro az Z
  refine LT Z rfl rfl (r_lenL Tryd.underlying22 Z rfl) rfl ?_; clear Z az; intro az Z
  refine LT Z rfl rfl ((r_cast (r_gtI Z rfl rfl) (decide_eq_false (by omega)))) rfl ?_; clear Z az; intro az Z
  refine L (r_pick Z rfl rfl rfl) Z rfl ?_; clear Z az; intro az Z
  refine k84 _ _ ?_
  refine br_false Z rfl ?_
  refine wp_skip ?_
  refine k83 _ _ (wp_seq_k fun _ k91 => ?_)
  refine wp_seq_k fun _ k92 => wp_region_lit ?_
  refine L (r_as Z rfl) Z rfl ?_; clear Z az; intro az Z
  refine k92 _ _ ?_
  refine wp_block ?_
  refine wp_loop_m (fun mz az W => ∃ i : Nat, mz = L36.length - i ∧ Fr 159 [(0, .slice A1 (La.length) c1), (1, .slice A2 (Lb.length) c2), (5, .bool (true)), (7, .slice A34 (L36.length) c35), (8, .slice A37 (L39.length) c38), (9, .slice A56 (L58.length) c57), (10, .slice A71 (L73.length) c72), (11, .int .i64 ((i : Int)))] az ∧ (i ≤ L36.length) ∧ Only NoF w89 W) ?_ ?_
  ·
   exact ⟨_, 0, rfl, Z.cut ⟨rfl, rfl, rfl, rfl, rfl, rfl, rfl, rfl, trivial⟩, Nat.zero_le _, (Only.refl NoF w89)⟩
  clear Z az
  rintro mz az w93 ⟨i, hm95, Z, hi, o94⟩
  refine wp_seq_k fun _ k96 => ?_
  refine wp_seq_k fun _ k97 => wp_region_lit ?_
  refine L (r_mv Z rfl) Z rfl ?_; clear Z az; intro az Z
  refine L (r_mv Z rfl) Z rfl ?_; clear Z az; intro az Z
  refine L (r_lenL Tryd.underlying22 Z rfl) Z rfl ?_; clear Z az; intro az Z
  refine L (r_ltI Z rfl rfl) Z rfl ?_; clear Z az; intro az Z
  refine k97 _ _ ?_
  refine br Z rfl (fun hc98 => ?_) (fun hc98 => ?_)
  ·
   have p99 := of_decide_eq_true hc98
   refine wp_skip ?_
   refine k96 _ _ (wp_seq_k fun _ k100 => ?_)
   refine wp_block ?_
   refine wp_seq_k fun _ k101 => ?_
   refine reg_p NoF 4 [4, 12, 21, 31] (.rd 0 (.rd 1 (.rd 2 (.rd 3 (.ex 4 (.rd 5 (.rd 6 (.rd 7 (.rd 8 (.rd 9 (.rd 10 (.rd 11 (.ex 12 (.rd 13 (.rd 14 (.rd 15 (.rd 16 (.rd 17 (.rd 18 (.rd 19 (.rd 20 (.ex 21 (.rd 22 (.rd 23 (.rd 24 (.rd 25 (.rd 26 (.rd 27 (.rd 28 (.rd 29 (.rd 30 (.ex 31 (.rd 32 .nil))))))))))))))))))))))))))))))))) (by kernel_rfl) (by kernel_rfl) (fun _ _ _ _ _ h => h) fun w102 o103 => ?_
   refine Pl.MSP (b := true) (by kernel_rfl) (fun W oW => r_mv Z rfl) Z rfl rfl ?_; clear Z az; intro az Z
   refine Pl.MSP (b := true) (by kernel_rfl) (fun W oW => r_mv Z rfl) Z rfl rfl ?_; clear Z az; intro az Z
   have hk104 : i < (L36).length := by omega
   have O110 : Only NoF w48 w102 := (Only.trans' (Only.trans' (Only.trans' (Only.trans' (Only.trans' o62 o77) o87) o90) o94) o103)
   have h111 := (SliceOf.kp nt49.1 O110 (fun _ _ h => h) (fun _ _ _ _ h => h))
   obtain ⟨m105, hm106, ok107, hA108⟩ := Row.el KN0 h111 hk104
   have E109 : ∀ W, Only NoF w102 W → CA W (eA A34 5 (i)) [.int .i64 (m105.h), .int .i64 (m105.n), .int .i64 (m105.d), .slice m105.A (m105.l.length) m105.c, strV (m105.s)] := Row.ce KN0 h111 hm106 rfl
   have hso := sent_ok hL40 hm106
   refine Pl.MSP (b := true) (by kernel_rfl) (fun W oW => r_ia (k := i) (size := 5) Tryd.underlying22 Tryd.sizeOf42 Z rfl rfl rfl hk104 hA108) Z rfl rfl ?_; clear Z az; intro az Z
   refine Pl.MSP (b := true) (by kernel_rfl) (fun W oW => r_ldA Tryd.isAgg42 Tryd.sizeOf42 Z rfl (E109 _ (Only.trans' (Only.refl NoF w102) oW)) rfl) Z rfl rfl ?_; clear Z az; intro az Z
   have h112 := (SliceOf.kp (nt49.2 _ (List.mem_of_getElem? hm106)).2.2.2.1 O110 (fun _ _ h => h) (fun _ _ _ _ h => h))
   refine Pl.MSV (v := .bool (true)) Z rfl rfl rfl Tryd.call22 (fix_eq (congrArg Value.bool hso.1) (Right_v (m := m105) h112)) rfl (fun w' o' => ⟨fun _ => o', (Only.trans (Only.refl NoF w102) o' (fun _ h => h.elim))⟩) fun w113 o114 => ?_; clear Z az; intro az Z
   refine Pl.MSP (b := true) (by kernel_rfl) (fun W oW => r_not Z rfl) Z rfl rfl ?_; clear Z az; intro az Z
   refine Pl.MSP (b := true) (by kernel_rfl) (fun W oW => r_mv Z rfl) Z rfl rfl ?_; clear Z az; intro az Z
   refine Pl.MSPT (b := true) (by kernel_rfl) Z rfl rfl (fun W oW => r_mv Z rfl) rfl rfl ?_; clear Z az; intro az Z
   refine Pl.MSPT (b := true) (by kernel_rfl) Z rfl rfl (fun W oW => r_mv Z rfl) rfl rfl ?_; clear Z az; intro az Z
   refine Pl.MSPT (b := true) (by kernel_rfl) Z rfl rfl (fun W oW => r_mv Z rfl) rfl rfl ?_; clear Z az; intro az Z
   refine Pl.MSPT (b := true) (by kernel_rfl) Z rfl rfl (fun W oW => r_ia (k := i) (size := 5) Tryd.underlying22 Tryd.sizeOf42 Z rfl rfl rfl hk104 hA108) rfl rfl ?_; clear Z az; intro az Z
   refine Pl.MSPT (b := true) (by kernel_rfl) Z rfl rfl (fun W oW => r_ldA Tryd.isAgg42 Tryd.sizeOf42 Z rfl (E109 _ (Only.trans' (Only.refl NoF w102) oW)) rfl) rfl rfl ?_; clear Z az; intro az Z
   have O115 : Only NoF w w113 := (Only.trans' (Only.trans' (Only.trans' (Only.trans' (Only.trans' (Only.trans' O70 o77) o87) o90) o94) o103) o114)
   have O116 : Only NoF w48 w113 := (Only.trans' O110 o114)
   have h117 := (SliceOf.kp (nt49.2 _ (List.mem_of_getElem? hm106)).2.2.2.1 O116 (fun _ _ h => h) (fun _ _ _ _ h => h))
   refine Pl.MSGV (v := .bool (true)) Z rfl rfl gd_f rfl rfl (fun hb => rfl) Tryd.call23 (fun hb => fix_eq (congrArg Value.bool hso.2.1) (has39_v_ (NtV.k t2 O115) (x := m105) (okN.k (nt49.2 _ (List.mem_of_getElem? hm106)) O116))) rfl (fun w' o' => ⟨fun _ => (Only.trans' o114 o'), (Only.trans (Only.trans (Only.refl NoF w102) o114 (fun _ h => h.elim)) o' (fun _ h => h.elim))⟩) fun w118 o119 => ?_; clear Z az; intro az Z
   refine Pl.MSPT (b := true) (by kernel_rfl) Z rfl rfl (fun W oW => r_not Z rfl) rfl rfl ?_; clear Z az; intro az Z
   refine Pl.MSP (b := true) (by kernel_rfl) (fun W oW => r_pick Z rfl rfl rfl) Z rfl rfl ?_; clear Z az; intro az Z
   refine Pl.MSP (b := true) (by kernel_rfl) (fun W oW => r_mv Z rfl) Z rfl rfl ?_; clear Z az; intro az Z
   refine Pl.MSPT (b := true) (by kernel_rfl) Z rfl rfl (fun W oW => r_mv Z rfl) rfl rfl ?_; clear Z az; intro az Z
   refine Pl.MSPT (b := true) (by kernel_rfl) Z rfl rfl (fun W oW => r_mv Z rfl) rfl rfl ?_; clear Z az; intro az Z
   refine Pl.MSPT (b := true) (by kernel_rfl) Z rfl rfl (fun W oW => r_mv Z rfl) rfl rfl ?_; clear Z az; intro az Z
   refine Pl.MSPT (b := true) (by kernel_rfl) Z rfl rfl (fun W oW => r_ia (k := i) (size := 5) Tryd.underlying22 Tryd.sizeOf42 Z rfl rfl rfl hk104 hA108) rfl rfl ?_; clear Z az; intro az Z
   refine Pl.MSPT (b := true) (by kernel_rfl) Z rfl rfl (fun W oW => r_ldA Tryd.isAgg42 Tryd.sizeOf42 Z rfl (E109 _ (Only.trans' (Only.refl NoF w102) oW)) rfl) rfl rfl ?_; clear Z az; intro az Z
   have O120 : Only NoF w w118 := (Only.trans' O115 o119)
   have O121 : Only NoF w48 w118 := (Only.trans' O116 o119)
   have h122 := (SliceOf.kp (nt49.2 _ (List.mem_of_getElem? hm106)).2.2.2.1 O121 (fun _ _ h => h) (fun _ _ _ _ h => h))
   refine Pl.MSGV (v := .bool (false)) Z rfl rfl gd_f rfl rfl (fun hb => rfl) Tryd.call23 (fun hb => fix_eq (congrArg Value.bool hso.2.2.1) (has39_v_ (NtV.k t1 O120) (x := m105) (okN.k (nt49.2 _ (List.mem_of_getElem? hm106)) O121))) rfl (fun w' o' => ⟨fun _ => (Only.trans' (Only.trans' o114 o119) o'), (Only.trans (Only.trans (Only.trans (Only.refl NoF w102) o114 (fun _ h => h.elim)) o119 (fun _ h => h.elim)) o' (fun _ h => h.elim))⟩) fun w123 o124 => ?_; clear Z az; intro az Z
   refine Pl.MSP (b := true) (by kernel_rfl) (fun W oW => r_pick Z rfl rfl rfl) Z rfl rfl ?_; clear Z az; intro az Z
   refine Pl.MSP (b := true) (by kernel_rfl) (fun W oW => r_mv Z rfl) Z rfl rfl ?_; clear Z az; intro az Z
   refine Pl.MSPT (b := true) (by kernel_rfl) Z rfl rfl (fun W oW => r_mv Z rfl) rfl rfl ?_; clear Z az; intro az Z
   refine Pl.MSPT (b := true) (by kernel_rfl) Z rfl rfl (fun W oW => r_mv Z rfl) rfl rfl ?_; clear Z az; intro az Z
   have O125 : Only NoF w48 w123 := (Only.trans' O121 o124)
   have nt126 := NtS.top (m := i) (NtV.k nt49 O125) (by omega)
   have hl127 : (i : Int) = ((List.take i L36).length : Int) := by rw [List.length_take, Nat.min_eq_left (by omega)]
   have hc128 : (List.take i L36).length ≤ c35 := Nat.le_trans (by rw [List.length_take]; omega) (SliceOf.cap_ (NtV.k nt49 O125).1)
   refine Pl.MSPT (b := true) (by kernel_rfl) Z rfl rfl (fun W oW => r_slh (m := (List.take i L36).length) (size := 5) Tryd.underlying22 Tryd.sizeOf42 Z rfl rfl hl127 hc128) rfl rfl ?_; clear Z az; intro az Z
   refine Pl.MSPT (b := true) (by kernel_rfl) Z rfl rfl (fun W oW => r_mv Z rfl) rfl rfl ?_; clear Z az; intro az Z
   refine Pl.MSPT (b := true) (by kernel_rfl) Z rfl rfl (fun W oW => r_mv Z rfl) rfl rfl ?_; clear Z az; intro az Z
   refine Pl.MSPT (b := true) (by kernel_rfl) Z rfl rfl (fun W oW => r_ia (k := i) (size := 5) Tryd.underlying22 Tryd.sizeOf42 Z rfl rfl rfl hk104 hA108) rfl rfl ?_; clear Z az; intro az Z
   refine Pl.MSPT (b := true) (by kernel_rfl) Z rfl rfl (fun W oW => r_ldA Tryd.isAgg42 Tryd.sizeOf42 Z rfl (E109 _ (Only.trans' (Only.refl NoF w102) oW)) rfl) rfl rfl ?_; clear Z az; intro az Z
   have h129 := (SliceOf.kp (nt49.2 _ (List.mem_of_getElem? hm106)).2.2.2.1 O125 (fun _ _ h => h) (fun _ _ _ _ h => h))
   refine Pl.MSGV (v := .bool (false)) Z rfl rfl gd_f rfl rfl (fun hb => rfl) Tryd.call23 (fun hb => fix_eq (congrArg Value.bool hso.2.2.2) (has39_v_ nt126 (x := m105) (okN.k (nt49.2 _ (List.mem_of_getElem? hm106)) O125))) rfl (fun w' o' => ⟨fun _ => (Only.trans' (Only.trans' (Only.trans' o114 o119) o124) o'), (Only.trans (Only.trans (Only.trans (Only.trans (Only.refl NoF w102) o114 (fun _ h => h.elim)) o119 (fun _ h => h.elim)) o124 (fun _ h => h.elim)) o' (fun _ h => h.elim))⟩) fun w130 o131 => ?_; clear Z az; intro az Z
   refine Pl.MSP (b := true) (by kernel_rfl) (fun W oW => r_pick Z rfl rfl rfl) Z rfl rfl ?_; clear Z az; intro az Z
   refine wpPl_nil ?_
   refine k101 _ _ ?_
   refine br_false Z rfl ?_
   refine wp_skip ?_
   refine k100 _ _ ?_
   refine wp_region_lit ?_
   refine L (r_mv Z rfl) Z rfl ?_; clear Z az; intro az Z
   have i132 : I64 (((i : Int) + 1)) := by unfold I64; omega
   refine L (r_addI (r := ((i : Int) + 1)) Z rfl rfl rfl i132) Z rfl ?_; clear Z az; intro az Z
   refine L (r_as Z rfl) Z rfl ?_; clear Z az; intro az Z
   have O133 : Only NoF w89 w130 := (Only.trans' (Only.trans' (Only.trans' (Only.trans' (Only.trans' o94 o103) o114) o119) o124) o131)
   exact ⟨_, (by omega), i + 1, rfl, Z.cut ⟨rfl, rfl, rfl, rfl, rfl, rfl, rfl, rfl, trivial⟩, (by omega), O133⟩
  ·
   have p134 := of_decide_eq_false hc98
   refine wp_exit ?_
   refine th_exit ?_
   refine th_exit ?_
   refine ib_hit ?_
   refine k91 _ _ (wp_seq_k fun _ k135 => ?_)
   refine wp_seq_k fun _ k136 => wp_region_lit ?_
   refine L (r_as Z rfl) Z rfl ?_; clear Z az; intro az Z
   refine k136 _ _ ?_
   refine wp_block ?_
   refine wp_loop_m (fun mz az W => ∃ k : Nat, mz = L39.length - k ∧ Fr 159 [(0, .slice A1 (La.length) c1), (1, .slice A2 (Lb.length) c2), (5, .bool (true)), (8, .slice A37 (L39.length) c38), (9, .slice A56 (L58.length) c57), (10, .slice A71 (L73.length) c72), (12, .int .i64 ((k : Int)))] az ∧ (k ≤ L39.length) ∧ Only NoF w93 W) ?_ ?_
   ·
    exact ⟨_, 0, rfl, Z.cut ⟨rfl, rfl, rfl, rfl, rfl, rfl, rfl, trivial⟩, Nat.zero_le _, (Only.refl NoF w93)⟩
   clear Z az
   rintro mz az w137 ⟨k, hm139, Z, hi, o138⟩
   refine wp_seq_k fun _ k140 => ?_
   refine wp_seq_k fun _ k141 => wp_region_lit ?_
   refine L (r_mv Z rfl) Z rfl ?_; clear Z az; intro az Z
   refine L (r_mv Z rfl) Z rfl ?_; clear Z az; intro az Z
   refine L (r_lenL Tryd.underlying22 Z rfl) Z rfl ?_; clear Z az; intro az Z
   refine L (r_ltI Z rfl rfl) Z rfl ?_; clear Z az; intro az Z
   refine k141 _ _ ?_
   refine br Z rfl (fun hc142 => ?_) (fun hc142 => ?_)
   ·
    have p143 := of_decide_eq_true hc142
    refine wp_skip ?_
    refine k140 _ _ (wp_seq_k fun _ k144 => ?_)
    refine wp_block ?_
    refine wp_seq_k fun _ k145 => ?_
    refine reg_p NoF 4 [4, 12, 21, 31] (.rd 0 (.rd 1 (.rd 2 (.rd 3 (.ex 4 (.rd 5 (.rd 6 (.rd 7 (.rd 8 (.rd 9 (.rd 10 (.rd 11 (.ex 12 (.rd 13 (.rd 14 (.rd 15 (.rd 16 (.rd 17 (.rd 18 (.rd 19 (.rd 20 (.ex 21 (.rd 22 (.rd 23 (.rd 24 (.rd 25 (.rd 26 (.rd 27 (.rd 28 (.rd 29 (.rd 30 (.ex 31 (.rd 32 .nil))))))))))))))))))))))))))))))))) (by kernel_rfl) (by kernel_rfl) (fun _ _ _ _ _ h => h) fun w146 o147 => ?_
    refine Pl.MSP (b := true) (by kernel_rfl) (fun W oW => r_mv Z rfl) Z rfl rfl ?_; clear Z az; intro az Z
    refine Pl.MSP (b := true) (by kernel_rfl) (fun W oW => r_mv Z rfl) Z rfl rfl ?_; clear Z az; intro az Z
    have hk148 : k < (L39).length := by omega
    have O154 : Only NoF w48 w146 := (Only.trans' (Only.trans' (Only.trans' (Only.trans' (Only.trans' (Only.trans' o62 o77) o87) o90) o94) o138) o147)
    have h155 := (SliceOf.kp nt51.1 O154 (fun _ _ h => h) (fun _ _ _ _ h => h))
    obtain ⟨m149, hm150, ok151, hA152⟩ := Row.el KN0 h155 hk148
    have E153 : ∀ W, Only NoF w146 W → CA W (eA A37 5 (k)) [.int .i64 (m149.h), .int .i64 (m149.n), .int .i64 (m149.d), .slice m149.A (m149.l.length) m149.c, strV (m149.s)] := Row.ce KN0 h155 hm150 rfl
    have hso := sent_ok hL41 hm150
    refine Pl.MSP (b := true) (by kernel_rfl) (fun W oW => r_ia (k := k) (size := 5) Tryd.underlying22 Tryd.sizeOf42 Z rfl rfl rfl hk148 hA152) Z rfl rfl ?_; clear Z az; intro az Z
    refine Pl.MSP (b := true) (by kernel_rfl) (fun W oW => r_ldA Tryd.isAgg42 Tryd.sizeOf42 Z rfl (E153 _ (Only.trans' (Only.refl NoF w146) oW)) rfl) Z rfl rfl ?_; clear Z az; intro az Z
    have h156 := (SliceOf.kp (nt51.2 _ (List.mem_of_getElem? hm150)).2.2.2.1 O154 (fun _ _ h => h) (fun _ _ _ _ h => h))
    refine Pl.MSV (v := .bool (true)) Z rfl rfl rfl Tryd.call22 (fix_eq (congrArg Value.bool hso.1) (Right_v (m := m149) h156)) rfl (fun w' o' => ⟨fun _ => o', (Only.trans (Only.refl NoF w146) o' (fun _ h => h.elim))⟩) fun w157 o158 => ?_; clear Z az; intro az Z
    refine Pl.MSP (b := true) (by kernel_rfl) (fun W oW => r_not Z rfl) Z rfl rfl ?_; clear Z az; intro az Z
    refine Pl.MSP (b := true) (by kernel_rfl) (fun W oW => r_mv Z rfl) Z rfl rfl ?_; clear Z az; intro az Z
    refine Pl.MSPT (b := true) (by kernel_rfl) Z rfl rfl (fun W oW => r_mv Z rfl) rfl rfl ?_; clear Z az; intro az Z
    refine Pl.MSPT (b := true) (by kernel_rfl) Z rfl rfl (fun W oW => r_mv Z rfl) rfl rfl ?_; clear Z az; intro az Z
    refine Pl.MSPT (b := true) (by kernel_rfl) Z rfl rfl (fun W oW => r_mv Z rfl) rfl rfl ?_; clear Z az; intro az Z
    refine Pl.MSPT (b := true) (by kernel_rfl) Z rfl rfl (fun W oW => r_ia (k := k) (size := 5) Tryd.underlying22 Tryd.sizeOf42 Z rfl rfl rfl hk148 hA152) rfl rfl ?_; clear Z az; intro az Z
    refine Pl.MSPT (b := true) (by kernel_rfl) Z rfl rfl (fun W oW => r_ldA Tryd.isAgg42 Tryd.sizeOf42 Z rfl (E153 _ (Only.trans' (Only.refl NoF w146) oW)) rfl) rfl rfl ?_; clear Z az; intro az Z
    have O159 : Only NoF w w157 := (Only.trans' (Only.trans' (Only.trans' (Only.trans' (Only.trans' (Only.trans' (Only.trans' O70 o77) o87) o90) o94) o138) o147) o158)
    have O160 : Only NoF w48 w157 := (Only.trans' O154 o158)
    have h161 := (SliceOf.kp (nt51.2 _ (List.mem_of_getElem? hm150)).2.2.2.1 O160 (fun _ _ h => h) (fun _ _ _ _ h => h))
    refine Pl.MSGV (v := .bool (true)) Z rfl rfl gd_f rfl rfl (fun hb => rfl) Tryd.call23 (fun hb => fix_eq (congrArg Value.bool hso.2.1) (has39_v_ (NtV.k t1 O159) (x := m149) (okN.k (nt51.2 _ (List.mem_of_getElem? hm150)) O160))) rfl (fun w' o' => ⟨fun _ => (Only.trans' o158 o'), (Only.trans (Only.trans (Only.refl NoF w146) o158 (fun _ h => h.elim)) o' (fun _ h => h.elim))⟩) fun w162 o163 => ?_; clear Z az; intro az Z
    refine Pl.MSPT (b := true) (by kernel_rfl) Z rfl rfl (fun W oW => r_not Z rfl) rfl rfl ?_; clear Z az; intro az Z
    refine Pl.MSP (b := true) (by kernel_rfl) (fun W oW => r_pick Z rfl rfl rfl) Z rfl rfl ?_; clear Z az; intro az Z
    refine Pl.MSP (b := true) (by kernel_rfl) (fun W oW => r_mv Z rfl) Z rfl rfl ?_; clear Z az; intro az Z
    refine Pl.MSPT (b := true) (by kernel_rfl) Z rfl rfl (fun W oW => r_mv Z rfl) rfl rfl ?_; clear Z az; intro az Z
    refine Pl.MSPT (b := true) (by kernel_rfl) Z rfl rfl (fun W oW => r_mv Z rfl) rfl rfl ?_; clear Z az; intro az Z
    refine Pl.MSPT (b := true) (by kernel_rfl) Z rfl rfl (fun W oW => r_mv Z rfl) rfl rfl ?_; clear Z az; intro az Z
    refine Pl.MSPT (b := true) (by kernel_rfl) Z rfl rfl (fun W oW => r_ia (k := k) (size := 5) Tryd.underlying22 Tryd.sizeOf42 Z rfl rfl rfl hk148 hA152) rfl rfl ?_; clear Z az; intro az Z
    refine Pl.MSPT (b := true) (by kernel_rfl) Z rfl rfl (fun W oW => r_ldA Tryd.isAgg42 Tryd.sizeOf42 Z rfl (E153 _ (Only.trans' (Only.refl NoF w146) oW)) rfl) rfl rfl ?_; clear Z az; intro az Z
    have O164 : Only NoF w w162 := (Only.trans' O159 o163)
    have O165 : Only NoF w48 w162 := (Only.trans' O160 o163)
    have h166 := (SliceOf.kp (nt51.2 _ (List.mem_of_getElem? hm150)).2.2.2.1 O165 (fun _ _ h => h) (fun _ _ _ _ h => h))
    refine Pl.MSGV (v := .bool (false)) Z rfl rfl gd_f rfl rfl (fun hb => rfl) Tryd.call23 (fun hb => fix_eq (congrArg Value.bool hso.2.2.1) (has39_v_ (NtV.k t2 O164) (x := m149) (okN.k (nt51.2 _ (List.mem_of_getElem? hm150)) O165))) rfl (fun w' o' => ⟨fun _ => (Only.trans' (Only.trans' o158 o163) o'), (Only.trans (Only.trans (Only.trans (Only.refl NoF w146) o158 (fun _ h => h.elim)) o163 (fun _ h => h.elim)) o' (fun _ h => h.elim))⟩) fun w167 o168 => ?_; clear Z az; intro az Z
    refine Pl.MSP (b := true) (by kernel_rfl) (fun W oW => r_pick Z rfl rfl rfl) Z rfl rfl ?_; clear Z az; intro az Z
    refine Pl.MSP (b := true) (by kernel_rfl) (fun W oW => r_mv Z rfl) Z rfl rfl ?_; clear Z az; intro az Z
    refine Pl.MSPT (b := true) (by kernel_rfl) Z rfl rfl (fun W oW => r_mv Z rfl) rfl rfl ?_; clear Z az; intro az Z
    refine Pl.MSPT (b := true) (by kernel_rfl) Z rfl rfl (fun W oW => r_mv Z rfl) rfl rfl ?_; clear Z az; intro az Z
    have O169 : Only NoF w48 w167 := (Only.trans' O165 o168)
    have nt170 := NtS.top (m := k) (NtV.k nt51 O169) (by omega)
    have hl171 : (k : Int) = ((List.take k L39).length : Int) := by rw [List.length_take, Nat.min_eq_left (by omega)]
    have hc172 : (List.take k L39).length ≤ c38 := Nat.le_trans (by rw [List.length_take]; omega) (SliceOf.cap_ (NtV.k nt51 O169).1)
    refine Pl.MSPT (b := true) (by kernel_rfl) Z rfl rfl (fun W oW => r_slh (m := (List.take k L39).length) (size := 5) Tryd.underlying22 Tryd.sizeOf42 Z rfl rfl hl171 hc172) rfl rfl ?_; clear Z az; intro az Z
    refine Pl.MSPT (b := true) (by kernel_rfl) Z rfl rfl (fun W oW => r_mv Z rfl) rfl rfl ?_; clear Z az; intro az Z
    refine Pl.MSPT (b := true) (by kernel_rfl) Z rfl rfl (fun W oW => r_mv Z rfl) rfl rfl ?_; clear Z az; intro az Z
    refine Pl.MSPT (b := true) (by kernel_rfl) Z rfl rfl (fun W oW => r_ia (k := k) (size := 5) Tryd.underlying22 Tryd.sizeOf42 Z rfl rfl rfl hk148 hA152) rfl rfl ?_; clear Z az; intro az Z
    refine Pl.MSPT (b := true) (by kernel_rfl) Z rfl rfl (fun W oW => r_ldA Tryd.isAgg42 Tryd.sizeOf42 Z rfl (E153 _ (Only.trans' (Only.refl NoF w146) oW)) rfl) rfl rfl ?_; clear Z az; intro az Z
    have h173 := (SliceOf.kp (nt51.2 _ (List.mem_of_getElem? hm150)).2.2.2.1 O169 (fun _ _ h => h) (fun _ _ _ _ h => h))
    refine Pl.MSGV (v := .bool (false)) Z rfl rfl gd_f rfl rfl (fun hb => rfl) Tryd.call23 (fun hb => fix_eq (congrArg Value.bool hso.2.2.2) (has39_v_ nt170 (x := m149) (okN.k (nt51.2 _ (List.mem_of_getElem? hm150)) O169))) rfl (fun w' o' => ⟨fun _ => (Only.trans' (Only.trans' (Only.trans' o158 o163) o168) o'), (Only.trans (Only.trans (Only.trans (Only.trans (Only.refl NoF w146) o158 (fun _ h => h.elim)) o163 (fun _ h => h.elim)) o168 (fun _ h => h.elim)) o' (fun _ h => h.elim))⟩) fun w174 o175 => ?_; clear Z az; intro az Z
    refine Pl.MSP (b := true) (by kernel_rfl) (fun W oW => r_pick Z rfl rfl rfl) Z rfl rfl ?_; clear Z az; intro az Z
    refine wpPl_nil ?_
    refine k145 _ _ ?_
    refine br_false Z rfl ?_
    refine wp_skip ?_
    refine k144 _ _ ?_
    refine wp_region_lit ?_
    refine L (r_mv Z rfl) Z rfl ?_; clear Z az; intro az Z
    have i176 : I64 (((k : Int) + 1)) := by unfold I64; omega
    refine L (r_addI (r := ((k : Int) + 1)) Z rfl rfl rfl i176) Z rfl ?_; clear Z az; intro az Z
    refine L (r_as Z rfl) Z rfl ?_; clear Z az; intro az Z
    have O177 : Only NoF w93 w174 := (Only.trans' (Only.trans' (Only.trans' (Only.trans' (Only.trans' o138 o147) o158) o163) o168) o175)
    exact ⟨_, (by omega), k + 1, rfl, Z.cut ⟨rfl, rfl, rfl, rfl, rfl, rfl, rfl, trivial⟩, (by omega), O177⟩
   ·
    have p178 := of_decide_eq_false hc142
    refine wp_exit ?_
    refine th_exit ?_
    refine th_exit ?_
    refine ib_hit ?_
    refine k135 _ _ (wp_seq_k fun _ k179 => wp_region_lit ?_)
    refine L (r_mv Z rfl) Z rfl ?_; clear Z az; intro az Z
    refine L (r_mv Z rfl) Z rfl ?_; clear Z az; intro az Z
    have O192 : Only NoF w w137 := (Only.trans' (Only.trans' (Only.trans' (Only.trans' (Only.trans' O70 o77) o87) o90) o94) o138)
    have G191 := Gr.k hG O192
    have O193 : Only NoF w64 w137 := (Only.trans' (Only.trans' (Only.trans' (Only.trans' o77 o87) o90) o94) o138)
    have O194 : Only NoF w79 w137 := (Only.trans' (Only.trans' (Only.trans' o87 o90) o94) o138)
    have hC195 := Talk_v_ G191 (NtV.k nt65 O193) (NtV.k nt80 O194) hm67 hm82
    refine LC Z rfl rfl Tryd.call28 (hC195) rfl ?_
    rintro e w196 ⟨A180, c181, L182, A183, c184, L185, rfl, hL186, hL187, hN188, hN189, o190⟩; refine ⟨_, rfl, ?_⟩
    clear Z az; intro az Z
    have nt197 : NtV w196 (.slice A180 (L182.length) c181) L182 := ⟨SliceOf.pl hN188.1, OkNs.pl hN188.2⟩
    have hm198 : L182.length ≤ 1000000 := (lss_lim hL186 hm82)
    have nt199 : NtV w196 (.slice A183 (L185.length) c184) L185 := ⟨SliceOf.pl hN189.1, OkNs.pl hN189.2⟩
    have hm200 : L185.length ≤ 1000000 := (lss_lim hL187 hm67)
    refine L (r_mv Z rfl) Z rfl ?_; clear Z az; intro az Z
    refine L (r_ex Z rfl rfl) Z rfl ?_; clear Z az; intro az Z
    refine L (r_ex Z rfl rfl) Z rfl ?_; clear Z az; intro az Z
    refine L (r_as Z rfl) Z rfl ?_; clear Z az; intro az Z
    refine L (r_as Z rfl) Z rfl ?_; clear Z az; intro az Z
    refine k179 _ _ (wp_seq_k fun _ k201 => wp_region_lit ?_)
    refine L (r_mv Z rfl) Z rfl ?_; clear Z az; intro az Z
    refine L (r_mv Z rfl) Z rfl ?_; clear Z az; intro az Z
    refine LT Z rfl rfl (r_mv Z rfl) rfl ?_; clear Z az; intro az Z
    refine LT Z rfl rfl (r_len0 Tryd.underlying22 Z rfl (ns_nil hL186 (talk_end hE81 hE66))) rfl ?_; clear Z az; intro az Z
    refine LT Z rfl rfl (r_eqRI Z rfl rfl) rfl ?_; clear Z az; intro az Z
    refine L (r_pick Z rfl rfl rfl) Z rfl ?_; clear Z az; intro az Z
    refine L (r_mv Z rfl) Z rfl ?_; clear Z az; intro az Z
    refine LT Z rfl rfl (r_mv Z rfl) rfl ?_; clear Z az; intro az Z
    refine LT Z rfl rfl (r_len0 Tryd.underlying22 Z rfl (ns_nil hL187 (talk_end hE66 hE81))) rfl ?_; clear Z az; intro az Z
    refine LT Z rfl rfl (r_eqRI Z rfl rfl) rfl ?_; clear Z az; intro az Z
    refine L (r_pick Z rfl rfl rfl) Z rfl ?_; clear Z az; intro az Z
    refine L (r_as Z rfl) Z rfl ?_; clear Z az; intro az Z
    refine k201 _ _ ?_
    refine wp_ret ?_
    show bodyPost _ _ _ .ret _ _
    refine ret_of (vs := [.bool (true)]) Z Tryd.results6 ⟨rfl, trivial⟩ ?_
    have O202 : Only NoF w w196 := (Only.trans' O192 o190)
    exact ⟨rfl, O202⟩
theorem talk39_v {w : World} (hG : Gr w) {v1 v2 : Value} {La Lb : List NM} (f1 : NotesV w w v1 La) (f2 : NotesV w w v2 Lb) : Calls Tryd.prog 6 #[v1, v2] w (Fix (.bool true) w) := by
 obtain ⟨A1, c1, rfl, _⟩ := SliceOf.shape f1
 obtain ⟨A2, c2, rfl, _⟩ := SliceOf.shape f2
 exact talk39_ hG (NtV.of f1) (NtV.of f2)
end Go.Proofs.YtdcbjedkddgfkaaDoor
