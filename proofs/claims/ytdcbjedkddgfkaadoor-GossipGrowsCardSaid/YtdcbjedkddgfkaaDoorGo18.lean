/-
  Gossip: GossipGrows, walked: it returns true. Condition: the listed variables.
-/
import Derived.Test.YtdcbjedkddgfkaaDoorGoL
namespace Go.Proofs.YtdcbjedkddgfkaaDoor
set_option linter.unusedVariables false
set_option linter.unusedSimpArgs false
set_option linter.unusedSectionVars false
open Go.RowKit
set_option maxRecDepth 20000 in
set_option maxHeartbeats 4000000 in
theorem grows39_ {w : World} (hG : Gr w) {La : List NM} {A1 : Option Addr} {c1 : Nat} (t1 : NtV w (.slice A1 La.length c1) La) {Lb : List NM} {A2 : Option Addr} {c2 : Nat} (t2 : NtV w (.slice A2 Lb.length c2) Lb) : Calls Tryd.prog 5 [.slice A1 (La.length) c1, .slice A2 (Lb.length) c2].toArray w (Fix (.bool true) w) := by
 refine calls_start Tryd.func5 rfl rfl ?_
 intro az Z
 rw [Tryd.ntmps5] at Z
 refine wp_seq_k fun _ k1 => wp_region_lit ?_
 refine L (r_as Z rfl) Z rfl ?_; clear Z az; intro az Z
 refine k1 _ _ (wp_seq_k fun _ k2 => wp_region_lit ?_)
 have G3 := Gr.k hG (Only.refl NoF w)
 refine LCV (v := .bool (true)) Z rfl rfl Tryd.call9 (small39_v G3) rfl fun w4 o5 => ?_; clear Z az; intro az Z
 refine L (r_as Z rfl) Z rfl ?_; clear Z az; intro az Z
 refine k2 _ _ (wp_seq_k fun _ k6 => ?_)
 refine wp_seq_k fun _ k7 => wp_region_lit ?_
 refine L (r_mv Z rfl) Z rfl ?_; clear Z az; intro az Z
 refine LCV (v := .bool (few39 La 30)) Z rfl rfl Tryd.call10 (few39_v_ (NtV.k t1 o5) 30) rfl fun w8 o9 => ?_; clear Z az; intro az Z
 refine L (r_not Z rfl) Z rfl ?_; clear Z az; intro az Z
 refine L (r_mv Z rfl) Z rfl ?_; clear Z az; intro az Z
 refine LG Z rfl rfl gd_f (fun hb => r_mv Z rfl) rfl ?_; clear Z az; intro az Z
 have O10 : Only NoF w w8 := (Only.trans' o5 o9)
 refine LGV (v := .bool (few39 Lb 30)) Z rfl rfl gd_f rfl (fun hb => (evs_c (evg hb rfl) (evs_c rfl rfl))) Tryd.call10 (fun hb => few39_v_ (NtV.k t2 O10) 30) rfl fun w11 o12 => ?_; clear Z az; intro az Z
 refine LG Z rfl rfl gd_f (fun hb => r_not Z (evg hb rfl)) rfl ?_; clear Z az; intro az Z
 refine L (r_or Z rfl rfl rfl) Z rfl ?_; clear Z az; intro az Z
 refine k7 _ _ ?_
 refine br Z rfl (fun hc13 => ?_) (fun hc13 => ?_)
 ·
  have d14 := hc13
  refine wp_seq_k fun _ k15 => wp_region_lit ?_
  refine L (r_mv Z rfl) Z rfl ?_; clear Z az; intro az Z
  refine L (r_as Z rfl) Z rfl ?_; clear Z az; intro az Z
  refine k15 _ _ ?_
  refine wp_ret ?_
  show bodyPost _ _ _ .ret _ _
  refine ret_of (vs := [.bool (true)]) Z Tryd.results5 ⟨rfl, trivial⟩ ?_
  have O16 : Only NoF w w11 := (Only.trans' O10 o12)
  exact ⟨rfl, O16⟩
 ·
  have q17 : few39 La 30 = true := (nt_f (or_f hc13).1)
  have q18 : few39 Lb 30 = true := (nt_f (or_f hc13).2)
  have hlLa := few_le q17
  have hlLb := few_le q18
  refine wp_skip ?_
  refine k6 _ _ (wp_seq_k fun _ k19 => wp_region_lit ?_)
  refine L (r_mv Z rfl) Z rfl ?_; clear Z az; intro az Z
  refine L (r_mv Z rfl) Z rfl ?_; clear Z az; intro az Z
  have O21 : Only NoF w w11 := (Only.trans' O10 o12)
  have G20 := Gr.k hG O21
  have hC29 := Join_v_ G20 (NtV.k t1 O21) (NtV.k t2 O21) (by first | omega | (simp only [List.length_cons, List.length_nil]; omega))
  refine LC Z rfl rfl Tryd.call11 (hC29) rfl ?_
  rintro e w30 ⟨A22, c23, L24, rfl, hL25, hS26, hN27, o28⟩; refine ⟨_, rfl, ?_⟩
  clear Z az; intro az Z
  have nt31 : NtV w30 (.slice A22 (L24.length) c23) L24 := ⟨SliceOf.pl hS26, OkNs.pl hN27⟩
  have hm32 : L24.length ≤ 1000000 := (by have h0 := congrArg List.length hL25; rw [List.length_map] at h0; rw [h0]; first | exact Nat.le_trans (joinN_le _) (by simp only [List.length_append, List.length_cons, List.length_nil]; omega))
  refine L (r_as Z rfl) Z rfl ?_; clear Z az; intro az Z
  refine k19 _ _ (wp_seq_k fun _ k33 => wp_region_lit ?_)
  refine L (r_mv Z rfl) Z rfl ?_; clear Z az; intro az Z
  have O35 : Only NoF w w30 := (Only.trans' O21 o28)
  have G34 := Gr.k hG O35
  have hC40 := (by have h0 := Forks_v_ G34 nt31 hm32; rw [(join_ns hL25)] at h0; exact h0)
  refine LC Z rfl rfl Tryd.call15 (hC40) rfl ?_
  rintro e w41 ⟨A36, c37, rfl, r38, o39⟩; refine ⟨_, rfl, ?_⟩
  clear Z az; intro az Z
  refine L (r_as Z rfl) Z rfl ?_; clear Z az; intro az Z
  refine k33 _ _ (wp_seq_k fun _ k42 => ?_)
  refine wp_seq_k fun _ k43 => wp_region_lit ?_
  refine L (r_as Z rfl) Z rfl ?_; clear Z az; intro az Z
  refine k43 _ _ ?_
  refine wp_block ?_
  refine wp_loop_m (fun mz az W => ∃ i : Nat, mz = Lb.length - i ∧ Fr 91 [(0, .slice A1 (La.length) c1), (1, .slice A2 (Lb.length) c2), (5, .bool (true)), (6, .slice A22 (L24.length) c23), (7, .slice A36 ((forksN (joinN (La ++ Lb))).length) c37), (8, .int .i64 ((i : Int)))] az ∧ (i ≤ Lb.length) ∧ (∀ x ∈ List.take i Lb, hasI (forksN (joinN (La ++ Lb))) x.h = false) ∧ Only NoF w41 W) ?_ ?_
  ·
   exact ⟨_, 0, rfl, Z.cut ⟨rfl, rfl, rfl, rfl, rfl, rfl, trivial⟩, Nat.zero_le _, tk_nil, (Only.refl NoF w41)⟩
  clear Z az
  rintro mz az w44 ⟨i, hm46, Z, hi, hF, o45⟩
  refine wp_seq_k fun _ k47 => ?_
  refine wp_seq_k fun _ k48 => wp_region_lit ?_
  refine L (r_mv Z rfl) Z rfl ?_; clear Z az; intro az Z
  refine L (r_mv Z rfl) Z rfl ?_; clear Z az; intro az Z
  refine L (r_lenL Tryd.underlying22 Z rfl) Z rfl ?_; clear Z az; intro az Z
  refine L (r_ltI Z rfl rfl) Z rfl ?_; clear Z az; intro az Z
  refine k48 _ _ ?_
  refine br Z rfl (fun hc49 => ?_) (fun hc49 => ?_)
  ·
   have p50 := of_decide_eq_true hc49
   refine wp_skip ?_
   refine k47 _ _ (wp_seq_k fun _ k51 => ?_)
   refine wp_block ?_
   refine wp_seq_k fun _ k52 => wp_region_lit ?_
   refine L (r_mv Z rfl) Z rfl ?_; clear Z az; intro az Z
   refine L (r_mv Z rfl) Z rfl ?_; clear Z az; intro az Z
   refine L (r_mv Z rfl) Z rfl ?_; clear Z az; intro az Z
   have hk53 : i < (Lb).length := by omega
   have O59 : Only NoF w w44 := (Only.trans' (Only.trans' O35 o39) o45)
   have h60 := (SliceOf.kp t2.1 O59 (fun _ _ h => h) (fun _ _ _ _ h => h))
   obtain ⟨m54, hm55, ok56, hA57⟩ := Row.el KN0 h60 hk53
   have E58 : ∀ W, Only NoF w44 W → CA W (eA A2 5 (i)) [.int .i64 (m54.h), .int .i64 (m54.n), .int .i64 (m54.d), .slice m54.A (m54.l.length) m54.c, strV (m54.s)] := Row.ce KN0 h60 hm55 rfl
   refine L (r_ia (k := i) (size := 5) Tryd.underlying22 Tryd.sizeOf42 Z rfl rfl rfl hk53 hA57) Z rfl ?_; clear Z az; intro az Z
   refine L (r_fa (m' := 0) Tryd.underlying42 rfl Tryd.sizeOf3 rfl Z rfl rfl) Z rfl ?_; clear Z az; intro az Z
   refine L (r_ld Tryd.isAgg3 Z rfl ((E58 _ (Only.refl NoF w44)) 0 _ rfl)) Z rfl ?_; clear Z az; intro az Z
   have h61 := Row.own KInt r38 (forks_ok _)
   have h62 := (SliceOf.kp h61 o45 (fun _ _ h => h) (fun _ _ _ _ h => h))
   have h63 := SliceOf.pl h62
   refine LCV (v := .bool (hasI (forksN (joinN (La ++ Lb))) m54.h)) Z rfl rfl Tryd.call27 (hasI_v_ h63 m54.h) rfl fun w64 o65 => ?_; clear Z az; intro az Z
   refine k52 _ _ ?_
   refine br Z rfl (fun hc66 => ?_) (fun hc66 => ?_)
   ·
    have q67 : hasI (forksN (joinN (La ++ Lb))) m54.h = true := hc66
    refine wp_seq_k fun _ k68 => wp_region_lit ?_
    refine L (r_mv Z rfl) Z rfl ?_; clear Z az; intro az Z
    refine L (r_as Z rfl) Z rfl ?_; clear Z az; intro az Z
    refine k68 _ _ ?_
    refine wp_ret ?_
    show bodyPost _ _ _ .ret _ _
    refine ret_of (vs := [.bool (true)]) Z Tryd.results5 ⟨rfl, trivial⟩ ?_
    have O69 : Only NoF w w64 := (Only.trans' O59 o65)
    exact ⟨rfl, O69⟩
   ·
    have q70 : hasI (forksN (joinN (La ++ Lb))) m54.h = false := hc66
    refine wp_skip ?_
    refine k51 _ _ ?_
    refine wp_region_lit ?_
    refine L (r_mv Z rfl) Z rfl ?_; clear Z az; intro az Z
    have i71 : I64 (((i : Int) + 1)) := by unfold I64; omega
    refine L (r_addI (r := ((i : Int) + 1)) Z rfl rfl rfl i71) Z rfl ?_; clear Z az; intro az Z
    refine L (r_as Z rfl) Z rfl ?_; clear Z az; intro az Z
    have O72 : Only NoF w41 w64 := (Only.trans' o45 o65)
    exact ⟨_, (by omega), i + 1, rfl, Z.cut ⟨rfl, rfl, rfl, rfl, rfl, rfl, trivial⟩, (by omega), (tk_step hF hm55 hc66), O72⟩
  ·
   have p73 := of_decide_eq_false hc49
   refine wp_exit ?_
   refine th_exit ?_
   refine th_exit ?_
   refine ib_hit ?_
   refine k42 _ _ (wp_seq_k fun _ k74 => wp_region_lit ?_)
   refine L (r_mv Z rfl) Z rfl ?_; clear Z az; intro az Z
   have O76 : Only NoF w w44 := (Only.trans' (Only.trans' O35 o39) o45)
   have G75 := Gr.k hG O76
   have hC84 := Order_v_ G75 (NtV.k t1 O76) (by first | omega | (simp only [List.length_cons, List.length_nil]; omega))
   refine LC Z rfl rfl Tryd.call17 (hC84) rfl ?_
   rintro e w85 ⟨A77, c78, L79, rfl, hL80, hS81, hN82, o83⟩; refine ⟨_, rfl, ?_⟩
   clear Z az; intro az Z
   have nt86 : NtV w85 (.slice A77 (L79.length) c78) L79 := ⟨SliceOf.pl hS81, OkNs.pl hN82⟩
   have hm87 : L79.length ≤ 1000000 := (ord_lim hL80 (by first | omega | (simp only [List.length_cons, List.length_nil]; omega)))
   refine L (r_as Z rfl) Z rfl ?_; clear Z az; intro az Z
   refine k74 _ _ (wp_seq_k fun _ k88 => wp_region_lit ?_)
   refine L (r_mv Z rfl) Z rfl ?_; clear Z az; intro az Z
   have O90 : Only NoF w w85 := (Only.trans' O76 o83)
   have G89 := Gr.k hG O90
   have O91 : Only NoF w30 w85 := (Only.trans' (Only.trans' o39 o45) o83)
   have hC99 := (by have h0 := Order_v_ G89 (NtV.k nt31 O91) hm32; rw [(join_ns hL25)] at h0; exact h0)
   refine LC Z rfl rfl Tryd.call17 (hC99) rfl ?_
   rintro e w100 ⟨A92, c93, L94, rfl, hL95, hS96, hN97, o98⟩; refine ⟨_, rfl, ?_⟩
   clear Z az; intro az Z
   have nt101 : NtV w100 (.slice A92 (L94.length) c93) L94 := ⟨SliceOf.pl hS96, OkNs.pl hN97⟩
   have hm102 : L94.length ≤ 1000000 := (ord_lim hL95 (by first | omega | (simp only [List.length_append, List.length_cons, List.length_nil]; omega)))
   refine L (r_as Z rfl) Z rfl ?_; clear Z az; intro az Z
   refine k88 _ _ (wp_seq_k fun _ k103 => ?_)
   refine wp_seq_k fun _ k104 => wp_region_lit ?_
   refine L (r_as Z rfl) Z rfl ?_; clear Z az; intro az Z
   refine k104 _ _ ?_
   refine wp_block ?_
   have hgr := grows_ok (l := La) (more := Lb) (fun x hx => hasI_no (tk_all hF (by omega) x hx)) hL80 hL95
   refine wp_loop_m (fun mz az W => ∃ j : Nat, mz = L79.length - j ∧ Fr 91 [(0, .slice A1 (La.length) c1), (5, .bool (true)), (6, .slice A22 (L24.length) c23), (7, .slice A36 ((forksN (joinN (La ++ Lb))).length) c37), (9, .slice A77 (L79.length) c78), (10, .slice A92 (L94.length) c93), (11, .int .i64 ((j : Int)))] az ∧ (j ≤ L79.length) ∧ Only NoF w100 W) ?_ ?_
   ·
    exact ⟨_, 0, rfl, Z.cut ⟨rfl, rfl, rfl, rfl, rfl, rfl, rfl, trivial⟩, Nat.zero_le _, (Only.refl NoF w100)⟩
   clear Z az
   rintro mz az w105 ⟨j, hm107, Z, hj, o106⟩
   refine wp_seq_k fun _ k108 => ?_
   refine wp_seq_k fun _ k109 => wp_region_lit ?_
   refine L (r_mv Z rfl) Z rfl ?_; clear Z az; intro az Z
   refine L (r_mv Z rfl) Z rfl ?_; clear Z az; intro az Z
   refine L (r_lenL Tryd.underlying22 Z rfl) Z rfl ?_; clear Z az; intro az Z
   refine L (r_ltI Z rfl rfl) Z rfl ?_; clear Z az; intro az Z
   refine k109 _ _ ?_
   refine br Z rfl (fun hc110 => ?_) (fun hc110 => ?_)
   ·
    have p111 := of_decide_eq_true hc110
    refine wp_skip ?_
    refine k108 _ _ (wp_seq_k fun _ k112 => ?_)
    refine wp_block ?_
    refine wp_seq_k fun _ k113 => wp_region_lit ?_
    refine L (r_mv Z rfl) Z rfl ?_; clear Z az; intro az Z
    refine L (r_mv Z rfl) Z rfl ?_; clear Z az; intro az Z
    refine L (r_mv Z rfl) Z rfl ?_; clear Z az; intro az Z
    have hk114 : j < (L79).length := by omega
    have O120 : Only NoF w85 w105 := (Only.trans' o98 o106)
    have h121 := (SliceOf.kp nt86.1 O120 (fun _ _ h => h) (fun _ _ _ _ h => h))
    obtain ⟨m115, hm116, ok117, hA118⟩ := Row.el KN0 h121 hk114
    have E119 : ∀ W, Only NoF w105 W → CA W (eA A77 5 (j)) [.int .i64 (m115.h), .int .i64 (m115.n), .int .i64 (m115.d), .slice m115.A (m115.l.length) m115.c, strV (m115.s)] := Row.ce KN0 h121 hm116 rfl
    refine L (r_ia (k := j) (size := 5) Tryd.underlying22 Tryd.sizeOf42 Z rfl rfl rfl hk114 hA118) Z rfl ?_; clear Z az; intro az Z
    refine L (r_ldA Tryd.isAgg42 Tryd.sizeOf42 Z rfl (E119 _ (Only.refl NoF w105)) rfl) Z rfl ?_; clear Z az; intro az Z
    have h122 := (SliceOf.kp (nt86.2 _ (List.mem_of_getElem? hm116)).2.2.2.1 O120 (fun _ _ h => h) (fun _ _ _ _ h => h))
    refine LCV (v := .bool (true)) Z rfl rfl Tryd.call23 (fix_eq (congrArg Value.bool (hgr.1 _ (List.mem_of_getElem? hm116))) (has39_v_ (NtV.k nt101 o106) (x := m115) (okN.k (nt86.2 _ (List.mem_of_getElem? hm116)) O120))) rfl fun w123 o124 => ?_; clear Z az; intro az Z
    refine L (r_not Z rfl) Z rfl ?_; clear Z az; intro az Z
    refine k113 _ _ ?_
    refine br_false Z rfl ?_
    refine wp_skip ?_
    refine k112 _ _ ?_
    refine wp_region_lit ?_
    refine L (r_mv Z rfl) Z rfl ?_; clear Z az; intro az Z
    have i125 : I64 (((j : Int) + 1)) := by unfold I64; omega
    refine L (r_addI (r := ((j : Int) + 1)) Z rfl rfl rfl i125) Z rfl ?_; clear Z az; intro az Z
    refine L (r_as Z rfl) Z rfl ?_; clear Z az; intro az Z
    have O126 : Only NoF w100 w123 := (Only.trans' o106 o124)
    exact ⟨_, (by omega), j + 1, rfl, Z.cut ⟨rfl, rfl, rfl, rfl, rfl, rfl, rfl, trivial⟩, (by omega), O126⟩
   ·
    have p127 := of_decide_eq_false hc110
    refine wp_exit ?_
    refine th_exit ?_
    refine th_exit ?_
    refine ib_hit ?_
    refine k103 _ _ (wp_seq_k fun _ k128 => wp_region_lit ?_)
    refine L (r_mv Z rfl) Z rfl ?_; clear Z az; intro az Z
    have O130 : Only NoF w w105 := (Only.trans' (Only.trans' O90 o98) o106)
    have G129 := Gr.k hG O130
    have hC136 := Heads_v_ G129 (NtV.k t1 O130) (by first | omega | (simp only [List.length_cons, List.length_nil]; omega))
    refine LC Z rfl rfl Tryd.call19 (hC136) rfl ?_
    rintro e w137 ⟨A131, c132, rfl, r133, ok135, o134⟩; refine ⟨_, rfl, ?_⟩
    clear Z az; intro az Z
    have hb138 : (headsN (joinN La)).length ≤ 1000000 := heads_bnd (by first | omega | (simp only [List.length_cons, List.length_nil]; omega))
    refine L (r_as Z rfl) Z rfl ?_; clear Z az; intro az Z
    refine k128 _ _ (wp_seq_k fun _ k139 => wp_region_lit ?_)
    refine L (r_mv Z rfl) Z rfl ?_; clear Z az; intro az Z
    have O141 : Only NoF w w137 := (Only.trans' O130 o134)
    have G140 := Gr.k hG O141
    have O142 : Only NoF w30 w137 := (Only.trans' (Only.trans' (Only.trans' O91 o98) o106) o134)
    have hC148 := (by have h0 := Heads_v_ G140 (NtV.k nt31 O142) hm32; rw [(join_ns hL25)] at h0; exact h0)
    refine LC Z rfl rfl Tryd.call19 (hC148) rfl ?_
    rintro e w149 ⟨A143, c144, rfl, r145, ok147, o146⟩; refine ⟨_, rfl, ?_⟩
    clear Z az; intro az Z
    have hb150 : (headsN (joinN (La ++ Lb))).length ≤ 1000000 := heads_bnd (by first | omega | (simp only [List.length_append, List.length_cons, List.length_nil]; omega))
    refine L (r_as Z rfl) Z rfl ?_; clear Z az; intro az Z
    refine k139 _ _ (wp_seq_k fun _ k151 => ?_)
    refine wp_seq_k fun _ k152 => wp_region_lit ?_
    refine L (r_as Z rfl) Z rfl ?_; clear Z az; intro az Z
    refine k152 _ _ ?_
    refine wp_block ?_
    refine wp_loop_m (fun mz az W => ∃ k : Nat, mz = (headsN (joinN La)).length - k ∧ Fr 91 [(0, .slice A1 (La.length) c1), (5, .bool (true)), (7, .slice A36 ((forksN (joinN (La ++ Lb))).length) c37), (12, .slice A131 ((headsN (joinN La)).length) c132), (13, .slice A143 ((headsN (joinN (La ++ Lb))).length) c144), (14, .int .i64 ((k : Int)))] az ∧ (k ≤ (headsN (joinN La)).length) ∧ Only NoF w149 W) ?_ ?_
    ·
     exact ⟨_, 0, rfl, Z.cut ⟨rfl, rfl, rfl, rfl, rfl, rfl, trivial⟩, Nat.zero_le _, (Only.refl NoF w149)⟩
    clear Z az
    rintro mz az w153 ⟨k, hm155, Z, hk, o154⟩
    refine wp_seq_k fun _ k156 => ?_
    refine wp_seq_k fun _ k157 => wp_region_lit ?_
    refine L (r_mv Z rfl) Z rfl ?_; clear Z az; intro az Z
    refine L (r_mv Z rfl) Z rfl ?_; clear Z az; intro az Z
    refine L (r_lenL Tryd.underlying36 Z rfl) Z rfl ?_; clear Z az; intro az Z
    refine L (r_ltI Z rfl rfl) Z rfl ?_; clear Z az; intro az Z
    refine k157 _ _ ?_
    refine br Z rfl (fun hc158 => ?_) (fun hc158 => ?_)
    ·
     have p159 := of_decide_eq_true hc158
     refine wp_skip ?_
     refine k156 _ _ (wp_seq_k fun _ k160 => ?_)
     refine wp_block ?_
     refine wp_seq_k fun _ k161 => ?_
     refine reg_p NoF 1 [11] (.rd 0 (.rd 1 (.rd 2 (.rd 3 (.rd 4 (.rd 5 (.rd 6 (.rd 7 (.rd 8 (.rd 9 (.rd 10 (.ex 11 (.rd 12 .nil))))))))))))) (by kernel_rfl) (by kernel_rfl) (fun _ _ _ _ _ h => h) fun w162 o163 => ?_
     refine Pl.MSP (b := true) (by kernel_rfl) (fun W oW => r_mv Z rfl) Z rfl rfl ?_; clear Z az; intro az Z
     refine Pl.MSP (b := true) (by kernel_rfl) (fun W oW => r_mv Z rfl) Z rfl rfl ?_; clear Z az; intro az Z
     have h164 := Row.own KRef r133 ok135
     have hk165 : k < ((headsN (joinN La))).length := by omega
     have O171 : Only NoF w137 w162 := (Only.trans' (Only.trans' o146 o154) o163)
     have h172 := (SliceOf.kp h164 O171 (fun _ _ h => h) (fun _ _ _ _ h => h))
     obtain ⟨m166, hm167, ok168, hA169⟩ := Row.el KRef h172 hk165
     have E170 : ∀ W, Only NoF w162 W → CA W (eA A131 2 (k)) [.int .i64 (m166.h), .int .i64 (m166.n)] := Row.ce KRef h172 hm167 rfl
     refine Pl.MSP (b := true) (by kernel_rfl) (fun W oW => r_ia (k := k) (size := 2) Tryd.underlying36 Tryd.sizeOf40 Z rfl rfl rfl hk165 hA169) Z rfl rfl ?_; clear Z az; intro az Z
     refine Pl.MSP (b := true) (by kernel_rfl) (fun W oW => r_fa (m' := 1) Tryd.underlying40 rfl Tryd.sizeOf3 rfl Z rfl rfl) Z rfl rfl ?_; clear Z az; intro az Z
     refine Pl.MSP (b := true) (by kernel_rfl) (fun W oW => r_ld Tryd.isAgg3 Z rfl ((E170 _ (Only.trans' (Only.refl NoF w162) oW)) 1 _ rfl)) Z rfl rfl ?_; clear Z az; intro az Z
     refine Pl.MSP (b := true) (by kernel_rfl) (fun W oW => r_mv Z rfl) Z rfl rfl ?_; clear Z az; intro az Z
     refine Pl.MSP (b := true) (by kernel_rfl) (fun W oW => r_mv Z rfl) Z rfl rfl ?_; clear Z az; intro az Z
     refine Pl.MSP (b := true) (by kernel_rfl) (fun W oW => r_mv Z rfl) Z rfl rfl ?_; clear Z az; intro az Z
     refine Pl.MSP (b := true) (by kernel_rfl) (fun W oW => r_ia (k := k) (size := 2) Tryd.underlying36 Tryd.sizeOf40 Z rfl rfl rfl hk165 hA169) Z rfl rfl ?_; clear Z az; intro az Z
     refine Pl.MSP (b := true) (by kernel_rfl) (fun W oW => r_fa (m' := 0) Tryd.underlying40 rfl Tryd.sizeOf3 rfl Z rfl rfl) Z rfl rfl ?_; clear Z az; intro az Z
     refine Pl.MSP (b := true) (by kernel_rfl) (fun W oW => r_ld Tryd.isAgg3 Z rfl ((E170 _ (Only.trans' (Only.refl NoF w162) oW)) 0 _ rfl)) Z rfl rfl ?_; clear Z az; intro az Z
     have h173 := Row.own KRef r145 ok147
     have O174 : Only NoF w149 w162 := (Only.trans' o154 o163)
     have h175 := (SliceOf.kp h173 O174 (fun _ _ h => h) (fun _ _ _ _ h => h))
     have h176 := SliceOf.pl h175
     refine Pl.MSV (v := .int .i64 (cntH (headsN (joinN (La ++ Lb))) m166.h)) Z rfl rfl rfl Tryd.call25 (cntH_v_ h176 m166.h) rfl (fun w' o' => ⟨fun _ => o', (Only.trans (Only.refl NoF w162) o' (fun _ h => h.elim))⟩) fun w177 o178 => ?_; clear Z az; intro az Z
     refine Pl.MSP (b := true) (by kernel_rfl) (fun W oW => (r_cast (r_gtI Z rfl rfl) (decide_eq_false (Int.not_lt.2 (hgr.2.1 _ (List.mem_of_getElem? hm167)))))) Z rfl rfl ?_; clear Z az; intro az Z
     refine wpPl_nil ?_
     refine k161 _ _ ?_
     refine br_false Z rfl ?_
     refine wp_skip ?_
     refine k160 _ _ ?_
     refine wp_region_lit ?_
     refine L (r_mv Z rfl) Z rfl ?_; clear Z az; intro az Z
     have i179 : I64 (((k : Int) + 1)) := by unfold I64; omega
     refine L (r_addI (r := ((k : Int) + 1)) Z rfl rfl rfl i179) Z rfl ?_; clear Z az; intro az Z
     refine L (r_as Z rfl) Z rfl ?_; clear Z az; intro az Z
     have O180 : Only NoF w149 w177 := (Only.trans' O174 o178)
     exact ⟨_, (by omega), k + 1, rfl, Z.cut ⟨rfl, rfl, rfl, rfl, rfl, rfl, trivial⟩, (by omega), O180⟩
    ·
     have p181 := of_decide_eq_false hc158
     refine wp_exit ?_
     refine th_exit ?_
     refine th_exit ?_
     refine ib_hit ?_
     refine k151 _ _ (wp_seq_k fun _ k182 => wp_region_lit ?_)
     refine L (r_mv Z rfl) Z rfl ?_; clear Z az; intro az Z
     refine L (r_mv Z rfl) Z rfl ?_; clear Z az; intro az Z
     refine LT Z rfl rfl (r_mv Z rfl) rfl ?_; clear Z az; intro az Z
     have O184 : Only NoF w w153 := (Only.trans' (Only.trans' O141 o146) o154)
     have G183 := Gr.k hG O184
     have hC189 := Forks_v_ G183 (NtV.k t1 O184) (by first | omega | (simp only [List.length_cons, List.length_nil]; omega))
     refine LCT Z rfl rfl rfl rfl Tryd.call15 (hC189) rfl ?_
     rintro e w190 ⟨A185, c186, rfl, r187, o188⟩; refine ⟨_, rfl, ?_⟩
     clear Z az; intro az Z
     refine LT Z rfl rfl (r_mv Z rfl) rfl ?_; clear Z az; intro az Z
     have h191 := Row.own KInt r187 (forks_ok _)
     have h192 := SliceOf.pl h191
     have h193 := Row.own KInt r38 (forks_ok _)
     have O194 : Only NoF w41 w190 := (Only.trans' (Only.trans' (Only.trans' (Only.trans' (Only.trans' (Only.trans' (Only.trans' o45 o83) o98) o106) o134) o146) o154) o188)
     have h195 := (SliceOf.kp h193 O194 (fun _ _ h => h) (fun _ _ _ _ h => h))
     have h196 := SliceOf.pl h195
     refine LGV (v := .bool (true)) Z rfl rfl gd_t rfl (fun hb => rfl) Tryd.call14 (fun hb => fix_eq (congrArg Value.bool (decide_eq_true hgr.2.2)) (sameI_v_ h192 h196)) rfl fun w197 o198 => ?_; clear Z az; intro az Z
     refine L (r_pick Z rfl rfl rfl) Z rfl ?_; clear Z az; intro az Z
     refine L (r_as Z rfl) Z rfl ?_; clear Z az; intro az Z
     refine k182 _ _ ?_
     refine wp_ret ?_
     show bodyPost _ _ _ .ret _ _
     refine ret_of (vs := [.bool (true)]) Z Tryd.results5 ⟨rfl, trivial⟩ ?_
     have O199 : Only NoF w w197 := (Only.trans' (Only.trans' O184 o188) o198)
     exact ⟨rfl, O199⟩
theorem grows39_v {w : World} (hG : Gr w) {v1 v2 : Value} {La Lb : List NM} (f1 : NotesV w w v1 La) (f2 : NotesV w w v2 Lb) : Calls Tryd.prog 5 #[v1, v2] w (Fix (.bool true) w) := by
 obtain ⟨A1, c1, rfl, _⟩ := SliceOf.shape f1
 obtain ⟨A2, c2, rfl, _⟩ := SliceOf.shape f2
 exact grows39_ hG (NtV.of f1) (NtV.of f2)
end Go.Proofs.YtdcbjedkddgfkaaDoor
