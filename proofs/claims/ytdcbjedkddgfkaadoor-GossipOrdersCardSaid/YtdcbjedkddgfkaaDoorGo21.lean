/-
  Gossip: GossipOrders, walked: it returns true. Condition: the listed variables.
-/
import Derived.Test.YtdcbjedkddgfkaaDoorGoL
namespace Go.Proofs.YtdcbjedkddgfkaaDoor
set_option linter.unusedVariables false
set_option linter.unusedSimpArgs false
set_option linter.unusedSectionVars false
open Go.RowKit
section
variable {N : List RM} {i : Nat} {m : RM} {z : Int} {La O : List NM}
theorem sum_step (hm : N[i]? = some m) (hz : z = ((List.take i N).map (·.n)).sum) : z + m.n = ((List.take (i + 1) N).map (·.n)).sum := by
 rw [take_succ_get hm, List.map_append, List.sum_append, ← hz]
 simp
theorem ord_sum (hz : z = ((List.take i (headsN (joinN La))).map (·.n)).sum) (hi : (headsN (joinN La)).length ≤ i) (hO : O.map ns = orderN (joinN La)) : z = ((O.length : Nat) : Int) := by
 rw [List.take_of_length_le hi, heads_sum (join_up La), ← hO, List.length_map] at hz
 exact hz
end
set_option maxRecDepth 20000 in
set_option maxHeartbeats 4000000 in
theorem orders39_ {w : World} (hG : Gr w) {La : List NM} {A1 : Option Addr} {c1 : Nat} (t1 : NtV w (.slice A1 La.length c1) La) : Calls Tryd.prog 4 [.slice A1 (La.length) c1].toArray w (Fix (.bool true) w) := by
 refine calls_start Tryd.func4 rfl rfl ?_
 intro az Z
 rw [Tryd.ntmps4] at Z
 refine wp_seq_k fun _ k1 => wp_region_lit ?_
 refine L (r_as Z rfl) Z rfl ?_; clear Z az; intro az Z
 refine k1 _ _ (wp_seq_k fun _ k2 => wp_region_lit ?_)
 have G3 := Gr.k hG (Only.refl NoF w)
 refine LCV (v := .bool (true)) Z rfl rfl Tryd.call9 (small39_v G3) rfl fun w4 o5 => ?_; clear Z az; intro az Z
 refine L (r_as Z rfl) Z rfl ?_; clear Z az; intro az Z
 refine k2 _ _ (wp_seq_k fun _ k6 => ?_)
 refine wp_seq_k fun _ k7 => wp_region_lit ?_
 refine L (r_mv Z rfl) Z rfl ?_; clear Z az; intro az Z
 refine LCV (v := .bool (few39 La 40)) Z rfl rfl Tryd.call10 (few39_v_ (NtV.k t1 o5) 40) rfl fun w8 o9 => ?_; clear Z az; intro az Z
 refine L (r_not Z rfl) Z rfl ?_; clear Z az; intro az Z
 refine k7 _ _ ?_
 refine br Z rfl (fun hc10 => ?_) (fun hc10 => ?_)
 ·
  have q11 : few39 La 40 = false := (nt_t hc10)
  refine wp_seq_k fun _ k12 => wp_region_lit ?_
  refine L (r_mv Z rfl) Z rfl ?_; clear Z az; intro az Z
  refine L (r_as Z rfl) Z rfl ?_; clear Z az; intro az Z
  refine k12 _ _ ?_
  refine wp_ret ?_
  show bodyPost _ _ _ .ret _ _
  refine ret_of (vs := [.bool (true)]) Z Tryd.results4 ⟨rfl, trivial⟩ ?_
  have O13 : Only NoF w w8 := (Only.trans' o5 o9)
  exact ⟨rfl, O13⟩
 ·
  have q14 : few39 La 40 = true := (nt_f hc10)
  have hlLa := few_le q14
  refine wp_skip ?_
  refine k6 _ _ (wp_seq_k fun _ k15 => wp_region_lit ?_)
  refine L (r_mv Z rfl) Z rfl ?_; clear Z az; intro az Z
  have O17 : Only NoF w w8 := (Only.trans' o5 o9)
  have G16 := Gr.k hG O17
  have hC25 := Order_v_ G16 (NtV.k t1 O17) (by first | omega | (simp only [List.length_cons, List.length_nil]; omega))
  refine LC Z rfl rfl Tryd.call17 (hC25) rfl ?_
  rintro e w26 ⟨A18, c19, L20, rfl, hL21, hS22, hN23, o24⟩; refine ⟨_, rfl, ?_⟩
  clear Z az; intro az Z
  have nt27 : NtV w26 (.slice A18 (L20.length) c19) L20 := ⟨SliceOf.pl hS22, OkNs.pl hN23⟩
  have hm28 : L20.length ≤ 1000000 := (ord_lim hL21 (by first | omega | (simp only [List.length_cons, List.length_nil]; omega)))
  refine L (r_as Z rfl) Z rfl ?_; clear Z az; intro az Z
  refine k15 _ _ (wp_seq_k fun _ k29 => wp_region_lit ?_)
  refine L (r_mv Z rfl) Z rfl ?_; clear Z az; intro az Z
  have O31 : Only NoF w w26 := (Only.trans' O17 o24)
  have G30 := Gr.k hG O31
  have hC37 := Heads_v_ G30 (NtV.k t1 O31) (by first | omega | (simp only [List.length_cons, List.length_nil]; omega))
  refine LC Z rfl rfl Tryd.call19 (hC37) rfl ?_
  rintro e w38 ⟨A32, c33, rfl, r34, ok36, o35⟩; refine ⟨_, rfl, ?_⟩
  clear Z az; intro az Z
  have hb39 : (headsN (joinN La)).length ≤ 1000000 := heads_bnd (by first | omega | (simp only [List.length_cons, List.length_nil]; omega))
  refine L (r_as Z rfl) Z rfl ?_; clear Z az; intro az Z
  refine k29 _ _ (wp_seq_k fun _ k40 => wp_region_lit ?_)
  refine L (r_mv Z rfl) Z rfl ?_; clear Z az; intro az Z
  have O42 : Only NoF w w38 := (Only.trans' O31 o35)
  have G41 := Gr.k hG O42
  have hC47 := Forks_v_ G41 (NtV.k t1 O42) (by first | omega | (simp only [List.length_cons, List.length_nil]; omega))
  refine LC Z rfl rfl Tryd.call15 (hC47) rfl ?_
  rintro e w48 ⟨A43, c44, rfl, r45, o46⟩; refine ⟨_, rfl, ?_⟩
  clear Z az; intro az Z
  refine L (r_as Z rfl) Z rfl ?_; clear Z az; intro az Z
  refine k40 _ _ (wp_seq_k fun _ k49 => ?_)
  refine wp_seq_k fun _ k50 => wp_region_lit ?_
  refine L (r_mv Z rfl) Z rfl ?_; clear Z az; intro az Z
  refine L (r_lenL Tryd.underlying22 Z rfl) Z rfl ?_; clear Z az; intro az Z
  refine L (r_mv Z rfl) Z rfl ?_; clear Z az; intro az Z
  refine L (r_lenL Tryd.underlying22 Z rfl) Z rfl ?_; clear Z az; intro az Z
  refine L ((r_cast (b := false) (r_gtI Z rfl rfl) (decide_eq_false (by have := ord_len hL21; omega)))) Z rfl ?_; clear Z az; intro az Z
  refine k50 _ _ ?_
  refine br_false Z rfl ?_
  refine wp_skip ?_
  refine k49 _ _ (wp_seq_k fun _ k51 => wp_region_lit ?_)
  refine L (r_as Z rfl) Z rfl ?_; clear Z az; intro az Z
  refine k51 _ _ (wp_seq_k fun _ k52 => ?_)
  refine wp_seq_k fun _ k53 => wp_region_lit ?_
  refine L (r_as Z rfl) Z rfl ?_; clear Z az; intro az Z
  refine k53 _ _ ?_
  refine wp_block ?_
  have hbn := heads_pos (l := La) (by omega)
  refine wp_loop_m (fun mz az W => ∃ i : Nat, ∃ z : Int, mz = (headsN (joinN La)).length - i ∧ Fr 232 [(0, .slice A1 (La.length) c1), (3, .bool (true)), (4, .slice A18 (L20.length) c19), (5, .slice A32 ((headsN (joinN La)).length) c33), (6, .slice A43 ((forksN (joinN La)).length) c44), (8, .int .i64 ((i : Int))), (7, .int .i64 (z))] az ∧ (i ≤ (headsN (joinN La)).length) ∧ (z = ((List.take i (headsN (joinN La))).map (·.n)).sum) ∧ (0 ≤ z ∧ z ≤ 1000000 * (i : Int)) ∧ Only NoF w48 W) ?_ ?_
  ·
   exact ⟨_, 0, 0, rfl, Z.cut ⟨rfl, rfl, rfl, rfl, rfl, rfl, rfl, trivial⟩, Nat.zero_le _, rfl, (by omega), (Only.refl NoF w48)⟩
  clear Z az
  rintro mz az w54 ⟨i, z, hm56, Z, hi, hz, hzb, o55⟩
  refine wp_seq_k fun _ k57 => ?_
  refine wp_seq_k fun _ k58 => wp_region_lit ?_
  refine L (r_mv Z rfl) Z rfl ?_; clear Z az; intro az Z
  refine L (r_mv Z rfl) Z rfl ?_; clear Z az; intro az Z
  refine L (r_lenL Tryd.underlying36 Z rfl) Z rfl ?_; clear Z az; intro az Z
  refine L (r_ltI Z rfl rfl) Z rfl ?_; clear Z az; intro az Z
  refine k58 _ _ ?_
  refine br Z rfl (fun hc59 => ?_) (fun hc59 => ?_)
  ·
   have p60 := of_decide_eq_true hc59
   refine wp_skip ?_
   refine k57 _ _ (wp_seq_k fun _ k61 => ?_)
   refine wp_block ?_
   refine wp_seq_k fun _ k62 => wp_region_lit ?_
   refine L (r_mv Z rfl) Z rfl ?_; clear Z az; intro az Z
   refine L (r_mv Z rfl) Z rfl ?_; clear Z az; intro az Z
   refine L (r_mv Z rfl) Z rfl ?_; clear Z az; intro az Z
   have h63 := Row.own KRef r34 ok36
   have hk64 : i < ((headsN (joinN La))).length := by omega
   have O70 : Only NoF w38 w54 := (Only.trans' o46 o55)
   have h71 := (SliceOf.kp h63 O70 (fun _ _ h => h) (fun _ _ _ _ h => h))
   obtain ⟨m65, hm66, ok67, hA68⟩ := Row.el KRef h71 hk64
   have E69 : ∀ W, Only NoF w54 W → CA W (eA A32 2 (i)) [.int .i64 (m65.h), .int .i64 (m65.n)] := Row.ce KRef h71 hm66 rfl
   have hb72 := hbn _ (List.mem_of_getElem? hm66)
   refine L (r_ia (k := i) (size := 2) Tryd.underlying36 Tryd.sizeOf40 Z rfl rfl rfl hk64 hA68) Z rfl ?_; clear Z az; intro az Z
   refine L (r_fa (m' := 1) Tryd.underlying40 rfl Tryd.sizeOf3 rfl Z rfl rfl) Z rfl ?_; clear Z az; intro az Z
   refine L (r_ld Tryd.isAgg3 Z rfl ((E69 _ (Only.refl NoF w54)) 1 _ rfl)) Z rfl ?_; clear Z az; intro az Z
   have i73 : I64 ((z + m65.n)) := by unfold I64; omega
   refine L (r_addI (r := (z + m65.n)) Z rfl rfl rfl i73) Z rfl ?_; clear Z az; intro az Z
   refine L (r_as Z rfl) Z rfl ?_; clear Z az; intro az Z
   refine k62 _ _ (wp_seq_k fun _ k74 => ?_)
   rcases Nat.eq_zero_or_pos i with hi0 | hi0
   · skip
     refine reg_q [(true, 0), (true, 1), (true, 2), (true, 3), (true, 4), (true, 5), (true, 6), (true, 7), (true, 8), (true, 9), (true, 10), (true, 11), (true, 12), (true, 13), (true, 14), (true, 15), (true, 16), (true, 17), (true, 18), (true, 19), (true, 20), (true, 21), (true, 22), (true, 23), (true, 24)] (by kernel_rfl) (by kernel_rfl) (fun _ _ _ _ _ h => h) fun w75 o76 => ?_
     refine M (r_mv Z rfl) Z rfl rfl ?_; clear Z az; intro az Z
     refine M (r_mv Z rfl) Z rfl rfl ?_; clear Z az; intro az Z
     refine M (r_ia (k := i) (size := 2) Tryd.underlying36 Tryd.sizeOf40 Z rfl rfl rfl hk64 hA68) Z rfl rfl ?_; clear Z az; intro az Z
     refine M (r_fa (m' := 1) Tryd.underlying40 rfl Tryd.sizeOf3 rfl Z rfl rfl) Z rfl rfl ?_; clear Z az; intro az Z
     refine M (r_ld Tryd.isAgg3 Z rfl ((E69 _ o76) 1 _ rfl)) Z rfl rfl ?_; clear Z az; intro az Z
     refine M ((r_cast (b := false) (r_ltI Z rfl rfl) (decide_eq_false (by omega)))) Z rfl rfl ?_; clear Z az; intro az Z
     refine M (r_mv Z rfl) Z rfl rfl ?_; clear Z az; intro az Z
     refine MT Z rfl rfl (r_mv Z rfl) rfl rfl ?_; clear Z az; intro az Z
     refine MT Z rfl rfl ((r_cast (b := false) (r_gtI Z rfl rfl) (decide_eq_false (by omega)))) rfl rfl ?_; clear Z az; intro az Z
     refine MT Z rfl rfl (r_mv Z rfl) rfl rfl ?_; clear Z az; intro az Z
     refine MF Z rfl rfl (by exact rfl) rfl rfl ?_; clear Z az; intro az Z
     refine MF Z rfl rfl (by exact rfl) rfl rfl ?_; clear Z az; intro az Z
     refine MF Z rfl rfl (by exact rfl) rfl rfl ?_; clear Z az; intro az Z
     refine MF Z rfl rfl (by exact rfl) rfl rfl ?_; clear Z az; intro az Z
     refine MF Z rfl rfl (by exact rfl) rfl rfl ?_; clear Z az; intro az Z
     refine MF Z rfl rfl (by exact rfl) rfl rfl ?_; clear Z az; intro az Z
     refine MF Z rfl rfl (by exact rfl) rfl rfl ?_; clear Z az; intro az Z
     refine MF Z rfl rfl (by exact rfl) rfl rfl ?_; clear Z az; intro az Z
     refine MF Z rfl rfl (by exact rfl) rfl rfl ?_; clear Z az; intro az Z
     refine MF Z rfl rfl (by exact rfl) rfl rfl ?_; clear Z az; intro az Z
     refine MF Z rfl rfl (by exact rfl) rfl rfl ?_; clear Z az; intro az Z
     refine MF Z rfl rfl (by exact rfl) rfl rfl ?_; clear Z az; intro az Z
     refine MF Z rfl rfl (by exact rfl) rfl rfl ?_; clear Z az; intro az Z
     refine MT Z rfl rfl (r_pick Z rfl rfl rfl) rfl rfl ?_; clear Z az; intro az Z
     refine M (r_pick Z rfl rfl rfl) Z rfl rfl ?_; clear Z az; intro az Z
     refine wpMix_nil ?_
     refine k74 _ _ ?_
     refine br_false Z rfl ?_
     refine wp_skip ?_
     refine k61 _ _ ?_
     refine wp_region_lit ?_
     refine L (r_mv Z rfl) Z rfl ?_; clear Z az; intro az Z
     have i77 : I64 (((i : Int) + 1)) := by unfold I64; omega
     refine L (r_addI (r := ((i : Int) + 1)) Z rfl rfl rfl i77) Z rfl ?_; clear Z az; intro az Z
     refine L (r_as Z rfl) Z rfl ?_; clear Z az; intro az Z
     have O78 : Only NoF w48 w75 := (Only.trans' o55 o76)
     exact ⟨_, (by omega), i + 1, _, rfl, Z.cut ⟨rfl, rfl, rfl, rfl, rfl, rfl, rfl, trivial⟩, (by omega), (sum_step hm66 hz), (by omega), O78⟩
   · skip
     refine reg_q [(true, 0), (true, 1), (true, 2), (true, 3), (true, 4), (true, 5), (true, 6), (true, 7), (true, 8), (true, 9), (true, 10), (true, 11), (true, 12), (true, 13), (true, 14), (true, 15), (true, 16), (true, 17), (true, 18), (true, 19), (true, 20), (true, 21), (true, 22), (true, 23), (true, 24)] (by kernel_rfl) (by kernel_rfl) (fun _ _ _ _ _ h => h) fun w79 o80 => ?_
     refine M (r_mv Z rfl) Z rfl rfl ?_; clear Z az; intro az Z
     refine M (r_mv Z rfl) Z rfl rfl ?_; clear Z az; intro az Z
     refine M (r_ia (k := i) (size := 2) Tryd.underlying36 Tryd.sizeOf40 Z rfl rfl rfl hk64 hA68) Z rfl rfl ?_; clear Z az; intro az Z
     refine M (r_fa (m' := 1) Tryd.underlying40 rfl Tryd.sizeOf3 rfl Z rfl rfl) Z rfl rfl ?_; clear Z az; intro az Z
     refine M (r_ld Tryd.isAgg3 Z rfl ((E69 _ o80) 1 _ rfl)) Z rfl rfl ?_; clear Z az; intro az Z
     refine M ((r_cast (b := false) (r_ltI Z rfl rfl) (decide_eq_false (by omega)))) Z rfl rfl ?_; clear Z az; intro az Z
     refine M (r_mv Z rfl) Z rfl rfl ?_; clear Z az; intro az Z
     refine MT Z rfl rfl (r_mv Z rfl) rfl rfl ?_; clear Z az; intro az Z
     refine MT Z rfl rfl ((r_cast (b := true) (r_gtI Z rfl rfl) (decide_eq_true (by omega)))) rfl rfl ?_; clear Z az; intro az Z
     refine MT Z rfl rfl (r_mv Z rfl) rfl rfl ?_; clear Z az; intro az Z
     refine MT Z rfl rfl (r_mv Z rfl) rfl rfl ?_; clear Z az; intro az Z
     refine MT Z rfl rfl (r_mv Z rfl) rfl rfl ?_; clear Z az; intro az Z
     have i81 : I64 (((i : Int) - 1)) := by unfold I64; omega
     refine MT Z rfl rfl (r_subI (r := ((i : Int) - 1)) Z rfl rfl rfl i81) rfl rfl ?_; clear Z az; intro az Z
     refine MT Z rfl rfl ((r_castI (b := ((i : Int) - 1)) (r_max Z rfl rfl) (by omega))) rfl rfl ?_; clear Z az; intro az Z
     have hk82 : (i - 1) < ((headsN (joinN La))).length := by omega
     have O88 : Only NoF w38 w79 := (Only.trans' O70 o80)
     have h89 := (SliceOf.kp h63 O88 (fun _ _ h => h) (fun _ _ _ _ h => h))
     obtain ⟨m83, hm84, ok85, hA86⟩ := Row.el KRef h89 hk82
     have E87 : ∀ W, Only NoF w79 W → CA W (eA A32 2 ((i - 1))) [.int .i64 (m83.h), .int .i64 (m83.n)] := Row.ce KRef h89 hm84 rfl
     have hb90 := hbn _ (List.mem_of_getElem? hm84)
     refine MT Z rfl rfl (r_ia (k := (i - 1)) (size := 2) Tryd.underlying36 Tryd.sizeOf40 Z rfl rfl (by omega) hk82 hA86) rfl rfl ?_; clear Z az; intro az Z
     refine MT Z rfl rfl (r_fa (m' := 0) Tryd.underlying40 rfl Tryd.sizeOf3 rfl Z rfl rfl) rfl rfl ?_; clear Z az; intro az Z
     refine MT Z rfl rfl (r_ld Tryd.isAgg3 Z rfl ((E87 _ (Only.refl NoF w79)) 0 _ rfl)) rfl rfl ?_; clear Z az; intro az Z
     refine MT Z rfl rfl (r_mv Z rfl) rfl rfl ?_; clear Z az; intro az Z
     refine MT Z rfl rfl (r_mv Z rfl) rfl rfl ?_; clear Z az; intro az Z
     refine MT Z rfl rfl (r_ia (k := i) (size := 2) Tryd.underlying36 Tryd.sizeOf40 Z rfl rfl rfl hk64 hA68) rfl rfl ?_; clear Z az; intro az Z
     refine MT Z rfl rfl (r_fa (m' := 0) Tryd.underlying40 rfl Tryd.sizeOf3 rfl Z rfl rfl) rfl rfl ?_; clear Z az; intro az Z
     refine MT Z rfl rfl (r_ld Tryd.isAgg3 Z rfl ((E69 _ o80) 0 _ rfl)) rfl rfl ?_; clear Z az; intro az Z
     refine MT Z rfl rfl ((r_cast (b := false) (r_geI Z rfl rfl) (decide_eq_false (Int.not_le.2 (asc_adj (heads_asc (join_up La)) (by omega) hm84 hm66))))) rfl rfl ?_; clear Z az; intro az Z
     refine MT Z rfl rfl (r_pick Z rfl rfl rfl) rfl rfl ?_; clear Z az; intro az Z
     refine M (r_pick Z rfl rfl rfl) Z rfl rfl ?_; clear Z az; intro az Z
     refine wpMix_nil ?_
     refine k74 _ _ ?_
     refine br_false Z rfl ?_
     refine wp_skip ?_
     refine k61 _ _ ?_
     refine wp_region_lit ?_
     refine L (r_mv Z rfl) Z rfl ?_; clear Z az; intro az Z
     have i91 : I64 (((i : Int) + 1)) := by unfold I64; omega
     refine L (r_addI (r := ((i : Int) + 1)) Z rfl rfl rfl i91) Z rfl ?_; clear Z az; intro az Z
     refine L (r_as Z rfl) Z rfl ?_; clear Z az; intro az Z
     have O92 : Only NoF w48 w79 := (Only.trans' o55 o80)
     exact ⟨_, (by omega), i + 1, _, rfl, Z.cut ⟨rfl, rfl, rfl, rfl, rfl, rfl, rfl, trivial⟩, (by omega), (sum_step hm66 hz), (by omega), O92⟩
  ·
   have p93 := of_decide_eq_false hc59
   refine wp_exit ?_
   refine th_exit ?_
   refine th_exit ?_
   refine ib_hit ?_
   refine k52 _ _ (wp_seq_k fun _ k94 => ?_)
   refine wp_seq_k fun _ k95 => wp_region_lit ?_
   refine L (r_as Z rfl) Z rfl ?_; clear Z az; intro az Z
   refine k95 _ _ ?_
   refine wp_block ?_
   refine wp_loop_m (fun mz az W => ∃ j : Nat, mz = L20.length - j ∧ Fr 232 [(0, .slice A1 (La.length) c1), (3, .bool (true)), (4, .slice A18 (L20.length) c19), (5, .slice A32 ((headsN (joinN La)).length) c33), (6, .slice A43 ((forksN (joinN La)).length) c44), (7, .int .i64 (z)), (9, .int .i64 ((j : Int)))] az ∧ (j ≤ L20.length) ∧ Only NoF w54 W) ?_ ?_
   ·
    exact ⟨_, 0, rfl, Z.cut ⟨rfl, rfl, rfl, rfl, rfl, rfl, rfl, trivial⟩, Nat.zero_le _, (Only.refl NoF w54)⟩
   clear Z az
   rintro mz az w96 ⟨j, hm98, Z, hj, o97⟩
   refine wp_seq_k fun _ k99 => ?_
   refine wp_seq_k fun _ k100 => wp_region_lit ?_
   refine L (r_mv Z rfl) Z rfl ?_; clear Z az; intro az Z
   refine L (r_mv Z rfl) Z rfl ?_; clear Z az; intro az Z
   refine L (r_lenL Tryd.underlying22 Z rfl) Z rfl ?_; clear Z az; intro az Z
   refine L (r_ltI Z rfl rfl) Z rfl ?_; clear Z az; intro az Z
   refine k100 _ _ ?_
   refine br Z rfl (fun hc101 => ?_) (fun hc101 => ?_)
   ·
    have p102 := of_decide_eq_true hc101
    refine wp_skip ?_
    refine k99 _ _ (wp_seq_k fun _ k103 => ?_)
    refine wp_block ?_
    refine wp_seq_k fun _ k104 => wp_region_lit ?_
    refine L (r_mv Z rfl) Z rfl ?_; clear Z az; intro az Z
    refine L (r_mv Z rfl) Z rfl ?_; clear Z az; intro az Z
    have hk105 : j < (L20).length := by omega
    have O111 : Only NoF w26 w96 := (Only.trans' (Only.trans' (Only.trans' o35 o46) o55) o97)
    have h112 := (SliceOf.kp nt27.1 O111 (fun _ _ h => h) (fun _ _ _ _ h => h))
    obtain ⟨m106, hm107, ok108, hA109⟩ := Row.el KN0 h112 hk105
    have E110 : ∀ W, Only NoF w96 W → CA W (eA A18 5 (j)) [.int .i64 (m106.h), .int .i64 (m106.n), .int .i64 (m106.d), .slice m106.A (m106.l.length) m106.c, strV (m106.s)] := Row.ce KN0 h112 hm107 rfl
    have hoa := ord_at hL21 hm107
    refine L (r_ia (k := j) (size := 5) Tryd.underlying22 Tryd.sizeOf42 Z rfl rfl rfl hk105 hA109) Z rfl ?_; clear Z az; intro az Z
    refine L (r_ldA Tryd.isAgg42 Tryd.sizeOf42 Z rfl (E110 _ (Only.refl NoF w96)) rfl) Z rfl ?_; clear Z az; intro az Z
    refine LAl (v := .agg #[.int .i64 (0), .int .i64 (0), .int .i64 (0), .slice none (0) 0, strV ([])]) Tryd.zeroValue42 Z rfl rfl ?_
    clear Z az; intro g113 w114 hg117 hl118 o115 B116 az Z
    refine LSt (cs' := [.int .i64 (m106.h), .int .i64 (m106.n), .int .i64 (m106.d), .slice m106.A (m106.l.length) m106.c, strV (m106.s)]) Tryd.sizeOf42 Z rfl rfl rfl rfl rfl ⟨rfl, rfl, rfl, rfl, rfl, trivial⟩ B116 rfl rfl fun w119 s120 B121 => ?_
    refine k104 _ _ (wp_seq_k fun _ k122 => wp_region_lit ?_)
    refine L (r_mv Z rfl) Z rfl ?_; clear Z az; intro az Z
    refine L (r_fa (m' := 0) Tryd.underlying42 rfl Tryd.sizeOf3 rfl Z rfl rfl) Z rfl ?_; clear Z az; intro az Z
    refine L (r_ld Tryd.isAgg3 Z rfl ((Blk.ca B121) 0 _ rfl)) Z rfl ?_; clear Z az; intro az Z
    have O127 : Only NoF w26 w119 := (o_sg (Only.trans' O111 o115) s120 (size_only O111) (oneF_ge hg117))
    have hC128 := of39_v_ (NtV.k nt27 O127).1 hm28 m106.h
    refine LC Z rfl rfl Tryd.call21 (hC128) rfl ?_
    rintro e w129 ⟨A123, c124, rfl, r125, o126⟩; refine ⟨_, rfl, ?_⟩
    clear Z az; intro az Z
    have O131 : Only NoF w26 w129 := (Only.trans' O127 o126)
    have nt130 : NtV w129 (.slice A123 ((ofN L20 m106.h).length) c124) (ofN L20 m106.h) := ⟨SliceOf.pl (Row.own KN0 r125 (fun _ _ => trivial)), fun x hx => (NtV.k nt27 O131).2 x (of_mem.1 hx).1⟩
    refine L (r_as Z rfl) Z rfl ?_; clear Z az; intro az Z
    refine k122 _ _ (wp_seq_k fun _ k132 => wp_region_lit ?_)
    refine L (r_mv Z rfl) Z rfl ?_; clear Z az; intro az Z
    refine L (r_fa (m' := 0) Tryd.underlying42 rfl Tryd.sizeOf3 rfl Z rfl rfl) Z rfl ?_; clear Z az; intro az Z
    have B133 := (Blk.k B121 o126)
    refine L (r_ld Tryd.isAgg3 Z rfl ((Blk.ca B133) 0 _ rfl)) Z rfl ?_; clear Z az; intro az Z
    have O135 : Only NoF w w96 := (Only.trans' (Only.trans' (Only.trans' O42 o46) o55) o97)
    have O136 : Only NoF w w129 := (Only.trans' (o_sg (Only.trans' (Only.trans' (Only.trans' (Only.trans' O42 o46) o55) o97) o115) s120 (size_only O135) (oneF_ge hg117)) o126)
    have G134 := Gr.k hG O136
    have hC144 := Past_v_ G134 (NtV.k t1 O136) (by first | omega | (simp only [List.length_cons, List.length_nil]; omega)) m106.h
    refine LC Z rfl rfl Tryd.call16 (hC144) rfl ?_
    rintro e w145 ⟨A137, c138, L139, rfl, hL140, hS141, hN142, o143⟩; refine ⟨_, rfl, ?_⟩
    clear Z az; intro az Z
    have nt146 : NtV w145 (.slice A137 (L139.length) c138) L139 := ⟨SliceOf.pl hS141, OkNs.pl hN142⟩
    have hm147 : L139.length ≤ 1000000 := (pst_lim hL140)
    refine L (r_as Z rfl) Z rfl ?_; clear Z az; intro az Z
    refine k132 _ _ (wp_seq_k fun _ k148 => ?_)
    refine wp_seq_k fun _ k149 => ?_
    refine reg_p NoF 4 [1, 6, 16, 23] (.rd 0 (.ex 1 (.rd 2 (.rd 3 (.rd 4 (.rd 5 (.ex 6 (.rd 7 (.rd 8 (.rd 9 (.rd 10 (.rd 11 (.rd 12 (.rd 13 (.rd 14 (.rd 15 (.ex 16 (.rd 17 (.rd 18 (.rd 19 (.rd 20 (.rd 21 (.rd 22 (.rd 24 (.rd 25 (.ex 23 (.rd 26 (.rd 27 (.rd 28 (.rd 29 (.rd 30 (.rd 31 (.rd 32 (.rd 33 (.rd 34 .nil))))))))))))))))))))))))))))))))))) (by kernel_rfl) (by kernel_rfl) (fun _ _ _ _ _ h => h) fun w150 o151 => ?_
    have B152 := (Blk.k (Blk.k B133 o143) o151)
    refine Pl.MSP (b := true) (by kernel_rfl) (fun W oW => r_ldA Tryd.isAgg42 Tryd.sizeOf42 Z rfl (Blk.ca (Blk.k B152 oW)) rfl) Z rfl rfl ?_; clear Z az; intro az Z
    have O153 : Only NoF w26 w150 := (Only.trans' (Only.trans' O131 o143) o151)
    have h154 := (SliceOf.kp (nt27.2 _ (List.mem_of_getElem? hm107)).2.2.2.1 O153 (fun _ _ h => h) (fun _ _ _ _ h => h))
    refine Pl.MSV (v := .bool (true)) Z rfl rfl rfl Tryd.call22 (fix_eq (congrArg Value.bool hoa.1) (Right_v (m := m106) h154)) rfl (fun w' o' => ⟨fun _ => o', (Only.trans (Only.refl NoF w150) o' (fun _ h => h.elim))⟩) fun w155 o156 => ?_; clear Z az; intro az Z
    refine Pl.MSP (b := true) (by kernel_rfl) (fun W oW => r_not Z rfl) Z rfl rfl ?_; clear Z az; intro az Z
    refine Pl.MSP (b := true) (by kernel_rfl) (fun W oW => r_mv Z rfl) Z rfl rfl ?_; clear Z az; intro az Z
    refine Pl.MSPT (b := true) (by kernel_rfl) Z rfl rfl (fun W oW => r_mv Z rfl) rfl rfl ?_; clear Z az; intro az Z
    refine Pl.MSPT (b := true) (by kernel_rfl) Z rfl rfl (fun W oW => r_ldA Tryd.isAgg42 Tryd.sizeOf42 Z rfl (Blk.ca (Blk.k B152 oW)) rfl) rfl rfl ?_; clear Z az; intro az Z
    have O157 : Only NoF w w155 := (Only.trans' (Only.trans' (Only.trans' O136 o143) o151) o156)
    have O158 : Only NoF w26 w155 := (Only.trans' O153 o156)
    have h159 := (SliceOf.kp (nt27.2 _ (List.mem_of_getElem? hm107)).2.2.2.1 O158 (fun _ _ h => h) (fun _ _ _ _ h => h))
    refine Pl.MSGV (v := .bool (true)) Z rfl rfl gd_f rfl rfl (fun hb => rfl) Tryd.call23 (fun hb => fix_eq (congrArg Value.bool hoa.2.1) (has39_v_ (NtV.k t1 O157) (x := m106) (okN.k (nt27.2 _ (List.mem_of_getElem? hm107)) O158))) rfl (fun w' o' => ⟨fun _ => (Only.trans' o156 o'), (Only.trans (Only.trans (Only.refl NoF w150) o156 (fun _ h => h.elim)) o' (fun _ h => h.elim))⟩) fun w160 o161 => ?_; clear Z az; intro az Z
    refine Pl.MSPT (b := true) (by kernel_rfl) Z rfl rfl (fun W oW => r_not Z rfl) rfl rfl ?_; clear Z az; intro az Z
    refine Pl.MSP (b := true) (by kernel_rfl) (fun W oW => r_pick Z rfl rfl rfl) Z rfl rfl ?_; clear Z az; intro az Z
    refine Pl.MSP (b := true) (by kernel_rfl) (fun W oW => r_mv Z rfl) Z rfl rfl ?_; clear Z az; intro az Z
    refine Pl.MSPT (b := true) (by kernel_rfl) Z rfl rfl (fun W oW => r_mv Z rfl) rfl rfl ?_; clear Z az; intro az Z
    refine Pl.MSPT (b := true) (by kernel_rfl) Z rfl rfl (fun W oW => r_mv Z rfl) rfl rfl ?_; clear Z az; intro az Z
    have O162 : Only NoF w26 w160 := (Only.trans' O158 o161)
    have nt163 := NtS.top (m := j) (NtV.k nt27 O162) (by omega)
    have hl164 : (j : Int) = ((List.take j L20).length : Int) := by rw [List.length_take, Nat.min_eq_left (by omega)]
    have hc165 : (List.take j L20).length ≤ c19 := Nat.le_trans (by rw [List.length_take]; omega) (SliceOf.cap_ (NtV.k nt27 O162).1)
    refine Pl.MSPT (b := true) (by kernel_rfl) Z rfl rfl (fun W oW => r_slh (m := (List.take j L20).length) (size := 5) Tryd.underlying22 Tryd.sizeOf42 Z rfl rfl hl164 hc165) rfl rfl ?_; clear Z az; intro az Z
    refine Pl.MSPT (b := true) (by kernel_rfl) Z rfl rfl (fun W oW => r_ldA Tryd.isAgg42 Tryd.sizeOf42 Z rfl (Blk.ca (Blk.k B152 oW)) rfl) rfl rfl ?_; clear Z az; intro az Z
    refine Pl.MSPT (b := true) (by kernel_rfl) Z rfl rfl (fun W oW => r_mv Z rfl) rfl rfl ?_; clear Z az; intro az Z
    refine Pl.MSPT (b := true) (by kernel_rfl) Z rfl rfl (fun W oW => r_mv Z rfl) rfl rfl ?_; clear Z az; intro az Z
    have h166 := (SliceOf.kp (nt27.2 _ (List.mem_of_getElem? hm107)).2.2.2.1 O162 (fun _ _ h => h) (fun _ _ _ _ h => h))
    have h167 := Row.own KRef r34 ok36
    have O168 : Only NoF w38 w96 := (Only.trans' (Only.trans' o46 o55) o97)
    have O169 : Only NoF w38 w160 := (Only.trans' (Only.trans' (Only.trans' (Only.trans' (Only.trans' (o_sg (Only.trans' (Only.trans' (Only.trans' o46 o55) o97) o115) s120 (size_only O168) (oneF_ge hg117)) o126) o143) o151) o156) o161)
    have h170 := (SliceOf.kp h167 O169 (fun _ _ h => h) (fun _ _ _ _ h => h))
    have h171 := SliceOf.pl h170
    have h172 := Row.own KInt r45 (forks_ok _)
    have O173 : Only NoF w48 w96 := (Only.trans' o55 o97)
    have O174 : Only NoF w48 w160 := (Only.trans' (Only.trans' (Only.trans' (Only.trans' (Only.trans' (o_sg (Only.trans' (Only.trans' o55 o97) o115) s120 (size_only O173) (oneF_ge hg117)) o126) o143) o151) o156) o161)
    have h175 := (SliceOf.kp h172 O174 (fun _ _ h => h) (fun _ _ _ _ h => h))
    have h176 := SliceOf.pl h175
    refine Pl.MSGV (v := .bool (true)) Z rfl rfl gd_f rfl rfl (fun hb => rfl) Tryd.call24 (fun hb => fix_eq (congrArg Value.bool hoa.2.2.1) (placed_v_ nt163.1 (by rw [List.length_take]; omega) (m := m106) (okN.k (nt27.2 _ (List.mem_of_getElem? hm107)) O162) h171 h176)) rfl (fun w' o' => ⟨fun _ => (Only.trans' (Only.trans' o156 o161) o'), (Only.trans (Only.trans (Only.trans (Only.refl NoF w150) o156 (fun _ h => h.elim)) o161 (fun _ h => h.elim)) o' (fun _ h => h.elim))⟩) fun w177 o178 => ?_; clear Z az; intro az Z
    refine Pl.MSPT (b := true) (by kernel_rfl) Z rfl rfl (fun W oW => r_not Z rfl) rfl rfl ?_; clear Z az; intro az Z
    refine Pl.MSP (b := true) (by kernel_rfl) (fun W oW => r_pick Z rfl rfl rfl) Z rfl rfl ?_; clear Z az; intro az Z
    refine Pl.MSP (b := true) (by kernel_rfl) (fun W oW => r_mv Z rfl) Z rfl rfl ?_; clear Z az; intro az Z
    refine Pl.MSPT (b := true) (by kernel_rfl) Z rfl rfl (fun W oW => r_mv Z rfl) rfl rfl ?_; clear Z az; intro az Z
    refine Pl.MSPT (b := true) (by kernel_rfl) Z rfl rfl (fun W oW => r_fa (m' := 0) Tryd.underlying42 rfl Tryd.sizeOf3 rfl Z rfl rfl) rfl rfl ?_; clear Z az; intro az Z
    refine Pl.MSPT (b := true) (by kernel_rfl) Z rfl rfl (fun W oW => r_ld Tryd.isAgg3 Z rfl ((Blk.ca (Blk.k B152 oW)) 0 _ rfl)) rfl rfl ?_; clear Z az; intro az Z
    refine Pl.MSPT (b := true) (by kernel_rfl) Z rfl rfl (fun W oW => r_mv Z rfl) rfl rfl ?_; clear Z az; intro az Z
    refine Pl.MSPT (b := true) (by kernel_rfl) Z rfl rfl (fun W oW => r_lenL Tryd.underlying22 Z rfl) rfl rfl ?_; clear Z az; intro az Z
    have O179 : Only NoF w38 w177 := (Only.trans' O169 o178)
    have h180 := (SliceOf.kp h167 O179 (fun _ _ h => h) (fun _ _ _ _ h => h))
    have h181 := SliceOf.pl h180
    refine Pl.MSGV (v := .int .i64 (cntH (headsN (joinN La)) m106.h)) Z rfl rfl gd_f rfl rfl (fun hb => rfl) Tryd.call25 (fun hb => cntH_v_ h181 m106.h) rfl (fun w' o' => ⟨fun _ => (Only.trans' (Only.trans' (Only.trans' o156 o161) o178) o'), (Only.trans (Only.trans (Only.trans (Only.trans (Only.refl NoF w150) o156 (fun _ h => h.elim)) o161 (fun _ h => h.elim)) o178 (fun _ h => h.elim)) o' (fun _ h => h.elim))⟩) fun w182 o183 => ?_; clear Z az; intro az Z
    refine Pl.MSPT (b := true) (by kernel_rfl) Z rfl rfl (fun W oW => (r_cast (b := false) (r_neI Z rfl rfl) (congrArg not (decide_eq_true hoa.2.2.2.1)))) rfl rfl ?_; clear Z az; intro az Z
    refine Pl.MSP (b := true) (by kernel_rfl) (fun W oW => r_pick Z rfl rfl rfl) Z rfl rfl ?_; clear Z az; intro az Z
    refine Pl.MSP (b := true) (by kernel_rfl) (fun W oW => r_mv Z rfl) Z rfl rfl ?_; clear Z az; intro az Z
    refine Pl.MSPT (b := true) (by kernel_rfl) Z rfl rfl (fun W oW => r_mv Z rfl) rfl rfl ?_; clear Z az; intro az Z
    refine Pl.MSPT (b := true) (by kernel_rfl) Z rfl rfl (fun W oW => r_lenL Tryd.underlying22 Z rfl) rfl rfl ?_; clear Z az; intro az Z
    refine Pl.MSPT (b := true) (by kernel_rfl) Z rfl rfl (fun W oW => r_mv Z rfl) rfl rfl ?_; clear Z az; intro az Z
    refine Pl.MSPT (b := true) (by kernel_rfl) Z rfl rfl (fun W oW => r_lenL Tryd.underlying22 Z rfl) rfl rfl ?_; clear Z az; intro az Z
    refine Pl.MSPT (b := true) (by kernel_rfl) Z rfl rfl (fun W oW => (r_cast (b := false) (r_gtI Z rfl rfl) (decide_eq_false (by have h1 := congrArg List.length hL140; rw [List.length_map] at h1; have h2 := hoa.2.2.2.2.1; omega)))) rfl rfl ?_; clear Z az; intro az Z
    refine Pl.MSP (b := true) (by kernel_rfl) (fun W oW => r_pick Z rfl rfl rfl) Z rfl rfl ?_; clear Z az; intro az Z
    refine wpPl_nil ?_
    refine k149 _ _ ?_
    refine br_false Z rfl ?_
    refine wp_skip ?_
    refine k148 _ _ (wp_seq_k fun _ k184 => wp_region_lit ?_)
    refine L (r_mv Z rfl) Z rfl ?_; clear Z az; intro az Z
    have O185 : Only NoF w145 w182 := (Only.trans' (Only.trans' (Only.trans' (Only.trans' o151 o156) o161) o178) o183)
    refine LCV (v := .int .i64 (0)) Z rfl rfl Tryd.call26 (fix_eq (congrArg (Value.int .i64) (((check_ns _).symm.trans ((congrArg check hL140).trans (ord_check La _))) : check L139 = 0)) (Check_v (NtV.notes (NtV.k nt146 O185)))) rfl fun w186 o187 => ?_; clear Z az; intro az Z
    refine L (r_neRI Z rfl rfl) Z rfl ?_; clear Z az; intro az Z
    refine L (r_mv Z rfl) Z rfl ?_; clear Z az; intro az Z
    refine LT Z rfl rfl (r_mv Z rfl) rfl ?_; clear Z az; intro az Z
    refine LT Z rfl rfl (r_mv Z rfl) rfl ?_; clear Z az; intro az Z
    refine LT Z rfl rfl (r_mv Z rfl) rfl ?_; clear Z az; intro az Z
    refine LT Z rfl rfl (r_lenL Tryd.underlying22 Z rfl) rfl ?_; clear Z az; intro az Z
    refine LT Z rfl rfl (r_mv Z rfl) rfl ?_; clear Z az; intro az Z
    refine LT Z rfl rfl (r_lenL Tryd.underlying22 Z rfl) rfl ?_; clear Z az; intro az Z
    have hpl : (ofN L20 m106.h).length ≤ L139.length := by have h1 := congrArg List.length hL140; rw [List.length_map] at h1; have h2 := hoa.2.2.2.2.1; omega
    refine LT Z rfl rfl ((r_castI (b := (((ofN L20 m106.h).length : Nat) : Int)) (r_min Z rfl rfl) (by omega))) rfl ?_; clear Z az; intro az Z
    have O188 : Only NoF w145 w186 := (Only.trans' O185 o187)
    have nt189 := NtS.top (m := ((ofN L20 m106.h).length)) (NtV.k nt146 O188) (by omega)
    have hl190 : (((ofN L20 m106.h).length : Nat) : Int) = ((List.take ((ofN L20 m106.h).length) L139).length : Int) := by rw [List.length_take, Nat.min_eq_left (by omega)]
    have hc191 : (List.take ((ofN L20 m106.h).length) L139).length ≤ c138 := Nat.le_trans (by rw [List.length_take]; omega) (SliceOf.cap_ (NtV.k nt146 O188).1)
    refine LT Z rfl rfl (r_slh (m := (List.take ((ofN L20 m106.h).length) L139).length) (size := 5) Tryd.underlying22 Tryd.sizeOf42 Z rfl rfl hl190 hc191) rfl ?_; clear Z az; intro az Z
    have O192 : Only NoF w129 w186 := (Only.trans' (Only.trans' (Only.trans' (Only.trans' (Only.trans' (Only.trans' o143 o151) o156) o161) o178) o183) o187)
    refine LGV (v := .bool (true)) Z rfl rfl gd_f rfl (fun hb => rfl) Tryd.call12 (fun hb => fix_eq (congrArg Value.bool (decide_eq_true (by rw [List.map_take, hL140]; have h0 := hoa.2.2.2.2.2; rwa [Nat.min_eq_left hoa.2.2.2.2.1] at h0))) (rSameChain_v (NtV.notes (NtV.k nt130 O192)) (NtV.notes nt189))) rfl fun w193 o194 => ?_; clear Z az; intro az Z
    refine LT Z rfl rfl (r_not Z rfl) rfl ?_; clear Z az; intro az Z
    refine L (r_pick Z rfl rfl rfl) Z rfl ?_; clear Z az; intro az Z
    refine k184 _ _ ?_
    refine br_false Z rfl ?_
    refine wp_skip ?_
    refine k103 _ _ ?_
    refine wp_region_lit ?_
    refine L (r_mv Z rfl) Z rfl ?_; clear Z az; intro az Z
    have i195 : I64 (((j : Int) + 1)) := by unfold I64; omega
    refine L (r_addI (r := ((j : Int) + 1)) Z rfl rfl rfl i195) Z rfl ?_; clear Z az; intro az Z
    refine L (r_as Z rfl) Z rfl ?_; clear Z az; intro az Z
    have O196 : Only NoF w54 w193 := (Only.trans' (Only.trans' (Only.trans' (Only.trans' (Only.trans' (Only.trans' (Only.trans' (Only.trans' (Only.trans' (o_sg (Only.trans' o97 o115) s120 (size_only o97) (oneF_ge hg117)) o126) o143) o151) o156) o161) o178) o183) o187) o194)
    exact ⟨_, (by omega), j + 1, rfl, Z.cut ⟨rfl, rfl, rfl, rfl, rfl, rfl, rfl, trivial⟩, (by omega), O196⟩
   ·
    have p197 := of_decide_eq_false hc101
    refine wp_exit ?_
    refine th_exit ?_
    refine th_exit ?_
    refine ib_hit ?_
    refine k94 _ _ (wp_seq_k fun _ k198 => wp_region_lit ?_)
    refine L (r_mv Z rfl) Z rfl ?_; clear Z az; intro az Z
    have O200 : Only NoF w w96 := (Only.trans' (Only.trans' (Only.trans' O42 o46) o55) o97)
    have G199 := Gr.k hG O200
    have hC208 := Join1_v G199 (NtV.k t1 O200) (by first | omega | (simp only [List.length_cons, List.length_nil]; omega))
    refine LC Z rfl rfl Tryd.call11 (hC208) rfl ?_
    rintro e w209 ⟨A201, c202, L203, rfl, hL204, hS205, hN206, o207⟩; refine ⟨_, rfl, ?_⟩
    clear Z az; intro az Z
    have nt210 : NtV w209 (.slice A201 (L203.length) c202) L203 := ⟨SliceOf.pl hS205, OkNs.pl hN206⟩
    have hm211 : L203.length ≤ 1000000 := (ns_len_le hL204 (Nat.le_trans (joinN_le _) (by first | omega | (simp only [List.length_cons, List.length_nil]; omega))))
    refine L (r_as Z rfl) Z rfl ?_; clear Z az; intro az Z
    refine k198 _ _ (wp_seq_k fun _ k212 => ?_)
    refine wp_seq_k fun _ k213 => wp_region_lit ?_
    refine L (r_as Z rfl) Z rfl ?_; clear Z az; intro az Z
    refine k213 _ _ ?_
    refine wp_block ?_
    refine wp_loop_m (fun mz az W => ∃ k : Nat, mz = L203.length - k ∧ Fr 232 [(0, .slice A1 (La.length) c1), (3, .bool (true)), (4, .slice A18 (L20.length) c19), (7, .int .i64 (z)), (13, .slice A201 (L203.length) c202), (14, .int .i64 ((k : Int)))] az ∧ (k ≤ L203.length) ∧ Only NoF w209 W) ?_ ?_
    ·
     exact ⟨_, 0, rfl, Z.cut ⟨rfl, rfl, rfl, rfl, rfl, rfl, trivial⟩, Nat.zero_le _, (Only.refl NoF w209)⟩
    clear Z az
    rintro mz az w214 ⟨k, hm216, Z, hk, o215⟩
    refine wp_seq_k fun _ k217 => ?_
    refine wp_seq_k fun _ k218 => wp_region_lit ?_
    refine L (r_mv Z rfl) Z rfl ?_; clear Z az; intro az Z
    refine L (r_mv Z rfl) Z rfl ?_; clear Z az; intro az Z
    refine L (r_lenL Tryd.underlying22 Z rfl) Z rfl ?_; clear Z az; intro az Z
    refine L (r_ltI Z rfl rfl) Z rfl ?_; clear Z az; intro az Z
    refine k218 _ _ ?_
    refine br Z rfl (fun hc219 => ?_) (fun hc219 => ?_)
    ·
     have p220 := of_decide_eq_true hc219
     refine wp_skip ?_
     refine k217 _ _ (wp_seq_k fun _ k221 => ?_)
     refine wp_block ?_
     refine wp_seq_k fun _ k222 => ?_
     rcases Nat.eq_zero_or_pos k with hk0 | hk0
     · skip
       refine reg_p NoF 3 [4, 12, 72] (.rd 0 (.rd 1 (.rd 2 (.rd 3 (.ex 4 (.rd 5 (.rd 6 (.rd 7 (.rd 8 (.rd 9 (.rd 10 (.rd 11 (.ex 12 (.rd 13 (.rd 14 (.rd 15 (.rd 16 (.rd 17 (.rd 18 (.rd 19 (.rd 20 (.rd 21 (.rd 22 (.rd 23 (.rd 24 (.rd 25 (.rd 26 (.rd 27 (.rd 28 (.rd 29 (.rd 30 (.rd 31 (.rd 32 (.rd 33 (.rd 34 (.rd 35 (.rd 36 (.rd 37 (.rd 38 (.rd 39 (.rd 40 (.rd 41 (.rd 42 (.rd 43 (.rd 44 (.rd 45 (.rd 46 (.rd 47 (.rd 48 (.rd 49 (.rd 50 (.rd 51 (.rd 52 (.rd 53 (.rd 54 (.rd 55 (.rd 56 (.rd 57 (.rd 58 (.rd 59 (.rd 60 (.rd 61 (.rd 62 (.rd 63 (.rd 64 (.rd 65 (.rd 66 (.rd 67 (.rd 68 (.rd 69 (.rd 70 (.rd 71 (.ex 72 (.rd 73 .nil)))))))))))))))))))))))))))))))))))))))))))))))))))))))))))))))))))))))))) (by kernel_rfl) (by kernel_rfl) (fun _ _ _ _ _ h => h) fun w223 o224 => ?_
       refine Pl.MSP (b := true) (by kernel_rfl) (fun W oW => r_mv Z rfl) Z rfl rfl ?_; clear Z az; intro az Z
       refine Pl.MSP (b := true) (by kernel_rfl) (fun W oW => r_mv Z rfl) Z rfl rfl ?_; clear Z az; intro az Z
       have hk225 : k < (L203).length := by omega
       have O231 : Only NoF w209 w223 := (Only.trans' o215 o224)
       have h232 := (SliceOf.kp nt210.1 O231 (fun _ _ h => h) (fun _ _ _ _ h => h))
       obtain ⟨m226, hm227, ok228, hA229⟩ := Row.el KN0 h232 hk225
       have E230 : ∀ W, Only NoF w223 W → CA W (eA A201 5 (k)) [.int .i64 (m226.h), .int .i64 (m226.n), .int .i64 (m226.d), .slice m226.A (m226.l.length) m226.c, strV (m226.s)] := Row.ce KN0 h232 hm227 rfl
       have hja := jn_at hL204 hm227
       refine Pl.MSP (b := true) (by kernel_rfl) (fun W oW => r_ia (k := k) (size := 5) Tryd.underlying22 Tryd.sizeOf42 Z rfl rfl rfl hk225 hA229) Z rfl rfl ?_; clear Z az; intro az Z
       refine Pl.MSP (b := true) (by kernel_rfl) (fun W oW => r_ldA Tryd.isAgg42 Tryd.sizeOf42 Z rfl (E230 _ (Only.trans' (Only.refl NoF w223) oW)) rfl) Z rfl rfl ?_; clear Z az; intro az Z
       have h233 := (SliceOf.kp (nt210.2 _ (List.mem_of_getElem? hm227)).2.2.2.1 O231 (fun _ _ h => h) (fun _ _ _ _ h => h))
       refine Pl.MSV (v := .bool (true)) Z rfl rfl rfl Tryd.call22 (fix_eq (congrArg Value.bool hja.1) (Right_v (m := m226) h233)) rfl (fun w' o' => ⟨fun _ => o', (Only.trans (Only.refl NoF w223) o' (fun _ h => h.elim))⟩) fun w234 o235 => ?_; clear Z az; intro az Z
       refine Pl.MSP (b := true) (by kernel_rfl) (fun W oW => r_not Z rfl) Z rfl rfl ?_; clear Z az; intro az Z
       refine Pl.MSP (b := true) (by kernel_rfl) (fun W oW => r_mv Z rfl) Z rfl rfl ?_; clear Z az; intro az Z
       refine Pl.MSPT (b := true) (by kernel_rfl) Z rfl rfl (fun W oW => r_mv Z rfl) rfl rfl ?_; clear Z az; intro az Z
       refine Pl.MSPT (b := true) (by kernel_rfl) Z rfl rfl (fun W oW => r_mv Z rfl) rfl rfl ?_; clear Z az; intro az Z
       refine Pl.MSPT (b := true) (by kernel_rfl) Z rfl rfl (fun W oW => r_mv Z rfl) rfl rfl ?_; clear Z az; intro az Z
       refine Pl.MSPT (b := true) (by kernel_rfl) Z rfl rfl (fun W oW => r_ia (k := k) (size := 5) Tryd.underlying22 Tryd.sizeOf42 Z rfl rfl rfl hk225 hA229) rfl rfl ?_; clear Z az; intro az Z
       refine Pl.MSPT (b := true) (by kernel_rfl) Z rfl rfl (fun W oW => r_ldA Tryd.isAgg42 Tryd.sizeOf42 Z rfl (E230 _ (Only.trans' (Only.refl NoF w223) oW)) rfl) rfl rfl ?_; clear Z az; intro az Z
       have O236 : Only NoF w w234 := (Only.trans' (Only.trans' (Only.trans' (Only.trans' O200 o207) o215) o224) o235)
       have O237 : Only NoF w209 w234 := (Only.trans' O231 o235)
       have h238 := (SliceOf.kp (nt210.2 _ (List.mem_of_getElem? hm227)).2.2.2.1 O237 (fun _ _ h => h) (fun _ _ _ _ h => h))
       refine Pl.MSGV (v := .bool (true)) Z rfl rfl gd_f rfl rfl (fun hb => rfl) Tryd.call23 (fun hb => fix_eq (congrArg Value.bool hja.2.1) (has39_v_ (NtV.k t1 O236) (x := m226) (okN.k (nt210.2 _ (List.mem_of_getElem? hm227)) O237))) rfl (fun w' o' => ⟨fun _ => (Only.trans' o235 o'), (Only.trans (Only.trans (Only.refl NoF w223) o235 (fun _ h => h.elim)) o' (fun _ h => h.elim))⟩) fun w239 o240 => ?_; clear Z az; intro az Z
       refine Pl.MSPT (b := true) (by kernel_rfl) Z rfl rfl (fun W oW => r_not Z rfl) rfl rfl ?_; clear Z az; intro az Z
       refine Pl.MSP (b := true) (by kernel_rfl) (fun W oW => r_pick Z rfl rfl rfl) Z rfl rfl ?_; clear Z az; intro az Z
       refine Pl.MSP (b := true) (by kernel_rfl) (fun W oW => r_mv Z rfl) Z rfl rfl ?_; clear Z az; intro az Z
       refine Pl.MSPT (b := true) (by kernel_rfl) Z rfl rfl (fun W oW => r_mv Z rfl) rfl rfl ?_; clear Z az; intro az Z
       refine Pl.MSPT (b := true) (by kernel_rfl) Z rfl rfl (fun W oW => (r_cast (b := false) (r_gtI Z rfl rfl) (decide_eq_false (by omega)))) rfl rfl ?_; clear Z az; intro az Z
       refine Pl.MSPT (b := true) (by kernel_rfl) Z rfl rfl (fun W oW => r_mv Z rfl) rfl rfl ?_; clear Z az; intro az Z
       refine Pl.MSPF Z rfl rfl (by exact rfl) rfl rfl ?_; clear Z az; intro az Z
       refine Pl.MSPF Z rfl rfl (by exact rfl) rfl rfl ?_; clear Z az; intro az Z
       refine Pl.MSPF Z rfl rfl (by exact rfl) rfl rfl ?_; clear Z az; intro az Z
       refine Pl.MSPF Z rfl rfl (by exact rfl) rfl rfl ?_; clear Z az; intro az Z
       refine Pl.MSPF Z rfl rfl (by exact rfl) rfl rfl ?_; clear Z az; intro az Z
       refine Pl.MSPF Z rfl rfl (by exact rfl) rfl rfl ?_; clear Z az; intro az Z
       refine Pl.MSPF Z rfl rfl (by exact rfl) rfl rfl ?_; clear Z az; intro az Z
       refine Pl.MSPF Z rfl rfl (by exact rfl) rfl rfl ?_; clear Z az; intro az Z
       refine Pl.MSPF Z rfl rfl (by exact rfl) rfl rfl ?_; clear Z az; intro az Z
       refine Pl.MSPF Z rfl rfl (by exact rfl) rfl rfl ?_; clear Z az; intro az Z
       refine Pl.MSPF Z rfl rfl (by exact rfl) rfl rfl ?_; clear Z az; intro az Z
       refine Pl.MSPF Z rfl rfl (by exact rfl) rfl rfl ?_; clear Z az; intro az Z
       refine Pl.MSPF Z rfl rfl (by exact rfl) rfl rfl ?_; clear Z az; intro az Z
       refine Pl.MSPF Z rfl rfl (by exact rfl) rfl rfl ?_; clear Z az; intro az Z
       refine Pl.MSPF Z rfl rfl (by exact rfl) rfl rfl ?_; clear Z az; intro az Z
       refine Pl.MSPF Z rfl rfl (by exact rfl) rfl rfl ?_; clear Z az; intro az Z
       refine Pl.MSPF Z rfl rfl (by exact rfl) rfl rfl ?_; clear Z az; intro az Z
       refine Pl.MSPF Z rfl rfl (by exact rfl) rfl rfl ?_; clear Z az; intro az Z
       refine Pl.MSPF Z rfl rfl (by exact rfl) rfl rfl ?_; clear Z az; intro az Z
       refine Pl.MSPF Z rfl rfl (by exact rfl) rfl rfl ?_; clear Z az; intro az Z
       refine Pl.MSPF Z rfl rfl (by exact rfl) rfl rfl ?_; clear Z az; intro az Z
       refine Pl.MSPF Z rfl rfl (by exact rfl) rfl rfl ?_; clear Z az; intro az Z
       refine Pl.MSPF Z rfl rfl (by exact rfl) rfl rfl ?_; clear Z az; intro az Z
       refine Pl.MSPF Z rfl rfl (by exact rfl) rfl rfl ?_; clear Z az; intro az Z
       refine Pl.MSPF Z rfl rfl (by exact rfl) rfl rfl ?_; clear Z az; intro az Z
       refine Pl.MSPF Z rfl rfl (by exact rfl) rfl rfl ?_; clear Z az; intro az Z
       refine Pl.MSPF Z rfl rfl (by exact rfl) rfl rfl ?_; clear Z az; intro az Z
       refine Pl.MSPF Z rfl rfl (by exact rfl) rfl rfl ?_; clear Z az; intro az Z
       refine Pl.MSPF Z rfl rfl (by exact rfl) rfl rfl ?_; clear Z az; intro az Z
       refine Pl.MSPF Z rfl rfl (by exact rfl) rfl rfl ?_; clear Z az; intro az Z
       refine Pl.MSPF Z rfl rfl (by exact rfl) rfl rfl ?_; clear Z az; intro az Z
       refine Pl.MSPF Z rfl rfl (by exact rfl) rfl rfl ?_; clear Z az; intro az Z
       refine Pl.MSPF Z rfl rfl (by exact rfl) rfl rfl ?_; clear Z az; intro az Z
       refine Pl.MSPF Z rfl rfl (by exact rfl) rfl rfl ?_; clear Z az; intro az Z
       refine Pl.MSPF Z rfl rfl (by exact rfl) rfl rfl ?_; clear Z az; intro az Z
       refine Pl.MSPF Z rfl rfl (by exact rfl) rfl rfl ?_; clear Z az; intro az Z
       refine Pl.MSPF Z rfl rfl (by exact rfl) rfl rfl ?_; clear Z az; intro az Z
       refine Pl.MSPF Z rfl rfl (by exact rfl) rfl rfl ?_; clear Z az; intro az Z
       refine Pl.MSPF Z rfl rfl (by exact rfl) rfl rfl ?_; clear Z az; intro az Z
       refine Pl.MSPF Z rfl rfl (by exact rfl) rfl rfl ?_; clear Z az; intro az Z
       refine Pl.MSPF Z rfl rfl (by exact rfl) rfl rfl ?_; clear Z az; intro az Z
       refine Pl.MSPF Z rfl rfl (by exact rfl) rfl rfl ?_; clear Z az; intro az Z
       refine Pl.MSPF Z rfl rfl (by exact rfl) rfl rfl ?_; clear Z az; intro az Z
       refine Pl.MSPT (b := true) (by kernel_rfl) Z rfl rfl (fun W oW => r_pick Z rfl rfl rfl) rfl rfl ?_; clear Z az; intro az Z
       refine Pl.MSP (b := true) (by kernel_rfl) (fun W oW => r_pick Z rfl rfl rfl) Z rfl rfl ?_; clear Z az; intro az Z
       refine Pl.MSP (b := true) (by kernel_rfl) (fun W oW => r_mv Z rfl) Z rfl rfl ?_; clear Z az; intro az Z
       refine Pl.MSPT (b := true) (by kernel_rfl) Z rfl rfl (fun W oW => r_mv Z rfl) rfl rfl ?_; clear Z az; intro az Z
       refine Pl.MSPT (b := true) (by kernel_rfl) Z rfl rfl (fun W oW => r_mv Z rfl) rfl rfl ?_; clear Z az; intro az Z
       have O241 : Only NoF w209 w239 := (Only.trans' O237 o240)
       have nt242 := NtS.top (m := k) (NtV.k nt210 O241) (by omega)
       have hl243 : (k : Int) = ((List.take k L203).length : Int) := by rw [List.length_take, Nat.min_eq_left (by omega)]
       have hc244 : (List.take k L203).length ≤ c202 := Nat.le_trans (by rw [List.length_take]; omega) (SliceOf.cap_ (NtV.k nt210 O241).1)
       refine Pl.MSPT (b := true) (by kernel_rfl) Z rfl rfl (fun W oW => r_slh (m := (List.take k L203).length) (size := 5) Tryd.underlying22 Tryd.sizeOf42 Z rfl rfl hl243 hc244) rfl rfl ?_; clear Z az; intro az Z
       refine Pl.MSPT (b := true) (by kernel_rfl) Z rfl rfl (fun W oW => r_mv Z rfl) rfl rfl ?_; clear Z az; intro az Z
       refine Pl.MSPT (b := true) (by kernel_rfl) Z rfl rfl (fun W oW => r_mv Z rfl) rfl rfl ?_; clear Z az; intro az Z
       refine Pl.MSPT (b := true) (by kernel_rfl) Z rfl rfl (fun W oW => r_ia (k := k) (size := 5) Tryd.underlying22 Tryd.sizeOf42 Z rfl rfl rfl hk225 hA229) rfl rfl ?_; clear Z az; intro az Z
       refine Pl.MSPT (b := true) (by kernel_rfl) Z rfl rfl (fun W oW => r_ldA Tryd.isAgg42 Tryd.sizeOf42 Z rfl (E230 _ (Only.trans' (Only.refl NoF w223) oW)) rfl) rfl rfl ?_; clear Z az; intro az Z
       have h245 := (SliceOf.kp (nt210.2 _ (List.mem_of_getElem? hm227)).2.2.2.1 O241 (fun _ _ h => h) (fun _ _ _ _ h => h))
       refine Pl.MSGV (v := .bool (false)) Z rfl rfl gd_f rfl rfl (fun hb => rfl) Tryd.call23 (fun hb => fix_eq (congrArg Value.bool hja.2.2) (has39_v_ nt242 (x := m226) (okN.k (nt210.2 _ (List.mem_of_getElem? hm227)) O241))) rfl (fun w' o' => ⟨fun _ => (Only.trans' (Only.trans' o235 o240) o'), (Only.trans (Only.trans (Only.trans (Only.refl NoF w223) o235 (fun _ h => h.elim)) o240 (fun _ h => h.elim)) o' (fun _ h => h.elim))⟩) fun w246 o247 => ?_; clear Z az; intro az Z
       refine Pl.MSP (b := true) (by kernel_rfl) (fun W oW => r_pick Z rfl rfl rfl) Z rfl rfl ?_; clear Z az; intro az Z
       refine wpPl_nil ?_
       refine k222 _ _ ?_
       refine br_false Z rfl ?_
       refine wp_skip ?_
       refine k221 _ _ ?_
       refine wp_region_lit ?_
       refine L (r_mv Z rfl) Z rfl ?_; clear Z az; intro az Z
       have i248 : I64 (((k : Int) + 1)) := by unfold I64; omega
       refine L (r_addI (r := ((k : Int) + 1)) Z rfl rfl rfl i248) Z rfl ?_; clear Z az; intro az Z
       refine L (r_as Z rfl) Z rfl ?_; clear Z az; intro az Z
       have O249 : Only NoF w209 w246 := (Only.trans' O241 o247)
       exact ⟨_, (by omega), k + 1, rfl, Z.cut ⟨rfl, rfl, rfl, rfl, rfl, rfl, trivial⟩, (by omega), O249⟩
     · skip
       have hk250 : (k - 1) < (L203).length := by omega
       have h256 := (SliceOf.kp nt210.1 o215 (fun _ _ h => h) (fun _ _ _ _ h => h))
       obtain ⟨m251, hm252, ok253, hA254⟩ := Row.el KN0 h256 hk250
       have E255 : ∀ W, Only NoF w214 W → CA W (eA A201 5 ((k - 1))) [.int .i64 (m251.h), .int .i64 (m251.n), .int .i64 (m251.d), .slice m251.A (m251.l.length) m251.c, strV (m251.s)] := Row.ce KN0 h256 hm252 rfl
       have hk257 : k < (L203).length := by omega
       obtain ⟨m258, hm259, ok260, hA261⟩ := Row.el KN0 h256 hk257
       have E262 : ∀ W, Only NoF w214 W → CA W (eA A201 5 (k)) [.int .i64 (m258.h), .int .i64 (m258.n), .int .i64 (m258.d), .slice m258.A (m258.l.length) m258.c, strV (m258.s)] := Row.ce KN0 h256 hm259 rfl
       have hja := jn_at hL204 hm259
       rcases jn_up hL204 hk0 hm252 hm259 with hh | hh
       · skip
         refine reg_p NoF 3 [4, 12, 72] (.rd 0 (.rd 1 (.rd 2 (.rd 3 (.ex 4 (.rd 5 (.rd 6 (.rd 7 (.rd 8 (.rd 9 (.rd 10 (.rd 11 (.ex 12 (.rd 13 (.rd 14 (.rd 15 (.rd 16 (.rd 17 (.rd 18 (.rd 19 (.rd 20 (.rd 21 (.rd 22 (.rd 23 (.rd 24 (.rd 25 (.rd 26 (.rd 27 (.rd 28 (.rd 29 (.rd 30 (.rd 31 (.rd 32 (.rd 33 (.rd 34 (.rd 35 (.rd 36 (.rd 37 (.rd 38 (.rd 39 (.rd 40 (.rd 41 (.rd 42 (.rd 43 (.rd 44 (.rd 45 (.rd 46 (.rd 47 (.rd 48 (.rd 49 (.rd 50 (.rd 51 (.rd 52 (.rd 53 (.rd 54 (.rd 55 (.rd 56 (.rd 57 (.rd 58 (.rd 59 (.rd 60 (.rd 61 (.rd 62 (.rd 63 (.rd 64 (.rd 65 (.rd 66 (.rd 67 (.rd 68 (.rd 69 (.rd 70 (.rd 71 (.ex 72 (.rd 73 .nil)))))))))))))))))))))))))))))))))))))))))))))))))))))))))))))))))))))))))) (by kernel_rfl) (by kernel_rfl) (fun _ _ _ _ _ h => h) fun w263 o264 => ?_
         refine Pl.MSP (b := true) (by kernel_rfl) (fun W oW => r_mv Z rfl) Z rfl rfl ?_; clear Z az; intro az Z
         refine Pl.MSP (b := true) (by kernel_rfl) (fun W oW => r_mv Z rfl) Z rfl rfl ?_; clear Z az; intro az Z
         refine Pl.MSP (b := true) (by kernel_rfl) (fun W oW => r_ia (k := k) (size := 5) Tryd.underlying22 Tryd.sizeOf42 Z rfl rfl rfl hk257 hA261) Z rfl rfl ?_; clear Z az; intro az Z
         refine Pl.MSP (b := true) (by kernel_rfl) (fun W oW => r_ldA Tryd.isAgg42 Tryd.sizeOf42 Z rfl (E262 _ (Only.trans' o264 oW)) rfl) Z rfl rfl ?_; clear Z az; intro az Z
         have O265 : Only NoF w209 w263 := (Only.trans' o215 o264)
         have h266 := (SliceOf.kp (nt210.2 _ (List.mem_of_getElem? hm259)).2.2.2.1 O265 (fun _ _ h => h) (fun _ _ _ _ h => h))
         refine Pl.MSV (v := .bool (true)) Z rfl rfl rfl Tryd.call22 (fix_eq (congrArg Value.bool hja.1) (Right_v (m := m258) h266)) rfl (fun w' o' => ⟨fun _ => o', (Only.trans (Only.refl NoF w263) o' (fun _ h => h.elim))⟩) fun w267 o268 => ?_; clear Z az; intro az Z
         refine Pl.MSP (b := true) (by kernel_rfl) (fun W oW => r_not Z rfl) Z rfl rfl ?_; clear Z az; intro az Z
         refine Pl.MSP (b := true) (by kernel_rfl) (fun W oW => r_mv Z rfl) Z rfl rfl ?_; clear Z az; intro az Z
         refine Pl.MSPT (b := true) (by kernel_rfl) Z rfl rfl (fun W oW => r_mv Z rfl) rfl rfl ?_; clear Z az; intro az Z
         refine Pl.MSPT (b := true) (by kernel_rfl) Z rfl rfl (fun W oW => r_mv Z rfl) rfl rfl ?_; clear Z az; intro az Z
         refine Pl.MSPT (b := true) (by kernel_rfl) Z rfl rfl (fun W oW => r_mv Z rfl) rfl rfl ?_; clear Z az; intro az Z
         refine Pl.MSPT (b := true) (by kernel_rfl) Z rfl rfl (fun W oW => r_ia (k := k) (size := 5) Tryd.underlying22 Tryd.sizeOf42 Z rfl rfl rfl hk257 hA261) rfl rfl ?_; clear Z az; intro az Z
         refine Pl.MSPT (b := true) (by kernel_rfl) Z rfl rfl (fun W oW => r_ldA Tryd.isAgg42 Tryd.sizeOf42 Z rfl (E262 _ (Only.trans' o264 oW)) rfl) rfl rfl ?_; clear Z az; intro az Z
         have O269 : Only NoF w w267 := (Only.trans' (Only.trans' (Only.trans' (Only.trans' O200 o207) o215) o264) o268)
         have O270 : Only NoF w209 w267 := (Only.trans' O265 o268)
         have h271 := (SliceOf.kp (nt210.2 _ (List.mem_of_getElem? hm259)).2.2.2.1 O270 (fun _ _ h => h) (fun _ _ _ _ h => h))
         refine Pl.MSGV (v := .bool (true)) Z rfl rfl gd_f rfl rfl (fun hb => rfl) Tryd.call23 (fun hb => fix_eq (congrArg Value.bool hja.2.1) (has39_v_ (NtV.k t1 O269) (x := m258) (okN.k (nt210.2 _ (List.mem_of_getElem? hm259)) O270))) rfl (fun w' o' => ⟨fun _ => (Only.trans' o268 o'), (Only.trans (Only.trans (Only.refl NoF w263) o268 (fun _ h => h.elim)) o' (fun _ h => h.elim))⟩) fun w272 o273 => ?_; clear Z az; intro az Z
         refine Pl.MSPT (b := true) (by kernel_rfl) Z rfl rfl (fun W oW => r_not Z rfl) rfl rfl ?_; clear Z az; intro az Z
         refine Pl.MSP (b := true) (by kernel_rfl) (fun W oW => r_pick Z rfl rfl rfl) Z rfl rfl ?_; clear Z az; intro az Z
         refine Pl.MSP (b := true) (by kernel_rfl) (fun W oW => r_mv Z rfl) Z rfl rfl ?_; clear Z az; intro az Z
         refine Pl.MSPT (b := true) (by kernel_rfl) Z rfl rfl (fun W oW => r_mv Z rfl) rfl rfl ?_; clear Z az; intro az Z
         refine Pl.MSPT (b := true) (by kernel_rfl) Z rfl rfl (fun W oW => (r_cast (b := true) (r_gtI Z rfl rfl) (decide_eq_true (by omega)))) rfl rfl ?_; clear Z az; intro az Z
         refine Pl.MSPT (b := true) (by kernel_rfl) Z rfl rfl (fun W oW => r_mv Z rfl) rfl rfl ?_; clear Z az; intro az Z
         refine Pl.MSPT (b := true) (by kernel_rfl) Z rfl rfl (fun W oW => r_mv Z rfl) rfl rfl ?_; clear Z az; intro az Z
         refine Pl.MSPT (b := true) (by kernel_rfl) Z rfl rfl (fun W oW => r_mv Z rfl) rfl rfl ?_; clear Z az; intro az Z
         have i274 : I64 (((k : Int) - 1)) := by unfold I64; omega
         refine Pl.MSPT (b := true) (by kernel_rfl) Z rfl rfl (fun W oW => r_subI (r := ((k : Int) - 1)) Z rfl rfl rfl i274) rfl rfl ?_; clear Z az; intro az Z
         refine Pl.MSPT (b := true) (by kernel_rfl) Z rfl rfl (fun W oW => (r_castI (b := ((k : Int) - 1)) (r_max Z rfl rfl) (by omega))) rfl rfl ?_; clear Z az; intro az Z
         refine Pl.MSPT (b := true) (by kernel_rfl) Z rfl rfl (fun W oW => r_ia (k := (k - 1)) (size := 5) Tryd.underlying22 Tryd.sizeOf42 Z rfl rfl (by omega) hk250 hA254) rfl rfl ?_; clear Z az; intro az Z
         refine Pl.MSPT (b := true) (by kernel_rfl) Z rfl rfl (fun W oW => r_fa (m' := 0) Tryd.underlying42 rfl Tryd.sizeOf3 rfl Z rfl rfl) rfl rfl ?_; clear Z az; intro az Z
         refine Pl.MSPT (b := true) (by kernel_rfl) Z rfl rfl (fun W oW => r_ld Tryd.isAgg3 Z rfl ((E255 _ (Only.trans' o264 oW)) 0 _ rfl)) rfl rfl ?_; clear Z az; intro az Z
         refine Pl.MSPT (b := true) (by kernel_rfl) Z rfl rfl (fun W oW => r_mv Z rfl) rfl rfl ?_; clear Z az; intro az Z
         refine Pl.MSPT (b := true) (by kernel_rfl) Z rfl rfl (fun W oW => r_mv Z rfl) rfl rfl ?_; clear Z az; intro az Z
         refine Pl.MSPT (b := true) (by kernel_rfl) Z rfl rfl (fun W oW => r_ia (k := k) (size := 5) Tryd.underlying22 Tryd.sizeOf42 Z rfl rfl rfl hk257 hA261) rfl rfl ?_; clear Z az; intro az Z
         refine Pl.MSPT (b := true) (by kernel_rfl) Z rfl rfl (fun W oW => r_fa (m' := 0) Tryd.underlying42 rfl Tryd.sizeOf3 rfl Z rfl rfl) rfl rfl ?_; clear Z az; intro az Z
         refine Pl.MSPT (b := true) (by kernel_rfl) Z rfl rfl (fun W oW => r_ld Tryd.isAgg3 Z rfl ((E262 _ (Only.trans' o264 oW)) 0 _ rfl)) rfl rfl ?_; clear Z az; intro az Z
         refine Pl.MSPT (b := true) (by kernel_rfl) Z rfl rfl (fun W oW => (r_cast (b := false) (r_gtI Z rfl rfl) (decide_eq_false (by omega)))) rfl rfl ?_; clear Z az; intro az Z
         refine Pl.MSPT (b := true) (by kernel_rfl) Z rfl rfl (fun W oW => r_mv Z rfl) rfl rfl ?_; clear Z az; intro az Z
         refine Pl.MSPT (b := true) (by kernel_rfl) Z rfl rfl (fun W oW => r_mv Z rfl) rfl rfl ?_; clear Z az; intro az Z
         refine Pl.MSPT (b := true) (by kernel_rfl) Z rfl rfl (fun W oW => r_mv Z rfl) rfl rfl ?_; clear Z az; intro az Z
         have i275 : I64 (((k : Int) - 1)) := by unfold I64; omega
         refine Pl.MSPT (b := true) (by kernel_rfl) Z rfl rfl (fun W oW => r_subI (r := ((k : Int) - 1)) Z rfl rfl rfl i275) rfl rfl ?_; clear Z az; intro az Z
         refine Pl.MSPT (b := true) (by kernel_rfl) Z rfl rfl (fun W oW => (r_castI (b := ((k : Int) - 1)) (r_max Z rfl rfl) (by omega))) rfl rfl ?_; clear Z az; intro az Z
         refine Pl.MSPT (b := true) (by kernel_rfl) Z rfl rfl (fun W oW => r_ia (k := (k - 1)) (size := 5) Tryd.underlying22 Tryd.sizeOf42 Z rfl rfl (by omega) hk250 hA254) rfl rfl ?_; clear Z az; intro az Z
         refine Pl.MSPT (b := true) (by kernel_rfl) Z rfl rfl (fun W oW => r_fa (m' := 0) Tryd.underlying42 rfl Tryd.sizeOf3 rfl Z rfl rfl) rfl rfl ?_; clear Z az; intro az Z
         refine Pl.MSPT (b := true) (by kernel_rfl) Z rfl rfl (fun W oW => r_ld Tryd.isAgg3 Z rfl ((E255 _ (Only.trans' o264 oW)) 0 _ rfl)) rfl rfl ?_; clear Z az; intro az Z
         refine Pl.MSPT (b := true) (by kernel_rfl) Z rfl rfl (fun W oW => r_mv Z rfl) rfl rfl ?_; clear Z az; intro az Z
         refine Pl.MSPT (b := true) (by kernel_rfl) Z rfl rfl (fun W oW => r_mv Z rfl) rfl rfl ?_; clear Z az; intro az Z
         refine Pl.MSPT (b := true) (by kernel_rfl) Z rfl rfl (fun W oW => r_ia (k := k) (size := 5) Tryd.underlying22 Tryd.sizeOf42 Z rfl rfl rfl hk257 hA261) rfl rfl ?_; clear Z az; intro az Z
         refine Pl.MSPT (b := true) (by kernel_rfl) Z rfl rfl (fun W oW => r_fa (m' := 0) Tryd.underlying42 rfl Tryd.sizeOf3 rfl Z rfl rfl) rfl rfl ?_; clear Z az; intro az Z
         refine Pl.MSPT (b := true) (by kernel_rfl) Z rfl rfl (fun W oW => r_ld Tryd.isAgg3 Z rfl ((E262 _ (Only.trans' o264 oW)) 0 _ rfl)) rfl rfl ?_; clear Z az; intro az Z
         refine Pl.MSPT (b := true) (by kernel_rfl) Z rfl rfl (fun W oW => (r_cast (b := false) (r_eqI Z rfl rfl) (decide_eq_false (by omega)))) rfl rfl ?_; clear Z az; intro az Z
         refine Pl.MSPT (b := true) (by kernel_rfl) Z rfl rfl (fun W oW => r_mv Z rfl) rfl rfl ?_; clear Z az; intro az Z
         refine Pl.MSPF Z rfl rfl (by exact rfl) rfl rfl ?_; clear Z az; intro az Z
         refine Pl.MSPF Z rfl rfl (by exact rfl) rfl rfl ?_; clear Z az; intro az Z
         refine Pl.MSPF Z rfl rfl (by exact rfl) rfl rfl ?_; clear Z az; intro az Z
         refine Pl.MSPF Z rfl rfl (by exact rfl) rfl rfl ?_; clear Z az; intro az Z
         refine Pl.MSPF Z rfl rfl (by exact rfl) rfl rfl ?_; clear Z az; intro az Z
         refine Pl.MSPF Z rfl rfl (by exact rfl) rfl rfl ?_; clear Z az; intro az Z
         refine Pl.MSPF Z rfl rfl (by exact rfl) rfl rfl ?_; clear Z az; intro az Z
         refine Pl.MSPF Z rfl rfl (by exact rfl) rfl rfl ?_; clear Z az; intro az Z
         refine Pl.MSPF Z rfl rfl (by exact rfl) rfl rfl ?_; clear Z az; intro az Z
         refine Pl.MSPF Z rfl rfl (by exact rfl) rfl rfl ?_; clear Z az; intro az Z
         refine Pl.MSPF Z rfl rfl (by exact rfl) rfl rfl ?_; clear Z az; intro az Z
         refine Pl.MSPF Z rfl rfl (by exact rfl) rfl rfl ?_; clear Z az; intro az Z
         refine Pl.MSPF Z rfl rfl (by exact rfl) rfl rfl ?_; clear Z az; intro az Z
         refine Pl.MSPT (b := true) (by kernel_rfl) Z rfl rfl (fun W oW => r_pick Z rfl rfl rfl) rfl rfl ?_; clear Z az; intro az Z
         refine Pl.MSPT (b := true) (by kernel_rfl) Z rfl rfl (fun W oW => r_pick Z rfl rfl rfl) rfl rfl ?_; clear Z az; intro az Z
         refine Pl.MSPT (b := true) (by kernel_rfl) Z rfl rfl (fun W oW => r_pick Z rfl rfl rfl) rfl rfl ?_; clear Z az; intro az Z
         refine Pl.MSP (b := true) (by kernel_rfl) (fun W oW => r_pick Z rfl rfl rfl) Z rfl rfl ?_; clear Z az; intro az Z
         refine Pl.MSP (b := true) (by kernel_rfl) (fun W oW => r_mv Z rfl) Z rfl rfl ?_; clear Z az; intro az Z
         refine Pl.MSPT (b := true) (by kernel_rfl) Z rfl rfl (fun W oW => r_mv Z rfl) rfl rfl ?_; clear Z az; intro az Z
         refine Pl.MSPT (b := true) (by kernel_rfl) Z rfl rfl (fun W oW => r_mv Z rfl) rfl rfl ?_; clear Z az; intro az Z
         have O276 : Only NoF w209 w272 := (Only.trans' O270 o273)
         have nt277 := NtS.top (m := k) (NtV.k nt210 O276) (by omega)
         have hl278 : (k : Int) = ((List.take k L203).length : Int) := by rw [List.length_take, Nat.min_eq_left (by omega)]
         have hc279 : (List.take k L203).length ≤ c202 := Nat.le_trans (by rw [List.length_take]; omega) (SliceOf.cap_ (NtV.k nt210 O276).1)
         refine Pl.MSPT (b := true) (by kernel_rfl) Z rfl rfl (fun W oW => r_slh (m := (List.take k L203).length) (size := 5) Tryd.underlying22 Tryd.sizeOf42 Z rfl rfl hl278 hc279) rfl rfl ?_; clear Z az; intro az Z
         refine Pl.MSPT (b := true) (by kernel_rfl) Z rfl rfl (fun W oW => r_mv Z rfl) rfl rfl ?_; clear Z az; intro az Z
         refine Pl.MSPT (b := true) (by kernel_rfl) Z rfl rfl (fun W oW => r_mv Z rfl) rfl rfl ?_; clear Z az; intro az Z
         refine Pl.MSPT (b := true) (by kernel_rfl) Z rfl rfl (fun W oW => r_ia (k := k) (size := 5) Tryd.underlying22 Tryd.sizeOf42 Z rfl rfl rfl hk257 hA261) rfl rfl ?_; clear Z az; intro az Z
         refine Pl.MSPT (b := true) (by kernel_rfl) Z rfl rfl (fun W oW => r_ldA Tryd.isAgg42 Tryd.sizeOf42 Z rfl (E262 _ (Only.trans' o264 oW)) rfl) rfl rfl ?_; clear Z az; intro az Z
         have h280 := (SliceOf.kp (nt210.2 _ (List.mem_of_getElem? hm259)).2.2.2.1 O276 (fun _ _ h => h) (fun _ _ _ _ h => h))
         refine Pl.MSGV (v := .bool (false)) Z rfl rfl gd_f rfl rfl (fun hb => rfl) Tryd.call23 (fun hb => fix_eq (congrArg Value.bool hja.2.2) (has39_v_ nt277 (x := m258) (okN.k (nt210.2 _ (List.mem_of_getElem? hm259)) O276))) rfl (fun w' o' => ⟨fun _ => (Only.trans' (Only.trans' o268 o273) o'), (Only.trans (Only.trans (Only.trans (Only.refl NoF w263) o268 (fun _ h => h.elim)) o273 (fun _ h => h.elim)) o' (fun _ h => h.elim))⟩) fun w281 o282 => ?_; clear Z az; intro az Z
         refine Pl.MSP (b := true) (by kernel_rfl) (fun W oW => r_pick Z rfl rfl rfl) Z rfl rfl ?_; clear Z az; intro az Z
         refine wpPl_nil ?_
         refine k222 _ _ ?_
         refine br_false Z rfl ?_
         refine wp_skip ?_
         refine k221 _ _ ?_
         refine wp_region_lit ?_
         refine L (r_mv Z rfl) Z rfl ?_; clear Z az; intro az Z
         have i283 : I64 (((k : Int) + 1)) := by unfold I64; omega
         refine L (r_addI (r := ((k : Int) + 1)) Z rfl rfl rfl i283) Z rfl ?_; clear Z az; intro az Z
         refine L (r_as Z rfl) Z rfl ?_; clear Z az; intro az Z
         have O284 : Only NoF w209 w281 := (Only.trans' O276 o282)
         exact ⟨_, (by omega), k + 1, rfl, Z.cut ⟨rfl, rfl, rfl, rfl, rfl, rfl, trivial⟩, (by omega), O284⟩
       · skip
         refine reg_p NoF 3 [4, 12, 72] (.rd 0 (.rd 1 (.rd 2 (.rd 3 (.ex 4 (.rd 5 (.rd 6 (.rd 7 (.rd 8 (.rd 9 (.rd 10 (.rd 11 (.ex 12 (.rd 13 (.rd 14 (.rd 15 (.rd 16 (.rd 17 (.rd 18 (.rd 19 (.rd 20 (.rd 21 (.rd 22 (.rd 23 (.rd 24 (.rd 25 (.rd 26 (.rd 27 (.rd 28 (.rd 29 (.rd 30 (.rd 31 (.rd 32 (.rd 33 (.rd 34 (.rd 35 (.rd 36 (.rd 37 (.rd 38 (.rd 39 (.rd 40 (.rd 41 (.rd 42 (.rd 43 (.rd 44 (.rd 45 (.rd 46 (.rd 47 (.rd 48 (.rd 49 (.rd 50 (.rd 51 (.rd 52 (.rd 53 (.rd 54 (.rd 55 (.rd 56 (.rd 57 (.rd 58 (.rd 59 (.rd 60 (.rd 61 (.rd 62 (.rd 63 (.rd 64 (.rd 65 (.rd 66 (.rd 67 (.rd 68 (.rd 69 (.rd 70 (.rd 71 (.ex 72 (.rd 73 .nil)))))))))))))))))))))))))))))))))))))))))))))))))))))))))))))))))))))))))) (by kernel_rfl) (by kernel_rfl) (fun _ _ _ _ _ h => h) fun w285 o286 => ?_
         refine Pl.MSP (b := true) (by kernel_rfl) (fun W oW => r_mv Z rfl) Z rfl rfl ?_; clear Z az; intro az Z
         refine Pl.MSP (b := true) (by kernel_rfl) (fun W oW => r_mv Z rfl) Z rfl rfl ?_; clear Z az; intro az Z
         refine Pl.MSP (b := true) (by kernel_rfl) (fun W oW => r_ia (k := k) (size := 5) Tryd.underlying22 Tryd.sizeOf42 Z rfl rfl rfl hk257 hA261) Z rfl rfl ?_; clear Z az; intro az Z
         refine Pl.MSP (b := true) (by kernel_rfl) (fun W oW => r_ldA Tryd.isAgg42 Tryd.sizeOf42 Z rfl (E262 _ (Only.trans' o286 oW)) rfl) Z rfl rfl ?_; clear Z az; intro az Z
         have O287 : Only NoF w209 w285 := (Only.trans' o215 o286)
         have h288 := (SliceOf.kp (nt210.2 _ (List.mem_of_getElem? hm259)).2.2.2.1 O287 (fun _ _ h => h) (fun _ _ _ _ h => h))
         refine Pl.MSV (v := .bool (true)) Z rfl rfl rfl Tryd.call22 (fix_eq (congrArg Value.bool hja.1) (Right_v (m := m258) h288)) rfl (fun w' o' => ⟨fun _ => o', (Only.trans (Only.refl NoF w285) o' (fun _ h => h.elim))⟩) fun w289 o290 => ?_; clear Z az; intro az Z
         refine Pl.MSP (b := true) (by kernel_rfl) (fun W oW => r_not Z rfl) Z rfl rfl ?_; clear Z az; intro az Z
         refine Pl.MSP (b := true) (by kernel_rfl) (fun W oW => r_mv Z rfl) Z rfl rfl ?_; clear Z az; intro az Z
         refine Pl.MSPT (b := true) (by kernel_rfl) Z rfl rfl (fun W oW => r_mv Z rfl) rfl rfl ?_; clear Z az; intro az Z
         refine Pl.MSPT (b := true) (by kernel_rfl) Z rfl rfl (fun W oW => r_mv Z rfl) rfl rfl ?_; clear Z az; intro az Z
         refine Pl.MSPT (b := true) (by kernel_rfl) Z rfl rfl (fun W oW => r_mv Z rfl) rfl rfl ?_; clear Z az; intro az Z
         refine Pl.MSPT (b := true) (by kernel_rfl) Z rfl rfl (fun W oW => r_ia (k := k) (size := 5) Tryd.underlying22 Tryd.sizeOf42 Z rfl rfl rfl hk257 hA261) rfl rfl ?_; clear Z az; intro az Z
         refine Pl.MSPT (b := true) (by kernel_rfl) Z rfl rfl (fun W oW => r_ldA Tryd.isAgg42 Tryd.sizeOf42 Z rfl (E262 _ (Only.trans' o286 oW)) rfl) rfl rfl ?_; clear Z az; intro az Z
         have O291 : Only NoF w w289 := (Only.trans' (Only.trans' (Only.trans' (Only.trans' O200 o207) o215) o286) o290)
         have O292 : Only NoF w209 w289 := (Only.trans' O287 o290)
         have h293 := (SliceOf.kp (nt210.2 _ (List.mem_of_getElem? hm259)).2.2.2.1 O292 (fun _ _ h => h) (fun _ _ _ _ h => h))
         refine Pl.MSGV (v := .bool (true)) Z rfl rfl gd_f rfl rfl (fun hb => rfl) Tryd.call23 (fun hb => fix_eq (congrArg Value.bool hja.2.1) (has39_v_ (NtV.k t1 O291) (x := m258) (okN.k (nt210.2 _ (List.mem_of_getElem? hm259)) O292))) rfl (fun w' o' => ⟨fun _ => (Only.trans' o290 o'), (Only.trans (Only.trans (Only.refl NoF w285) o290 (fun _ h => h.elim)) o' (fun _ h => h.elim))⟩) fun w294 o295 => ?_; clear Z az; intro az Z
         refine Pl.MSPT (b := true) (by kernel_rfl) Z rfl rfl (fun W oW => r_not Z rfl) rfl rfl ?_; clear Z az; intro az Z
         refine Pl.MSP (b := true) (by kernel_rfl) (fun W oW => r_pick Z rfl rfl rfl) Z rfl rfl ?_; clear Z az; intro az Z
         refine Pl.MSP (b := true) (by kernel_rfl) (fun W oW => r_mv Z rfl) Z rfl rfl ?_; clear Z az; intro az Z
         refine Pl.MSPT (b := true) (by kernel_rfl) Z rfl rfl (fun W oW => r_mv Z rfl) rfl rfl ?_; clear Z az; intro az Z
         refine Pl.MSPT (b := true) (by kernel_rfl) Z rfl rfl (fun W oW => (r_cast (b := true) (r_gtI Z rfl rfl) (decide_eq_true (by omega)))) rfl rfl ?_; clear Z az; intro az Z
         refine Pl.MSPT (b := true) (by kernel_rfl) Z rfl rfl (fun W oW => r_mv Z rfl) rfl rfl ?_; clear Z az; intro az Z
         refine Pl.MSPT (b := true) (by kernel_rfl) Z rfl rfl (fun W oW => r_mv Z rfl) rfl rfl ?_; clear Z az; intro az Z
         refine Pl.MSPT (b := true) (by kernel_rfl) Z rfl rfl (fun W oW => r_mv Z rfl) rfl rfl ?_; clear Z az; intro az Z
         have i296 : I64 (((k : Int) - 1)) := by unfold I64; omega
         refine Pl.MSPT (b := true) (by kernel_rfl) Z rfl rfl (fun W oW => r_subI (r := ((k : Int) - 1)) Z rfl rfl rfl i296) rfl rfl ?_; clear Z az; intro az Z
         refine Pl.MSPT (b := true) (by kernel_rfl) Z rfl rfl (fun W oW => (r_castI (b := ((k : Int) - 1)) (r_max Z rfl rfl) (by omega))) rfl rfl ?_; clear Z az; intro az Z
         refine Pl.MSPT (b := true) (by kernel_rfl) Z rfl rfl (fun W oW => r_ia (k := (k - 1)) (size := 5) Tryd.underlying22 Tryd.sizeOf42 Z rfl rfl (by omega) hk250 hA254) rfl rfl ?_; clear Z az; intro az Z
         refine Pl.MSPT (b := true) (by kernel_rfl) Z rfl rfl (fun W oW => r_fa (m' := 0) Tryd.underlying42 rfl Tryd.sizeOf3 rfl Z rfl rfl) rfl rfl ?_; clear Z az; intro az Z
         refine Pl.MSPT (b := true) (by kernel_rfl) Z rfl rfl (fun W oW => r_ld Tryd.isAgg3 Z rfl ((E255 _ (Only.trans' o286 oW)) 0 _ rfl)) rfl rfl ?_; clear Z az; intro az Z
         refine Pl.MSPT (b := true) (by kernel_rfl) Z rfl rfl (fun W oW => r_mv Z rfl) rfl rfl ?_; clear Z az; intro az Z
         refine Pl.MSPT (b := true) (by kernel_rfl) Z rfl rfl (fun W oW => r_mv Z rfl) rfl rfl ?_; clear Z az; intro az Z
         refine Pl.MSPT (b := true) (by kernel_rfl) Z rfl rfl (fun W oW => r_ia (k := k) (size := 5) Tryd.underlying22 Tryd.sizeOf42 Z rfl rfl rfl hk257 hA261) rfl rfl ?_; clear Z az; intro az Z
         refine Pl.MSPT (b := true) (by kernel_rfl) Z rfl rfl (fun W oW => r_fa (m' := 0) Tryd.underlying42 rfl Tryd.sizeOf3 rfl Z rfl rfl) rfl rfl ?_; clear Z az; intro az Z
         refine Pl.MSPT (b := true) (by kernel_rfl) Z rfl rfl (fun W oW => r_ld Tryd.isAgg3 Z rfl ((E262 _ (Only.trans' o286 oW)) 0 _ rfl)) rfl rfl ?_; clear Z az; intro az Z
         refine Pl.MSPT (b := true) (by kernel_rfl) Z rfl rfl (fun W oW => (r_cast (b := false) (r_gtI Z rfl rfl) (decide_eq_false (by omega)))) rfl rfl ?_; clear Z az; intro az Z
         refine Pl.MSPT (b := true) (by kernel_rfl) Z rfl rfl (fun W oW => r_mv Z rfl) rfl rfl ?_; clear Z az; intro az Z
         refine Pl.MSPT (b := true) (by kernel_rfl) Z rfl rfl (fun W oW => r_mv Z rfl) rfl rfl ?_; clear Z az; intro az Z
         refine Pl.MSPT (b := true) (by kernel_rfl) Z rfl rfl (fun W oW => r_mv Z rfl) rfl rfl ?_; clear Z az; intro az Z
         have i297 : I64 (((k : Int) - 1)) := by unfold I64; omega
         refine Pl.MSPT (b := true) (by kernel_rfl) Z rfl rfl (fun W oW => r_subI (r := ((k : Int) - 1)) Z rfl rfl rfl i297) rfl rfl ?_; clear Z az; intro az Z
         refine Pl.MSPT (b := true) (by kernel_rfl) Z rfl rfl (fun W oW => (r_castI (b := ((k : Int) - 1)) (r_max Z rfl rfl) (by omega))) rfl rfl ?_; clear Z az; intro az Z
         refine Pl.MSPT (b := true) (by kernel_rfl) Z rfl rfl (fun W oW => r_ia (k := (k - 1)) (size := 5) Tryd.underlying22 Tryd.sizeOf42 Z rfl rfl (by omega) hk250 hA254) rfl rfl ?_; clear Z az; intro az Z
         refine Pl.MSPT (b := true) (by kernel_rfl) Z rfl rfl (fun W oW => r_fa (m' := 0) Tryd.underlying42 rfl Tryd.sizeOf3 rfl Z rfl rfl) rfl rfl ?_; clear Z az; intro az Z
         refine Pl.MSPT (b := true) (by kernel_rfl) Z rfl rfl (fun W oW => r_ld Tryd.isAgg3 Z rfl ((E255 _ (Only.trans' o286 oW)) 0 _ rfl)) rfl rfl ?_; clear Z az; intro az Z
         refine Pl.MSPT (b := true) (by kernel_rfl) Z rfl rfl (fun W oW => r_mv Z rfl) rfl rfl ?_; clear Z az; intro az Z
         refine Pl.MSPT (b := true) (by kernel_rfl) Z rfl rfl (fun W oW => r_mv Z rfl) rfl rfl ?_; clear Z az; intro az Z
         refine Pl.MSPT (b := true) (by kernel_rfl) Z rfl rfl (fun W oW => r_ia (k := k) (size := 5) Tryd.underlying22 Tryd.sizeOf42 Z rfl rfl rfl hk257 hA261) rfl rfl ?_; clear Z az; intro az Z
         refine Pl.MSPT (b := true) (by kernel_rfl) Z rfl rfl (fun W oW => r_fa (m' := 0) Tryd.underlying42 rfl Tryd.sizeOf3 rfl Z rfl rfl) rfl rfl ?_; clear Z az; intro az Z
         refine Pl.MSPT (b := true) (by kernel_rfl) Z rfl rfl (fun W oW => r_ld Tryd.isAgg3 Z rfl ((E262 _ (Only.trans' o286 oW)) 0 _ rfl)) rfl rfl ?_; clear Z az; intro az Z
         refine Pl.MSPT (b := true) (by kernel_rfl) Z rfl rfl (fun W oW => (r_cast (b := true) (r_eqI Z rfl rfl) (decide_eq_true (by omega)))) rfl rfl ?_; clear Z az; intro az Z
         refine Pl.MSPT (b := true) (by kernel_rfl) Z rfl rfl (fun W oW => r_mv Z rfl) rfl rfl ?_; clear Z az; intro az Z
         refine Pl.MSPT (b := true) (by kernel_rfl) Z rfl rfl (fun W oW => r_mv Z rfl) rfl rfl ?_; clear Z az; intro az Z
         refine Pl.MSPT (b := true) (by kernel_rfl) Z rfl rfl (fun W oW => r_mv Z rfl) rfl rfl ?_; clear Z az; intro az Z
         have i298 : I64 (((k : Int) - 1)) := by unfold I64; omega
         refine Pl.MSPT (b := true) (by kernel_rfl) Z rfl rfl (fun W oW => r_subI (r := ((k : Int) - 1)) Z rfl rfl rfl i298) rfl rfl ?_; clear Z az; intro az Z
         refine Pl.MSPT (b := true) (by kernel_rfl) Z rfl rfl (fun W oW => (r_castI (b := ((k : Int) - 1)) (r_max Z rfl rfl) (by omega))) rfl rfl ?_; clear Z az; intro az Z
         refine Pl.MSPT (b := true) (by kernel_rfl) Z rfl rfl (fun W oW => r_ia (k := (k - 1)) (size := 5) Tryd.underlying22 Tryd.sizeOf42 Z rfl rfl (by omega) hk250 hA254) rfl rfl ?_; clear Z az; intro az Z
         refine Pl.MSPT (b := true) (by kernel_rfl) Z rfl rfl (fun W oW => r_fa (m' := 1) Tryd.underlying42 rfl Tryd.sizeOf3 rfl Z rfl rfl) rfl rfl ?_; clear Z az; intro az Z
         refine Pl.MSPT (b := true) (by kernel_rfl) Z rfl rfl (fun W oW => r_ld Tryd.isAgg3 Z rfl ((E255 _ (Only.trans' o286 oW)) 1 _ rfl)) rfl rfl ?_; clear Z az; intro az Z
         refine Pl.MSPT (b := true) (by kernel_rfl) Z rfl rfl (fun W oW => r_mv Z rfl) rfl rfl ?_; clear Z az; intro az Z
         refine Pl.MSPT (b := true) (by kernel_rfl) Z rfl rfl (fun W oW => r_mv Z rfl) rfl rfl ?_; clear Z az; intro az Z
         refine Pl.MSPT (b := true) (by kernel_rfl) Z rfl rfl (fun W oW => r_ia (k := k) (size := 5) Tryd.underlying22 Tryd.sizeOf42 Z rfl rfl rfl hk257 hA261) rfl rfl ?_; clear Z az; intro az Z
         refine Pl.MSPT (b := true) (by kernel_rfl) Z rfl rfl (fun W oW => r_fa (m' := 1) Tryd.underlying42 rfl Tryd.sizeOf3 rfl Z rfl rfl) rfl rfl ?_; clear Z az; intro az Z
         refine Pl.MSPT (b := true) (by kernel_rfl) Z rfl rfl (fun W oW => r_ld Tryd.isAgg3 Z rfl ((E262 _ (Only.trans' o286 oW)) 1 _ rfl)) rfl rfl ?_; clear Z az; intro az Z
         refine Pl.MSPT (b := true) (by kernel_rfl) Z rfl rfl (fun W oW => (r_cast (b := false) (r_gtI Z rfl rfl) (decide_eq_false (by omega)))) rfl rfl ?_; clear Z az; intro az Z
         refine Pl.MSPT (b := true) (by kernel_rfl) Z rfl rfl (fun W oW => r_pick Z rfl rfl rfl) rfl rfl ?_; clear Z az; intro az Z
         refine Pl.MSPT (b := true) (by kernel_rfl) Z rfl rfl (fun W oW => r_pick Z rfl rfl rfl) rfl rfl ?_; clear Z az; intro az Z
         refine Pl.MSPT (b := true) (by kernel_rfl) Z rfl rfl (fun W oW => r_pick Z rfl rfl rfl) rfl rfl ?_; clear Z az; intro az Z
         refine Pl.MSP (b := true) (by kernel_rfl) (fun W oW => r_pick Z rfl rfl rfl) Z rfl rfl ?_; clear Z az; intro az Z
         refine Pl.MSP (b := true) (by kernel_rfl) (fun W oW => r_mv Z rfl) Z rfl rfl ?_; clear Z az; intro az Z
         refine Pl.MSPT (b := true) (by kernel_rfl) Z rfl rfl (fun W oW => r_mv Z rfl) rfl rfl ?_; clear Z az; intro az Z
         refine Pl.MSPT (b := true) (by kernel_rfl) Z rfl rfl (fun W oW => r_mv Z rfl) rfl rfl ?_; clear Z az; intro az Z
         have O299 : Only NoF w209 w294 := (Only.trans' O292 o295)
         have nt300 := NtS.top (m := k) (NtV.k nt210 O299) (by omega)
         have hl301 : (k : Int) = ((List.take k L203).length : Int) := by rw [List.length_take, Nat.min_eq_left (by omega)]
         have hc302 : (List.take k L203).length ≤ c202 := Nat.le_trans (by rw [List.length_take]; omega) (SliceOf.cap_ (NtV.k nt210 O299).1)
         refine Pl.MSPT (b := true) (by kernel_rfl) Z rfl rfl (fun W oW => r_slh (m := (List.take k L203).length) (size := 5) Tryd.underlying22 Tryd.sizeOf42 Z rfl rfl hl301 hc302) rfl rfl ?_; clear Z az; intro az Z
         refine Pl.MSPT (b := true) (by kernel_rfl) Z rfl rfl (fun W oW => r_mv Z rfl) rfl rfl ?_; clear Z az; intro az Z
         refine Pl.MSPT (b := true) (by kernel_rfl) Z rfl rfl (fun W oW => r_mv Z rfl) rfl rfl ?_; clear Z az; intro az Z
         refine Pl.MSPT (b := true) (by kernel_rfl) Z rfl rfl (fun W oW => r_ia (k := k) (size := 5) Tryd.underlying22 Tryd.sizeOf42 Z rfl rfl rfl hk257 hA261) rfl rfl ?_; clear Z az; intro az Z
         refine Pl.MSPT (b := true) (by kernel_rfl) Z rfl rfl (fun W oW => r_ldA Tryd.isAgg42 Tryd.sizeOf42 Z rfl (E262 _ (Only.trans' o286 oW)) rfl) rfl rfl ?_; clear Z az; intro az Z
         have h303 := (SliceOf.kp (nt210.2 _ (List.mem_of_getElem? hm259)).2.2.2.1 O299 (fun _ _ h => h) (fun _ _ _ _ h => h))
         refine Pl.MSGV (v := .bool (false)) Z rfl rfl gd_f rfl rfl (fun hb => rfl) Tryd.call23 (fun hb => fix_eq (congrArg Value.bool hja.2.2) (has39_v_ nt300 (x := m258) (okN.k (nt210.2 _ (List.mem_of_getElem? hm259)) O299))) rfl (fun w' o' => ⟨fun _ => (Only.trans' (Only.trans' o290 o295) o'), (Only.trans (Only.trans (Only.trans (Only.refl NoF w285) o290 (fun _ h => h.elim)) o295 (fun _ h => h.elim)) o' (fun _ h => h.elim))⟩) fun w304 o305 => ?_; clear Z az; intro az Z
         refine Pl.MSP (b := true) (by kernel_rfl) (fun W oW => r_pick Z rfl rfl rfl) Z rfl rfl ?_; clear Z az; intro az Z
         refine wpPl_nil ?_
         refine k222 _ _ ?_
         refine br_false Z rfl ?_
         refine wp_skip ?_
         refine k221 _ _ ?_
         refine wp_region_lit ?_
         refine L (r_mv Z rfl) Z rfl ?_; clear Z az; intro az Z
         have i306 : I64 (((k : Int) + 1)) := by unfold I64; omega
         refine L (r_addI (r := ((k : Int) + 1)) Z rfl rfl rfl i306) Z rfl ?_; clear Z az; intro az Z
         refine L (r_as Z rfl) Z rfl ?_; clear Z az; intro az Z
         have O307 : Only NoF w209 w304 := (Only.trans' O299 o305)
         exact ⟨_, (by omega), k + 1, rfl, Z.cut ⟨rfl, rfl, rfl, rfl, rfl, rfl, trivial⟩, (by omega), O307⟩
    ·
     have p308 := of_decide_eq_false hc219
     refine wp_exit ?_
     refine th_exit ?_
     refine th_exit ?_
     refine ib_hit ?_
     refine k212 _ _ (wp_seq_k fun _ k309 => wp_region_lit ?_)
     refine L (r_mv Z rfl) Z rfl ?_; clear Z az; intro az Z
     refine L (r_mv Z rfl) Z rfl ?_; clear Z az; intro az Z
     refine LT Z rfl rfl (r_mv Z rfl) rfl ?_; clear Z az; intro az Z
     refine LT Z rfl rfl (r_mv Z rfl) rfl ?_; clear Z az; intro az Z
     refine LT Z rfl rfl (r_lenL Tryd.underlying22 Z rfl) rfl ?_; clear Z az; intro az Z
     refine LT Z rfl rfl ((r_cast (b := true) (r_eqI Z rfl rfl) (decide_eq_true (ord_sum hz (by omega) hL21)))) rfl ?_; clear Z az; intro az Z
     refine L (r_pick Z rfl rfl rfl) Z rfl ?_; clear Z az; intro az Z
     refine L (r_mv Z rfl) Z rfl ?_; clear Z az; intro az Z
     refine LT Z rfl rfl (r_mv Z rfl) rfl ?_; clear Z az; intro az Z
     have O311 : Only NoF w w214 := (Only.trans' (Only.trans' O200 o207) o215)
     have G310 := Gr.k hG O311
     have hC319 := (by have h0 := Past_v_ G310 (NtV.k nt210 o215) hm211 (-1); rw [(join_ns hL204)] at h0; exact h0)
     refine LCT Z rfl rfl rfl rfl Tryd.call16 (hC319) rfl ?_
     rintro e w320 ⟨A312, c313, L314, rfl, hL315, hS316, hN317, o318⟩; refine ⟨_, rfl, ?_⟩
     clear Z az; intro az Z
     have nt321 : NtV w320 (.slice A312 (L314.length) c313) L314 := ⟨SliceOf.pl hS316, OkNs.pl hN317⟩
     have hm322 : L314.length ≤ 1000000 := (pst_lim hL315)
     refine LT Z rfl rfl (r_len0 Tryd.underlying22 Z rfl (ns_nil hL315 (past_neg La))) rfl ?_; clear Z az; intro az Z
     refine LT Z rfl rfl (r_eqRI Z rfl rfl) rfl ?_; clear Z az; intro az Z
     refine L (r_pick Z rfl rfl rfl) Z rfl ?_; clear Z az; intro az Z
     refine L (r_as Z rfl) Z rfl ?_; clear Z az; intro az Z
     refine k309 _ _ ?_
     refine wp_ret ?_
     show bodyPost _ _ _ .ret _ _
     refine ret_of (vs := [.bool (true)]) Z Tryd.results4 ⟨rfl, trivial⟩ ?_
     have O323 : Only NoF w w320 := (Only.trans' O311 o318)
     exact ⟨rfl, O323⟩
theorem orders39_v {w : World} (hG : Gr w) {v1 : Value} {La : List NM} (f1 : NotesV w w v1 La) : Calls Tryd.prog 4 #[v1] w (Fix (.bool true) w) := by
 obtain ⟨A1, c1, rfl, _⟩ := SliceOf.shape f1
 exact orders39_ hG (NtV.of f1)
end Go.Proofs.YtdcbjedkddgfkaaDoor
