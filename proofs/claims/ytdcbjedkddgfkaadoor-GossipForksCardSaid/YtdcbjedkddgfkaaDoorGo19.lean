/-
  Gossip: GossipForks, walked: it returns true. Condition: the listed variables.
-/
import Derived.Test.YtdcbjedkddgfkaaDoorGoL
namespace Go.Proofs.YtdcbjedkddgfkaaDoor
set_option linter.unusedVariables false
set_option linter.unusedSimpArgs false
set_option linter.unusedSectionVars false
open Go.RowKit
section
variable {N : List RM} {i : Nat} {m : RM} {h f : Int}
theorem fd_no (hA : N.Pairwise fun a b => a.h < b.h) (hm : N[i]? = some m) (hc : decide (m.h = h) = false) (hf : f = foundN (N.take i) h) : f = foundN (N.take (i + 1)) h := by
 rw [hf, take_succ_get hm]
 unfold foundN
 rw [List.find?_append]
 have e : List.find? (fun r : RM => decide (r.h = h)) [m] = none := by rw [List.find?_cons, hc]; rfl
 rw [e, Option.or_none]
theorem fd_yes (hA : N.Pairwise fun a b => a.h < b.h) (hm : N[i]? = some m) (hc : decide (m.h = h) = true) (hf : f = foundN (N.take i) h) : m.n = foundN (N.take (i + 1)) h := by
 have e := of_decide_eq_true hc
 rw [take_succ_get hm]
 unfold foundN
 rw [List.find?_append]
 have e1 : List.find? (fun r : RM => decide (r.h = h)) (N.take i) = none := by
  rw [List.find?_eq_none]
  intro x hx
  obtain ⟨j, hj⟩ := List.getElem?_of_mem hx
  rw [List.getElem?_take] at hj
  split at hj
  · rename_i hji
    obtain ⟨a1, a2⟩ := List.getElem?_eq_some_iff.1 hj
    obtain ⟨b1, b2⟩ := List.getElem?_eq_some_iff.1 hm
    have := List.pairwise_iff_getElem.1 hA j i a1 b1 hji
    rw [a2, b2] at this
    rw [decide_eq_true_eq]; omega
  · cases hj
 have e2 : List.find? (fun r : RM => decide (r.h = h)) [m] = some m := by rw [List.find?_cons, hc]
 rw [e1, e2]; rfl
theorem gap_end {l : List NM} (hf : f = foundN (List.take i (missN (joinN l))) h) (hi : (missN (joinN l)).length ≤ i) (h0 : 0 ≤ h) (h4 : h < 400) : f = gapN l h := by
 rw [List.take_of_length_le hi] at hf
 obtain ⟨q, rfl⟩ : ∃ q : Nat, h = (q : Int) := ⟨h.toNat, by omega⟩
 rw [gap_found l (by omega), hf]
end
set_option maxRecDepth 20000 in
set_option maxHeartbeats 4000000 in
theorem forks39_ {w : World} (hG : Gr w) {La : List NM} {A1 : Option Addr} {c1 : Nat} (t1 : NtV w (.slice A1 La.length c1) La) (h : Int) : Calls Tryd.prog 8 [.slice A1 (La.length) c1, .int .i64 (h)].toArray w (Fix (.bool true) w) := by
 refine calls_start Tryd.func8 rfl rfl ?_
 intro az Z
 rw [Tryd.ntmps8] at Z
 refine wp_seq_k fun _ k1 => wp_region_lit ?_
 refine L (r_as Z rfl) Z rfl ?_; clear Z az; intro az Z
 refine k1 _ _ (wp_seq_k fun _ k2 => wp_region_lit ?_)
 have G3 := Gr.k hG (Only.refl NoF w)
 refine LCV (v := .bool (true)) Z rfl rfl Tryd.call9 (small39_v G3) rfl fun w4 o5 => ?_; clear Z az; intro az Z
 refine L (r_as Z rfl) Z rfl ?_; clear Z az; intro az Z
 refine k2 _ _ (wp_seq_k fun _ k6 => ?_)
 refine wp_seq_k fun _ k7 => wp_region_lit ?_
 refine L (r_mv Z rfl) Z rfl ?_; clear Z az; intro az Z
 refine LCV (v := .bool (few39 La 40)) Z rfl rfl Tryd.call10 (few39_v_ (NtV.k t1 o5) 40) rfl fun w8 o9 => ?_; clear Z az; intro az Z
 refine L (r_not Z rfl) Z rfl ?_; clear Z az; intro az Z
 refine L (r_mv Z rfl) Z rfl ?_; clear Z az; intro az Z
 refine LG Z rfl rfl gd_f (fun hb => r_mv Z rfl) rfl ?_; clear Z az; intro az Z
 refine LG Z rfl rfl gd_f (fun hb => r_ltI Z (evg hb rfl) rfl) rfl ?_; clear Z az; intro az Z
 refine L (r_or Z rfl rfl rfl) Z rfl ?_; clear Z az; intro az Z
 refine L (r_mv Z rfl) Z rfl ?_; clear Z az; intro az Z
 refine LG Z rfl rfl gd_f (fun hb => r_mv Z rfl) rfl ?_; clear Z az; intro az Z
 refine LG Z rfl rfl gd_f (fun hb => r_geI Z (evg hb rfl) rfl) rfl ?_; clear Z az; intro az Z
 refine L (r_or Z rfl rfl rfl) Z rfl ?_; clear Z az; intro az Z
 refine k7 _ _ ?_
 refine br Z rfl (fun hc10 => ?_) (fun hc10 => ?_)
 ·
  have d11 := hc10
  refine wp_seq_k fun _ k12 => wp_region_lit ?_
  refine L (r_mv Z rfl) Z rfl ?_; clear Z az; intro az Z
  refine L (r_as Z rfl) Z rfl ?_; clear Z az; intro az Z
  refine k12 _ _ ?_
  refine wp_ret ?_
  show bodyPost _ _ _ .ret _ _
  refine ret_of (vs := [.bool (true)]) Z Tryd.results8 ⟨rfl, trivial⟩ ?_
  have O13 : Only NoF w w8 := (Only.trans' o5 o9)
  exact ⟨rfl, O13⟩
 ·
  have q14 : few39 La 40 = true := (nt_f (or_f (or_f hc10).1).1)
  have p15 := of_decide_eq_false (or_f (or_f hc10).1).2
  have p16 := of_decide_eq_false (or_f hc10).2
  have hlLa := few_le q14
  obtain ⟨hh0, hh4⟩ : 0 ≤ h ∧ h < 400 := by omega
  refine wp_skip ?_
  refine k6 _ _ (wp_seq_k fun _ k17 => wp_region_lit ?_)
  refine L (r_mv Z rfl) Z rfl ?_; clear Z az; intro az Z
  refine L (r_mv Z rfl) Z rfl ?_; clear Z az; intro az Z
  have O19 : Only NoF w w8 := (Only.trans' o5 o9)
  have hC20 := first_v_ (NtV.k t1 O19) h
  refine LC Z rfl rfl Tryd.call31 (hC20) rfl ?_
  rintro e w21 ⟨v, rfl, hF, o18⟩; refine ⟨_, rfl, ?_⟩
  clear Z az; intro az Z
  refine L (r_as Z rfl) Z rfl ?_; clear Z az; intro az Z
  refine k17 _ _ (wp_seq_k fun _ k22 => ?_)
  refine wp_seq_k fun _ k23 => wp_region_lit ?_
  refine L (r_mv Z rfl) Z rfl ?_; clear Z az; intro az Z
  have O25 : Only NoF w w21 := (Only.trans' O19 o18)
  have G24 := Gr.k hG O25
  have hC30 := Forks_v_ G24 (NtV.k t1 O25) (by first | omega | (simp only [List.length_cons, List.length_nil]; omega))
  refine LC Z rfl rfl Tryd.call15 (hC30) rfl ?_
  rintro e w31 ⟨A26, c27, rfl, r28, o29⟩; refine ⟨_, rfl, ?_⟩
  clear Z az; intro az Z
  refine L (r_mv Z rfl) Z rfl ?_; clear Z az; intro az Z
  have h32 := Row.own KInt r28 (forks_ok _)
  have h33 := SliceOf.pl h32
  refine LCV (v := .bool (decide (v < 400))) Z rfl rfl Tryd.call27 (fix_eq (congrArg Value.bool (first_forks hF)) (hasI_v_ h33 h)) rfl fun w34 o35 => ?_; clear Z az; intro az Z
  refine L (r_mv Z rfl) Z rfl ?_; clear Z az; intro az Z
  refine L (r_ltI Z rfl rfl) Z rfl ?_; clear Z az; intro az Z
  refine L ((r_cast (r_neB Tryd.underlying4 Z rfl rfl) (by simp : (!decide (_ = _)) = false))) Z rfl ?_; clear Z az; intro az Z
  refine L (r_mv Z rfl) Z rfl ?_; clear Z az; intro az Z
  refine LT Z rfl rfl (r_mv Z rfl) rfl ?_; clear Z az; intro az Z
  have O37 : Only NoF w w34 := (Only.trans' (Only.trans' O25 o29) o35)
  have G36 := Gr.k hG O37
  have hC43 := Heads_v_ G36 (NtV.k t1 O37) (by first | omega | (simp only [List.length_cons, List.length_nil]; omega))
  refine LCT Z rfl rfl rfl rfl Tryd.call19 (hC43) rfl ?_
  rintro e w44 ⟨A38, c39, rfl, r40, ok42, o41⟩; refine ⟨_, rfl, ?_⟩
  clear Z az; intro az Z
  have hb45 : (headsN (joinN La)).length ≤ 1000000 := heads_bnd (by first | omega | (simp only [List.length_cons, List.length_nil]; omega))
  refine LT Z rfl rfl (r_mv Z rfl) rfl ?_; clear Z az; intro az Z
  have h46 := Row.own KRef r40 ok42
  have h47 := SliceOf.pl h46
  refine LGV (v := .int .i64 (cntH (headsN (joinN La)) h)) Z rfl rfl gd_f rfl (fun hb => rfl) Tryd.call25 (fun hb => cntH_v_ h47 h) rfl fun w48 o49 => ?_; clear Z az; intro az Z
  refine LT Z rfl rfl (r_mv Z rfl) rfl ?_; clear Z az; intro az Z
  refine LT Z rfl rfl ((r_cast (b := false) (r_gtI Z rfl rfl) (decide_eq_false (Int.not_lt.2 (first_heads hF))))) rfl ?_; clear Z az; intro az Z
  refine L (r_pick Z rfl rfl rfl) Z rfl ?_; clear Z az; intro az Z
  refine k23 _ _ ?_
  refine br_false Z rfl ?_
  refine wp_skip ?_
  refine k22 _ _ (wp_seq_k fun _ k50 => wp_region_lit ?_)
  refine L (r_mv Z rfl) Z rfl ?_; clear Z az; intro az Z
  have O52 : Only NoF w w48 := (Only.trans' (Only.trans' O37 o41) o49)
  have G51 := Gr.k hG O52
  have hC58 := Missing_v_ G51 (NtV.k t1 O52) (by first | omega | (simp only [List.length_cons, List.length_nil]; omega))
  refine LC Z rfl rfl Tryd.call20 (hC58) rfl ?_
  rintro e w59 ⟨A53, c54, rfl, r55, ok57, o56⟩; refine ⟨_, rfl, ?_⟩
  clear Z az; intro az Z
  have hb60 : (missN (joinN La)).length ≤ 400 := miss_len _
  refine L (r_as Z rfl) Z rfl ?_; clear Z az; intro az Z
  refine k50 _ _ (wp_seq_k fun _ k61 => wp_region_lit ?_)
  refine L (r_as Z rfl) Z rfl ?_; clear Z az; intro az Z
  refine k61 _ _ (wp_seq_k fun _ k62 => ?_)
  refine wp_seq_k fun _ k63 => wp_region_lit ?_
  refine L (r_as Z rfl) Z rfl ?_; clear Z az; intro az Z
  refine k63 _ _ ?_
  refine wp_block ?_
  refine wp_loop_m (fun mz az W => ∃ i : Nat, ∃ f : Int, mz = (missN (joinN La)).length - i ∧ Fr 86 [(0, .slice A1 (La.length) c1), (1, .int .i64 (h)), (5, .bool (true)), (7, .slice A53 ((missN (joinN La)).length) c54), (9, .int .i64 ((i : Int))), (8, .int .i64 (f))] az ∧ (i ≤ (missN (joinN La)).length) ∧ (f = foundN (List.take i (missN (joinN La))) h) ∧ Only NoF w59 W) ?_ ?_
  ·
   exact ⟨_, 0, (-1), rfl, Z.cut ⟨rfl, rfl, rfl, rfl, rfl, rfl, trivial⟩, Nat.zero_le _, rfl, (Only.refl NoF w59)⟩
  clear Z az
  rintro mz az w64 ⟨i, f, hm66, Z, hi, hf, o65⟩
  refine wp_seq_k fun _ k67 => ?_
  refine wp_seq_k fun _ k68 => wp_region_lit ?_
  refine L (r_mv Z rfl) Z rfl ?_; clear Z az; intro az Z
  refine L (r_mv Z rfl) Z rfl ?_; clear Z az; intro az Z
  refine L (r_lenL Tryd.underlying36 Z rfl) Z rfl ?_; clear Z az; intro az Z
  refine L (r_ltI Z rfl rfl) Z rfl ?_; clear Z az; intro az Z
  refine k68 _ _ ?_
  refine br Z rfl (fun hc69 => ?_) (fun hc69 => ?_)
  ·
   have p70 := of_decide_eq_true hc69
   refine wp_skip ?_
   refine k67 _ _ (wp_seq_k fun _ k71 => ?_)
   refine wp_block ?_
   refine wp_seq_k fun _ k72 => ?_
   refine wp_seq_k fun _ k73 => ?_
   rcases Nat.eq_zero_or_pos i with hi0 | hi0
   · skip
     refine reg_q [(true, 0), (true, 1), (true, 2), (true, 3), (true, 4), (true, 5), (true, 6), (true, 7), (true, 8), (true, 9), (true, 10), (true, 11), (true, 12), (true, 13), (true, 14), (true, 15), (true, 16)] (by kernel_rfl) (by kernel_rfl) (fun _ _ _ _ _ h => h) fun w74 o75 => ?_
     refine M (r_mv Z rfl) Z rfl rfl ?_; clear Z az; intro az Z
     refine M ((r_cast (b := false) (r_gtI Z rfl rfl) (decide_eq_false (by omega)))) Z rfl rfl ?_; clear Z az; intro az Z
     refine M (r_mv Z rfl) Z rfl rfl ?_; clear Z az; intro az Z
     refine MF Z rfl rfl (by exact rfl) rfl rfl ?_; clear Z az; intro az Z
     refine MF Z rfl rfl (by exact rfl) rfl rfl ?_; clear Z az; intro az Z
     refine MF Z rfl rfl (by exact rfl) rfl rfl ?_; clear Z az; intro az Z
     refine MF Z rfl rfl (by exact rfl) rfl rfl ?_; clear Z az; intro az Z
     refine MF Z rfl rfl (by exact rfl) rfl rfl ?_; clear Z az; intro az Z
     refine MF Z rfl rfl (by exact rfl) rfl rfl ?_; clear Z az; intro az Z
     refine MF Z rfl rfl (by exact rfl) rfl rfl ?_; clear Z az; intro az Z
     refine MF Z rfl rfl (by exact rfl) rfl rfl ?_; clear Z az; intro az Z
     refine MF Z rfl rfl (by exact rfl) rfl rfl ?_; clear Z az; intro az Z
     refine MF Z rfl rfl (by exact rfl) rfl rfl ?_; clear Z az; intro az Z
     refine MF Z rfl rfl (by exact rfl) rfl rfl ?_; clear Z az; intro az Z
     refine MF Z rfl rfl (by exact rfl) rfl rfl ?_; clear Z az; intro az Z
     refine MF Z rfl rfl (by exact rfl) rfl rfl ?_; clear Z az; intro az Z
     refine M (r_pick Z rfl rfl rfl) Z rfl rfl ?_; clear Z az; intro az Z
     refine wpMix_nil ?_
     refine k73 _ _ ?_
     refine br_false Z rfl ?_
     refine wp_skip ?_
     refine k72 _ _ (wp_seq_k fun _ k76 => wp_region_lit ?_)
     refine L (r_mv Z rfl) Z rfl ?_; clear Z az; intro az Z
     refine L (r_mv Z rfl) Z rfl ?_; clear Z az; intro az Z
     have h77 := Row.own KRef r55 ok57
     have hk78 : i < ((missN (joinN La))).length := by omega
     have O84 : Only NoF w59 w74 := (Only.trans' o65 o75)
     have h85 := (SliceOf.kp h77 O84 (fun _ _ h => h) (fun _ _ _ _ h => h))
     obtain ⟨m79, hm80, ok81, hA82⟩ := Row.el KRef h85 hk78
     have E83 : ∀ W, Only NoF w74 W → CA W (eA A53 2 (i)) [.int .i64 (m79.h), .int .i64 (m79.n)] := Row.ce KRef h85 hm80 rfl
     refine L (r_ia (k := i) (size := 2) Tryd.underlying36 Tryd.sizeOf40 Z rfl rfl rfl hk78 hA82) Z rfl ?_; clear Z az; intro az Z
     refine L (r_fa (m' := 0) Tryd.underlying40 rfl Tryd.sizeOf3 rfl Z rfl rfl) Z rfl ?_; clear Z az; intro az Z
     refine L (r_ld Tryd.isAgg3 Z rfl ((E83 _ (Only.refl NoF w74)) 0 _ rfl)) Z rfl ?_; clear Z az; intro az Z
     refine L (r_mv Z rfl) Z rfl ?_; clear Z az; intro az Z
     refine L (r_eqI Z rfl rfl) Z rfl ?_; clear Z az; intro az Z
     refine k76 _ _ ?_
     refine br Z rfl (fun hc86 => ?_) (fun hc86 => ?_)
     ·
      have p87 := of_decide_eq_true hc86
      refine wp_region_lit ?_
      refine L (r_mv Z rfl) Z rfl ?_; clear Z az; intro az Z
      refine L (r_mv Z rfl) Z rfl ?_; clear Z az; intro az Z
      refine L (r_ia (k := i) (size := 2) Tryd.underlying36 Tryd.sizeOf40 Z rfl rfl rfl hk78 hA82) Z rfl ?_; clear Z az; intro az Z
      refine L (r_fa (m' := 1) Tryd.underlying40 rfl Tryd.sizeOf3 rfl Z rfl rfl) Z rfl ?_; clear Z az; intro az Z
      refine L (r_ld Tryd.isAgg3 Z rfl ((E83 _ (Only.refl NoF w74)) 1 _ rfl)) Z rfl ?_; clear Z az; intro az Z
      refine L (r_as Z rfl) Z rfl ?_; clear Z az; intro az Z
      refine k71 _ _ ?_
      refine wp_region_lit ?_
      refine L (r_mv Z rfl) Z rfl ?_; clear Z az; intro az Z
      have i88 : I64 (((i : Int) + 1)) := by unfold I64; omega
      refine L (r_addI (r := ((i : Int) + 1)) Z rfl rfl rfl i88) Z rfl ?_; clear Z az; intro az Z
      refine L (r_as Z rfl) Z rfl ?_; clear Z az; intro az Z
      exact ⟨_, (by omega), i + 1, _, rfl, Z.cut ⟨rfl, rfl, rfl, rfl, rfl, rfl, trivial⟩, (by omega), (fd_yes (miss_asc _) hm80 hc86 hf), O84⟩
     ·
      have p89 := of_decide_eq_false hc86
      refine wp_skip ?_
      refine k71 _ _ ?_
      refine wp_region_lit ?_
      refine L (r_mv Z rfl) Z rfl ?_; clear Z az; intro az Z
      have i90 : I64 (((i : Int) + 1)) := by unfold I64; omega
      refine L (r_addI (r := ((i : Int) + 1)) Z rfl rfl rfl i90) Z rfl ?_; clear Z az; intro az Z
      refine L (r_as Z rfl) Z rfl ?_; clear Z az; intro az Z
      exact ⟨_, (by omega), i + 1, _, rfl, Z.cut ⟨rfl, rfl, rfl, rfl, rfl, rfl, trivial⟩, (by omega), (fd_no (miss_asc _) hm80 hc86 hf), O84⟩
   · skip
     refine reg_q [(true, 0), (true, 1), (true, 2), (true, 3), (true, 4), (true, 5), (true, 6), (true, 7), (true, 8), (true, 9), (true, 10), (true, 11), (true, 12), (true, 13), (true, 14), (true, 15), (true, 16)] (by kernel_rfl) (by kernel_rfl) (fun _ _ _ _ _ h => h) fun w91 o92 => ?_
     refine M (r_mv Z rfl) Z rfl rfl ?_; clear Z az; intro az Z
     refine M ((r_cast (b := true) (r_gtI Z rfl rfl) (decide_eq_true (by omega)))) Z rfl rfl ?_; clear Z az; intro az Z
     refine M (r_mv Z rfl) Z rfl rfl ?_; clear Z az; intro az Z
     refine MT Z rfl rfl (r_mv Z rfl) rfl rfl ?_; clear Z az; intro az Z
     refine MT Z rfl rfl (r_mv Z rfl) rfl rfl ?_; clear Z az; intro az Z
     have i93 : I64 (((i : Int) - 1)) := by unfold I64; omega
     refine MT Z rfl rfl (r_subI (r := ((i : Int) - 1)) Z rfl rfl rfl i93) rfl rfl ?_; clear Z az; intro az Z
     refine MT Z rfl rfl ((r_castI (b := ((i : Int) - 1)) (r_max Z rfl rfl) (by omega))) rfl rfl ?_; clear Z az; intro az Z
     have h94 := Row.own KRef r55 ok57
     have hk95 : (i - 1) < ((missN (joinN La))).length := by omega
     have O101 : Only NoF w59 w91 := (Only.trans' o65 o92)
     have h102 := (SliceOf.kp h94 O101 (fun _ _ h => h) (fun _ _ _ _ h => h))
     obtain ⟨m96, hm97, ok98, hA99⟩ := Row.el KRef h102 hk95
     have E100 : ∀ W, Only NoF w91 W → CA W (eA A53 2 ((i - 1))) [.int .i64 (m96.h), .int .i64 (m96.n)] := Row.ce KRef h102 hm97 rfl
     refine MT Z rfl rfl (r_ia (k := (i - 1)) (size := 2) Tryd.underlying36 Tryd.sizeOf40 Z rfl rfl (by omega) hk95 hA99) rfl rfl ?_; clear Z az; intro az Z
     refine MT Z rfl rfl (r_fa (m' := 0) Tryd.underlying40 rfl Tryd.sizeOf3 rfl Z rfl rfl) rfl rfl ?_; clear Z az; intro az Z
     refine MT Z rfl rfl (r_ld Tryd.isAgg3 Z rfl ((E100 _ (Only.refl NoF w91)) 0 _ rfl)) rfl rfl ?_; clear Z az; intro az Z
     refine MT Z rfl rfl (r_mv Z rfl) rfl rfl ?_; clear Z az; intro az Z
     refine MT Z rfl rfl (r_mv Z rfl) rfl rfl ?_; clear Z az; intro az Z
     have hk103 : i < ((missN (joinN La))).length := by omega
     obtain ⟨m104, hm105, ok106, hA107⟩ := Row.el KRef h102 hk103
     have E108 : ∀ W, Only NoF w91 W → CA W (eA A53 2 (i)) [.int .i64 (m104.h), .int .i64 (m104.n)] := Row.ce KRef h102 hm105 rfl
     refine MT Z rfl rfl (r_ia (k := i) (size := 2) Tryd.underlying36 Tryd.sizeOf40 Z rfl rfl rfl hk103 hA107) rfl rfl ?_; clear Z az; intro az Z
     refine MT Z rfl rfl (r_fa (m' := 0) Tryd.underlying40 rfl Tryd.sizeOf3 rfl Z rfl rfl) rfl rfl ?_; clear Z az; intro az Z
     refine MT Z rfl rfl (r_ld Tryd.isAgg3 Z rfl ((E108 _ (Only.refl NoF w91)) 0 _ rfl)) rfl rfl ?_; clear Z az; intro az Z
     refine MT Z rfl rfl ((r_cast (b := false) (r_geI Z rfl rfl) (decide_eq_false (Int.not_le.2 (asc_adj (miss_asc _) (by omega) hm97 hm105))))) rfl rfl ?_; clear Z az; intro az Z
     refine M (r_pick Z rfl rfl rfl) Z rfl rfl ?_; clear Z az; intro az Z
     refine wpMix_nil ?_
     refine k73 _ _ ?_
     refine br_false Z rfl ?_
     refine wp_skip ?_
     refine k72 _ _ (wp_seq_k fun _ k109 => wp_region_lit ?_)
     refine L (r_mv Z rfl) Z rfl ?_; clear Z az; intro az Z
     refine L (r_mv Z rfl) Z rfl ?_; clear Z az; intro az Z
     refine L (r_ia (k := i) (size := 2) Tryd.underlying36 Tryd.sizeOf40 Z rfl rfl rfl hk103 hA107) Z rfl ?_; clear Z az; intro az Z
     refine L (r_fa (m' := 0) Tryd.underlying40 rfl Tryd.sizeOf3 rfl Z rfl rfl) Z rfl ?_; clear Z az; intro az Z
     refine L (r_ld Tryd.isAgg3 Z rfl ((E108 _ (Only.refl NoF w91)) 0 _ rfl)) Z rfl ?_; clear Z az; intro az Z
     refine L (r_mv Z rfl) Z rfl ?_; clear Z az; intro az Z
     refine L (r_eqI Z rfl rfl) Z rfl ?_; clear Z az; intro az Z
     refine k109 _ _ ?_
     refine br Z rfl (fun hc110 => ?_) (fun hc110 => ?_)
     ·
      have p111 := of_decide_eq_true hc110
      refine wp_region_lit ?_
      refine L (r_mv Z rfl) Z rfl ?_; clear Z az; intro az Z
      refine L (r_mv Z rfl) Z rfl ?_; clear Z az; intro az Z
      refine L (r_ia (k := i) (size := 2) Tryd.underlying36 Tryd.sizeOf40 Z rfl rfl rfl hk103 hA107) Z rfl ?_; clear Z az; intro az Z
      refine L (r_fa (m' := 1) Tryd.underlying40 rfl Tryd.sizeOf3 rfl Z rfl rfl) Z rfl ?_; clear Z az; intro az Z
      refine L (r_ld Tryd.isAgg3 Z rfl ((E108 _ (Only.refl NoF w91)) 1 _ rfl)) Z rfl ?_; clear Z az; intro az Z
      refine L (r_as Z rfl) Z rfl ?_; clear Z az; intro az Z
      refine k71 _ _ ?_
      refine wp_region_lit ?_
      refine L (r_mv Z rfl) Z rfl ?_; clear Z az; intro az Z
      have i112 : I64 (((i : Int) + 1)) := by unfold I64; omega
      refine L (r_addI (r := ((i : Int) + 1)) Z rfl rfl rfl i112) Z rfl ?_; clear Z az; intro az Z
      refine L (r_as Z rfl) Z rfl ?_; clear Z az; intro az Z
      exact ⟨_, (by omega), i + 1, _, rfl, Z.cut ⟨rfl, rfl, rfl, rfl, rfl, rfl, trivial⟩, (by omega), (fd_yes (miss_asc _) hm105 hc110 hf), O101⟩
     ·
      have p113 := of_decide_eq_false hc110
      refine wp_skip ?_
      refine k71 _ _ ?_
      refine wp_region_lit ?_
      refine L (r_mv Z rfl) Z rfl ?_; clear Z az; intro az Z
      have i114 : I64 (((i : Int) + 1)) := by unfold I64; omega
      refine L (r_addI (r := ((i : Int) + 1)) Z rfl rfl rfl i114) Z rfl ?_; clear Z az; intro az Z
      refine L (r_as Z rfl) Z rfl ?_; clear Z az; intro az Z
      exact ⟨_, (by omega), i + 1, _, rfl, Z.cut ⟨rfl, rfl, rfl, rfl, rfl, rfl, trivial⟩, (by omega), (fd_no (miss_asc _) hm105 hc110 hf), O101⟩
  ·
   have p115 := of_decide_eq_false hc69
   refine wp_exit ?_
   refine th_exit ?_
   refine th_exit ?_
   refine ib_hit ?_
   refine k62 _ _ (wp_seq_k fun _ k116 => wp_region_lit ?_)
   refine L (r_mv Z rfl) Z rfl ?_; clear Z az; intro az Z
   refine L (r_mv Z rfl) Z rfl ?_; clear Z az; intro az Z
   refine LT Z rfl rfl (r_mv Z rfl) rfl ?_; clear Z az; intro az Z
   refine LT Z rfl rfl (r_mv Z rfl) rfl ?_; clear Z az; intro az Z
   refine LT Z rfl rfl (r_mv Z rfl) rfl ?_; clear Z az; intro az Z
   have O117 : Only NoF w w64 := (Only.trans' (Only.trans' O52 o56) o65)
   refine LGV (v := .int .i64 (gapN La h)) Z rfl rfl gd_t rfl (fun hb => rfl) Tryd.call32 (fun hb => gap_v_ (NtV.k t1 O117) h) rfl fun w118 o119 => ?_; clear Z az; intro az Z
   refine LT Z rfl rfl ((r_cast (b := true) (r_eqI Z rfl rfl) (decide_eq_true (gap_end (i := i) (l := La) (h := h) hf (by omega) hh0 hh4)))) rfl ?_; clear Z az; intro az Z
   refine L (r_pick Z rfl rfl rfl) Z rfl ?_; clear Z az; intro az Z
   refine L (r_as Z rfl) Z rfl ?_; clear Z az; intro az Z
   refine k116 _ _ ?_
   refine wp_ret ?_
   show bodyPost _ _ _ .ret _ _
   refine ret_of (vs := [.bool (true)]) Z Tryd.results8 ⟨rfl, trivial⟩ ?_
   have O120 : Only NoF w w118 := (Only.trans' O117 o119)
   exact ⟨rfl, O120⟩
theorem forks39_v {w : World} (hG : Gr w) {v1 : Value} {La : List NM} (f1 : NotesV w w v1 La) (h : Int) : Calls Tryd.prog 8 #[v1, .int .i64 h] w (Fix (.bool true) w) := by
 obtain ⟨A1, c1, rfl, _⟩ := SliceOf.shape f1
 exact forks39_ hG (NtV.of f1) h
end Go.Proofs.YtdcbjedkddgfkaaDoor
