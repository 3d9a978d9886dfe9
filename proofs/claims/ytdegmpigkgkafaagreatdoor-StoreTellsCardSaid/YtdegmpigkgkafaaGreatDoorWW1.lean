/-
  The wire's reader: fail, number, close, walked. Condition: at most 1,000,000 bytes are left.
-/
import Derived.Test.YtdegmpigkgkafaaGreatDoorWir2
namespace Go.Proofs.YtdegmpigkgkafaaGreatDoor
set_option maxHeartbeats 4000000
set_option maxRecDepth 20000
set_option linter.unusedVariables false
set_option linter.unusedSimpArgs false
set_option linter.unusedSectionVars false
open Go.RowKit
theorem fail_v {w : World} {g : Nat} {s : Wr.Rd} (hB : Blk w g 146 [strV s.r, .bool s.b].toArray) : Calls Tryz.prog 114 [.pointer (some ⟨g, 0, none⟩)].toArray w (RdTo g (.tuple #[]) Wr.failed w) := by
 refine calls_start Tryz.func114 rfl rfl ?_
 intro az Z
 rw [Tryz.ntmps114] at Z
 refine wp_region_lit ?_
 refine L (r_mv Z rfl) Z rfl ?_; clear Z az; intro az Z
 refine L (r_mv Z rfl) Z rfl ?_; clear Z az; intro az Z
 refine L (r_nilP Z rfl) Z rfl ?_; clear Z az; intro az Z
 refine L (r_fa (m' := 0) Tryz.underlying146 rfl Tryz.sizeOf9 rfl Z rfl rfl) Z rfl ?_; clear Z az; intro az Z
 refine LSt (cs' := [strV ([]), .bool (s.b)]) Tryz.sizeOf9 Z rfl rfl rfl rfl rfl ⟨rfl, trivial⟩ hB rfl rfl fun w1 s2 B3 => ?_
 refine L (r_nilP Z rfl) Z rfl ?_; clear Z az; intro az Z
 refine L (r_fa (m' := 1) Tryz.underlying146 rfl Tryz.sizeOf4 rfl Z rfl rfl) Z rfl ?_; clear Z az; intro az Z
 refine LSt (cs' := [strV ([]), .bool (true)]) Tryz.sizeOf4 Z rfl rfl rfl rfl rfl ⟨rfl, trivial⟩ B3 rfl rfl fun w4 s5 B6 => ?_
 show bodyPost _ _ _ .normal _ _
 refine end_of Z Tryz.results114 ?_
 exact ⟨rfl, B6, (Only.trans (Only.trans (Only.refl (oneF g) w) s2 (fun _ h => .inl h)) s5 (fun _ h => .inl h))⟩
theorem number_v {w : World} {g : Nat} {s : Wr.Rd} (hG : Gr w) (hB : Blk w g 146 [strV s.r, .bool s.b].toArray) (hgq : 6 ≤ g) (hl : s.r.length ≤ 1000000000) (e : UInt8) {z : Int} (hk : z = (e.toNat : Int)) (least : Int) (hle : Wr.Ok least) (hl0 : least ≤ 0) : Calls Tryz.prog 113 [.pointer (some ⟨g, 0, none⟩), .int .u8 z, .int .i64 least].toArray w (RdTo g (.int .i64 (Wr.number s e least).1) (Wr.number s e least).2 w) := by
 refine calls_start Tryz.func113 rfl rfl ?_
 intro az Z
 rw [Tryz.ntmps113] at Z
 refine wp_seq_k fun _ k1 => wp_region_lit ?_
 refine L (r_as Z rfl) Z rfl ?_; clear Z az; intro az Z
 refine k1 _ _ (wp_seq_k fun _ k2 => ?_)
 refine reg_q [(true, 0), (true, 1), (true, 2), (true, 3), (true, 4), (true, 5), (true, 6), (true, 7), (true, 8), (true, 9), (true, 10), (true, 11)] (by kernel_rfl) (by kernel_rfl) (fun _ _ _ _ _ h => h) fun w3 o4 => ?_
 refine M (r_mv Z rfl) Z rfl rfl ?_; clear Z az; intro az Z
 refine M (r_nilP Z rfl) Z rfl rfl ?_; clear Z az; intro az Z
 refine M (r_fa (m' := 0) Tryz.underlying146 rfl Tryz.sizeOf9 rfl Z rfl rfl) Z rfl rfl ?_; clear Z az; intro az Z
 have B5 := (Blk.k hB o4)
 refine M (r_ld Tryz.isAgg9 Z rfl ((Blk.ca B5) 0 _ rfl)) Z rfl rfl ?_; clear Z az; intro az Z
 refine M (r_mv Z rfl) Z rfl rfl ?_; clear Z az; intro az Z
 refine M (r_nilP Z rfl) Z rfl rfl ?_; clear Z az; intro az Z
 refine M (r_fa (m' := 0) Tryz.underlying146 rfl Tryz.sizeOf9 rfl Z rfl rfl) Z rfl rfl ?_; clear Z az; intro az Z
 refine M (r_ld Tryz.isAgg9 Z rfl ((Blk.ca B5) 0 _ rfl)) Z rfl rfl ?_; clear Z az; intro az Z
 refine M (r_lenS Tryz.underlying9 Z rfl) Z rfl rfl ?_; clear Z az; intro az Z
 refine M (r_min Z rfl rfl) Z rfl rfl ?_; clear Z az; intro az Z
 obtain ⟨q, hq, hq2⟩ : ∃ q : Nat, (min (((List.length (s.r) : Nat) : Int)) (21)) = (q : Int) ∧ q = min s.r.length 21 := ⟨min s.r.length 21, by omega, rfl⟩
 have le6 : q ≤ List.length (s.r) := by omega
 refine M (r_ssh (m := q) Tryz.underlying9 Z rfl rfl hq le6) Z rfl rfl ?_; clear Z az; intro az Z
 refine M (r_as Z rfl) Z rfl rfl ?_; clear Z az; intro az Z
 refine wpMix_nil ?_
 refine k2 _ _ (wp_seq_k fun _ k7 => wp_region_lit ?_)
 refine L (r_mv Z rfl) Z rfl ?_; clear Z az; intro az Z
 refine L (r_mv Z rfl) Z rfl ?_; clear Z az; intro az Z
 refine LCV (v := .int .i64 ((Lib.indexByte (List.take q s.r) e))) Z rfl rfl Tryz.call127 (index_v _ (List.take q s.r) e _ hk) rfl fun w8 o9 => ?_; clear Z az; intro az Z
 refine L (r_as Z rfl) Z rfl ?_; clear Z az; intro az Z
 refine k7 _ _ (wp_seq_k fun _ k10 => ?_)
 refine wp_seq_k fun _ k11 => wp_region_lit ?_
 refine L (r_mv Z rfl) Z rfl ?_; clear Z az; intro az Z
 refine L (r_ltI Z rfl rfl) Z rfl ?_; clear Z az; intro az Z
 refine k11 _ _ ?_
 refine br Z rfl (fun hc12 => ?_) (fun hc12 => ?_)
 ·
  have p13 := of_decide_eq_true hc12
  refine wp_seq_k fun _ k14 => wp_region_lit ?_
  refine L (r_mv Z rfl) Z rfl ?_; clear Z az; intro az Z
  have B15 := (Blk.k B5 o9)
  refine LC Z rfl rfl Tryz.call114 (fail_v (s := s) B15) rfl ?_
  rintro e w16 ⟨rfl, B17, o18⟩; refine ⟨_, rfl, ?_⟩
  clear Z az; intro az Z
  refine k14 _ _ (wp_seq_k fun _ k19 => wp_region_lit ?_)
  refine L (r_as Z rfl) Z rfl ?_; clear Z az; intro az Z
  refine k19 _ _ ?_
  refine wp_ret ?_
  show bodyPost _ _ _ .ret _ _
  refine ret_of (vs := [.int .i64 (0)]) Z Tryz.results113 ⟨rfl, trivial⟩ ?_
  rw [Wr.number_f1 hq2 p13]
  exact ⟨rfl, B17, (Only.trans (Only.trans (Only.trans (Only.refl (oneF g) w) o4 (fun _ h => h.elim)) o9 (fun _ h => h.elim)) o18 (fun _ h => .inl h))⟩
 ·
  have p20 := of_decide_eq_false hc12
  refine wp_skip ?_
  refine k10 _ _ (wp_seq_k fun _ k21 => wp_region_lit ?_)
  refine L (r_mv Z rfl) Z rfl ?_; clear Z az; intro az Z
  refine L (r_mv Z rfl) Z rfl ?_; clear Z az; intro az Z
  obtain ⟨k, hk1, hk2, hk3, hk4⟩ := index_nat p20
  have hlt := List.length_take_le q s.r; have hlq : (List.take q s.r).length = q := by rw [List.length_take]; omega
  have le22 : k ≤ List.length (List.take q s.r) := by omega
  refine L (r_ssh (m := k) Tryz.underlying9 Z rfl rfl hk1 le22) Z rfl ?_; clear Z az; intro az Z
  have hln : List.length (List.take k (List.take q s.r)) ≤ 1000000 := by simp only [List.length_take]; omega
  have G29 := Gr.only hG (Only.trans (Only.trans (Only.refl (oneF g) w) o4 (fun _ h => h.elim)) o9 (fun _ h => h.elim)) (fun k hk => by rw [show k = g from hk]; exact hgq)
  refine LC Z rfl rfl Tryz.call128 (atoi_v2 G29 (List.take k (List.take q s.r)) hln) rfl ?_
  rintro e w30 ⟨n23, ev24, rfl, he25, ha26, ok27, o28⟩; refine ⟨_, rfl, ?_⟩
  clear Z az; intro az Z
  refine L (r_mv Z rfl) Z rfl ?_; clear Z az; intro az Z
  refine L (r_ex Z rfl rfl) Z rfl ?_; clear Z az; intro az Z
  refine L (r_ex Z rfl rfl) Z rfl ?_; clear Z az; intro az Z
  refine L (r_as Z rfl) Z rfl ?_; clear Z az; intro az Z
  refine L (r_as Z rfl) Z rfl ?_; clear Z az; intro az Z
  refine k21 _ _ (wp_seq_k fun _ k31 => ?_)
  refine wp_seq_k fun _ k32 => ?_
  refine reg_p NoF 1 [4] (.rd 0 (.rd 1 (.rd 2 (.rd 3 (.rd 5 (.rd 6 (.rd 7 (.ex 4 (.rd 8 (.rd 9 (.rd 10 (.rd 11 (.rd 12 (.rd 13 (.rd 14 .nil))))))))))))))) (by kernel_rfl) (by kernel_rfl) (fun _ _ _ _ _ h => h) fun w33 o34 => ?_
  refine Pl.MSP (b := true) (by kernel_rfl) (fun W oW => r_mv Z rfl) Z rfl rfl ?_; clear Z az; intro az Z
  refine Pl.MSP (b := true) (by kernel_rfl) (fun W oW => r_neE Tryz.underlying156 he25 Z rfl) Z rfl rfl ?_; clear Z az; intro az Z
  refine Pl.MSP (b := true) (by kernel_rfl) (fun W oW => r_mv Z rfl) Z rfl rfl ?_; clear Z az; intro az Z
  refine Pl.MSPG (b := true) (by kernel_rfl) Z rfl rfl gd_f (fun hb W oW => r_mv Z rfl) rfl rfl ?_; clear Z az; intro az Z
  refine Pl.MSPG (b := true) (by kernel_rfl) Z rfl rfl gd_f (fun hb W oW => r_mv Z rfl) rfl rfl ?_; clear Z az; intro az Z
  refine Pl.MSPG (b := true) (by kernel_rfl) Z rfl rfl gd_f (fun hb W oW => r_mv Z rfl) rfl rfl ?_; clear Z az; intro az Z
  have le35 : k ≤ List.length (List.take q s.r) := by omega
  refine Pl.MSPG (b := true) (by kernel_rfl) Z rfl rfl gd_f (fun hb W oW => r_ssh (m := k) Tryz.underlying9 Z (evg hb rfl) (evg hb rfl) hk1 le35) rfl rfl ?_; clear Z az; intro az Z
  have G36 := Gr.only hG (Only.trans (Only.trans (Only.trans (Only.trans (Only.refl (oneF g) w) o4 (fun _ h => h.elim)) o9 (fun _ h => h.elim)) o28 (fun _ h => h.elim)) o34 (fun _ h => h.elim)) (fun k hk => by rw [show k = g from hk]; exact hgq)
  refine Pl.MSGV (v := strV (Lib.itoa n23)) Z rfl rfl gd_f rfl rfl (fun hb => (evs_c (evg hb rfl) rfl)) Tryz.call103 (fun hb => itoa_v G36 n23 ok27) rfl (fun w' o' => ⟨fun _ => o', (Only.trans (Only.refl NoF w33) o' (fun _ h => h.elim))⟩) fun w37 o38 => ?_; clear Z az; intro az Z
  refine Pl.MSPG (b := true) (by kernel_rfl) Z rfl rfl gd_f (fun hb W oW => r_neS Z (evg hb rfl) (evg hb rfl)) rfl rfl ?_; clear Z az; intro az Z
  refine Pl.MSP (b := true) (by kernel_rfl) (fun W oW => r_or Z rfl rfl rfl) Z rfl rfl ?_; clear Z az; intro az Z
  refine Pl.MSP (b := true) (by kernel_rfl) (fun W oW => r_mv Z rfl) Z rfl rfl ?_; clear Z az; intro az Z
  refine Pl.MSPG (b := true) (by kernel_rfl) Z rfl rfl gd_f (fun hb W oW => r_mv Z rfl) rfl rfl ?_; clear Z az; intro az Z
  refine Pl.MSPG (b := true) (by kernel_rfl) Z rfl rfl gd_f (fun hb W oW => r_mv Z rfl) rfl rfl ?_; clear Z az; intro az Z
  refine Pl.MSPG (b := true) (by kernel_rfl) Z rfl rfl gd_f (fun hb W oW => r_ltI Z (evg hb rfl) (evg hb rfl)) rfl rfl ?_; clear Z az; intro az Z
  refine Pl.MSP (b := true) (by kernel_rfl) (fun W oW => r_or Z rfl rfl rfl) Z rfl rfl ?_; clear Z az; intro az Z
  refine wpPl_nil ?_
  refine k32 _ _ ?_
  refine br Z rfl (fun hc39 => ?_) (fun hc39 => ?_)
  ·
   have d40 := hc39
   refine wp_seq_k fun _ k41 => wp_region_lit ?_
   refine L (r_mv Z rfl) Z rfl ?_; clear Z az; intro az Z
   have B42 := (Blk.k (Blk.k (Blk.k (Blk.k B5 o9) o28) o34) o38)
   refine LC Z rfl rfl Tryz.call114 (fail_v (s := s) B42) rfl ?_
   rintro e w43 ⟨rfl, B44, o45⟩; refine ⟨_, rfl, ?_⟩
   clear Z az; intro az Z
   refine k41 _ _ (wp_seq_k fun _ k46 => wp_region_lit ?_)
   refine L (r_as Z rfl) Z rfl ?_; clear Z az; intro az Z
   refine k46 _ _ ?_
   refine wp_ret ?_
   show bodyPost _ _ _ .ret _ _
   refine ret_of (vs := [.int .i64 (0)]) Z Tryz.results113 ⟨rfl, trivial⟩ ?_
   rw [Wr.number_f2 hk2 hk3 hk4 ha26 hc39]
   exact ⟨rfl, B44, (Only.trans (Only.trans (Only.trans (Only.trans (Only.trans (Only.trans (Only.refl (oneF g) w) o4 (fun _ h => h.elim)) o9 (fun _ h => h.elim)) o28 (fun _ h => h.elim)) o34 (fun _ h => h.elim)) o38 (fun _ h => h.elim)) o45 (fun _ h => .inl h))⟩
  ·
   have q47 : isE ev24 = false := (or_f (or_f hc39).1).1
   have p48 := of_decide_eq_true (nt_f (or_f (or_f hc39).1).2)
   have p49 := of_decide_eq_false (or_f hc39).2
   refine wp_skip ?_
   refine k31 _ _ (wp_seq_k fun _ k50 => wp_region_lit ?_)
   refine L (r_mv Z rfl) Z rfl ?_; clear Z az; intro az Z
   refine L (r_mv Z rfl) Z rfl ?_; clear Z az; intro az Z
   refine L (r_nilP Z rfl) Z rfl ?_; clear Z az; intro az Z
   refine L (r_fa (m' := 0) Tryz.underlying146 rfl Tryz.sizeOf9 rfl Z rfl rfl) Z rfl ?_; clear Z az; intro az Z
   have B51 := (Blk.k (Blk.k (Blk.k (Blk.k B5 o9) o28) o34) o38)
   refine L (r_ld Tryz.isAgg9 Z rfl ((Blk.ca B51) 0 _ rfl)) Z rfl ?_; clear Z az; intro az Z
   refine L (r_mv Z rfl) Z rfl ?_; clear Z az; intro az Z
   have i52 : I64 (((Lib.indexByte (List.take q s.r) e) + 1)) := by unfold I64; omega
   refine L (r_addI (r := ((Lib.indexByte (List.take q s.r) e) + 1)) Z rfl rfl rfl i52) Z rfl ?_; clear Z az; intro az Z
   have le53 : (k + 1) ≤ List.length (s.r) := by omega
   refine L (r_ssl (lo := (k + 1)) Tryz.underlying9 Z rfl rfl (by rw [hk1]; rfl) le53) Z rfl ?_; clear Z az; intro az Z
   refine L (r_nilP Z rfl) Z rfl ?_; clear Z az; intro az Z
   refine L (r_fa (m' := 0) Tryz.underlying146 rfl Tryz.sizeOf9 rfl Z rfl rfl) Z rfl ?_; clear Z az; intro az Z
   refine LSt (cs' := [strV (List.drop (k + 1) s.r), .bool (s.b)]) Tryz.sizeOf9 Z rfl rfl rfl rfl rfl ⟨rfl, trivial⟩ B51 rfl rfl fun w54 s55 B56 => ?_
   refine k50 _ _ (wp_seq_k fun _ k57 => wp_region_lit ?_)
   refine L (r_mv Z rfl) Z rfl ?_; clear Z az; intro az Z
   refine L (r_as Z rfl) Z rfl ?_; clear Z az; intro az Z
   refine k57 _ _ ?_
   refine wp_ret ?_
   show bodyPost _ _ _ .ret _ _
   refine ret_of (vs := [.int .i64 (n23)]) Z Tryz.results113 ⟨rfl, trivial⟩ ?_
   rw [Wr.number_s hk2 hk3 hk4 ha26 hc39]
   exact ⟨rfl, B56, (Only.trans (Only.trans (Only.trans (Only.trans (Only.trans (Only.trans (Only.refl (oneF g) w) o4 (fun _ h => h.elim)) o9 (fun _ h => h.elim)) o28 (fun _ h => h.elim)) o34 (fun _ h => h.elim)) o38 (fun _ h => h.elim)) s55 (fun _ h => .inl h))⟩
theorem close_v {w : World} {g : Nat} {s : Wr.Rd} (hB : Blk w g 146 [strV s.r, .bool s.b].toArray) (c : UInt8) : Calls Tryz.prog 115 [.pointer (some ⟨g, 0, none⟩), strV [c]].toArray w (RdTo g (.tuple #[]) (Wr.close s c) w) := by
 refine calls_start Tryz.func115 rfl rfl ?_
 intro az Z
 rw [Tryz.ntmps115] at Z
 refine wp_seq_k fun _ k1 => wp_region_lit ?_
 refine L (r_mv Z rfl) Z rfl ?_; clear Z az; intro az Z
 refine L (r_nilP Z rfl) Z rfl ?_; clear Z az; intro az Z
 refine L (r_fa (m' := 0) Tryz.underlying146 rfl Tryz.sizeOf9 rfl Z rfl rfl) Z rfl ?_; clear Z az; intro az Z
 refine L (r_ld Tryz.isAgg9 Z rfl ((Blk.ca hB) 0 _ rfl)) Z rfl ?_; clear Z az; intro az Z
 refine L (r_mv Z rfl) Z rfl ?_; clear Z az; intro az Z
 refine LCV (v := .tuple #[strV (Lib.trimPrefix s.r [c]), .bool (Lib.hasPrefix s.r [c])]) Z rfl rfl Tryz.call129 (cut_v _ s.r [c]) rfl fun w2 o3 => ?_; clear Z az; intro az Z
 refine L (r_mv Z rfl) Z rfl ?_; clear Z az; intro az Z
 refine L (r_ex Z rfl rfl) Z rfl ?_; clear Z az; intro az Z
 refine L (r_ex Z rfl rfl) Z rfl ?_; clear Z az; intro az Z
 refine L (r_as Z rfl) Z rfl ?_; clear Z az; intro az Z
 refine L (r_as Z rfl) Z rfl ?_; clear Z az; intro az Z
 refine k1 _ _ (wp_seq_k fun _ k4 => wp_region_lit ?_)
 refine L (r_mv Z rfl) Z rfl ?_; clear Z az; intro az Z
 refine L (r_mv Z rfl) Z rfl ?_; clear Z az; intro az Z
 refine L (r_nilP Z rfl) Z rfl ?_; clear Z az; intro az Z
 refine L (r_fa (m' := 0) Tryz.underlying146 rfl Tryz.sizeOf9 rfl Z rfl rfl) Z rfl ?_; clear Z az; intro az Z
 have B5 := (Blk.k hB o3)
 refine LSt (cs' := [strV (Lib.trimPrefix s.r [c]), .bool (s.b)]) Tryz.sizeOf9 Z rfl rfl rfl rfl rfl ⟨rfl, trivial⟩ B5 rfl rfl fun w6 s7 B8 => ?_
 refine k4 _ _ (wp_seq_k fun _ k9 => wp_region_lit ?_)
 refine L (r_mv Z rfl) Z rfl ?_; clear Z az; intro az Z
 refine L (r_not Z rfl) Z rfl ?_; clear Z az; intro az Z
 refine k9 _ _ ?_
 refine br Z rfl (fun hc10 => ?_) (fun hc10 => ?_)
 ·
  have q11 : Lib.hasPrefix s.r [c] = false := (nt_t hc10)
  refine wp_region_lit ?_
  refine L (r_mv Z rfl) Z rfl ?_; clear Z az; intro az Z
  refine LC Z rfl rfl Tryz.call114 (fail_v (s := (⟨Lib.trimPrefix s.r [c], s.b⟩ : Wr.Rd)) B8) rfl ?_
  rintro e w12 ⟨rfl, B13, o14⟩; refine ⟨_, rfl, ?_⟩
  clear Z az; intro az Z
  show bodyPost _ _ _ .normal _ _
  refine end_of Z Tryz.results115 ?_
  rw [Wr.close_eq]
  rw [if_neg (by rw [nt_t hc10]; decide)]
  exact ⟨rfl, B13, (Only.trans (Only.trans (Only.trans (Only.refl (oneF g) w) o3 (fun _ h => h.elim)) s7 (fun _ h => .inl h)) o14 (fun _ h => .inl h))⟩
 ·
  have q15 : Lib.hasPrefix s.r [c] = true := (nt_f hc10)
  refine wp_skip ?_
  show bodyPost _ _ _ .normal _ _
  refine end_of Z Tryz.results115 ?_
  rw [Wr.close_eq]
  rw [if_pos (nt_f hc10)]
  exact ⟨rfl, B8, (Only.trans (Only.trans (Only.refl (oneF g) w) o3 (fun _ h => h.elim)) s7 (fun _ h => .inl h))⟩
end Go.Proofs.YtdegmpigkgkafaaGreatDoor
