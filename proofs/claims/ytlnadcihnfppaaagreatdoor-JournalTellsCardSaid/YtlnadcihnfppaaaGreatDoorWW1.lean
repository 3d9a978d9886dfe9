/-
  The wire's reader: fail, number, close, walked. Condition: at most 1,000,000 bytes are left.
-/
import Derived.Test.YtlnadcihnfppaaaGreatDoorWir2
namespace Go.Proofs.YtlnadcihnfppaaaGreatDoor
set_option linter.unusedVariables false
set_option linter.unusedSimpArgs false
set_option linter.unusedSectionVars false
open Go.RowKit

set_option maxRecDepth 20000 in
set_option maxHeartbeats 4000000 in
theorem fail_v {w : World} {g : Nat} {s : Wr.Rd} (hB : Blk w g 103 [strV s.r, .bool s.b].toArray) : Calls Tryz.prog 74 [.pointer (some ⟨g, 0, none⟩)].toArray w (RdTo g (.tuple #[]) Wr.failed w) := by
  refine calls_start Tryz.func74 rfl rfl ?_
  intro az Hz
  rw [Tryz.ntmps74] at Hz
  -- wire.go:52
  refine wp_region_lit ?_
  refine L (r_mv Hz rfl) Hz rfl ?_
  clear Hz az; intro az Hz
  refine L (r_mv Hz rfl) Hz rfl ?_
  clear Hz az; intro az Hz
  refine L (r_nilP Hz rfl) Hz rfl ?_
  clear Hz az; intro az Hz
  refine L (r_fa (m' := 0) Tryz.underlying103 rfl Tryz.sizeOf9 rfl Hz rfl rfl) Hz rfl ?_
  clear Hz az; intro az Hz
  refine LSt (cs' := [strV ([]), .bool (s.b)]) Tryz.sizeOf9 Hz rfl rfl rfl rfl rfl ⟨rfl, trivial⟩ hB rfl rfl fun w1 s2 B3 => ?_
  refine L (r_nilP Hz rfl) Hz rfl ?_
  clear Hz az; intro az Hz
  refine L (r_fa (m' := 1) Tryz.underlying103 rfl Tryz.sizeOf4 rfl Hz rfl rfl) Hz rfl ?_
  clear Hz az; intro az Hz
  refine LSt (cs' := [strV ([]), .bool (true)]) Tryz.sizeOf4 Hz rfl rfl rfl rfl rfl ⟨rfl, trivial⟩ B3 rfl rfl fun w4 s5 B6 => ?_
  show bodyPost _ _ _ .normal _ _
  refine end_of Hz Tryz.results74 ?_
  exact ⟨rfl, B6, (Only.trans (Only.trans (Only.refl (oneF g) w) s2 (fun _ h => .inl h)) s5 (fun _ h => .inl h))⟩

set_option maxRecDepth 20000 in
set_option maxHeartbeats 4000000 in
theorem number_v {w : World} {g : Nat} {s : Wr.Rd} (hG : Gr w) (hB : Blk w g 103 [strV s.r, .bool s.b].toArray) (hgq : 6 ≤ g) (hl : s.r.length ≤ 1000000000) (e : UInt8) {z : Int} (hk : z = (e.toNat : Int)) (least : Int) (hle : Wr.Ok least) (hl0 : least ≤ 0) : Calls Tryz.prog 73 [.pointer (some ⟨g, 0, none⟩), .int .u8 z, .int .i64 least].toArray w (RdTo g (.int .i64 (Wr.number s e least).1) (Wr.number s e least).2 w) := by
  refine calls_start Tryz.func73 rfl rfl ?_
  intro az Hz
  rw [Tryz.ntmps73] at Hz
  refine wp_seq_k fun K1 hK1 => ?_
  -- wire.go:55
  refine wp_region_lit ?_
  refine L (r_as Hz rfl) Hz rfl ?_
  clear Hz az; intro az Hz
  refine hK1 _ _ ?_
  refine wp_seq_k fun K2 hK2 => ?_
  -- wire.go:56
  refine reg_q [(true, 0), (true, 1), (true, 2), (true, 3), (true, 4), (true, 5), (true, 6), (true, 7), (true, 8), (true, 9), (true, 10), (true, 11)] (by kernel_rfl) (by kernel_rfl) (fun _ _ _ _ _ h => h) fun w3 o4 => ?_
  refine M (r_mv Hz rfl) Hz rfl rfl ?_
  clear Hz az; intro az Hz
  refine M (r_nilP Hz rfl) Hz rfl rfl ?_
  clear Hz az; intro az Hz
  refine M (r_fa (m' := 0) Tryz.underlying103 rfl Tryz.sizeOf9 rfl Hz rfl rfl) Hz rfl rfl ?_
  clear Hz az; intro az Hz
  have B5 := (Blk.k hB o4)
  refine M (r_ld Tryz.isAgg9 Hz rfl ((Blk.ca B5) 0 _ rfl)) Hz rfl rfl ?_
  clear Hz az; intro az Hz
  refine M (r_mv Hz rfl) Hz rfl rfl ?_
  clear Hz az; intro az Hz
  refine M (r_nilP Hz rfl) Hz rfl rfl ?_
  clear Hz az; intro az Hz
  refine M (r_fa (m' := 0) Tryz.underlying103 rfl Tryz.sizeOf9 rfl Hz rfl rfl) Hz rfl rfl ?_
  clear Hz az; intro az Hz
  refine M (r_ld Tryz.isAgg9 Hz rfl ((Blk.ca B5) 0 _ rfl)) Hz rfl rfl ?_
  clear Hz az; intro az Hz
  refine M (r_lenS Tryz.underlying9 Hz rfl) Hz rfl rfl ?_
  clear Hz az; intro az Hz
  refine M (r_min Hz rfl rfl) Hz rfl rfl ?_
  clear Hz az; intro az Hz
  obtain ⟨q, hq, hq2⟩ : ∃ q : Nat, (min (((List.length (s.r) : Nat) : Int)) (21)) = (q : Int) ∧ q = min s.r.length 21 := ⟨min s.r.length 21, by omega, rfl⟩
  have le6 : q ≤ List.length (s.r) := by omega
  refine M (r_ssh (m := q) Tryz.underlying9 Hz rfl rfl hq le6) Hz rfl rfl ?_
  clear Hz az; intro az Hz
  refine M (r_as Hz rfl) Hz rfl rfl ?_
  clear Hz az; intro az Hz
  refine wpMix_nil ?_
  refine hK2 _ _ ?_
  refine wp_seq_k fun K7 hK7 => ?_
  -- wire.go:57
  refine wp_region_lit ?_
  refine L (r_mv Hz rfl) Hz rfl ?_
  clear Hz az; intro az Hz
  refine L (r_mv Hz rfl) Hz rfl ?_
  clear Hz az; intro az Hz
  refine LCV (v := .int .i64 ((Lib.indexByte (List.take q s.r) e))) Hz rfl rfl Tryz.call85 (index_v _ (List.take q s.r) e _ hk) rfl fun w8 o9 => ?_
  clear Hz az; intro az Hz
  refine L (r_as Hz rfl) Hz rfl ?_
  clear Hz az; intro az Hz
  refine hK7 _ _ ?_
  refine wp_seq_k fun K10 hK10 => ?_
  refine wp_seq_k fun K11 hK11 => ?_
  -- wire.go:58
  refine wp_region_lit ?_
  refine L (r_mv Hz rfl) Hz rfl ?_
  clear Hz az; intro az Hz
  refine L (r_ltI Hz rfl rfl) Hz rfl ?_
  clear Hz az; intro az Hz
  refine hK11 _ _ ?_
  refine br Hz rfl (fun hc12 => ?_) (fun hc12 => ?_)
  · -- if0
    have p13 := of_decide_eq_true hc12
    refine wp_seq_k fun K14 hK14 => ?_
    -- wire.go:59
    refine wp_region_lit ?_
    refine L (r_mv Hz rfl) Hz rfl ?_
    clear Hz az; intro az Hz
    have B15 := (Blk.k B5 o9)
    refine LC Hz rfl rfl Tryz.call74 (fail_v (s := s) B15) rfl ?_
    rintro e w16 ⟨rfl, B17, o18⟩; refine ⟨_, rfl, ?_⟩
    clear Hz az; intro az Hz
    refine hK14 _ _ ?_
    refine wp_seq_k fun K19 hK19 => ?_
    -- wire.go:60
    refine wp_region_lit ?_
    refine L (r_as Hz rfl) Hz rfl ?_
    clear Hz az; intro az Hz
    refine hK19 _ _ ?_
    refine wp_ret ?_
    show bodyPost _ _ _ .ret _ _
    refine ret_of (vs := [.int .i64 (0)]) Hz Tryz.results73 ⟨rfl, trivial⟩ ?_
    rw [Wr.number_f1 hq2 p13]
    exact ⟨rfl, B17, (Only.trans (Only.trans (Only.trans (Only.refl (oneF g) w) o4 (fun _ h => h.elim)) o9 (fun _ h => h.elim)) o18 (fun _ h => .inl h))⟩
  · -- else0
    have p20 := of_decide_eq_false hc12
    refine wp_skip ?_
    refine hK10 _ _ ?_
    refine wp_seq_k fun K21 hK21 => ?_
    -- wire.go:62
    refine wp_region_lit ?_
    refine L (r_mv Hz rfl) Hz rfl ?_
    clear Hz az; intro az Hz
    refine L (r_mv Hz rfl) Hz rfl ?_
    clear Hz az; intro az Hz
    obtain ⟨k, hk1, hk2, hk3, hk4⟩ := index_nat p20
    have hlt := List.length_take_le q s.r; have hlq : (List.take q s.r).length = q := by rw [List.length_take]; omega
    have le22 : k ≤ List.length (List.take q s.r) := by omega
    refine L (r_ssh (m := k) Tryz.underlying9 Hz rfl rfl hk1 le22) Hz rfl ?_
    clear Hz az; intro az Hz
    have hln : List.length (List.take k (List.take q s.r)) ≤ 1000000 := by simp only [List.length_take]; omega
    have G29 := Gr.only hG (Only.trans (Only.trans (Only.refl (oneF g) w) o4 (fun _ h => h.elim)) o9 (fun _ h => h.elim)) (fun k hk => by rw [show k = g from hk]; exact hgq)
    refine LC Hz rfl rfl Tryz.call86 (atoi_v2 G29 (List.take k (List.take q s.r)) hln) rfl ?_
    rintro e w30 ⟨n23, ev24, rfl, he25, ha26, ok27, o28⟩; refine ⟨_, rfl, ?_⟩
    clear Hz az; intro az Hz
    refine L (r_mv Hz rfl) Hz rfl ?_
    clear Hz az; intro az Hz
    refine L (r_ex Hz rfl rfl) Hz rfl ?_
    clear Hz az; intro az Hz
    refine L (r_ex Hz rfl rfl) Hz rfl ?_
    clear Hz az; intro az Hz
    refine L (r_as Hz rfl) Hz rfl ?_
    clear Hz az; intro az Hz
    refine L (r_as Hz rfl) Hz rfl ?_
    clear Hz az; intro az Hz
    refine hK21 _ _ ?_
    refine wp_seq_k fun K31 hK31 => ?_
    refine wp_seq_k fun K32 hK32 => ?_
    -- wire.go:63
    refine reg_p NoF 1 [4] (.rd 0 (.rd 1 (.rd 2 (.rd 3 (.rd 5 (.rd 6 (.rd 7 (.ex 4 (.rd 8 (.rd 9 (.rd 10 (.rd 11 (.rd 12 (.rd 13 (.rd 14 .nil))))))))))))))) (by kernel_rfl) (by kernel_rfl) (fun _ _ _ _ _ h => h) fun w33 o34 => ?_
    refine Pl.MSP (b := true) (by kernel_rfl) (fun W oW => r_mv Hz rfl) Hz rfl rfl ?_
    clear Hz az; intro az Hz
    refine Pl.MSP (b := true) (by kernel_rfl) (fun W oW => r_neE Tryz.underlying112 he25 Hz rfl) Hz rfl rfl ?_
    clear Hz az; intro az Hz
    refine Pl.MSP (b := true) (by kernel_rfl) (fun W oW => r_mv Hz rfl) Hz rfl rfl ?_
    clear Hz az; intro az Hz
    refine Pl.MSPG (b := true) (by kernel_rfl) Hz rfl rfl gd_f (fun hb W oW => r_mv Hz rfl) rfl rfl ?_
    clear Hz az; intro az Hz
    refine Pl.MSPG (b := true) (by kernel_rfl) Hz rfl rfl gd_f (fun hb W oW => r_mv Hz rfl) rfl rfl ?_
    clear Hz az; intro az Hz
    refine Pl.MSPG (b := true) (by kernel_rfl) Hz rfl rfl gd_f (fun hb W oW => r_mv Hz rfl) rfl rfl ?_
    clear Hz az; intro az Hz
    have le35 : k ≤ List.length (List.take q s.r) := by omega
    refine Pl.MSPG (b := true) (by kernel_rfl) Hz rfl rfl gd_f (fun hb W oW => r_ssh (m := k) Tryz.underlying9 Hz (evg hb rfl) (evg hb rfl) hk1 le35) rfl rfl ?_
    clear Hz az; intro az Hz
    have G36 := Gr.only hG (Only.trans (Only.trans (Only.trans (Only.trans (Only.refl (oneF g) w) o4 (fun _ h => h.elim)) o9 (fun _ h => h.elim)) o28 (fun _ h => h.elim)) o34 (fun _ h => h.elim)) (fun k hk => by rw [show k = g from hk]; exact hgq)
    refine Pl.MSGV (v := strV (Lib.itoa n23)) Hz rfl rfl gd_f rfl rfl (fun hb => (evs_c (evg hb rfl) rfl)) Tryz.call79 (fun hb => itoa_v G36 n23 ok27) rfl (fun w' o' => ⟨fun _ => o', (Only.trans (Only.refl NoF w33) o' (fun _ h => h.elim))⟩) fun w37 o38 => ?_
    clear Hz az; intro az Hz
    refine Pl.MSPG (b := true) (by kernel_rfl) Hz rfl rfl gd_f (fun hb W oW => r_neS Hz (evg hb rfl) (evg hb rfl)) rfl rfl ?_
    clear Hz az; intro az Hz
    refine Pl.MSP (b := true) (by kernel_rfl) (fun W oW => r_or Hz rfl rfl rfl) Hz rfl rfl ?_
    clear Hz az; intro az Hz
    refine Pl.MSP (b := true) (by kernel_rfl) (fun W oW => r_mv Hz rfl) Hz rfl rfl ?_
    clear Hz az; intro az Hz
    refine Pl.MSPG (b := true) (by kernel_rfl) Hz rfl rfl gd_f (fun hb W oW => r_mv Hz rfl) rfl rfl ?_
    clear Hz az; intro az Hz
    refine Pl.MSPG (b := true) (by kernel_rfl) Hz rfl rfl gd_f (fun hb W oW => r_mv Hz rfl) rfl rfl ?_
    clear Hz az; intro az Hz
    refine Pl.MSPG (b := true) (by kernel_rfl) Hz rfl rfl gd_f (fun hb W oW => r_ltI Hz (evg hb rfl) (evg hb rfl)) rfl rfl ?_
    clear Hz az; intro az Hz
    refine Pl.MSP (b := true) (by kernel_rfl) (fun W oW => r_or Hz rfl rfl rfl) Hz rfl rfl ?_
    clear Hz az; intro az Hz
    refine wpPl_nil ?_
    refine hK32 _ _ ?_
    refine br Hz rfl (fun hc39 => ?_) (fun hc39 => ?_)
    · -- if1
      have d40 := hc39
      refine wp_seq_k fun K41 hK41 => ?_
      -- wire.go:64
      refine wp_region_lit ?_
      refine L (r_mv Hz rfl) Hz rfl ?_
      clear Hz az; intro az Hz
      have B42 := (Blk.k (Blk.k (Blk.k (Blk.k B5 o9) o28) o34) o38)
      refine LC Hz rfl rfl Tryz.call74 (fail_v (s := s) B42) rfl ?_
      rintro e w43 ⟨rfl, B44, o45⟩; refine ⟨_, rfl, ?_⟩
      clear Hz az; intro az Hz
      refine hK41 _ _ ?_
      refine wp_seq_k fun K46 hK46 => ?_
      -- wire.go:65
      refine wp_region_lit ?_
      refine L (r_as Hz rfl) Hz rfl ?_
      clear Hz az; intro az Hz
      refine hK46 _ _ ?_
      refine wp_ret ?_
      show bodyPost _ _ _ .ret _ _
      refine ret_of (vs := [.int .i64 (0)]) Hz Tryz.results73 ⟨rfl, trivial⟩ ?_
      rw [Wr.number_f2 hk2 hk3 hk4 ha26 hc39]
      exact ⟨rfl, B44, (Only.trans (Only.trans (Only.trans (Only.trans (Only.trans (Only.trans (Only.refl (oneF g) w) o4 (fun _ h => h.elim)) o9 (fun _ h => h.elim)) o28 (fun _ h => h.elim)) o34 (fun _ h => h.elim)) o38 (fun _ h => h.elim)) o45 (fun _ h => .inl h))⟩
    · -- else1
      have q47 : isE ev24 = false := (or_f (or_f hc39).1).1
      have p48 := of_decide_eq_true (nt_f (or_f (or_f hc39).1).2)
      have p49 := of_decide_eq_false (or_f hc39).2
      refine wp_skip ?_
      refine hK31 _ _ ?_
      refine wp_seq_k fun K50 hK50 => ?_
      -- wire.go:67
      refine wp_region_lit ?_
      refine L (r_mv Hz rfl) Hz rfl ?_
      clear Hz az; intro az Hz
      refine L (r_mv Hz rfl) Hz rfl ?_
      clear Hz az; intro az Hz
      refine L (r_nilP Hz rfl) Hz rfl ?_
      clear Hz az; intro az Hz
      refine L (r_fa (m' := 0) Tryz.underlying103 rfl Tryz.sizeOf9 rfl Hz rfl rfl) Hz rfl ?_
      clear Hz az; intro az Hz
      have B51 := (Blk.k (Blk.k (Blk.k (Blk.k B5 o9) o28) o34) o38)
      refine L (r_ld Tryz.isAgg9 Hz rfl ((Blk.ca B51) 0 _ rfl)) Hz rfl ?_
      clear Hz az; intro az Hz
      refine L (r_mv Hz rfl) Hz rfl ?_
      clear Hz az; intro az Hz
      have i52 : I64 (((Lib.indexByte (List.take q s.r) e) + 1)) := by unfold I64; omega
      refine L (r_addI (r := ((Lib.indexByte (List.take q s.r) e) + 1)) Hz rfl rfl rfl i52) Hz rfl ?_
      clear Hz az; intro az Hz
      have le53 : (k + 1) ≤ List.length (s.r) := by omega
      refine L (r_ssl (lo := (k + 1)) Tryz.underlying9 Hz rfl rfl (by rw [hk1]; rfl) le53) Hz rfl ?_
      clear Hz az; intro az Hz
      refine L (r_nilP Hz rfl) Hz rfl ?_
      clear Hz az; intro az Hz
      refine L (r_fa (m' := 0) Tryz.underlying103 rfl Tryz.sizeOf9 rfl Hz rfl rfl) Hz rfl ?_
      clear Hz az; intro az Hz
      refine LSt (cs' := [strV (List.drop (k + 1) s.r), .bool (s.b)]) Tryz.sizeOf9 Hz rfl rfl rfl rfl rfl ⟨rfl, trivial⟩ B51 rfl rfl fun w54 s55 B56 => ?_
      refine hK50 _ _ ?_
      refine wp_seq_k fun K57 hK57 => ?_
      -- wire.go:68
      refine wp_region_lit ?_
      refine L (r_mv Hz rfl) Hz rfl ?_
      clear Hz az; intro az Hz
      refine L (r_as Hz rfl) Hz rfl ?_
      clear Hz az; intro az Hz
      refine hK57 _ _ ?_
      refine wp_ret ?_
      show bodyPost _ _ _ .ret _ _
      refine ret_of (vs := [.int .i64 (n23)]) Hz Tryz.results73 ⟨rfl, trivial⟩ ?_
      rw [Wr.number_s hk2 hk3 hk4 ha26 hc39]
      exact ⟨rfl, B56, (Only.trans (Only.trans (Only.trans (Only.trans (Only.trans (Only.trans (Only.refl (oneF g) w) o4 (fun _ h => h.elim)) o9 (fun _ h => h.elim)) o28 (fun _ h => h.elim)) o34 (fun _ h => h.elim)) o38 (fun _ h => h.elim)) s55 (fun _ h => .inl h))⟩

set_option maxRecDepth 20000 in
set_option maxHeartbeats 4000000 in
theorem close_v {w : World} {g : Nat} {s : Wr.Rd} (hB : Blk w g 103 [strV s.r, .bool s.b].toArray) (c : UInt8) : Calls Tryz.prog 75 [.pointer (some ⟨g, 0, none⟩), strV [c]].toArray w (RdTo g (.tuple #[]) (Wr.close s c) w) := by
  refine calls_start Tryz.func75 rfl rfl ?_
  intro az Hz
  rw [Tryz.ntmps75] at Hz
  refine wp_seq_k fun K1 hK1 => ?_
  -- wire.go:73
  refine wp_region_lit ?_
  refine L (r_mv Hz rfl) Hz rfl ?_
  clear Hz az; intro az Hz
  refine L (r_nilP Hz rfl) Hz rfl ?_
  clear Hz az; intro az Hz
  refine L (r_fa (m' := 0) Tryz.underlying103 rfl Tryz.sizeOf9 rfl Hz rfl rfl) Hz rfl ?_
  clear Hz az; intro az Hz
  refine L (r_ld Tryz.isAgg9 Hz rfl ((Blk.ca hB) 0 _ rfl)) Hz rfl ?_
  clear Hz az; intro az Hz
  refine L (r_mv Hz rfl) Hz rfl ?_
  clear Hz az; intro az Hz
  refine LCV (v := .tuple #[strV (Lib.trimPrefix s.r [c]), .bool (Lib.hasPrefix s.r [c])]) Hz rfl rfl Tryz.call87 (cut_v _ s.r [c]) rfl fun w2 o3 => ?_
  clear Hz az; intro az Hz
  refine L (r_mv Hz rfl) Hz rfl ?_
  clear Hz az; intro az Hz
  refine L (r_ex Hz rfl rfl) Hz rfl ?_
  clear Hz az; intro az Hz
  refine L (r_ex Hz rfl rfl) Hz rfl ?_
  clear Hz az; intro az Hz
  refine L (r_as Hz rfl) Hz rfl ?_
  clear Hz az; intro az Hz
  refine L (r_as Hz rfl) Hz rfl ?_
  clear Hz az; intro az Hz
  refine hK1 _ _ ?_
  refine wp_seq_k fun K4 hK4 => ?_
  -- wire.go:74
  refine wp_region_lit ?_
  refine L (r_mv Hz rfl) Hz rfl ?_
  clear Hz az; intro az Hz
  refine L (r_mv Hz rfl) Hz rfl ?_
  clear Hz az; intro az Hz
  refine L (r_nilP Hz rfl) Hz rfl ?_
  clear Hz az; intro az Hz
  refine L (r_fa (m' := 0) Tryz.underlying103 rfl Tryz.sizeOf9 rfl Hz rfl rfl) Hz rfl ?_
  clear Hz az; intro az Hz
  have B5 := (Blk.k hB o3)
  refine LSt (cs' := [strV (Lib.trimPrefix s.r [c]), .bool (s.b)]) Tryz.sizeOf9 Hz rfl rfl rfl rfl rfl ⟨rfl, trivial⟩ B5 rfl rfl fun w6 s7 B8 => ?_
  refine hK4 _ _ ?_
  refine wp_seq_k fun K9 hK9 => ?_
  -- wire.go:74
  refine wp_region_lit ?_
  refine L (r_mv Hz rfl) Hz rfl ?_
  clear Hz az; intro az Hz
  refine L (r_not Hz rfl) Hz rfl ?_
  clear Hz az; intro az Hz
  refine hK9 _ _ ?_
  refine br Hz rfl (fun hc10 => ?_) (fun hc10 => ?_)
  · -- if0
    have q11 : Lib.hasPrefix s.r [c] = false := (nt_t hc10)
    -- wire.go:75
    refine wp_region_lit ?_
    refine L (r_mv Hz rfl) Hz rfl ?_
    clear Hz az; intro az Hz
    refine LC Hz rfl rfl Tryz.call74 (fail_v (s := (⟨Lib.trimPrefix s.r [c], s.b⟩ : Wr.Rd)) B8) rfl ?_
    rintro e w12 ⟨rfl, B13, o14⟩; refine ⟨_, rfl, ?_⟩
    clear Hz az; intro az Hz
    show bodyPost _ _ _ .normal _ _
    refine end_of Hz Tryz.results75 ?_
    rw [Wr.close_eq]
    rw [if_neg (by rw [nt_t hc10]; decide)]
    exact ⟨rfl, B13, (Only.trans (Only.trans (Only.trans (Only.refl (oneF g) w) o3 (fun _ h => h.elim)) s7 (fun _ h => .inl h)) o14 (fun _ h => .inl h))⟩
  · -- else0
    have q15 : Lib.hasPrefix s.r [c] = true := (nt_f hc10)
    refine wp_skip ?_
    show bodyPost _ _ _ .normal _ _
    refine end_of Hz Tryz.results75 ?_
    rw [Wr.close_eq]
    rw [if_pos (nt_f hc10)]
    exact ⟨rfl, B8, (Only.trans (Only.trans (Only.refl (oneF g) w) o3 (fun _ h => h.elim)) s7 (fun _ h => .inl h))⟩
end Go.Proofs.YtlnadcihnfppaaaGreatDoor
