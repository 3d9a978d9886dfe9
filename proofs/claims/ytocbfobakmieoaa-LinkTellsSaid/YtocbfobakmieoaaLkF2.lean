/-
  The link's reference: copied, walked. Condition: at most 1,000,000 of each.
-/
import Derived.Test.YtocbfobakmieoaaLkF1
namespace Go.Proofs.Ytocbfobakmieoaa
set_option linter.unusedVariables false
set_option linter.unusedSimpArgs false
set_option linter.unusedSectionVars false
open Go.RowKit

set_option maxHeartbeats 4000000 in
theorem rcopied_v_ {w : World} {a : Air} {A1 A2 : Option Addr} {c1 c2 : Nat} (f1 : Msgs w (.slice A1 a.ms.length c1) a.ms) (f2 : Prs w (.slice A2 a.cs.length c2) a.cs) (hf : a.ms.length ≤ 1000000 ∧ a.cs.length ≤ 1000000) (but : Int) : Calls Try.prog 38 #[.agg #[.slice A1 a.ms.length c1, .slice A2 a.cs.length c2], .int .i64 but] w (CopO w ⟨Lnk.dropI but a.ms, a.cs⟩) := by
  have hb1 := Nat.le_trans (SliceOf.cap_ f1) (SliceOf.lens f1).2
  have hb2 := Nat.le_trans (SliceOf.cap_ f2) (SliceOf.lens f2).2
  refine calls_start Try.func38 rfl rfl ?_
  intro az Hz
  rw [Try.ntmps38] at Hz
  refine wp_seq_k fun K1 hK1 => ?_
  -- ref.go:47
  refine wp_region_lit ?_
  refine LBox Hz rfl rfl rfl ?_
  clear Hz az; intro g2 w3 hg6 hl7 o4 B5 az Hz
  refine LAl (v := .agg #[.slice none (0) 0, .slice none (0) 0]) zeroAir Hz rfl rfl ?_
  clear Hz az; intro g8 w9 hg12 hl13 o10 B11 az Hz
  refine hK1 _ _ ?_
  refine wp_seq_k fun K14 hK14 => ?_
  -- ref.go:48
  refine wp_region_lit ?_
  refine L (r_bd (v := .agg #[.slice none (0) 0, .slice none (0) 0]) build_Air0 Hz rfl) Hz rfl ?_
  clear Hz az; intro az Hz
  refine LAl (v := .agg #[.slice none (0) 0, .slice none (0) 0]) zeroAir Hz rfl rfl ?_
  clear Hz az; intro g15 w16 hg19 hl20 o17 B18 az Hz
  refine LSt (cs' := [.slice none (0) 0, .slice none (0) 0]) Try.sizeOf25 Hz rfl rfl rfl rfl rfl ⟨rfl, rfl, trivial⟩ B18 rfl rfl fun w21 s22 B23 => ?_
  refine hK14 _ _ ?_
  refine wp_seq_k fun K24 hK24 => ?_
  refine wp_seq_k fun K25 hK25 => ?_
  -- ref.go:49
  refine wp_region_lit ?_
  refine L (r_as Hz rfl) Hz rfl ?_
  clear Hz az; intro az Hz
  refine hK25 _ _ ?_
  refine wp_block ?_
  refine wp_loop_m (fun mz az W => ∃ k : Nat, ∃ O : List Msg, ∃ Ao : Option Addr, ∃ co : Nat, mz = a.ms.length - k ∧ Fr 35 [(1, .int .i64 (but)), (2, .pointer (some ((⟨g2, 0, none⟩ : Addr)))), (4, .pointer (some ((⟨g8, 0, none⟩ : Addr)))), (5, .pointer (some ((⟨g15, 0, none⟩ : Addr)))), (6, .int .i64 ((k : Int)))] az ∧ (k ≤ a.ms.length) ∧ (O = Lnk.dropI but (a.ms.take k)) ∧ Only NoF w9 W ∧ Blk W g15 25 [.slice Ao (O.length) co, .slice none (0) 0].toArray ∧ W.ownsRow w9.heap.size 27 3 (.slice Ao (O).length co) (O).length (List.flatMap KMsg.cells O)) ?_ ?_
  · -- start
    have O26 : Only NoF w9 w21 := (o_sg o17 s22 (Nat.le_refl _) (oneF_ge hg19))
    exact ⟨_, 0, [], none, 0, rfl, Hz.cut ⟨rfl, rfl, rfl, rfl, rfl, trivial⟩, Nat.zero_le _, (by simp [Lnk.dropI]), O26, B23, (World.ownsRow_nil _ _ _ _)⟩
  clear Hz az
  rintro mz az w27 ⟨k, O, Ao, co, hm29, Hz, hk, hO, o28, B30, rO⟩
  have hdl := Lnk.dropI_len but (a.ms.take k); rw [← hO, List.length_take] at hdl
  have okO : ∀ x ∈ O, KMsg.ok x := by rw [hO]; exact fun x hx => Row.oks KMsg f1 x (List.mem_of_mem_take (Lnk.dropI_mem hx))
  refine wp_seq_k fun K31 hK31 => ?_
  refine wp_seq_k fun K32 hK32 => ?_
  -- ref.go:49
  refine wp_region_lit ?_
  refine L (r_mv Hz rfl) Hz rfl ?_
  clear Hz az; intro az Hz
  refine L (r_fa (m' := 0) Try.underlying25 rfl Try.sizeOf22 rfl Hz rfl rfl) Hz rfl ?_
  clear Hz az; intro az Hz
  have B33 := (Blk.k (Blk.k B5 o10) o28)
  refine L (r_ld Try.isAgg22 Hz rfl ((Blk.ca B33) 0 _ rfl)) Hz rfl ?_
  clear Hz az; intro az Hz
  refine L (r_lenL Try.underlying22 Hz rfl) Hz rfl ?_
  clear Hz az; intro az Hz
  refine L (r_ltI Hz rfl rfl) Hz rfl ?_
  clear Hz az; intro az Hz
  refine hK32 _ _ ?_
  refine br Hz rfl (fun hc34 => ?_) (fun hc34 => ?_)
  · -- if0
    have p35 := of_decide_eq_true hc34
    refine wp_skip ?_
    refine hK31 _ _ ?_
    refine wp_seq_k fun K36 hK36 => ?_
    refine wp_block ?_
    refine wp_seq_k fun K37 hK37 => ?_
    -- ref.go:50
    refine wp_region_lit ?_
    refine L (r_mv Hz rfl) Hz rfl ?_
    clear Hz az; intro az Hz
    refine L (r_mv Hz rfl) Hz rfl ?_
    clear Hz az; intro az Hz
    refine L (r_neI Hz rfl rfl) Hz rfl ?_
    clear Hz az; intro az Hz
    refine hK37 _ _ ?_
    refine br Hz rfl (fun hc38 => ?_) (fun hc38 => ?_)
    · -- if1
      have p39 := of_decide_eq_false (nt_t hc38)
      -- ref.go:51
      refine reg_m (orF (ownF (.slice Ao (O.length) co)) (oneF g15)) 1 [7, 8, 10] [(true, 0), (true, 1), (true, 2), (true, 3), (true, 4), (true, 5), (true, 6), (false, 7), (false, 8), (true, 9), (false, 10)] (by kernel_rfl) (by kernel_rfl) (fun _ _ _ _ _ h => h) fun w40 o41 => ?_
      have B42 := (Blk.k B30 o41)
      have B43 := (Blk.k B33 o41)
      refine MSP (b := false) (by kernel_rfl) (fun W oW => r_fa (m' := 0) Try.underlying25 rfl Try.sizeOf22 rfl Hz rfl rfl) Hz rfl rfl ?_
      clear Hz az; intro az Hz
      refine MSP (b := true) (by kernel_rfl) (fun W oW => r_ld Try.isAgg22 Hz rfl ((Blk.ca (Blk.k B42 oW)) 0 _ rfl)) Hz rfl rfl ?_
      clear Hz az; intro az Hz
      refine MSP (b := false) (by kernel_rfl) (fun W oW => r_fa (m' := 0) Try.underlying25 rfl Try.sizeOf22 rfl Hz rfl rfl) Hz rfl rfl ?_
      clear Hz az; intro az Hz
      have r44 := (ow_k rO o41)
      have ne45 : g2 ≠ g15 := (ne_of hl7 (Nat.le_trans (size_only o10) hg19))
      refine MSP (b := false) (by kernel_rfl) (fun W oW => r_ld Try.isAgg22 Hz rfl ((Blk.ca (Blk.only B43 oW (fun h => h.elim (ow_nb r44 B43 (by decide)) ne45))) 0 _ rfl)) Hz rfl rfl ?_
      clear Hz az; intro az Hz
      refine MSP (b := false) (by kernel_rfl) (fun W oW => r_mv Hz rfl) Hz rfl rfl ?_
      clear Hz az; intro az Hz
      have O46 : Only NoF w w40 := (Only.trans' (Only.trans' (Only.trans' o4 o10) o28) o41)
      have h47 := (SliceOf.kp f1 O46 (fun _ _ h => h) (fun _ _ _ _ h => h))
      have hk48 : k < (a.ms).length := by omega
      obtain ⟨m49, hm50, ok51, hA52⟩ := Row.el KMsg h47 hk48
      have E53 : ∀ W, Only NoF w40 W → CA W (eA A1 3 (k)) [.int .i64 (m49.a), .int .i64 (m49.b), strV (m49.t)] := Row.ce KMsg h47 hm50 rfl
      refine MSP (b := false) (by kernel_rfl) (fun W oW => r_ia (k := k) (size := 3) Try.underlying22 Try.sizeOf27 Hz rfl rfl rfl hk48 hA52) Hz rfl rfl ?_
      clear Hz az; intro az Hz
      refine MSP (b := true) (by kernel_rfl) (fun W oW => r_ldA Try.isAgg27 Try.sizeOf27 Hz rfl (E53 _ (Only.trans' (Only.refl NoF w40) oW)) rfl) Hz rfl rfl ?_
      clear Hz az; intro az Hz
      obtain ⟨A54, w55, hw, hA, r56, o57⟩ := Row.made (w := w40) KMsg (e := 27) ([m49] : List Msg) (by simp only [List.length_cons, List.length_nil]; unfold maxLen; omega)
      refine MD (r_bs (z := .agg #[.int .i64 (0), .int .i64 (0), strV ([])]) (size := 3) (vs := [(0, .agg #[.int .i64 (m49.a), .int .i64 (m49.b), strV (m49.t)])]) (cs := List.flatMap KMsg.cells [m49]) Try.underlying22 Try.sizeOf27 zeroMsg rfl (Fr.evalps Hz rfl) (by kernel_rfl)) Hz rfl rfl ?_ ?_
      · rw [← hw]; exact ⟨fun _ => o57, (Only.trans (Only.refl (orF (ownF (.slice Ao (O.length) co)) (oneF g15)) w40) o57 (fun _ h => h.elim))⟩
      rw [← hw, ← hA]; clear Hz az; intro az Hz
      clear hw hA
      have ok58 : ∀ zq ∈ ([m49] : List Msg), KMsg.ok zq := by intro zq hx; simp only [List.mem_cons, List.not_mem_nil, or_false] at hx; rcases hx with rfl <;> first | exact ok51
      have r59 := (ow_k r44 o57)
      have h60 := Row.own KMsg r56 ok58
      have h61 := SliceOf.pl h60
      have hb69 : (List.length (O) + List.length ([m49])) * 32 ≤ 140737488355328 := by first | omega | (simp; omega)
      have O70 : Only NoF w9 w55 := (Only.trans' (Only.trans' o28 o41) o57)
      obtain ⟨A62, c63, w64, hr65, r66, o67, al68⟩ := Row.app (P := Try.prog) (l := O) (l2 := [m49]) KMsg elemMsg r59 h61 hb69 (by unfold maxLen; omega) (size_only O70)
      refine MD (r_app hr65 Hz rfl rfl) Hz rfl rfl ?_ ?_
      · exact ⟨fun h => absurd h (by decide), (Only.trans (Only.trans (Only.refl (orF (ownF (.slice Ao (O.length) co)) (oneF g15)) w40) o57 (fun _ h => h.elim)) o67 (fun _ h => .inl (.inl h)))⟩
      clear Hz az; intro az Hz
      have ok71 : ∀ zq ∈ (O ++ [m49]), KMsg.ok zq := (fun x hx => (List.mem_append.1 hx).elim (okO x) ((Row.oks KMsg h61) x))
      have h72 := Row.own KMsg r66 ok71
      refine MSP (b := false) (by kernel_rfl) (fun W oW => r_fa (m' := 0) Try.underlying25 rfl Try.sizeOf22 rfl Hz rfl rfl) Hz rfl rfl ?_
      clear Hz az; intro az Hz
      have B73 := (Blk.only (Blk.k B42 o57) o67 (ow_nb r59 (Blk.k B42 o57) (by decide)))
      refine MSS (cs' := [.slice A62 (((O ++ [m49])).length) c63, .slice none (0) 0]) Try.sizeOf22 Hz rfl rfl rfl rfl rfl rfl ⟨rfl, trivial⟩ B73 rfl rfl fun w74 s75 B76 => ?_
      refine ⟨⟨fun h => absurd h (by decide), (Only.trans (Only.trans (Only.trans (Only.refl (orF (ownF (.slice Ao (O.length) co)) (oneF g15)) w40) o57 (fun _ h => h.elim)) o67 (fun _ h => .inl (.inl h))) s75 (fun _ h => .inl (.inr h)))⟩, ?_⟩
      refine wpMix_nil ?_
      refine hK36 _ _ ?_
      -- ref.go:49
      refine wp_region_lit ?_
      refine L (r_mv Hz rfl) Hz rfl ?_
      clear Hz az; intro az Hz
      have i77 : I64 ((k : Int) + 1) := by unfold I64; omega
      refine L (r_addI (r := ((k : Int) + 1)) Hz rfl rfl rfl i77) Hz rfl ?_
      clear Hz az; intro az Hz
      refine L (r_as Hz rfl) Hz rfl ?_
      clear Hz az; intro az Hz
      have O78 : Only NoF w9 w74 := (o_sg (o_sg O70 o67 (Nat.le_refl _) (ownF_ge rO)) s75 (Nat.le_refl _) (oneF_ge hg19))
      have r79 := (ow_only r66 s75 (fun k hk hF => ow_nb r66 B73 (by decide) (by rw [show k = g15 from hF] at hk; exact hk)))
      exact ⟨_, (by omega), k + 1, _, A62, c63, rfl, Hz.cut ⟨rfl, rfl, rfl, rfl, rfl, trivial⟩, (by omega), (by rw [Lnk.dropI_step hm50, if_neg (of_decide_eq_false (nt_t hc38)), hO]), O78, B76, r79⟩
    · -- else1
      have p80 := of_decide_eq_true (nt_f hc38)
      refine wp_skip ?_
      refine hK36 _ _ ?_
      -- ref.go:49
      refine wp_region_lit ?_
      refine L (r_mv Hz rfl) Hz rfl ?_
      clear Hz az; intro az Hz
      have i81 : I64 ((k : Int) + 1) := by unfold I64; omega
      refine L (r_addI (r := ((k : Int) + 1)) Hz rfl rfl rfl i81) Hz rfl ?_
      clear Hz az; intro az Hz
      refine L (r_as Hz rfl) Hz rfl ?_
      clear Hz az; intro az Hz
      exact ⟨_, (by omega), k + 1, _, Ao, co, rfl, Hz.cut ⟨rfl, rfl, rfl, rfl, rfl, trivial⟩, (by omega), (by rw [Lnk.dropI_step (List.getElem?_eq_getElem (show k < a.ms.length by omega)), if_pos (of_decide_eq_true (nt_f hc38)), hO]), o28, B30, rO⟩
  · -- else0
    have p82 := of_decide_eq_false hc34
    refine wp_exit ?_
    refine th_exit ?_
    refine th_exit ?_
    refine ib_hit ?_
    refine hK24 _ _ ?_
    refine wp_seq_k fun K83 hK83 => ?_
    -- ref.go:54
    refine wp_region_lit ?_
    refine L (r_fa (m' := 1) Try.underlying25 rfl Try.sizeOf23 rfl Hz rfl rfl) Hz rfl ?_
    clear Hz az; intro az Hz
    refine L (r_ld Try.isAgg23 Hz rfl ((Blk.ca B30) 1 _ rfl)) Hz rfl ?_
    clear Hz az; intro az Hz
    refine L (r_fa (m' := 1) Try.underlying25 rfl Try.sizeOf23 rfl Hz rfl rfl) Hz rfl ?_
    clear Hz az; intro az Hz
    refine L (r_ld Try.isAgg23 Hz rfl ((Blk.ca B33) 1 _ rfl)) Hz rfl ?_
    clear Hz az; intro az Hz
    have O84 : Only NoF w w27 := (Only.trans' (Only.trans' o4 o10) o28)
    have h85 := (SliceOf.kp f2 O84 (fun _ _ h => h) (fun _ _ _ _ h => h))
    have hb93 : (List.length (([] : List Pr)) + List.length (a.cs)) * 16 ≤ 140737488355328 := by first | omega | (simp; omega)
    obtain ⟨A86, c87, w88, hr89, r90, o91, al92⟩ := Row.app (P := Try.prog) (l := ([] : List Pr)) (l2 := a.cs) KPr elemPr (World.ownsRow_nil w27 w27.heap.size 60 2) h85 hb93 (by unfold maxLen; omega) (Nat.le_refl _)
    simp only [List.nil_append, List.append_nil] at hr89 r90 al92
    have o91 := Only.mono o91 (G := NoF) (fun k hk => by cases hk)
    refine L (r_app hr89 Hz rfl rfl) Hz rfl ?_
    clear Hz az; intro az Hz
    have ok94 : ∀ zq ∈ a.cs, KPr.ok zq := (Row.oks KPr h85)
    have h95 := Row.own KPr r90 ok94
    refine L (r_fa (m' := 1) Try.underlying25 rfl Try.sizeOf23 rfl Hz rfl rfl) Hz rfl ?_
    clear Hz az; intro az Hz
    have B96 := (Blk.k B30 o91)
    refine LSt (cs' := [.slice Ao (O.length) co, .slice A86 ((a.cs).length) c87]) Try.sizeOf23 Hz rfl rfl rfl rfl rfl ⟨rfl, trivial⟩ B96 rfl rfl fun w97 s98 B99 => ?_
    refine hK83 _ _ ?_
    refine wp_seq_k fun K100 hK100 => ?_
    -- ref.go:55
    refine wp_region_lit ?_
    refine L (r_ldA Try.isAgg25 Try.sizeOf25 Hz rfl (Blk.ca B99) rfl) Hz rfl ?_
    clear Hz az; intro az Hz
    have ne101 : g8 ≠ g15 := (ne_of hl13 hg19)
    have B102 := (Blk.st (Blk.k (Blk.k B11 o28) o91) s98 ne101)
    refine LSt (cs' := [.slice Ao (O.length) co, .slice A86 ((a.cs).length) c87]) Try.sizeOf25 Hz rfl rfl rfl rfl rfl ⟨rfl, rfl, trivial⟩ B102 rfl rfl fun w103 s104 B105 => ?_
    refine hK100 _ _ ?_
    refine wp_ret ?_
    show bodyPost _ _ _ .ret _ _
    refine ret_of (vs := [.agg #[.slice Ao (O.length) co, .slice A86 ((a.cs).length) c87]]) Hz Try.results38 ⟨⟨_, rfl, l_ca Try.isAgg25 Try.sizeOf25 (Blk.ca B105) rfl⟩, trivial⟩ ?_
    obtain rfl : O = Lnk.dropI but a.ms := by rw [hO, List.take_of_length_le (by omega)]
    have r106 := (ow_only (ow_only (ow_k rO o91) s98 (fun k hk hF => ow_nb (ow_k rO o91) B96 (by decide) (by rw [show k = g15 from hF] at hk; exact hk))) s104 (fun k hk => ge_F (oneF_lt hl13) (Nat.le_refl _) k (ownF_ge (ow_only (ow_k rO o91) s98 (fun k hk hF => ow_nb (ow_k rO o91) B96 (by decide) (by rw [show k = g15 from hF] at hk; exact hk))) k hk)))
    have O107 : Only NoF w w9 := (Only.trans' o4 o10)
    have r108 := (ow_only (ow_only r90 s98 (fun k hk => ge_F (oneF_lt (Blk.lt B30)) (Nat.le_refl _) k (ownF_ge r90 k hk))) s104 (fun k hk => ge_F (oneF_lt hl13) (size_only o28) k (ownF_ge (ow_only r90 s98 (fun k hk => ge_F (oneF_lt (Blk.lt B30)) (Nat.le_refl _) k (ownF_ge r90 k hk))) k hk)))
    have O109 : Only NoF w w103 := (o_sg (o_sg (Only.trans' O84 o91) s98 (size_only O107) (oneF_ge hg19)) s104 (size_only o4) (oneF_ge hg12))
    exact ⟨_, _, _, _, rfl, (ow_low r106 (size_only O107)), (ow_low r108 (size_only O84)), okO, ok94, O109⟩

theorem rcopied_v {w : World} {v : Value} {a : Air} (h : AirV w v a) (hf : Few_ a) (but : Int) : Calls Try.prog 38 #[v, .int .i64 but] w (CopO w ⟨Lnk.dropI but a.ms, a.cs⟩) := by
  obtain ⟨v1, v2, rfl, f1, f2⟩ := h
  obtain ⟨A1, c1, rfl, _⟩ := SliceOf.shape f1
  obtain ⟨A2, c2, rfl, _⟩ := SliceOf.shape f2
  exact rcopied_v_ f1 f2 hf but
end Go.Proofs.Ytocbfobakmieoaa
