/-
  LinkTells, walked: it returns true. No condition.
-/
import Derived.Test.YtocbfobakmieoaaLkV4
namespace Go.Proofs.Ytocbfobakmieoaa
set_option linter.unusedVariables false
set_option linter.unusedSimpArgs false
set_option linter.unusedSectionVars false
open Go.RowKit

theorem DelO.to {w w' : World} {r : Air × Msg × Int} {e : Ending} (h : DelO w r e w') : DelivT w r e w' := by
  obtain ⟨A1, c1, A2, c2, rfl, h1, h2, h3, h4, o⟩ := h
  exact ⟨A1, c1, A2, c2, rfl, Row.own KMsg h1 h3, Row.own KPr h2 h4, o⟩
theorem rRun_v {w : World} {v v2 : Value} {a : Air} {l : List Ev} (h : AirV w v a) (f3 : Evs w v2 l) (hf : Few_ a) (hcl : a.cs.length + l.length ≤ 1000000) : Calls Try.prog 25 #[v, v2] w (RunV w (Lnk.run a l)) := by
  obtain ⟨v1, v2, rfl, f1, f2⟩ := h
  obtain ⟨A1, c1, rfl, _⟩ := SliceOf.shape f1
  obtain ⟨A2, c2, rfl, _⟩ := SliceOf.shape f2
  obtain ⟨A3, c3, rfl, _⟩ := SliceOf.shape f3
  exact rRun_v_ f1 f2 f3 hf hcl
set_option maxRecDepth 100000 in
set_option maxHeartbeats 4000000 in
theorem tells_v {w : World} {a : Air} {m : Msg} {x y : Int} {l : List Ev} {A1 A2 A3 : Option Addr} {c1 c2 c3 : Nat} (f1 : Msgs w (.slice A1 a.ms.length c1) a.ms) (f2 : Prs w (.slice A2 a.cs.length c2) a.cs) (hm : MsgOk m) (hx : I64 x) (hy : I64 y) (f3 : Evs w (.slice A3 l.length c3) l) :
    Calls Try.prog 3 [.agg #[.slice A1 a.ms.length c1, .slice A2 a.cs.length c2], .agg #[.int .i64 m.a, .int .i64 m.b, strV m.t], .int .i64 x, .int .i64 y, .slice A3 l.length c3].toArray w (BoolTo w true) := by
  refine calls_start Try.func3 rfl rfl ?_
  intro az Hz
  rw [Try.ntmps3] at Hz
  refine wp_seq_k fun K1 hK1 => ?_
  -- law.go:26
  refine wp_region_lit ?_
  refine LBox Hz rfl rfl rfl ?_
  clear Hz az; intro g2 w3 hg6 hl7 o4 B5 az Hz
  refine LBox Hz rfl rfl rfl ?_
  clear Hz az; intro g8 w9 hg12 hl13 o10 B11 az Hz
  refine L (r_as Hz rfl) Hz rfl ?_
  clear Hz az; intro az Hz
  refine hK1 _ _ ?_
  refine wp_seq_k fun K14 hK14 => ?_
  -- law.go:27
  refine wp_region_lit ?_
  refine LCV (v := .bool (true)) Hz rfl rfl Try.call8 (l38sane_c) rfl fun w15 o16 => ?_
  clear Hz az; intro az Hz
  refine L (r_as Hz rfl) Hz rfl ?_
  clear Hz az; intro az Hz
  refine hK14 _ _ ?_
  refine wp_seq_k fun K17 hK17 => ?_
  refine wp_seq_k fun K18 hK18 => ?_
  -- law.go:28
  refine wp_region_lit ?_
  have B19 := (Blk.k (Blk.k B5 o10) o16)
  refine L (r_ldA Try.isAgg25 Try.sizeOf25 Hz rfl (Blk.ca B19) rfl) Hz rfl ?_
  clear Hz az; intro az Hz
  have O20 : Only NoF w w15 := (Only.trans' (Only.trans' o4 o10) o16)
  have h21 := (SliceOf.kp f1 O20 (fun _ _ h => h) (fun _ _ _ _ h => h))
  have h22 := (SliceOf.kp f2 O20 (fun _ _ h => h) (fun _ _ _ _ h => h))
  refine LCE Hz rfl rfl Try.call9 (kFew_c (show AirV _ _ a from ⟨_, _, rfl, h21, h22⟩) 20 (by omega)) rfl fun b25 w23 hs26 o24 => ?_
  clear Hz az; intro az Hz
  refine L (r_not Hz rfl) Hz rfl ?_
  clear Hz az; intro az Hz
  refine L (r_mv Hz rfl) Hz rfl ?_
  clear Hz az; intro az Hz
  refine LG Hz rfl rfl gd_f (fun hb => r_fa (m' := 2) Try.underlying27 rfl Try.sizeOf9 rfl Hz rfl rfl) rfl ?_
  clear Hz az; intro az Hz
  have B27 := (Blk.k (Blk.k B11 o16) o24)
  refine LG Hz rfl rfl gd_f (fun hb => r_ld Try.isAgg9 Hz (evg hb rfl) ((Blk.ca B27) 2 _ rfl)) rfl ?_
  clear Hz az; intro az Hz
  refine LG Hz rfl rfl gd_f (fun hb => r_lenS Try.underlying9 Hz (evg hb rfl)) rfl ?_
  clear Hz az; intro az Hz
  refine LG Hz rfl rfl gd_f (fun hb => r_gtI Hz (evg hb rfl) rfl) rfl ?_
  clear Hz az; intro az Hz
  refine L (r_or Hz rfl rfl rfl) Hz rfl ?_
  clear Hz az; intro az Hz
  refine L (r_mv Hz rfl) Hz rfl ?_
  clear Hz az; intro az Hz
  refine LG Hz rfl rfl gd_f (fun hb => r_mv Hz rfl) rfl ?_
  clear Hz az; intro az Hz
  have O28 : Only NoF w w23 := (Only.trans' O20 o24)
  have h29 := (SliceOf.kp f3 O28 (fun _ _ h => h) (fun _ _ _ _ h => h))
  refine LGE Hz rfl rfl gd_f rfl (fun hb => (evs_c (evg hb rfl) (evs_c rfl rfl))) Try.call10 (fun hb => kFewE_c h29 20 (by omega)) rfl fun b32 w30 hs33 o31 => ?_
  clear Hz az; intro az Hz
  refine LG Hz rfl rfl gd_f (fun hb => r_not Hz (evg hb rfl)) rfl ?_
  clear Hz az; intro az Hz
  refine L (r_or Hz rfl rfl rfl) Hz rfl ?_
  clear Hz az; intro az Hz
  refine hK18 _ _ ?_
  refine br Hz rfl (fun hc34 => ?_) (fun hc34 => ?_)
  · -- if0
    have d35 := hc34
    refine wp_seq_k fun K36 hK36 => ?_
    -- law.go:29
    refine wp_region_lit ?_
    refine L (r_mv Hz rfl) Hz rfl ?_
    clear Hz az; intro az Hz
    refine L (r_as Hz rfl) Hz rfl ?_
    clear Hz az; intro az Hz
    refine hK36 _ _ ?_
    refine wp_ret ?_
    show bodyPost _ _ _ .ret _ _
    refine ret_of (vs := [.bool (true)]) Hz Try.results3 ⟨rfl, trivial⟩ ?_
    have O37 : Only NoF w w30 := (Only.trans' O28 o31)
    exact ⟨rfl, O37⟩
  · -- else0
    have q38 : b25 = true := (nt_f (or_f (or_f hc34).1).1)
    have S39 := hs26 q38
    have p40 := of_decide_eq_false (or_f (or_f hc34).1).2
    have q41 : b32 = true := (nt_f (or_f hc34).2)
    have S42 := hs33 (by rw [q38, decide_eq_false p40]; rfl) q41
    obtain ⟨few1, few2, few3⟩ := S39
    obtain ⟨fwe0, fwx0⟩ := S42
    have hfw : Few_ a := ⟨by omega, by omega⟩
    refine wp_skip ?_
    refine hK17 _ _ ?_
    refine wp_seq_k fun K43 hK43 => ?_
    -- law.go:31
    refine wp_region_lit ?_
    have B44 := (Blk.k (Blk.k B19 o24) o31)
    refine L (r_ldA Try.isAgg25 Try.sizeOf25 Hz rfl (Blk.ca B44) rfl) Hz rfl ?_
    clear Hz az; intro az Hz
    have B45 := (Blk.k B27 o31)
    refine L (r_ldA Try.isAgg27 Try.sizeOf27 Hz rfl (Blk.ca B45) rfl) Hz rfl ?_
    clear Hz az; intro az Hz
    have O46 : Only NoF w w30 := (Only.trans' O28 o31)
    have h47 := (SliceOf.kp f1 O46 (fun _ _ h => h) (fun _ _ _ _ h => h))
    have h48 := (SliceOf.kp f2 O46 (fun _ _ h => h) (fun _ _ _ _ h => h))
    refine LC Hz rfl rfl Try.call11 (Send_v (show AirV _ _ a from ⟨_, _, rfl, h47, h48⟩) hfw (m := m) hm) rfl ?_
    rintro e w56 ⟨A49, c51, A50, c52, rfl, f53, f54, o55⟩; refine ⟨_, rfl, ?_⟩
    clear Hz az; intro az Hz
    refine L (r_mv Hz rfl) Hz rfl ?_
    clear Hz az; intro az Hz
    refine L (r_ex Hz rfl rfl) Hz rfl ?_
    clear Hz az; intro az Hz
    refine L (r_ex Hz rfl rfl) Hz rfl ?_
    clear Hz az; intro az Hz
    refine LAl (v := .agg #[.slice none (0) 0, .slice none (0) 0]) zeroAir Hz rfl rfl ?_
    clear Hz az; intro g57 w58 hg61 hl62 o59 B60 az Hz
    refine LSt (cs' := [.slice A49 ((Lnk.send a m).1.ms.length) c51, .slice A50 ((Lnk.send a m).1.cs.length) c52]) Try.sizeOf25 Hz rfl rfl rfl rfl rfl ⟨rfl, rfl, trivial⟩ B60 rfl rfl fun w63 s64 B65 => ?_
    refine L (r_as Hz rfl) Hz rfl ?_
    clear Hz az; intro az Hz
    refine hK43 _ _ ?_
    refine wp_seq_k fun K66 hK66 => ?_
    -- law.go:32
    refine wp_region_lit ?_
    have O68 : Only NoF w3 w56 := (Only.trans' (Only.trans' (Only.trans' (Only.trans' o10 o16) o24) o31) o55)
    have ne67 : g2 ≠ g57 := (ne_of hl7 (Nat.le_trans (size_only O68) hg61))
    have B69 := (Blk.st (Blk.k (Blk.k B44 o55) o59) s64 ne67)
    refine L (r_ldA Try.isAgg25 Try.sizeOf25 Hz rfl (Blk.ca B69) rfl) Hz rfl ?_
    clear Hz az; intro az Hz
    have O71 : Only NoF w9 w56 := (Only.trans' (Only.trans' (Only.trans' o16 o24) o31) o55)
    have ne70 : g8 ≠ g57 := (ne_of hl13 (Nat.le_trans (size_only O71) hg61))
    have B72 := (Blk.st (Blk.k (Blk.k B45 o55) o59) s64 ne70)
    refine L (r_ldA Try.isAgg27 Try.sizeOf27 Hz rfl (Blk.ca B72) rfl) Hz rfl ?_
    clear Hz az; intro az Hz
    have O73 : Only NoF w w56 := (Only.trans' O46 o55)
    have O74 : Only NoF w w63 := (o_sg (Only.trans' (Only.trans' O46 o55) o59) s64 (size_only O73) (oneF_ge hg61))
    have h75 := (SliceOf.kp f1 O74 (fun _ _ h => h) (fun _ _ _ _ h => h))
    have h76 := (SliceOf.kp f2 O74 (fun _ _ h => h) (fun _ _ _ _ h => h))
    refine LC Hz rfl rfl Try.call12 ((rSend_v (show AirV _ _ a from ⟨_, _, rfl, h75, h76⟩) hfw (m := m) hm).mono fun _ _ h => AirO.to h) rfl ?_
    rintro e w84 ⟨A77, c79, A78, c80, rfl, f81, f82, o83⟩; refine ⟨_, rfl, ?_⟩
    clear Hz az; intro az Hz
    refine L (r_mv Hz rfl) Hz rfl ?_
    clear Hz az; intro az Hz
    refine L (r_ex Hz rfl rfl) Hz rfl ?_
    clear Hz az; intro az Hz
    refine L (r_ex Hz rfl rfl) Hz rfl ?_
    clear Hz az; intro az Hz
    refine LAl (v := .agg #[.slice none (0) 0, .slice none (0) 0]) zeroAir Hz rfl rfl ?_
    clear Hz az; intro g85 w86 hg89 hl90 o87 B88 az Hz
    refine LSt (cs' := [.slice A77 ((Lnk.send a m).1.ms.length) c79, .slice A78 ((Lnk.send a m).1.cs.length) c80]) Try.sizeOf25 Hz rfl rfl rfl rfl rfl ⟨rfl, rfl, trivial⟩ B88 rfl rfl fun w91 s92 B93 => ?_
    refine L (r_as Hz rfl) Hz rfl ?_
    clear Hz az; intro az Hz
    refine hK66 _ _ ?_
    refine wp_seq_k fun K94 hK94 => ?_
    refine wp_seq_k fun K95 hK95 => ?_
    -- law.go:33
    refine wp_region_lit ?_
    refine L (r_mv Hz rfl) Hz rfl ?_
    clear Hz az; intro az Hz
    refine L (r_mv Hz rfl) Hz rfl ?_
    clear Hz az; intro az Hz
    refine L (r_neRI Hz rfl rfl) Hz rfl ?_
    clear Hz az; intro az Hz
    refine L (r_mv Hz rfl) Hz rfl ?_
    clear Hz az; intro az Hz
    have O97 := (Only.trans (Only.trans (Only.refl (fun _ => True) w58) s64 (fun _ _ => .inl trivial)) o83 (fun _ _ => .inl trivial))
    have ne96 : g57 ≠ g85 := (ne_of hl62 (Nat.le_trans (size_only O97) hg89))
    have B98 := (Blk.st (Blk.k (Blk.k B65 o83) o87) s92 ne96)
    refine LT Hz rfl rfl (r_ldA Try.isAgg25 Try.sizeOf25 Hz rfl (Blk.ca B98) rfl) rfl ?_
    clear Hz az; intro az Hz
    refine LT Hz rfl rfl (r_ldA Try.isAgg25 Try.sizeOf25 Hz rfl (Blk.ca B93) rfl) rfl ?_
    clear Hz az; intro az Hz
    have O99 : Only NoF w56 w84 := (Only.trans' (o_sg o59 s64 (Nat.le_refl _) (oneF_ge hg61)) o83)
    have O100 : Only NoF w56 w91 := (o_sg (Only.trans' (Only.trans' (o_sg o59 s64 (Nat.le_refl _) (oneF_ge hg61)) o83) o87) s92 (size_only O99) (oneF_ge hg89))
    have h101 := (SliceOf.kp f53 O100 (fun _ _ h => h) (fun _ _ _ _ h => h))
    have h102 := SliceOf.pl h101
    have h103 := (SliceOf.kp f54 O100 (fun _ _ h => h) (fun _ _ _ _ h => h))
    have h104 := SliceOf.pl h103
    have O105 : Only NoF w84 w91 := (o_sg o87 s92 (Nat.le_refl _) (oneF_ge hg89))
    have h106 := (SliceOf.kp f81 O105 (fun _ _ h => h) (fun _ _ _ _ h => h))
    have h107 := SliceOf.pl h106
    have h108 := (SliceOf.kp f82 O105 (fun _ _ h => h) (fun _ _ _ _ h => h))
    have h109 := SliceOf.pl h108
    refine LGV (v := .bool (true)) Hz rfl rfl gd_f rfl (fun hb => rfl) Try.call13 (fun hb => kSame_same (show AirV _ _ (Lnk.send a m).1 from ⟨_, _, rfl, h102, h104⟩) (show AirV _ _ (Lnk.send a m).1 from ⟨_, _, rfl, h107, h109⟩)) rfl fun w110 o111 => ?_
    clear Hz az; intro az Hz
    refine LT Hz rfl rfl (r_not Hz rfl) rfl ?_
    clear Hz az; intro az Hz
    refine L (r_pick Hz rfl rfl rfl) Hz rfl ?_
    clear Hz az; intro az Hz
    refine hK95 _ _ ?_
    refine br_false Hz rfl ?_
    refine wp_skip ?_
    refine hK94 _ _ ?_
    refine wp_seq_k fun K112 hK112 => ?_
    -- law.go:36
    refine wp_region_lit ?_
    have O114 : Only NoF w3 w84 := (Only.trans' (o_sg (Only.trans' O68 o59) s64 (size_only O68) (oneF_ge hg61)) o83)
    have ne113 : g2 ≠ g85 := (ne_of hl7 (Nat.le_trans (size_only O114) hg89))
    have B115 := (Blk.k (Blk.st (Blk.k (Blk.k B69 o83) o87) s92 ne113) o111)
    refine L (r_ldA Try.isAgg25 Try.sizeOf25 Hz rfl (Blk.ca B115) rfl) Hz rfl ?_
    clear Hz az; intro az Hz
    refine L (r_mv Hz rfl) Hz rfl ?_
    clear Hz az; intro az Hz
    have O116 : Only NoF w w84 := (Only.trans' O74 o83)
    have O117 : Only NoF w w110 := (Only.trans' (o_sg (Only.trans' (Only.trans' O74 o83) o87) s92 (size_only O116) (oneF_ge hg89)) o111)
    have h118 := (SliceOf.kp f1 O117 (fun _ _ h => h) (fun _ _ _ _ h => h))
    have h119 := (SliceOf.kp f2 O117 (fun _ _ h => h) (fun _ _ _ _ h => h))
    refine LC Hz rfl rfl Try.call14 (Double_v (show AirV _ _ a from ⟨_, _, rfl, h118, h119⟩) hfw x) rfl ?_
    rintro e w127 ⟨A120, c122, A121, c123, rfl, f124, f125, o126⟩; refine ⟨_, rfl, ?_⟩
    clear Hz az; intro az Hz
    refine L (r_mv Hz rfl) Hz rfl ?_
    clear Hz az; intro az Hz
    refine L (r_ex Hz rfl rfl) Hz rfl ?_
    clear Hz az; intro az Hz
    refine L (r_ex Hz rfl rfl) Hz rfl ?_
    clear Hz az; intro az Hz
    have B128 := (Blk.k (Blk.k B98 o111) o126)
    refine LSt (cs' := [.slice A120 ((Lnk.double a x).1.ms.length) c122, .slice A121 ((Lnk.double a x).1.cs.length) c123]) Try.sizeOf25 Hz rfl rfl rfl rfl rfl ⟨rfl, rfl, trivial⟩ B128 rfl rfl fun w129 s130 B131 => ?_
    refine L (r_as Hz rfl) Hz rfl ?_
    clear Hz az; intro az Hz
    refine hK112 _ _ ?_
    refine wp_seq_k fun K132 hK132 => ?_
    -- law.go:37
    refine wp_region_lit ?_
    have B133 := (Blk.st (Blk.k B115 o126) s130 ne67)
    refine L (r_ldA Try.isAgg25 Try.sizeOf25 Hz rfl (Blk.ca B133) rfl) Hz rfl ?_
    clear Hz az; intro az Hz
    refine L (r_mv Hz rfl) Hz rfl ?_
    clear Hz az; intro az Hz
    have O134 : Only NoF w w129 := (o_sg (Only.trans' O117 o126) s130 (size_only O73) (oneF_ge hg61))
    have h135 := (SliceOf.kp f1 O134 (fun _ _ h => h) (fun _ _ _ _ h => h))
    have h136 := (SliceOf.kp f2 O134 (fun _ _ h => h) (fun _ _ _ _ h => h))
    refine LC Hz rfl rfl Try.call15 ((rDouble_v (show AirV _ _ a from ⟨_, _, rfl, h135, h136⟩) hfw x).mono fun _ _ h => AirO.to h) rfl ?_
    rintro e w144 ⟨A137, c139, A138, c140, rfl, f141, f142, o143⟩; refine ⟨_, rfl, ?_⟩
    clear Hz az; intro az Hz
    refine L (r_mv Hz rfl) Hz rfl ?_
    clear Hz az; intro az Hz
    refine L (r_ex Hz rfl rfl) Hz rfl ?_
    clear Hz az; intro az Hz
    refine L (r_ex Hz rfl rfl) Hz rfl ?_
    clear Hz az; intro az Hz
    have ne145 : g85 ≠ g57 := (ne_of hl62 (Nat.le_trans (size_only O97) hg89)).symm
    have B146 := (Blk.k (Blk.st (Blk.k (Blk.k B93 o111) o126) s130 ne145) o143)
    refine LSt (cs' := [.slice A137 ((Lnk.double a x).1.ms.length) c139, .slice A138 ((Lnk.double a x).1.cs.length) c140]) Try.sizeOf25 Hz rfl rfl rfl rfl rfl ⟨rfl, rfl, trivial⟩ B146 rfl rfl fun w147 s148 B149 => ?_
    refine L (r_as Hz rfl) Hz rfl ?_
    clear Hz az; intro az Hz
    refine hK132 _ _ ?_
    refine wp_seq_k fun K150 hK150 => ?_
    refine wp_seq_k fun K151 hK151 => ?_
    -- law.go:38
    refine wp_region_lit ?_
    refine L (r_mv Hz rfl) Hz rfl ?_
    clear Hz az; intro az Hz
    refine L (r_mv Hz rfl) Hz rfl ?_
    clear Hz az; intro az Hz
    refine L (r_neRI Hz rfl rfl) Hz rfl ?_
    clear Hz az; intro az Hz
    refine L (r_mv Hz rfl) Hz rfl ?_
    clear Hz az; intro az Hz
    have B152 := (Blk.st (Blk.k B131 o143) s148 ne96)
    refine LT Hz rfl rfl (r_ldA Try.isAgg25 Try.sizeOf25 Hz rfl (Blk.ca B152) rfl) rfl ?_
    clear Hz az; intro az Hz
    refine LT Hz rfl rfl (r_ldA Try.isAgg25 Try.sizeOf25 Hz rfl (Blk.ca B149) rfl) rfl ?_
    clear Hz az; intro az Hz
    have O153 := (Only.trans (Only.trans (Only.trans (Only.trans (Only.trans (Only.refl (fun _ => True) w58) s64 (fun _ _ => .inl trivial)) o83 (fun _ _ => .inl trivial)) o87 (fun _ _ => .inl trivial)) s92 (fun _ _ => .inl trivial)) o111 (fun _ _ => .inl trivial))
    have O154 := (Only.trans (Only.trans (Only.refl (fun _ => True) w86) s92 (fun _ _ => .inl trivial)) o111 (fun _ _ => .inl trivial))
    have h155 := (SliceOf.kp (SliceOf.kp (SliceOf.kp f124 s130 (ge_F (oneF_lt hl62) (size_only O153)) (fun _ _ _ _ h => h)) o143 (fun _ _ h => h) (fun _ _ _ _ h => h)) s148 (ge_F (oneF_lt hl90) (size_only O154)) (fun _ _ _ _ h => h))
    have h156 := SliceOf.pl h155
    have h157 := (SliceOf.kp (SliceOf.kp (SliceOf.kp f125 s130 (ge_F (oneF_lt hl62) (size_only O153)) (fun _ _ _ _ h => h)) o143 (fun _ _ h => h) (fun _ _ _ _ h => h)) s148 (ge_F (oneF_lt hl90) (size_only O154)) (fun _ _ _ _ h => h))
    have h158 := SliceOf.pl h157
    have O159 := (Only.trans (Only.trans (Only.trans (Only.trans (Only.refl (fun _ => True) w86) s92 (fun _ _ => .inl trivial)) o111 (fun _ _ => .inl trivial)) o126 (fun _ _ => .inl trivial)) s130 (fun _ _ => .inl trivial))
    have h160 := (SliceOf.kp f141 s148 (ge_F (oneF_lt hl90) (size_only O159)) (fun _ _ _ _ h => h))
    have h161 := SliceOf.pl h160
    have h162 := (SliceOf.kp f142 s148 (ge_F (oneF_lt hl90) (size_only O159)) (fun _ _ _ _ h => h))
    have h163 := SliceOf.pl h162
    refine LGV (v := .bool (true)) Hz rfl rfl gd_f rfl (fun hb => rfl) Try.call13 (fun hb => kSame_same (show AirV _ _ (Lnk.double a x).1 from ⟨_, _, rfl, h156, h158⟩) (show AirV _ _ (Lnk.double a x).1 from ⟨_, _, rfl, h161, h163⟩)) rfl fun w164 o165 => ?_
    clear Hz az; intro az Hz
    refine LT Hz rfl rfl (r_not Hz rfl) rfl ?_
    clear Hz az; intro az Hz
    refine L (r_pick Hz rfl rfl rfl) Hz rfl ?_
    clear Hz az; intro az Hz
    refine hK151 _ _ ?_
    refine br_false Hz rfl ?_
    refine wp_skip ?_
    refine hK150 _ _ ?_
    refine wp_seq_k fun K166 hK166 => ?_
    -- law.go:41
    refine wp_region_lit ?_
    have B167 := (Blk.k (Blk.st (Blk.k B133 o143) s148 ne113) o165)
    refine L (r_ldA Try.isAgg25 Try.sizeOf25 Hz rfl (Blk.ca B167) rfl) Hz rfl ?_
    clear Hz az; intro az Hz
    refine L (r_mv Hz rfl) Hz rfl ?_
    clear Hz az; intro az Hz
    have O168 : Only NoF w w164 := (Only.trans' (o_sg (Only.trans' O134 o143) s148 (size_only O116) (oneF_ge hg89)) o165)
    have h169 := (SliceOf.kp f1 O168 (fun _ _ h => h) (fun _ _ _ _ h => h))
    have h170 := (SliceOf.kp f2 O168 (fun _ _ h => h) (fun _ _ _ _ h => h))
    refine LC Hz rfl rfl Try.call16 (Lose_v (show AirV _ _ a from ⟨_, _, rfl, h169, h170⟩) hfw x) rfl ?_
    rintro e w178 ⟨A171, c173, A172, c174, rfl, f175, f176, o177⟩; refine ⟨_, rfl, ?_⟩
    clear Hz az; intro az Hz
    refine L (r_mv Hz rfl) Hz rfl ?_
    clear Hz az; intro az Hz
    refine L (r_ex Hz rfl rfl) Hz rfl ?_
    clear Hz az; intro az Hz
    refine L (r_ex Hz rfl rfl) Hz rfl ?_
    clear Hz az; intro az Hz
    have B179 := (Blk.k (Blk.k B152 o165) o177)
    refine LSt (cs' := [.slice A171 ((Lnk.lose a x).1.ms.length) c173, .slice A172 ((Lnk.lose a x).1.cs.length) c174]) Try.sizeOf25 Hz rfl rfl rfl rfl rfl ⟨rfl, rfl, trivial⟩ B179 rfl rfl fun w180 s181 B182 => ?_
    refine L (r_as Hz rfl) Hz rfl ?_
    clear Hz az; intro az Hz
    refine hK166 _ _ ?_
    refine wp_seq_k fun K183 hK183 => ?_
    -- law.go:42
    refine wp_region_lit ?_
    have B184 := (Blk.st (Blk.k B167 o177) s181 ne67)
    refine L (r_ldA Try.isAgg25 Try.sizeOf25 Hz rfl (Blk.ca B184) rfl) Hz rfl ?_
    clear Hz az; intro az Hz
    refine L (r_mv Hz rfl) Hz rfl ?_
    clear Hz az; intro az Hz
    have O185 : Only NoF w w180 := (o_sg (Only.trans' O168 o177) s181 (size_only O73) (oneF_ge hg61))
    have h186 := (SliceOf.kp f1 O185 (fun _ _ h => h) (fun _ _ _ _ h => h))
    have h187 := (SliceOf.kp f2 O185 (fun _ _ h => h) (fun _ _ _ _ h => h))
    refine LC Hz rfl rfl Try.call17 ((rLose_v (show AirV _ _ a from ⟨_, _, rfl, h186, h187⟩) hfw x).mono fun _ _ h => AirO.to h) rfl ?_
    rintro e w195 ⟨A188, c190, A189, c191, rfl, f192, f193, o194⟩; refine ⟨_, rfl, ?_⟩
    clear Hz az; intro az Hz
    refine L (r_mv Hz rfl) Hz rfl ?_
    clear Hz az; intro az Hz
    refine L (r_ex Hz rfl rfl) Hz rfl ?_
    clear Hz az; intro az Hz
    refine L (r_ex Hz rfl rfl) Hz rfl ?_
    clear Hz az; intro az Hz
    have B196 := (Blk.k (Blk.st (Blk.k (Blk.k B149 o165) o177) s181 ne145) o194)
    refine LSt (cs' := [.slice A188 ((Lnk.lose a x).1.ms.length) c190, .slice A189 ((Lnk.lose a x).1.cs.length) c191]) Try.sizeOf25 Hz rfl rfl rfl rfl rfl ⟨rfl, rfl, trivial⟩ B196 rfl rfl fun w197 s198 B199 => ?_
    refine L (r_as Hz rfl) Hz rfl ?_
    clear Hz az; intro az Hz
    refine hK183 _ _ ?_
    refine wp_seq_k fun K200 hK200 => ?_
    refine wp_seq_k fun K201 hK201 => ?_
    -- law.go:43
    refine wp_region_lit ?_
    refine L (r_mv Hz rfl) Hz rfl ?_
    clear Hz az; intro az Hz
    refine L (r_mv Hz rfl) Hz rfl ?_
    clear Hz az; intro az Hz
    refine L (r_neRI Hz rfl rfl) Hz rfl ?_
    clear Hz az; intro az Hz
    refine L (r_mv Hz rfl) Hz rfl ?_
    clear Hz az; intro az Hz
    have B202 := (Blk.st (Blk.k B182 o194) s198 ne96)
    refine LT Hz rfl rfl (r_ldA Try.isAgg25 Try.sizeOf25 Hz rfl (Blk.ca B202) rfl) rfl ?_
    clear Hz az; intro az Hz
    refine LT Hz rfl rfl (r_ldA Try.isAgg25 Try.sizeOf25 Hz rfl (Blk.ca B199) rfl) rfl ?_
    clear Hz az; intro az Hz
    have O203 := (Only.trans (Only.trans (Only.trans (Only.trans (Only.trans (Only.trans (Only.trans (Only.trans (Only.trans (Only.trans (Only.refl (fun _ => True) w58) s64 (fun _ _ => .inl trivial)) o83 (fun _ _ => .inl trivial)) o87 (fun _ _ => .inl trivial)) s92 (fun _ _ => .inl trivial)) o111 (fun _ _ => .inl trivial)) o126 (fun _ _ => .inl trivial)) s130 (fun _ _ => .inl trivial)) o143 (fun _ _ => .inl trivial)) s148 (fun _ _ => .inl trivial)) o165 (fun _ _ => .inl trivial))
    have O204 := (Only.trans (Only.trans (Only.trans (Only.trans (Only.trans (Only.trans (Only.trans (Only.refl (fun _ => True) w86) s92 (fun _ _ => .inl trivial)) o111 (fun _ _ => .inl trivial)) o126 (fun _ _ => .inl trivial)) s130 (fun _ _ => .inl trivial)) o143 (fun _ _ => .inl trivial)) s148 (fun _ _ => .inl trivial)) o165 (fun _ _ => .inl trivial))
    have h205 := (SliceOf.kp (SliceOf.kp (SliceOf.kp f175 s181 (ge_F (oneF_lt hl62) (size_only O203)) (fun _ _ _ _ h => h)) o194 (fun _ _ h => h) (fun _ _ _ _ h => h)) s198 (ge_F (oneF_lt hl90) (size_only O204)) (fun _ _ _ _ h => h))
    have h206 := SliceOf.pl h205
    have h207 := (SliceOf.kp (SliceOf.kp (SliceOf.kp f176 s181 (ge_F (oneF_lt hl62) (size_only O203)) (fun _ _ _ _ h => h)) o194 (fun _ _ h => h) (fun _ _ _ _ h => h)) s198 (ge_F (oneF_lt hl90) (size_only O204)) (fun _ _ _ _ h => h))
    have h208 := SliceOf.pl h207
    have O209 := (Only.trans (Only.trans (Only.trans (Only.trans (Only.trans (Only.trans (Only.trans (Only.trans (Only.trans (Only.refl (fun _ => True) w86) s92 (fun _ _ => .inl trivial)) o111 (fun _ _ => .inl trivial)) o126 (fun _ _ => .inl trivial)) s130 (fun _ _ => .inl trivial)) o143 (fun _ _ => .inl trivial)) s148 (fun _ _ => .inl trivial)) o165 (fun _ _ => .inl trivial)) o177 (fun _ _ => .inl trivial)) s181 (fun _ _ => .inl trivial))
    have h210 := (SliceOf.kp f192 s198 (ge_F (oneF_lt hl90) (size_only O209)) (fun _ _ _ _ h => h))
    have h211 := SliceOf.pl h210
    have h212 := (SliceOf.kp f193 s198 (ge_F (oneF_lt hl90) (size_only O209)) (fun _ _ _ _ h => h))
    have h213 := SliceOf.pl h212
    refine LGV (v := .bool (true)) Hz rfl rfl gd_f rfl (fun hb => rfl) Try.call13 (fun hb => kSame_same (show AirV _ _ (Lnk.lose a x).1 from ⟨_, _, rfl, h206, h208⟩) (show AirV _ _ (Lnk.lose a x).1 from ⟨_, _, rfl, h211, h213⟩)) rfl fun w214 o215 => ?_
    clear Hz az; intro az Hz
    refine LT Hz rfl rfl (r_not Hz rfl) rfl ?_
    clear Hz az; intro az Hz
    refine L (r_pick Hz rfl rfl rfl) Hz rfl ?_
    clear Hz az; intro az Hz
    refine hK201 _ _ ?_
    refine br_false Hz rfl ?_
    refine wp_skip ?_
    refine hK200 _ _ ?_
    refine wp_seq_k fun K216 hK216 => ?_
    -- law.go:46
    refine wp_region_lit ?_
    have B217 := (Blk.k (Blk.st (Blk.k B184 o194) s198 ne113) o215)
    refine L (r_ldA Try.isAgg25 Try.sizeOf25 Hz rfl (Blk.ca B217) rfl) Hz rfl ?_
    clear Hz az; intro az Hz
    refine L (r_mv Hz rfl) Hz rfl ?_
    clear Hz az; intro az Hz
    refine L (r_mv Hz rfl) Hz rfl ?_
    clear Hz az; intro az Hz
    have O218 : Only NoF w w214 := (Only.trans' (o_sg (Only.trans' O185 o194) s198 (size_only O116) (oneF_ge hg89)) o215)
    have h219 := (SliceOf.kp f1 O218 (fun _ _ h => h) (fun _ _ _ _ h => h))
    have h220 := (SliceOf.kp f2 O218 (fun _ _ h => h) (fun _ _ _ _ h => h))
    refine LC Hz rfl rfl Try.call18 (Cut_v (show AirV _ _ a from ⟨_, _, rfl, h219, h220⟩) hfw x y) rfl ?_
    rintro e w228 ⟨A221, c223, A222, c224, rfl, f225, f226, o227⟩; refine ⟨_, rfl, ?_⟩
    clear Hz az; intro az Hz
    refine L (r_mv Hz rfl) Hz rfl ?_
    clear Hz az; intro az Hz
    refine L (r_ex Hz rfl rfl) Hz rfl ?_
    clear Hz az; intro az Hz
    refine L (r_ex Hz rfl rfl) Hz rfl ?_
    clear Hz az; intro az Hz
    have B229 := (Blk.k (Blk.k B202 o215) o227)
    refine LSt (cs' := [.slice A221 ((Lnk.cut a x y).1.ms.length) c223, .slice A222 ((Lnk.cut a x y).1.cs.length) c224]) Try.sizeOf25 Hz rfl rfl rfl rfl rfl ⟨rfl, rfl, trivial⟩ B229 rfl rfl fun w230 s231 B232 => ?_
    refine L (r_as Hz rfl) Hz rfl ?_
    clear Hz az; intro az Hz
    refine hK216 _ _ ?_
    refine wp_seq_k fun K233 hK233 => ?_
    -- law.go:47
    refine wp_region_lit ?_
    have B234 := (Blk.st (Blk.k B217 o227) s231 ne67)
    refine L (r_ldA Try.isAgg25 Try.sizeOf25 Hz rfl (Blk.ca B234) rfl) Hz rfl ?_
    clear Hz az; intro az Hz
    refine L (r_mv Hz rfl) Hz rfl ?_
    clear Hz az; intro az Hz
    refine L (r_mv Hz rfl) Hz rfl ?_
    clear Hz az; intro az Hz
    have O235 : Only NoF w w230 := (o_sg (Only.trans' O218 o227) s231 (size_only O73) (oneF_ge hg61))
    have h236 := (SliceOf.kp f1 O235 (fun _ _ h => h) (fun _ _ _ _ h => h))
    have h237 := (SliceOf.kp f2 O235 (fun _ _ h => h) (fun _ _ _ _ h => h))
    refine LC Hz rfl rfl Try.call19 ((rCut_v (show AirV _ _ a from ⟨_, _, rfl, h236, h237⟩) hfw x y hx hy).mono fun _ _ h => AirO.to h) rfl ?_
    rintro e w245 ⟨A238, c240, A239, c241, rfl, f242, f243, o244⟩; refine ⟨_, rfl, ?_⟩
    clear Hz az; intro az Hz
    refine L (r_mv Hz rfl) Hz rfl ?_
    clear Hz az; intro az Hz
    refine L (r_ex Hz rfl rfl) Hz rfl ?_
    clear Hz az; intro az Hz
    refine L (r_ex Hz rfl rfl) Hz rfl ?_
    clear Hz az; intro az Hz
    have B246 := (Blk.k (Blk.st (Blk.k (Blk.k B199 o215) o227) s231 ne145) o244)
    refine LSt (cs' := [.slice A238 ((Lnk.cut a x y).1.ms.length) c240, .slice A239 ((Lnk.cut a x y).1.cs.length) c241]) Try.sizeOf25 Hz rfl rfl rfl rfl rfl ⟨rfl, rfl, trivial⟩ B246 rfl rfl fun w247 s248 B249 => ?_
    refine L (r_as Hz rfl) Hz rfl ?_
    clear Hz az; intro az Hz
    refine hK233 _ _ ?_
    refine wp_seq_k fun K250 hK250 => ?_
    refine wp_seq_k fun K251 hK251 => ?_
    -- law.go:48
    refine wp_region_lit ?_
    refine L (r_mv Hz rfl) Hz rfl ?_
    clear Hz az; intro az Hz
    refine L (r_mv Hz rfl) Hz rfl ?_
    clear Hz az; intro az Hz
    refine L (r_neRI Hz rfl rfl) Hz rfl ?_
    clear Hz az; intro az Hz
    refine L (r_mv Hz rfl) Hz rfl ?_
    clear Hz az; intro az Hz
    have B252 := (Blk.st (Blk.k B232 o244) s248 ne96)
    refine LT Hz rfl rfl (r_ldA Try.isAgg25 Try.sizeOf25 Hz rfl (Blk.ca B252) rfl) rfl ?_
    clear Hz az; intro az Hz
    refine LT Hz rfl rfl (r_ldA Try.isAgg25 Try.sizeOf25 Hz rfl (Blk.ca B249) rfl) rfl ?_
    clear Hz az; intro az Hz
    have O253 := (Only.trans (Only.trans (Only.trans (Only.trans (Only.trans (Only.trans (Only.trans (Only.trans (Only.trans (Only.trans (Only.trans (Only.trans (Only.trans (Only.trans (Only.trans (Only.refl (fun _ => True) w58) s64 (fun _ _ => .inl trivial)) o83 (fun _ _ => .inl trivial)) o87 (fun _ _ => .inl trivial)) s92 (fun _ _ => .inl trivial)) o111 (fun _ _ => .inl trivial)) o126 (fun _ _ => .inl trivial)) s130 (fun _ _ => .inl trivial)) o143 (fun _ _ => .inl trivial)) s148 (fun _ _ => .inl trivial)) o165 (fun _ _ => .inl trivial)) o177 (fun _ _ => .inl trivial)) s181 (fun _ _ => .inl trivial)) o194 (fun _ _ => .inl trivial)) s198 (fun _ _ => .inl trivial)) o215 (fun _ _ => .inl trivial))
    have O254 := (Only.trans (Only.trans (Only.trans (Only.trans (Only.trans (Only.trans (Only.trans (Only.trans (Only.trans (Only.trans (Only.trans (Only.trans (Only.refl (fun _ => True) w86) s92 (fun _ _ => .inl trivial)) o111 (fun _ _ => .inl trivial)) o126 (fun _ _ => .inl trivial)) s130 (fun _ _ => .inl trivial)) o143 (fun _ _ => .inl trivial)) s148 (fun _ _ => .inl trivial)) o165 (fun _ _ => .inl trivial)) o177 (fun _ _ => .inl trivial)) s181 (fun _ _ => .inl trivial)) o194 (fun _ _ => .inl trivial)) s198 (fun _ _ => .inl trivial)) o215 (fun _ _ => .inl trivial))
    have h255 := (SliceOf.kp (SliceOf.kp (SliceOf.kp f225 s231 (ge_F (oneF_lt hl62) (size_only O253)) (fun _ _ _ _ h => h)) o244 (fun _ _ h => h) (fun _ _ _ _ h => h)) s248 (ge_F (oneF_lt hl90) (size_only O254)) (fun _ _ _ _ h => h))
    have h256 := SliceOf.pl h255
    have h257 := (SliceOf.kp (SliceOf.kp (SliceOf.kp f226 s231 (ge_F (oneF_lt hl62) (size_only O253)) (fun _ _ _ _ h => h)) o244 (fun _ _ h => h) (fun _ _ _ _ h => h)) s248 (ge_F (oneF_lt hl90) (size_only O254)) (fun _ _ _ _ h => h))
    have h258 := SliceOf.pl h257
    have O259 := (Only.trans (Only.trans (Only.trans (Only.trans (Only.trans (Only.trans (Only.trans (Only.trans (Only.trans (Only.trans (Only.trans (Only.trans (Only.trans (Only.trans (Only.refl (fun _ => True) w86) s92 (fun _ _ => .inl trivial)) o111 (fun _ _ => .inl trivial)) o126 (fun _ _ => .inl trivial)) s130 (fun _ _ => .inl trivial)) o143 (fun _ _ => .inl trivial)) s148 (fun _ _ => .inl trivial)) o165 (fun _ _ => .inl trivial)) o177 (fun _ _ => .inl trivial)) s181 (fun _ _ => .inl trivial)) o194 (fun _ _ => .inl trivial)) s198 (fun _ _ => .inl trivial)) o215 (fun _ _ => .inl trivial)) o227 (fun _ _ => .inl trivial)) s231 (fun _ _ => .inl trivial))
    have h260 := (SliceOf.kp f242 s248 (ge_F (oneF_lt hl90) (size_only O259)) (fun _ _ _ _ h => h))
    have h261 := SliceOf.pl h260
    have h262 := (SliceOf.kp f243 s248 (ge_F (oneF_lt hl90) (size_only O259)) (fun _ _ _ _ h => h))
    have h263 := SliceOf.pl h262
    refine LGV (v := .bool (true)) Hz rfl rfl gd_f rfl (fun hb => rfl) Try.call13 (fun hb => kSame_same (show AirV _ _ (Lnk.cut a x y).1 from ⟨_, _, rfl, h256, h258⟩) (show AirV _ _ (Lnk.cut a x y).1 from ⟨_, _, rfl, h261, h263⟩)) rfl fun w264 o265 => ?_
    clear Hz az; intro az Hz
    refine LT Hz rfl rfl (r_not Hz rfl) rfl ?_
    clear Hz az; intro az Hz
    refine L (r_pick Hz rfl rfl rfl) Hz rfl ?_
    clear Hz az; intro az Hz
    refine hK251 _ _ ?_
    refine br_false Hz rfl ?_
    refine wp_skip ?_
    refine hK250 _ _ ?_
    refine wp_seq_k fun K266 hK266 => ?_
    -- law.go:51
    refine wp_region_lit ?_
    have B267 := (Blk.k (Blk.st (Blk.k B234 o244) s248 ne113) o265)
    refine L (r_ldA Try.isAgg25 Try.sizeOf25 Hz rfl (Blk.ca B267) rfl) Hz rfl ?_
    clear Hz az; intro az Hz
    refine L (r_mv Hz rfl) Hz rfl ?_
    clear Hz az; intro az Hz
    refine L (r_mv Hz rfl) Hz rfl ?_
    clear Hz az; intro az Hz
    have O268 : Only NoF w w264 := (Only.trans' (o_sg (Only.trans' O235 o244) s248 (size_only O116) (oneF_ge hg89)) o265)
    have h269 := (SliceOf.kp f1 O268 (fun _ _ h => h) (fun _ _ _ _ h => h))
    have h270 := (SliceOf.kp f2 O268 (fun _ _ h => h) (fun _ _ _ _ h => h))
    refine LC Hz rfl rfl Try.call20 (Heal_v (show AirV _ _ a from ⟨_, _, rfl, h269, h270⟩) hfw x y) rfl ?_
    rintro e w278 ⟨A271, c273, A272, c274, rfl, f275, f276, o277⟩; refine ⟨_, rfl, ?_⟩
    clear Hz az; intro az Hz
    refine L (r_mv Hz rfl) Hz rfl ?_
    clear Hz az; intro az Hz
    refine L (r_ex Hz rfl rfl) Hz rfl ?_
    clear Hz az; intro az Hz
    refine L (r_ex Hz rfl rfl) Hz rfl ?_
    clear Hz az; intro az Hz
    have B279 := (Blk.k (Blk.k B252 o265) o277)
    refine LSt (cs' := [.slice A271 ((Lnk.heal a x y).1.ms.length) c273, .slice A272 ((Lnk.heal a x y).1.cs.length) c274]) Try.sizeOf25 Hz rfl rfl rfl rfl rfl ⟨rfl, rfl, trivial⟩ B279 rfl rfl fun w280 s281 B282 => ?_
    refine L (r_as Hz rfl) Hz rfl ?_
    clear Hz az; intro az Hz
    refine hK266 _ _ ?_
    refine wp_seq_k fun K283 hK283 => ?_
    -- law.go:52
    refine wp_region_lit ?_
    have B284 := (Blk.st (Blk.k B267 o277) s281 ne67)
    refine L (r_ldA Try.isAgg25 Try.sizeOf25 Hz rfl (Blk.ca B284) rfl) Hz rfl ?_
    clear Hz az; intro az Hz
    refine L (r_mv Hz rfl) Hz rfl ?_
    clear Hz az; intro az Hz
    refine L (r_mv Hz rfl) Hz rfl ?_
    clear Hz az; intro az Hz
    have O285 : Only NoF w w280 := (o_sg (Only.trans' O268 o277) s281 (size_only O73) (oneF_ge hg61))
    have h286 := (SliceOf.kp f1 O285 (fun _ _ h => h) (fun _ _ _ _ h => h))
    have h287 := (SliceOf.kp f2 O285 (fun _ _ h => h) (fun _ _ _ _ h => h))
    refine LC Hz rfl rfl Try.call21 ((rHeal_v (show AirV _ _ a from ⟨_, _, rfl, h286, h287⟩) hfw x y).mono fun _ _ h => AirO.to h) rfl ?_
    rintro e w295 ⟨A288, c290, A289, c291, rfl, f292, f293, o294⟩; refine ⟨_, rfl, ?_⟩
    clear Hz az; intro az Hz
    refine L (r_mv Hz rfl) Hz rfl ?_
    clear Hz az; intro az Hz
    refine L (r_ex Hz rfl rfl) Hz rfl ?_
    clear Hz az; intro az Hz
    refine L (r_ex Hz rfl rfl) Hz rfl ?_
    clear Hz az; intro az Hz
    have B296 := (Blk.k (Blk.st (Blk.k (Blk.k B249 o265) o277) s281 ne145) o294)
    refine LSt (cs' := [.slice A288 ((Lnk.heal a x y).1.ms.length) c290, .slice A289 ((Lnk.heal a x y).1.cs.length) c291]) Try.sizeOf25 Hz rfl rfl rfl rfl rfl ⟨rfl, rfl, trivial⟩ B296 rfl rfl fun w297 s298 B299 => ?_
    refine L (r_as Hz rfl) Hz rfl ?_
    clear Hz az; intro az Hz
    refine hK283 _ _ ?_
    refine wp_seq_k fun K300 hK300 => ?_
    refine wp_seq_k fun K301 hK301 => ?_
    -- law.go:53
    refine wp_region_lit ?_
    refine L (r_mv Hz rfl) Hz rfl ?_
    clear Hz az; intro az Hz
    refine L (r_mv Hz rfl) Hz rfl ?_
    clear Hz az; intro az Hz
    refine L (r_neRI Hz rfl rfl) Hz rfl ?_
    clear Hz az; intro az Hz
    refine L (r_mv Hz rfl) Hz rfl ?_
    clear Hz az; intro az Hz
    have B302 := (Blk.st (Blk.k B282 o294) s298 ne96)
    refine LT Hz rfl rfl (r_ldA Try.isAgg25 Try.sizeOf25 Hz rfl (Blk.ca B302) rfl) rfl ?_
    clear Hz az; intro az Hz
    refine LT Hz rfl rfl (r_ldA Try.isAgg25 Try.sizeOf25 Hz rfl (Blk.ca B299) rfl) rfl ?_
    clear Hz az; intro az Hz
    have O303 := (Only.trans (Only.trans (Only.trans (Only.trans (Only.trans (Only.trans (Only.trans (Only.trans (Only.trans (Only.trans (Only.trans (Only.trans (Only.trans (Only.trans (Only.trans (Only.trans (Only.trans (Only.trans (Only.trans (Only.trans (Only.refl (fun _ => True) w58) s64 (fun _ _ => .inl trivial)) o83 (fun _ _ => .inl trivial)) o87 (fun _ _ => .inl trivial)) s92 (fun _ _ => .inl trivial)) o111 (fun _ _ => .inl trivial)) o126 (fun _ _ => .inl trivial)) s130 (fun _ _ => .inl trivial)) o143 (fun _ _ => .inl trivial)) s148 (fun _ _ => .inl trivial)) o165 (fun _ _ => .inl trivial)) o177 (fun _ _ => .inl trivial)) s181 (fun _ _ => .inl trivial)) o194 (fun _ _ => .inl trivial)) s198 (fun _ _ => .inl trivial)) o215 (fun _ _ => .inl trivial)) o227 (fun _ _ => .inl trivial)) s231 (fun _ _ => .inl trivial)) o244 (fun _ _ => .inl trivial)) s248 (fun _ _ => .inl trivial)) o265 (fun _ _ => .inl trivial))
    have O304 := (Only.trans (Only.trans (Only.trans (Only.trans (Only.trans (Only.trans (Only.trans (Only.trans (Only.trans (Only.trans (Only.trans (Only.trans (Only.trans (Only.trans (Only.trans (Only.trans (Only.trans (Only.refl (fun _ => True) w86) s92 (fun _ _ => .inl trivial)) o111 (fun _ _ => .inl trivial)) o126 (fun _ _ => .inl trivial)) s130 (fun _ _ => .inl trivial)) o143 (fun _ _ => .inl trivial)) s148 (fun _ _ => .inl trivial)) o165 (fun _ _ => .inl trivial)) o177 (fun _ _ => .inl trivial)) s181 (fun _ _ => .inl trivial)) o194 (fun _ _ => .inl trivial)) s198 (fun _ _ => .inl trivial)) o215 (fun _ _ => .inl trivial)) o227 (fun _ _ => .inl trivial)) s231 (fun _ _ => .inl trivial)) o244 (fun _ _ => .inl trivial)) s248 (fun _ _ => .inl trivial)) o265 (fun _ _ => .inl trivial))
    have h305 := (SliceOf.kp (SliceOf.kp (SliceOf.kp f275 s281 (ge_F (oneF_lt hl62) (size_only O303)) (fun _ _ _ _ h => h)) o294 (fun _ _ h => h) (fun _ _ _ _ h => h)) s298 (ge_F (oneF_lt hl90) (size_only O304)) (fun _ _ _ _ h => h))
    have h306 := SliceOf.pl h305
    have h307 := (SliceOf.kp (SliceOf.kp (SliceOf.kp f276 s281 (ge_F (oneF_lt hl62) (size_only O303)) (fun _ _ _ _ h => h)) o294 (fun _ _ h => h) (fun _ _ _ _ h => h)) s298 (ge_F (oneF_lt hl90) (size_only O304)) (fun _ _ _ _ h => h))
    have h308 := SliceOf.pl h307
    have O309 := (Only.trans (Only.trans (Only.trans (Only.trans (Only.trans (Only.trans (Only.trans (Only.trans (Only.trans (Only.trans (Only.trans (Only.trans (Only.trans (Only.trans (Only.trans (Only.trans (Only.trans (Only.trans (Only.trans (Only.refl (fun _ => True) w86) s92 (fun _ _ => .inl trivial)) o111 (fun _ _ => .inl trivial)) o126 (fun _ _ => .inl trivial)) s130 (fun _ _ => .inl trivial)) o143 (fun _ _ => .inl trivial)) s148 (fun _ _ => .inl trivial)) o165 (fun _ _ => .inl trivial)) o177 (fun _ _ => .inl trivial)) s181 (fun _ _ => .inl trivial)) o194 (fun _ _ => .inl trivial)) s198 (fun _ _ => .inl trivial)) o215 (fun _ _ => .inl trivial)) o227 (fun _ _ => .inl trivial)) s231 (fun _ _ => .inl trivial)) o244 (fun _ _ => .inl trivial)) s248 (fun _ _ => .inl trivial)) o265 (fun _ _ => .inl trivial)) o277 (fun _ _ => .inl trivial)) s281 (fun _ _ => .inl trivial))
    have h310 := (SliceOf.kp f292 s298 (ge_F (oneF_lt hl90) (size_only O309)) (fun _ _ _ _ h => h))
    have h311 := SliceOf.pl h310
    have h312 := (SliceOf.kp f293 s298 (ge_F (oneF_lt hl90) (size_only O309)) (fun _ _ _ _ h => h))
    have h313 := SliceOf.pl h312
    refine LGV (v := .bool (true)) Hz rfl rfl gd_f rfl (fun hb => rfl) Try.call13 (fun hb => kSame_same (show AirV _ _ (Lnk.heal a x y).1 from ⟨_, _, rfl, h306, h308⟩) (show AirV _ _ (Lnk.heal a x y).1 from ⟨_, _, rfl, h311, h313⟩)) rfl fun w314 o315 => ?_
    clear Hz az; intro az Hz
    refine LT Hz rfl rfl (r_not Hz rfl) rfl ?_
    clear Hz az; intro az Hz
    refine L (r_pick Hz rfl rfl rfl) Hz rfl ?_
    clear Hz az; intro az Hz
    refine hK301 _ _ ?_
    refine br_false Hz rfl ?_
    refine wp_skip ?_
    refine hK300 _ _ ?_
    refine wp_seq_k fun K316 hK316 => ?_
    -- law.go:56
    refine wp_region_lit ?_
    have B317 := (Blk.k (Blk.st (Blk.k B284 o294) s298 ne113) o315)
    refine L (r_ldA Try.isAgg25 Try.sizeOf25 Hz rfl (Blk.ca B317) rfl) Hz rfl ?_
    clear Hz az; intro az Hz
    refine L (r_mv Hz rfl) Hz rfl ?_
    clear Hz az; intro az Hz
    have O318 : Only NoF w w314 := (Only.trans' (o_sg (Only.trans' O285 o294) s298 (size_only O116) (oneF_ge hg89)) o315)
    have h319 := (SliceOf.kp f1 O318 (fun _ _ h => h) (fun _ _ _ _ h => h))
    have h320 := (SliceOf.kp f2 O318 (fun _ _ h => h) (fun _ _ _ _ h => h))
    refine LC Hz rfl rfl Try.call22 (Deliver_v (show AirV _ _ a from ⟨_, _, rfl, h319, h320⟩) hfw x) rfl ?_
    rintro e w328 ⟨A321, c323, A322, c324, rfl, f325, f326, o327⟩; refine ⟨_, rfl, ?_⟩
    clear Hz az; intro az Hz
    refine L (r_mv Hz rfl) Hz rfl ?_
    clear Hz az; intro az Hz
    refine L (r_ex Hz rfl rfl) Hz rfl ?_
    clear Hz az; intro az Hz
    refine L (r_ex Hz rfl rfl) Hz rfl ?_
    clear Hz az; intro az Hz
    refine L (r_ex Hz rfl rfl) Hz rfl ?_
    clear Hz az; intro az Hz
    refine LAl (v := .agg #[.int .i64 (0), .int .i64 (0), strV ([])]) zeroMsg Hz rfl rfl ?_
    clear Hz az; intro g329 w330 hg333 hl334 o331 B332 az Hz
    have B335 := (Blk.k (Blk.k (Blk.k B302 o315) o327) o331)
    refine LSt (cs' := [.slice A321 ((Lnk.deliver a x).1.ms.length) c323, .slice A322 ((Lnk.deliver a x).1.cs.length) c324]) Try.sizeOf25 Hz rfl rfl rfl rfl rfl ⟨rfl, rfl, trivial⟩ B335 rfl rfl fun w336 s337 B338 => ?_
    have O340 := (Only.trans (Only.trans (Only.trans (Only.trans (Only.trans (Only.trans (Only.trans (Only.trans (Only.trans (Only.trans (Only.trans (Only.trans (Only.trans (Only.trans (Only.trans (Only.trans (Only.trans (Only.trans (Only.trans (Only.trans (Only.trans (Only.trans (Only.trans (Only.trans (Only.trans (Only.trans (Only.refl (fun _ => True) w58) s64 (fun _ _ => .inl trivial)) o83 (fun _ _ => .inl trivial)) o87 (fun _ _ => .inl trivial)) s92 (fun _ _ => .inl trivial)) o111 (fun _ _ => .inl trivial)) o126 (fun _ _ => .inl trivial)) s130 (fun _ _ => .inl trivial)) o143 (fun _ _ => .inl trivial)) s148 (fun _ _ => .inl trivial)) o165 (fun _ _ => .inl trivial)) o177 (fun _ _ => .inl trivial)) s181 (fun _ _ => .inl trivial)) o194 (fun _ _ => .inl trivial)) s198 (fun _ _ => .inl trivial)) o215 (fun _ _ => .inl trivial)) o227 (fun _ _ => .inl trivial)) s231 (fun _ _ => .inl trivial)) o244 (fun _ _ => .inl trivial)) s248 (fun _ _ => .inl trivial)) o265 (fun _ _ => .inl trivial)) o277 (fun _ _ => .inl trivial)) s281 (fun _ _ => .inl trivial)) o294 (fun _ _ => .inl trivial)) s298 (fun _ _ => .inl trivial)) o315 (fun _ _ => .inl trivial)) o327 (fun _ _ => .inl trivial))
    have ne339 : g329 ≠ g57 := (ne_of hl62 (Nat.le_trans (size_only O340) hg333)).symm
    have B341 := (Blk.st B332 s337 ne339)
    refine LSt (cs' := [.int .i64 ((Lnk.deliver a x).2.1.a), .int .i64 ((Lnk.deliver a x).2.1.b), strV ((Lnk.deliver a x).2.1.t)]) Try.sizeOf27 Hz rfl rfl rfl rfl rfl ⟨rfl, rfl, rfl, trivial⟩ B341 rfl rfl fun w342 s343 B344 => ?_
    refine L (r_as Hz rfl) Hz rfl ?_
    clear Hz az; intro az Hz
    refine hK316 _ _ ?_
    refine wp_seq_k fun K345 hK345 => ?_
    -- law.go:57
    refine wp_region_lit ?_
    have O347 : Only NoF w3 w328 := (Only.trans' (Only.trans' (o_sg (Only.trans' (o_sg (Only.trans' (Only.trans' (o_sg (Only.trans' (o_sg (Only.trans' (Only.trans' (o_sg (Only.trans' (o_sg (Only.trans' (Only.trans' (o_sg (Only.trans' (o_sg (Only.trans' (Only.trans' (o_sg (Only.trans' O114 o87) s92 (size_only O114) (oneF_ge hg89)) o111) o126) s130 (size_only O68) (oneF_ge hg61)) o143) s148 (size_only O114) (oneF_ge hg89)) o165) o177) s181 (size_only O68) (oneF_ge hg61)) o194) s198 (size_only O114) (oneF_ge hg89)) o215) o227) s231 (size_only O68) (oneF_ge hg61)) o244) s248 (size_only O114) (oneF_ge hg89)) o265) o277) s281 (size_only O68) (oneF_ge hg61)) o294) s298 (size_only O114) (oneF_ge hg89)) o315) o327)
    have ne346 : g2 ≠ g329 := (ne_of hl7 (Nat.le_trans (size_only O347) hg333))
    have B348 := (Blk.st (Blk.st (Blk.k (Blk.k B317 o327) o331) s337 ne67) s343 ne346)
    refine L (r_ldA Try.isAgg25 Try.sizeOf25 Hz rfl (Blk.ca B348) rfl) Hz rfl ?_
    clear Hz az; intro az Hz
    refine L (r_mv Hz rfl) Hz rfl ?_
    clear Hz az; intro az Hz
    have O349 : Only NoF w w328 := (Only.trans' O318 o327)
    have O350 : Only NoF w w342 := (o_sg (o_sg (Only.trans' (Only.trans' O318 o327) o331) s337 (size_only O73) (oneF_ge hg61)) s343 (size_only O349) (oneF_ge hg333))
    have h351 := (SliceOf.kp f1 O350 (fun _ _ h => h) (fun _ _ _ _ h => h))
    have h352 := (SliceOf.kp f2 O350 (fun _ _ h => h) (fun _ _ _ _ h => h))
    refine LC Hz rfl rfl Try.call23 ((rDeliver_v (show AirV _ _ a from ⟨_, _, rfl, h351, h352⟩) hfw x).mono fun _ _ h => DelO.to h) rfl ?_
    rintro e w360 ⟨A353, c355, A354, c356, rfl, f357, f358, o359⟩; refine ⟨_, rfl, ?_⟩
    clear Hz az; intro az Hz
    refine L (r_mv Hz rfl) Hz rfl ?_
    clear Hz az; intro az Hz
    refine L (r_ex Hz rfl rfl) Hz rfl ?_
    clear Hz az; intro az Hz
    refine L (r_ex Hz rfl rfl) Hz rfl ?_
    clear Hz az; intro az Hz
    refine L (r_ex Hz rfl rfl) Hz rfl ?_
    clear Hz az; intro az Hz
    refine LAl (v := .agg #[.int .i64 (0), .int .i64 (0), strV ([])]) zeroMsg Hz rfl rfl ?_
    clear Hz az; intro g361 w362 hg365 hl366 o363 B364 az Hz
    have O368 := (Only.trans (Only.trans (Only.trans (Only.trans (Only.trans (Only.trans (Only.trans (Only.trans (Only.trans (Only.trans (Only.trans (Only.trans (Only.trans (Only.trans (Only.trans (Only.trans (Only.trans (Only.trans (Only.trans (Only.trans (Only.trans (Only.trans (Only.trans (Only.refl (fun _ => True) w86) s92 (fun _ _ => .inl trivial)) o111 (fun _ _ => .inl trivial)) o126 (fun _ _ => .inl trivial)) s130 (fun _ _ => .inl trivial)) o143 (fun _ _ => .inl trivial)) s148 (fun _ _ => .inl trivial)) o165 (fun _ _ => .inl trivial)) o177 (fun _ _ => .inl trivial)) s181 (fun _ _ => .inl trivial)) o194 (fun _ _ => .inl trivial)) s198 (fun _ _ => .inl trivial)) o215 (fun _ _ => .inl trivial)) o227 (fun _ _ => .inl trivial)) s231 (fun _ _ => .inl trivial)) o244 (fun _ _ => .inl trivial)) s248 (fun _ _ => .inl trivial)) o265 (fun _ _ => .inl trivial)) o277 (fun _ _ => .inl trivial)) s281 (fun _ _ => .inl trivial)) o294 (fun _ _ => .inl trivial)) s298 (fun _ _ => .inl trivial)) o315 (fun _ _ => .inl trivial)) o327 (fun _ _ => .inl trivial))
    have ne367 : g85 ≠ g329 := (ne_of hl90 (Nat.le_trans (size_only O368) hg333))
    have B369 := (Blk.k (Blk.k (Blk.st (Blk.st (Blk.k (Blk.k (Blk.k B299 o315) o327) o331) s337 ne145) s343 ne367) o359) o363)
    refine LSt (cs' := [.slice A353 ((Lnk.deliver a x).1.ms.length) c355, .slice A354 ((Lnk.deliver a x).1.cs.length) c356]) Try.sizeOf25 Hz rfl rfl rfl rfl rfl ⟨rfl, rfl, trivial⟩ B369 rfl rfl fun w370 s371 B372 => ?_
    have O374 := (Only.trans (Only.trans (Only.trans (Only.trans (Only.trans (Only.trans (Only.trans (Only.trans (Only.trans (Only.trans (Only.trans (Only.trans (Only.trans (Only.trans (Only.trans (Only.trans (Only.trans (Only.trans (Only.trans (Only.trans (Only.trans (Only.trans (Only.trans (Only.trans (Only.trans (Only.trans (Only.trans (Only.refl (fun _ => True) w86) s92 (fun _ _ => .inl trivial)) o111 (fun _ _ => .inl trivial)) o126 (fun _ _ => .inl trivial)) s130 (fun _ _ => .inl trivial)) o143 (fun _ _ => .inl trivial)) s148 (fun _ _ => .inl trivial)) o165 (fun _ _ => .inl trivial)) o177 (fun _ _ => .inl trivial)) s181 (fun _ _ => .inl trivial)) o194 (fun _ _ => .inl trivial)) s198 (fun _ _ => .inl trivial)) o215 (fun _ _ => .inl trivial)) o227 (fun _ _ => .inl trivial)) s231 (fun _ _ => .inl trivial)) o244 (fun _ _ => .inl trivial)) s248 (fun _ _ => .inl trivial)) o265 (fun _ _ => .inl trivial)) o277 (fun _ _ => .inl trivial)) s281 (fun _ _ => .inl trivial)) o294 (fun _ _ => .inl trivial)) s298 (fun _ _ => .inl trivial)) o315 (fun _ _ => .inl trivial)) o327 (fun _ _ => .inl trivial)) o331 (fun _ _ => .inl trivial)) s337 (fun _ _ => .inl trivial)) s343 (fun _ _ => .inl trivial)) o359 (fun _ _ => .inl trivial))
    have ne373 : g361 ≠ g85 := (ne_of hl90 (Nat.le_trans (size_only O374) hg365)).symm
    have B375 := (Blk.st B364 s371 ne373)
    refine LSt (cs' := [.int .i64 ((Lnk.deliver a x).2.1.a), .int .i64 ((Lnk.deliver a x).2.1.b), strV ((Lnk.deliver a x).2.1.t)]) Try.sizeOf27 Hz rfl rfl rfl rfl rfl ⟨rfl, rfl, rfl, trivial⟩ B375 rfl rfl fun w376 s377 B378 => ?_
    refine L (r_as Hz rfl) Hz rfl ?_
    clear Hz az; intro az Hz
    refine hK345 _ _ ?_
    refine wp_seq_k fun K379 hK379 => ?_
    refine wp_seq_k fun K380 hK380 => ?_
    -- law.go:58
    refine wp_region_lit ?_
    refine L (r_mv Hz rfl) Hz rfl ?_
    clear Hz az; intro az Hz
    refine L (r_mv Hz rfl) Hz rfl ?_
    clear Hz az; intro az Hz
    refine L (r_neRI Hz rfl rfl) Hz rfl ?_
    clear Hz az; intro az Hz
    refine L (r_mv Hz rfl) Hz rfl ?_
    clear Hz az; intro az Hz
    have ne381 : g329 ≠ g85 := (ne_of hl90 (Nat.le_trans (size_only O368) hg333)).symm
    have O383 := (Only.trans (Only.trans (Only.trans (Only.refl (fun _ => True) w330) s337 (fun _ _ => .inl trivial)) s343 (fun _ _ => .inl trivial)) o359 (fun _ _ => .inl trivial))
    have ne382 : g329 ≠ g361 := (ne_of hl334 (Nat.le_trans (size_only O383) hg365))
    have B384 := (Blk.st (Blk.st (Blk.k (Blk.k B344 o359) o363) s371 ne381) s377 ne382)
    refine LT Hz rfl rfl (r_ldA Try.isAgg27 Try.sizeOf27 Hz rfl (Blk.ca B384) rfl) rfl ?_
    clear Hz az; intro az Hz
    refine LT Hz rfl rfl (r_ldA Try.isAgg27 Try.sizeOf27 Hz rfl (Blk.ca B378) rfl) rfl ?_
    clear Hz az; intro az Hz
    refine LT Hz rfl rfl (r_neA guardMsg (fun w => (neqMsg w (Lnk.deliver a x).2.1 (Lnk.deliver a x).2.1).trans (by rw [decide_eq_true rfl])) Hz rfl rfl) rfl ?_
    clear Hz az; intro az Hz
    refine L (r_pick Hz rfl rfl rfl) Hz rfl ?_
    clear Hz az; intro az Hz
    refine L (r_mv Hz rfl) Hz rfl ?_
    clear Hz az; intro az Hz
    have ne385 : g57 ≠ g329 := (ne_of hl62 (Nat.le_trans (size_only O340) hg333))
    have O387 := (Only.trans (Only.trans (Only.trans (Only.trans (Only.trans (Only.trans (Only.trans (Only.trans (Only.trans (Only.trans (Only.trans (Only.trans (Only.trans (Only.trans (Only.trans (Only.trans (Only.trans (Only.trans (Only.trans (Only.trans (Only.trans (Only.trans (Only.trans (Only.trans (Only.trans (Only.trans (Only.trans (Only.trans (Only.trans (Only.trans (Only.refl (fun _ => True) w58) s64 (fun _ _ => .inl trivial)) o83 (fun _ _ => .inl trivial)) o87 (fun _ _ => .inl trivial)) s92 (fun _ _ => .inl trivial)) o111 (fun _ _ => .inl trivial)) o126 (fun _ _ => .inl trivial)) s130 (fun _ _ => .inl trivial)) o143 (fun _ _ => .inl trivial)) s148 (fun _ _ => .inl trivial)) o165 (fun _ _ => .inl trivial)) o177 (fun _ _ => .inl trivial)) s181 (fun _ _ => .inl trivial)) o194 (fun _ _ => .inl trivial)) s198 (fun _ _ => .inl trivial)) o215 (fun _ _ => .inl trivial)) o227 (fun _ _ => .inl trivial)) s231 (fun _ _ => .inl trivial)) o244 (fun _ _ => .inl trivial)) s248 (fun _ _ => .inl trivial)) o265 (fun _ _ => .inl trivial)) o277 (fun _ _ => .inl trivial)) s281 (fun _ _ => .inl trivial)) o294 (fun _ _ => .inl trivial)) s298 (fun _ _ => .inl trivial)) o315 (fun _ _ => .inl trivial)) o327 (fun _ _ => .inl trivial)) o331 (fun _ _ => .inl trivial)) s337 (fun _ _ => .inl trivial)) s343 (fun _ _ => .inl trivial)) o359 (fun _ _ => .inl trivial))
    have ne386 : g57 ≠ g361 := (ne_of hl62 (Nat.le_trans (size_only O387) hg365))
    have B388 := (Blk.st (Blk.st (Blk.k (Blk.k (Blk.st B338 s343 ne385) o359) o363) s371 ne96) s377 ne386)
    refine LT Hz rfl rfl (r_ldA Try.isAgg25 Try.sizeOf25 Hz rfl (Blk.ca B388) rfl) rfl ?_
    clear Hz az; intro az Hz
    have ne389 : g85 ≠ g361 := (ne_of hl90 (Nat.le_trans (size_only O374) hg365))
    have B390 := (Blk.st B372 s377 ne389)
    refine LT Hz rfl rfl (r_ldA Try.isAgg25 Try.sizeOf25 Hz rfl (Blk.ca B390) rfl) rfl ?_
    clear Hz az; intro az Hz
    have h391 := SliceOf.rg f325
    have O392 := (Only.trans (Only.trans (Only.trans (Only.trans (Only.trans (Only.trans (Only.trans (Only.trans (Only.trans (Only.trans (Only.trans (Only.trans (Only.trans (Only.trans (Only.trans (Only.trans (Only.trans (Only.trans (Only.trans (Only.trans (Only.trans (Only.trans (Only.trans (Only.trans (Only.trans (Only.refl (fun _ => True) w58) s64 (fun _ _ => .inl trivial)) o83 (fun _ _ => .inl trivial)) o87 (fun _ _ => .inl trivial)) s92 (fun _ _ => .inl trivial)) o111 (fun _ _ => .inl trivial)) o126 (fun _ _ => .inl trivial)) s130 (fun _ _ => .inl trivial)) o143 (fun _ _ => .inl trivial)) s148 (fun _ _ => .inl trivial)) o165 (fun _ _ => .inl trivial)) o177 (fun _ _ => .inl trivial)) s181 (fun _ _ => .inl trivial)) o194 (fun _ _ => .inl trivial)) s198 (fun _ _ => .inl trivial)) o215 (fun _ _ => .inl trivial)) o227 (fun _ _ => .inl trivial)) s231 (fun _ _ => .inl trivial)) o244 (fun _ _ => .inl trivial)) s248 (fun _ _ => .inl trivial)) o265 (fun _ _ => .inl trivial)) o277 (fun _ _ => .inl trivial)) s281 (fun _ _ => .inl trivial)) o294 (fun _ _ => .inl trivial)) s298 (fun _ _ => .inl trivial)) o315 (fun _ _ => .inl trivial))
    have O393 : Only NoF w342 w362 := (Only.trans' o359 o363)
    have O394 := (Only.trans (Only.trans (Only.trans (Only.trans (Only.trans (Only.trans (Only.trans (Only.trans (Only.trans (Only.trans (Only.trans (Only.trans (Only.trans (Only.trans (Only.trans (Only.trans (Only.trans (Only.trans (Only.trans (Only.trans (Only.trans (Only.trans (Only.refl (fun _ => True) w86) s92 (fun _ _ => .inl trivial)) o111 (fun _ _ => .inl trivial)) o126 (fun _ _ => .inl trivial)) s130 (fun _ _ => .inl trivial)) o143 (fun _ _ => .inl trivial)) s148 (fun _ _ => .inl trivial)) o165 (fun _ _ => .inl trivial)) o177 (fun _ _ => .inl trivial)) s181 (fun _ _ => .inl trivial)) o194 (fun _ _ => .inl trivial)) s198 (fun _ _ => .inl trivial)) o215 (fun _ _ => .inl trivial)) o227 (fun _ _ => .inl trivial)) s231 (fun _ _ => .inl trivial)) o244 (fun _ _ => .inl trivial)) s248 (fun _ _ => .inl trivial)) o265 (fun _ _ => .inl trivial)) o277 (fun _ _ => .inl trivial)) s281 (fun _ _ => .inl trivial)) o294 (fun _ _ => .inl trivial)) s298 (fun _ _ => .inl trivial)) o315 (fun _ _ => .inl trivial))
    have O395 := (Only.trans (Only.trans (Only.trans (Only.trans (Only.refl (fun _ => True) w328) o331 (fun _ _ => .inl trivial)) s337 (fun _ _ => .inl trivial)) s343 (fun _ _ => .inl trivial)) o359 (fun _ _ => .inl trivial))
    have h396 := (SliceOf.kp (SliceOf.kp (SliceOf.kp (SliceOf.kp (SliceOf.kp (SliceOf.kp h391 o331 (fun _ _ h => h) (fun _ _ _ _ h => h)) s337 (fun k hk => ge_F (oneF_lt hl62) (size_only O392) k hk.1) (fun _ _ _ _ h => h)) s343 (fun k hk => lt_F (oneF_ge hg333) (Nat.le_refl _) k hk.2) (fun _ _ _ _ h => h)) O393 (fun _ _ h => h) (fun _ _ _ _ h => h)) s371 (fun k hk => ge_F (oneF_lt hl90) (size_only O394) k hk.1) (fun _ _ _ _ h => h)) s377 (fun k hk => lt_F (oneF_ge hg365) (size_only O395) k hk.2) (fun _ _ _ _ h => h))
    have h397 := SliceOf.pl h396
    have h398 := SliceOf.rg f326
    have h399 := (SliceOf.kp (SliceOf.kp (SliceOf.kp (SliceOf.kp (SliceOf.kp (SliceOf.kp h398 o331 (fun _ _ h => h) (fun _ _ _ _ h => h)) s337 (fun k hk => ge_F (oneF_lt hl62) (size_only O392) k hk.1) (fun _ _ _ _ h => h)) s343 (fun k hk => lt_F (oneF_ge hg333) (Nat.le_refl _) k hk.2) (fun _ _ _ _ h => h)) O393 (fun _ _ h => h) (fun _ _ _ _ h => h)) s371 (fun k hk => ge_F (oneF_lt hl90) (size_only O394) k hk.1) (fun _ _ _ _ h => h)) s377 (fun k hk => lt_F (oneF_ge hg365) (size_only O395) k hk.2) (fun _ _ _ _ h => h))
    have h400 := SliceOf.pl h399
    have h401 := SliceOf.rg f357
    have O402 := (Only.trans (Only.trans (Only.trans (Only.trans (Only.trans (Only.trans (Only.trans (Only.trans (Only.trans (Only.trans (Only.trans (Only.trans (Only.trans (Only.trans (Only.trans (Only.trans (Only.trans (Only.trans (Only.trans (Only.trans (Only.trans (Only.trans (Only.trans (Only.trans (Only.trans (Only.trans (Only.refl (fun _ => True) w86) s92 (fun _ _ => .inl trivial)) o111 (fun _ _ => .inl trivial)) o126 (fun _ _ => .inl trivial)) s130 (fun _ _ => .inl trivial)) o143 (fun _ _ => .inl trivial)) s148 (fun _ _ => .inl trivial)) o165 (fun _ _ => .inl trivial)) o177 (fun _ _ => .inl trivial)) s181 (fun _ _ => .inl trivial)) o194 (fun _ _ => .inl trivial)) s198 (fun _ _ => .inl trivial)) o215 (fun _ _ => .inl trivial)) o227 (fun _ _ => .inl trivial)) s231 (fun _ _ => .inl trivial)) o244 (fun _ _ => .inl trivial)) s248 (fun _ _ => .inl trivial)) o265 (fun _ _ => .inl trivial)) o277 (fun _ _ => .inl trivial)) s281 (fun _ _ => .inl trivial)) o294 (fun _ _ => .inl trivial)) s298 (fun _ _ => .inl trivial)) o315 (fun _ _ => .inl trivial)) o327 (fun _ _ => .inl trivial)) o331 (fun _ _ => .inl trivial)) s337 (fun _ _ => .inl trivial)) s343 (fun _ _ => .inl trivial))
    have h403 := (SliceOf.kp (SliceOf.kp (SliceOf.kp h401 o363 (fun _ _ h => h) (fun _ _ _ _ h => h)) s371 (fun k hk => ge_F (oneF_lt hl90) (size_only O402) k hk.1) (fun _ _ _ _ h => h)) s377 (fun k hk => lt_F (oneF_ge hg365) (Nat.le_refl _) k hk.2) (fun _ _ _ _ h => h))
    have h404 := SliceOf.pl h403
    have h405 := SliceOf.rg f358
    have h406 := (SliceOf.kp (SliceOf.kp (SliceOf.kp h405 o363 (fun _ _ h => h) (fun _ _ _ _ h => h)) s371 (fun k hk => ge_F (oneF_lt hl90) (size_only O402) k hk.1) (fun _ _ _ _ h => h)) s377 (fun k hk => lt_F (oneF_ge hg365) (Nat.le_refl _) k hk.2) (fun _ _ _ _ h => h))
    have h407 := SliceOf.pl h406
    refine LGV (v := .bool (true)) Hz rfl rfl gd_f rfl (fun hb => rfl) Try.call13 (fun hb => kSame_same (show AirV _ _ (Lnk.deliver a x).1 from ⟨_, _, rfl, h397, h400⟩) (show AirV _ _ (Lnk.deliver a x).1 from ⟨_, _, rfl, h404, h407⟩)) rfl fun w408 o409 => ?_
    clear Hz az; intro az Hz
    refine LT Hz rfl rfl (r_not Hz rfl) rfl ?_
    clear Hz az; intro az Hz
    refine L (r_pick Hz rfl rfl rfl) Hz rfl ?_
    clear Hz az; intro az Hz
    refine hK380 _ _ ?_
    refine br_false Hz rfl ?_
    refine wp_skip ?_
    refine hK379 _ _ ?_
    refine wp_seq_k fun K410 hK410 => ?_
    -- law.go:61
    refine wp_region_lit ?_
    have O412 : Only NoF w3 w360 := (Only.trans' (o_sg (o_sg (Only.trans' O347 o331) s337 (size_only O68) (oneF_ge hg61)) s343 (size_only O347) (oneF_ge hg333)) o359)
    have ne411 : g2 ≠ g361 := (ne_of hl7 (Nat.le_trans (size_only O412) hg365))
    have B413 := (Blk.k (Blk.st (Blk.st (Blk.k (Blk.k B348 o359) o363) s371 ne113) s377 ne411) o409)
    refine L (r_ldA Try.isAgg25 Try.sizeOf25 Hz rfl (Blk.ca B413) rfl) Hz rfl ?_
    clear Hz az; intro az Hz
    refine L (r_mv Hz rfl) Hz rfl ?_
    clear Hz az; intro az Hz
    have O414 : Only NoF w w360 := (Only.trans' O350 o359)
    have O415 : Only NoF w w408 := (Only.trans' (o_sg (o_sg (Only.trans' (Only.trans' O350 o359) o363) s371 (size_only O116) (oneF_ge hg89)) s377 (size_only O414) (oneF_ge hg365)) o409)
    have h416 := (SliceOf.kp f1 O415 (fun _ _ h => h) (fun _ _ _ _ h => h))
    have h417 := (SliceOf.kp f2 O415 (fun _ _ h => h) (fun _ _ _ _ h => h))
    have h418 := (SliceOf.kp f3 O415 (fun _ _ h => h) (fun _ _ _ _ h => h))
    refine LC Hz rfl rfl Try.call24 (Run_v0 (show AirV _ _ a from ⟨_, _, rfl, h416, h417⟩) h418 (by omega)) rfl ?_
    rintro e w432 ⟨A419, c423, A420, c424, A421, c425, A422, c426, rfl, f427, f428, f429, f430, o431⟩; refine ⟨_, rfl, ?_⟩
    clear Hz az; intro az Hz
    refine L (r_mv Hz rfl) Hz rfl ?_
    clear Hz az; intro az Hz
    refine L (r_ex Hz rfl rfl) Hz rfl ?_
    clear Hz az; intro az Hz
    refine L (r_ex Hz rfl rfl) Hz rfl ?_
    clear Hz az; intro az Hz
    refine L (r_ex Hz rfl rfl) Hz rfl ?_
    clear Hz az; intro az Hz
    have B433 := (Blk.k (Blk.k B388 o409) o431)
    refine LSt (cs' := [.slice A419 ((Lnk.run a l).1.ms.length) c423, .slice A420 ((Lnk.run a l).1.cs.length) c424]) Try.sizeOf25 Hz rfl rfl rfl rfl rfl ⟨rfl, rfl, trivial⟩ B433 rfl rfl fun w434 s435 B436 => ?_
    refine L (r_as Hz rfl) Hz rfl ?_
    clear Hz az; intro az Hz
    refine L (r_as Hz rfl) Hz rfl ?_
    clear Hz az; intro az Hz
    refine hK410 _ _ ?_
    refine wp_seq_k fun K437 hK437 => ?_
    -- law.go:62
    refine wp_region_lit ?_
    have B438 := (Blk.st (Blk.k B413 o431) s435 ne67)
    refine L (r_ldA Try.isAgg25 Try.sizeOf25 Hz rfl (Blk.ca B438) rfl) Hz rfl ?_
    clear Hz az; intro az Hz
    refine L (r_mv Hz rfl) Hz rfl ?_
    clear Hz az; intro az Hz
    have O439 : Only NoF w w434 := (o_sg (Only.trans' O415 o431) s435 (size_only O73) (oneF_ge hg61))
    have h440 := (SliceOf.kp f1 O439 (fun _ _ h => h) (fun _ _ _ _ h => h))
    have h441 := (SliceOf.kp f2 O439 (fun _ _ h => h) (fun _ _ _ _ h => h))
    have h442 := (SliceOf.kp f3 O439 (fun _ _ h => h) (fun _ _ _ _ h => h))
    refine LC Hz rfl rfl Try.call25 (rRun_v (show AirV _ _ a from ⟨_, _, rfl, h440, h441⟩) h442 hfw (by omega)) rfl ?_
    rintro e w456 ⟨A443, c447, A444, c448, A445, c449, A446, c450, rfl, f451, f452, f453, f454, o455⟩; refine ⟨_, rfl, ?_⟩
    clear Hz az; intro az Hz
    refine L (r_mv Hz rfl) Hz rfl ?_
    clear Hz az; intro az Hz
    refine L (r_ex Hz rfl rfl) Hz rfl ?_
    clear Hz az; intro az Hz
    refine L (r_ex Hz rfl rfl) Hz rfl ?_
    clear Hz az; intro az Hz
    refine L (r_ex Hz rfl rfl) Hz rfl ?_
    clear Hz az; intro az Hz
    have B457 := (Blk.k (Blk.st (Blk.k (Blk.k B390 o409) o431) s435 ne145) o455)
    refine LSt (cs' := [.slice A443 ((Lnk.run a l).1.ms.length) c447, .slice A444 ((Lnk.run a l).1.cs.length) c448]) Try.sizeOf25 Hz rfl rfl rfl rfl rfl ⟨rfl, rfl, trivial⟩ B457 rfl rfl fun w458 s459 B460 => ?_
    refine L (r_as Hz rfl) Hz rfl ?_
    clear Hz az; intro az Hz
    refine L (r_as Hz rfl) Hz rfl ?_
    clear Hz az; intro az Hz
    refine hK437 _ _ ?_
    refine wp_seq_k fun K461 hK461 => ?_
    -- law.go:63
    refine reg_m NoF 5 [4, 9, 14, 18, 20] [(true, 0), (true, 1), (true, 2), (true, 3), (false, 4), (true, 5), (true, 6), (true, 7), (true, 8), (false, 9), (true, 10), (true, 11), (true, 12), (true, 13), (false, 14), (true, 15), (true, 16), (true, 17), (true, 19), (false, 18), (false, 20), (true, 21), (true, 22), (true, 23)] (by kernel_rfl) (by kernel_rfl) (fun _ _ _ _ _ h => h) fun w462 o463 => ?_
    have B464 := (Blk.k (Blk.st (Blk.k B436 o455) s459 ne96) o463)
    have B465 := (Blk.k B460 o463)
    have B466 := (Blk.k (Blk.st (Blk.k B438 o455) s459 ne113) o463)
    refine MSP (b := true) (by kernel_rfl) (fun W oW => r_mv Hz rfl) Hz rfl rfl ?_
    clear Hz az; intro az Hz
    refine MSP (b := true) (by kernel_rfl) (fun W oW => r_mv Hz rfl) Hz rfl rfl ?_
    clear Hz az; intro az Hz
    refine MSPT (b := true) (by kernel_rfl) Hz rfl rfl (fun W oW => r_ldA Try.isAgg25 Try.sizeOf25 Hz rfl (Blk.ca (Blk.k B464 oW)) rfl) rfl rfl ?_
    clear Hz az; intro az Hz
    refine MSPT (b := true) (by kernel_rfl) Hz rfl rfl (fun W oW => r_ldA Try.isAgg25 Try.sizeOf25 Hz rfl (Blk.ca (Blk.k B465 oW)) rfl) rfl rfl ?_
    clear Hz az; intro az Hz
    have O467 := (Only.trans (Only.trans (Only.trans (Only.trans (Only.trans (Only.trans (Only.trans (Only.trans (Only.trans (Only.trans (Only.trans (Only.trans (Only.trans (Only.trans (Only.trans (Only.trans (Only.trans (Only.trans (Only.trans (Only.trans (Only.trans (Only.trans (Only.trans (Only.trans (Only.trans (Only.trans (Only.trans (Only.trans (Only.trans (Only.trans (Only.trans (Only.trans (Only.trans (Only.trans (Only.refl (fun _ => True) w58) s64 (fun _ _ => .inl trivial)) o83 (fun _ _ => .inl trivial)) o87 (fun _ _ => .inl trivial)) s92 (fun _ _ => .inl trivial)) o111 (fun _ _ => .inl trivial)) o126 (fun _ _ => .inl trivial)) s130 (fun _ _ => .inl trivial)) o143 (fun _ _ => .inl trivial)) s148 (fun _ _ => .inl trivial)) o165 (fun _ _ => .inl trivial)) o177 (fun _ _ => .inl trivial)) s181 (fun _ _ => .inl trivial)) o194 (fun _ _ => .inl trivial)) s198 (fun _ _ => .inl trivial)) o215 (fun _ _ => .inl trivial)) o227 (fun _ _ => .inl trivial)) s231 (fun _ _ => .inl trivial)) o244 (fun _ _ => .inl trivial)) s248 (fun _ _ => .inl trivial)) o265 (fun _ _ => .inl trivial)) o277 (fun _ _ => .inl trivial)) s281 (fun _ _ => .inl trivial)) o294 (fun _ _ => .inl trivial)) s298 (fun _ _ => .inl trivial)) o315 (fun _ _ => .inl trivial)) o327 (fun _ _ => .inl trivial)) o331 (fun _ _ => .inl trivial)) s337 (fun _ _ => .inl trivial)) s343 (fun _ _ => .inl trivial)) o359 (fun _ _ => .inl trivial)) o363 (fun _ _ => .inl trivial)) s371 (fun _ _ => .inl trivial)) s377 (fun _ _ => .inl trivial)) o409 (fun _ _ => .inl trivial))
    have O468 := (Only.trans (Only.trans (Only.trans (Only.trans (Only.trans (Only.trans (Only.trans (Only.trans (Only.trans (Only.trans (Only.trans (Only.trans (Only.trans (Only.trans (Only.trans (Only.trans (Only.trans (Only.trans (Only.trans (Only.trans (Only.trans (Only.trans (Only.trans (Only.trans (Only.trans (Only.trans (Only.trans (Only.trans (Only.trans (Only.trans (Only.trans (Only.refl (fun _ => True) w86) s92 (fun _ _ => .inl trivial)) o111 (fun _ _ => .inl trivial)) o126 (fun _ _ => .inl trivial)) s130 (fun _ _ => .inl trivial)) o143 (fun _ _ => .inl trivial)) s148 (fun _ _ => .inl trivial)) o165 (fun _ _ => .inl trivial)) o177 (fun _ _ => .inl trivial)) s181 (fun _ _ => .inl trivial)) o194 (fun _ _ => .inl trivial)) s198 (fun _ _ => .inl trivial)) o215 (fun _ _ => .inl trivial)) o227 (fun _ _ => .inl trivial)) s231 (fun _ _ => .inl trivial)) o244 (fun _ _ => .inl trivial)) s248 (fun _ _ => .inl trivial)) o265 (fun _ _ => .inl trivial)) o277 (fun _ _ => .inl trivial)) s281 (fun _ _ => .inl trivial)) o294 (fun _ _ => .inl trivial)) s298 (fun _ _ => .inl trivial)) o315 (fun _ _ => .inl trivial)) o327 (fun _ _ => .inl trivial)) o331 (fun _ _ => .inl trivial)) s337 (fun _ _ => .inl trivial)) s343 (fun _ _ => .inl trivial)) o359 (fun _ _ => .inl trivial)) o363 (fun _ _ => .inl trivial)) s371 (fun _ _ => .inl trivial)) s377 (fun _ _ => .inl trivial)) o409 (fun _ _ => .inl trivial))
    have h469 := (SliceOf.kp (SliceOf.kp (SliceOf.kp (SliceOf.kp f427 s435 (ge_F (oneF_lt hl62) (size_only O467)) (fun _ _ _ _ h => h)) o455 (fun _ _ h => h) (fun _ _ _ _ h => h)) s459 (ge_F (oneF_lt hl90) (size_only O468)) (fun _ _ _ _ h => h)) o463 (fun _ _ h => h) (fun _ _ _ _ h => h))
    have h470 := SliceOf.pl h469
    have h471 := (SliceOf.kp (SliceOf.kp (SliceOf.kp (SliceOf.kp f428 s435 (ge_F (oneF_lt hl62) (size_only O467)) (fun _ _ _ _ h => h)) o455 (fun _ _ h => h) (fun _ _ _ _ h => h)) s459 (ge_F (oneF_lt hl90) (size_only O468)) (fun _ _ _ _ h => h)) o463 (fun _ _ h => h) (fun _ _ _ _ h => h))
    have h472 := SliceOf.pl h471
    have O473 := (Only.trans (Only.trans (Only.trans (Only.trans (Only.trans (Only.trans (Only.trans (Only.trans (Only.trans (Only.trans (Only.trans (Only.trans (Only.trans (Only.trans (Only.trans (Only.trans (Only.trans (Only.trans (Only.trans (Only.trans (Only.trans (Only.trans (Only.trans (Only.trans (Only.trans (Only.trans (Only.trans (Only.trans (Only.trans (Only.trans (Only.trans (Only.trans (Only.trans (Only.refl (fun _ => True) w86) s92 (fun _ _ => .inl trivial)) o111 (fun _ _ => .inl trivial)) o126 (fun _ _ => .inl trivial)) s130 (fun _ _ => .inl trivial)) o143 (fun _ _ => .inl trivial)) s148 (fun _ _ => .inl trivial)) o165 (fun _ _ => .inl trivial)) o177 (fun _ _ => .inl trivial)) s181 (fun _ _ => .inl trivial)) o194 (fun _ _ => .inl trivial)) s198 (fun _ _ => .inl trivial)) o215 (fun _ _ => .inl trivial)) o227 (fun _ _ => .inl trivial)) s231 (fun _ _ => .inl trivial)) o244 (fun _ _ => .inl trivial)) s248 (fun _ _ => .inl trivial)) o265 (fun _ _ => .inl trivial)) o277 (fun _ _ => .inl trivial)) s281 (fun _ _ => .inl trivial)) o294 (fun _ _ => .inl trivial)) s298 (fun _ _ => .inl trivial)) o315 (fun _ _ => .inl trivial)) o327 (fun _ _ => .inl trivial)) o331 (fun _ _ => .inl trivial)) s337 (fun _ _ => .inl trivial)) s343 (fun _ _ => .inl trivial)) o359 (fun _ _ => .inl trivial)) o363 (fun _ _ => .inl trivial)) s371 (fun _ _ => .inl trivial)) s377 (fun _ _ => .inl trivial)) o409 (fun _ _ => .inl trivial)) o431 (fun _ _ => .inl trivial)) s435 (fun _ _ => .inl trivial))
    have h474 := (SliceOf.kp (SliceOf.kp f451 s459 (ge_F (oneF_lt hl90) (size_only O473)) (fun _ _ _ _ h => h)) o463 (fun _ _ h => h) (fun _ _ _ _ h => h))
    have h475 := SliceOf.pl h474
    have h476 := (SliceOf.kp (SliceOf.kp f452 s459 (ge_F (oneF_lt hl90) (size_only O473)) (fun _ _ _ _ h => h)) o463 (fun _ _ h => h) (fun _ _ _ _ h => h))
    have h477 := SliceOf.pl h476
    refine MSGV (v := .bool (true)) Hz rfl rfl gd_t rfl rfl (fun hb => rfl) Try.call13 (fun hb => kSame_same (show AirV _ _ (Lnk.run a l).1 from ⟨_, _, rfl, h470, h472⟩) (show AirV _ _ (Lnk.run a l).1 from ⟨_, _, rfl, h475, h477⟩)) rfl (fun w' o' => ⟨fun _ => o', (Only.trans (Only.refl NoF w462) o' (fun _ h => h.elim))⟩) fun w478 o479 => ?_
    clear Hz az; intro az Hz
    refine MSP (b := true) (by kernel_rfl) (fun W oW => r_pick Hz rfl rfl rfl) Hz rfl rfl ?_
    clear Hz az; intro az Hz
    refine MSP (b := true) (by kernel_rfl) (fun W oW => r_mv Hz rfl) Hz rfl rfl ?_
    clear Hz az; intro az Hz
    refine MSPT (b := true) (by kernel_rfl) Hz rfl rfl (fun W oW => r_mv Hz rfl) rfl rfl ?_
    clear Hz az; intro az Hz
    refine MSPT (b := true) (by kernel_rfl) Hz rfl rfl (fun W oW => r_mv Hz rfl) rfl rfl ?_
    clear Hz az; intro az Hz
    have O480 : Only NoF w458 w478 := (Only.trans' o463 o479)
    have h481 := (SliceOf.kp (SliceOf.kp (SliceOf.kp (SliceOf.kp f429 s435 (ge_F (oneF_lt hl62) (size_only O467)) (fun _ _ _ _ h => h)) o455 (fun _ _ h => h) (fun _ _ _ _ h => h)) s459 (ge_F (oneF_lt hl90) (size_only O468)) (fun _ _ _ _ h => h)) O480 (fun _ _ h => h) (fun _ _ _ _ h => h))
    have h482 := SliceOf.pl h481
    have h483 := (SliceOf.kp (SliceOf.kp f453 s459 (ge_F (oneF_lt hl90) (size_only O473)) (fun _ _ _ _ h => h)) O480 (fun _ _ h => h) (fun _ _ _ _ h => h))
    have h484 := SliceOf.pl h483
    refine MSGV (v := .bool (true)) Hz rfl rfl gd_t rfl rfl (fun hb => rfl) Try.call26 (fun hb => kSameM_same h482 h484) rfl (fun w' o' => ⟨fun _ => (Only.trans' o479 o'), (Only.trans (Only.trans (Only.refl NoF w462) o479 (fun _ h => h.elim)) o' (fun _ h => h.elim))⟩) fun w485 o486 => ?_
    clear Hz az; intro az Hz
    refine MSP (b := true) (by kernel_rfl) (fun W oW => r_pick Hz rfl rfl rfl) Hz rfl rfl ?_
    clear Hz az; intro az Hz
    refine MSP (b := true) (by kernel_rfl) (fun W oW => r_mv Hz rfl) Hz rfl rfl ?_
    clear Hz az; intro az Hz
    refine MSPT (b := true) (by kernel_rfl) Hz rfl rfl (fun W oW => r_mv Hz rfl) rfl rfl ?_
    clear Hz az; intro az Hz
    refine MSPT (b := true) (by kernel_rfl) Hz rfl rfl (fun W oW => r_mv Hz rfl) rfl rfl ?_
    clear Hz az; intro az Hz
    have O487 : Only NoF w458 w485 := (Only.trans' O480 o486)
    have h488 := (SliceOf.kp (SliceOf.kp (SliceOf.kp (SliceOf.kp f430 s435 (ge_F (oneF_lt hl62) (size_only O467)) (fun _ _ _ _ h => h)) o455 (fun _ _ h => h) (fun _ _ _ _ h => h)) s459 (ge_F (oneF_lt hl90) (size_only O468)) (fun _ _ _ _ h => h)) O487 (fun _ _ h => h) (fun _ _ _ _ h => h))
    have h489 := SliceOf.pl h488
    have h490 := (SliceOf.kp (SliceOf.kp f454 s459 (ge_F (oneF_lt hl90) (size_only O473)) (fun _ _ _ _ h => h)) O487 (fun _ _ h => h) (fun _ _ _ _ h => h))
    have h491 := SliceOf.pl h490
    refine MSGV (v := .bool (true)) Hz rfl rfl gd_t rfl rfl (fun hb => rfl) Try.call27 (fun hb => kSameE_same h489 h491) rfl (fun w' o' => ⟨fun _ => (Only.trans' (Only.trans' o479 o486) o'), (Only.trans (Only.trans (Only.trans (Only.refl NoF w462) o479 (fun _ h => h.elim)) o486 (fun _ h => h.elim)) o' (fun _ h => h.elim))⟩) fun w492 o493 => ?_
    clear Hz az; intro az Hz
    refine MSP (b := true) (by kernel_rfl) (fun W oW => r_pick Hz rfl rfl rfl) Hz rfl rfl ?_
    clear Hz az; intro az Hz
    refine MSP (b := true) (by kernel_rfl) (fun W oW => r_mv Hz rfl) Hz rfl rfl ?_
    clear Hz az; intro az Hz
    refine MSPT (b := true) (by kernel_rfl) Hz rfl rfl (fun W oW => r_ldA Try.isAgg25 Try.sizeOf25 Hz rfl (Blk.ca (Blk.k B466 oW)) rfl) rfl rfl ?_
    clear Hz az; intro az Hz
    refine MSPT (b := true) (by kernel_rfl) Hz rfl rfl (fun W oW => r_ldA Try.isAgg25 Try.sizeOf25 Hz rfl (Blk.ca (Blk.k B466 oW)) rfl) rfl rfl ?_
    clear Hz az; intro az Hz
    have O494 : Only NoF w w492 := (Only.trans' (Only.trans' (Only.trans' (Only.trans' (o_sg (Only.trans' O439 o455) s459 (size_only O116) (oneF_ge hg89)) o463) o479) o486) o493)
    have h495 := (SliceOf.kp f1 O494 (fun _ _ h => h) (fun _ _ _ _ h => h))
    have h496 := (SliceOf.kp f2 O494 (fun _ _ h => h) (fun _ _ _ _ h => h))
    refine MSGV (v := .bool (Lnk.right a)) Hz rfl rfl gd_t rfl rfl (fun hb => rfl) Try.call28 (fun hb => nRightA_c (show AirV _ _ a from ⟨_, _, rfl, h495, h496⟩)) rfl (fun w' o' => ⟨fun _ => (Only.trans' (Only.trans' (Only.trans' o479 o486) o493) o'), (Only.trans (Only.trans (Only.trans (Only.trans (Only.refl NoF w462) o479 (fun _ h => h.elim)) o486 (fun _ h => h.elim)) o493 (fun _ h => h.elim)) o' (fun _ h => h.elim))⟩) fun w497 o498 => ?_
    clear Hz az; intro az Hz
    have O499 : Only NoF w w497 := (Only.trans' O494 o498)
    have h500 := (SliceOf.kp f1 O499 (fun _ _ h => h) (fun _ _ _ _ h => h))
    have h501 := (SliceOf.kp f2 O499 (fun _ _ h => h) (fun _ _ _ _ h => h))
    refine MSGV (v := .bool (Lnk.right a)) Hz rfl rfl gd_t rfl rfl (fun hb => rfl) Try.call29 (fun hb => rRight_v (show AirV _ _ a from ⟨_, _, rfl, h500, h501⟩)) rfl (fun w' o' => ⟨fun _ => (Only.trans' (Only.trans' (Only.trans' (Only.trans' o479 o486) o493) o498) o'), (Only.trans (Only.trans (Only.trans (Only.trans (Only.trans (Only.refl NoF w462) o479 (fun _ h => h.elim)) o486 (fun _ h => h.elim)) o493 (fun _ h => h.elim)) o498 (fun _ h => h.elim)) o' (fun _ h => h.elim))⟩) fun w502 o503 => ?_
    clear Hz az; intro az Hz
    refine MSPT (b := true) (by kernel_rfl) Hz rfl rfl (fun W oW => r_eqRB (eqBool _) Hz rfl rfl) rfl rfl ?_
    clear Hz az; intro az Hz
    refine MSP (b := true) (by kernel_rfl) (fun W oW => r_pick Hz rfl rfl rfl) Hz rfl rfl ?_
    clear Hz az; intro az Hz
    refine MSP (b := true) (by kernel_rfl) (fun W oW => r_as Hz rfl) Hz rfl rfl ?_
    clear Hz az; intro az Hz
    refine wpMix_nil ?_
    refine hK461 _ _ ?_
    refine wp_ret ?_
    show bodyPost _ _ _ .ret _ _
    refine ret_of (vs := [.bool (true)]) Hz Try.results3 ⟨rfl, trivial⟩ ?_
    have O504 : Only NoF w w502 := (Only.trans' O499 o503)
    exact ⟨rfl, O504⟩
end Go.Proofs.Ytocbfobakmieoaa
