/-
  The journal's law: small, walked. No condition but the listed variables.
-/
import Derived.Test.YtlnadcihnfppaaaGreatDoorJB
namespace Go.Proofs.YtlnadcihnfppaaaGreatDoor
set_option linter.unusedVariables false
set_option linter.unusedSimpArgs false
set_option linter.unusedSectionVars false
open Go.RowKit

theorem r_eqSh {P : Program} {w : World} {n : Nat} {l : List (Nat × Value)} {a : Act} {dst : Option Tmp} {ty : TypeId} {pos : String} {aft : Array Edge} {g : Option (Nat × Bool)} {x y : Operand} {t yt : TypeId} {s s2 : Str} (H : Fr n l a) (hx : ev l x = some (strV s)) (hy : ev l y = some (strV s2)) (hs : s = s2) :
    (execOp a.eval ⟨dst, .binOp .eql t x y yt, ty, pos, aft, g⟩).run P w = .ok (.value (.bool true)) w := by
  subst hs
  have := r_eqS (P := P) (w := w) (dst := dst) (ty := ty) (pos := pos) (aft := aft) (g := g) (t := t) (yt := yt) H hx hy
  rwa [decide_eq_true rfl] at this
set_option maxRecDepth 20000 in
set_option maxHeartbeats 4000000 in
theorem small03_ {w : World} (hG : Gr w) {D1 D2 D3 D5 : Dsk} (e1 : openJ Dsk.init 3 = (D1, 0, some ⟨3, [], 0, false⟩)) (a1 : (⟨3, [], 0, false⟩ : Jn).append D1 bAB = (D2, ⟨3, [bAB], 9, false⟩, 0)) (a2 : (⟨3, [bAB], 9, false⟩ : Jn).append D2 [] = (D3, ⟨3, [bAB, []], 14, false⟩, 0)) (r1 : D3.read 3 0 99 = ([50, 58, 97, 98, 44, 50, 57, 51, 59, 48, 58, 44, 48, 59], 0)) (e2 : openJ (D3.write 4 0 [50, 58, 97, 98, 44, 50, 57, 51, 59, 49, 58, 97, 44, 57, 56, 59]).1 4 = (D5, 0, some ⟨4, [bAB], 9, false⟩)) (z1 : D5.size 4 = 9) : Calls Tryz.prog 4 ([] : List Value).toArray w (Fix (.bool true) w) := by
  refine calls_start Tryz.func4 rfl rfl ?_
  intro az Hz
  rw [Tryz.ntmps4] at Hz
  refine wp_seq_k fun K1 hK1 => ?_
  -- law.go:15
  refine wp_region_lit ?_
  refine L (r_as Hz rfl) Hz rfl ?_
  clear Hz az; intro az Hz
  refine hK1 _ _ ?_
  refine wp_seq_k fun K2 hK2 => ?_
  -- law.go:16
  refine wp_region_lit ?_
  refine LC Hz rfl rfl Tryz.call6 (dNew_l _) rfl ?_
  rintro e w5 ⟨b3, F4, rfl, h6, o7, hge8⟩; refine ⟨_, rfl, ?_⟩
  clear Hz az; intro az Hz
  refine L (r_as Hz rfl) Hz rfl ?_
  clear Hz az; intro az Hz
  refine hK2 _ _ ?_
  refine wp_seq_k fun K9 hK9 => ?_
  refine wp_seq_k fun K10 hK10 => ?_
  -- law.go:17
  refine wp_region_lit ?_
  refine L (r_mv Hz rfl) Hz rfl ?_
  clear Hz az; intro az Hz
  refine L (r_eqP Tryz.underlying25 Hz rfl rfl) Hz rfl ?_
  clear Hz az; intro az Hz
  refine hK10 _ _ ?_
  refine br_false Hz rfl ?_
  refine wp_skip ?_
  refine hK9 _ _ ?_
  refine wp_seq_k fun K11 hK11 => ?_
  -- law.go:20
  refine wp_region_lit ?_
  refine L (r_mv Hz rfl) Hz rfl ?_
  clear Hz az; intro az Hz
  have G19 := Gr.k hG o7
  refine LC Hz rfl rfl Tryz.call8 (open_d G19 h6 (fun k hk => Nat.le_trans (Nat.le_trans hG.1 (Nat.le_refl _)) (hge8 k (.inl hk))) e1) rfl ?_
  rintro e w13 ⟨g12, rfl, F14, h15, o16, fm17, fr18⟩; refine ⟨_, rfl, ?_⟩
  have hge20 := ge_next hge8 (size_only o7) fm17 fr18
  clear Hz az; intro az Hz
  refine L (r_mv Hz rfl) Hz rfl ?_
  clear Hz az; intro az Hz
  refine L (r_ex Hz rfl rfl) Hz rfl ?_
  clear Hz az; intro az Hz
  refine L (r_ex Hz rfl rfl) Hz rfl ?_
  clear Hz az; intro az Hz
  refine L (r_as Hz rfl) Hz rfl ?_
  clear Hz az; intro az Hz
  refine L (r_as Hz rfl) Hz rfl ?_
  clear Hz az; intro az Hz
  refine hK11 _ _ ?_
  refine wp_seq_k fun K21 hK21 => ?_
  refine wp_seq_k fun K22 hK22 => ?_
  -- law.go:21
  refine wp_region_lit ?_
  refine L (r_mv Hz rfl) Hz rfl ?_
  clear Hz az; intro az Hz
  refine L (r_eqP Tryz.underlying29 Hz rfl rfl) Hz rfl ?_
  clear Hz az; intro az Hz
  refine hK22 _ _ ?_
  refine br_false Hz rfl ?_
  refine wp_skip ?_
  refine hK21 _ _ ?_
  refine wp_seq_k fun K23 hK23 => ?_
  -- law.go:24
  refine wp_region_lit ?_
  refine L (r_mv Hz rfl) Hz rfl ?_
  clear Hz az; intro az Hz
  have O25 : Only NoF w w13 := (o_sg o7 o16 (Nat.le_refl _) (fun k h => hge8 k (.inl h)))
  have G24 := Gr.k hG O25
  refine LC Hz rfl rfl Tryz.call12 (append_j G24 h15 (fun k hk => Nat.le_trans (Nat.le_trans hG.1 (Nat.le_refl _)) (hge20 k (.inl hk))) (by decide) (by decide) (by decide) a1) rfl ?_
  rintro e w26 ⟨rfl, F27, h28, o29, fm30, fr31⟩; refine ⟨_, rfl, ?_⟩
  have hge32 := ge_next hge20 (size_only O25) fm30 fr31
  clear Hz az; intro az Hz
  refine L (r_as Hz rfl) Hz rfl ?_
  clear Hz az; intro az Hz
  refine hK23 _ _ ?_
  refine wp_seq_k fun K33 hK33 => ?_
  -- law.go:25
  refine wp_region_lit ?_
  refine L (r_mv Hz rfl) Hz rfl ?_
  clear Hz az; intro az Hz
  have O35 : Only NoF w w26 := (o_sg O25 o29 (Nat.le_refl _) (fun k h => hge20 k (.inl h)))
  have G34 := Gr.k hG O35
  refine LC Hz rfl rfl Tryz.call12 (append_j G34 h28 (fun k hk => Nat.le_trans (Nat.le_trans hG.1 (Nat.le_refl _)) (hge32 k (.inl hk))) (by decide) (by decide) (by decide) a2) rfl ?_
  rintro e w36 ⟨rfl, F37, h38, o39, fm40, fr41⟩; refine ⟨_, rfl, ?_⟩
  have hge42 := ge_next hge32 (size_only O35) fm40 fr41
  clear Hz az; intro az Hz
  refine L (r_as Hz rfl) Hz rfl ?_
  clear Hz az; intro az Hz
  refine hK33 _ _ ?_
  refine wp_seq_k fun K43 hK43 => ?_
  -- law.go:26
  refine wp_region_lit ?_
  refine L (r_mv Hz rfl) Hz rfl ?_
  clear Hz az; intro az Hz
  obtain ⟨F45, hd44⟩ := JT.d h38
  refine LCV (v := .tuple #[strV ([50, 58, 97, 98, 44, 50, 57, 51, 59, 48, 58, 44, 48, 59]), .int .i64 (0)]) Hz rfl rfl Tryz.call26 (read_d hd44 (by unfold I64; omega) (by first | exact size_i64 hd44 _ | (unfold I64; omega)) r1) rfl fun w46 o47 => ?_
  clear Hz az; intro az Hz
  refine L (r_mv Hz rfl) Hz rfl ?_
  clear Hz az; intro az Hz
  refine L (r_ex Hz rfl rfl) Hz rfl ?_
  clear Hz az; intro az Hz
  refine L (r_ex Hz rfl rfl) Hz rfl ?_
  clear Hz az; intro az Hz
  refine L (r_as Hz rfl) Hz rfl ?_
  clear Hz az; intro az Hz
  refine L (r_as Hz rfl) Hz rfl ?_
  clear Hz az; intro az Hz
  refine hK43 _ _ ?_
  refine wp_seq_k fun K48 hK48 => ?_
  -- law.go:27
  refine wp_region_lit ?_
  refine L (r_mv Hz rfl) Hz rfl ?_
  clear Hz az; intro az Hz
  have T49 : (JT b3 g12 D3 ⟨3, [bAB, []], 14, false⟩) w46 F37 := ((jt_good _ _ _ _).only h38 o47 (fun _ _ h => h))
  refine LC Hz rfl rfl Tryz.call30 (write_j (f := 4) (a := 0) (s := [50, 58, 97, 98, 44, 50, 57, 51, 59, 49, 58, 97, 44, 57, 56, 59]) T49 (by unfold I64; omega) (by decide)) rfl ?_
  rintro e w50 ⟨rfl, F51, h52, o53, fm54, fr55⟩; refine ⟨_, rfl, ?_⟩
  have O56 : Only NoF w w46 := (Only.trans' (o_sg O35 o39 (Nat.le_refl _) (fun k h => hge32 k (.inl h))) o47)
  have hge57 := ge_next hge42 (size_only O56) fm54 fr55
  clear Hz az; intro az Hz
  refine hK48 _ _ ?_
  refine wp_seq_k fun K58 hK58 => ?_
  -- law.go:28
  refine wp_region_lit ?_
  refine L (r_mv Hz rfl) Hz rfl ?_
  clear Hz az; intro az Hz
  have O67 : Only NoF w w50 := (o_sg O56 o53 (Nat.le_refl _) (fun k h => hge42 k (.inl h)))
  have G66 := Gr.k hG O67
  refine LC Hz rfl rfl Tryz.call8 (open_k G66 h52 (fun k hk => Nat.le_trans (Nat.le_trans hG.1 (Nat.le_refl _)) (hge57 k (.inl hk))) e2) rfl ?_
  rintro e w60 ⟨g59, rfl, F61, h62, o63, fm64, fr65⟩; refine ⟨_, rfl, ?_⟩
  have hge68 := ge_next hge57 (size_only O67) fm64 fr65
  clear Hz az; intro az Hz
  refine L (r_mv Hz rfl) Hz rfl ?_
  clear Hz az; intro az Hz
  refine L (r_ex Hz rfl rfl) Hz rfl ?_
  clear Hz az; intro az Hz
  refine L (r_ex Hz rfl rfl) Hz rfl ?_
  clear Hz az; intro az Hz
  refine L (r_as Hz rfl) Hz rfl ?_
  clear Hz az; intro az Hz
  refine L (r_as Hz rfl) Hz rfl ?_
  clear Hz az; intro az Hz
  refine hK58 _ _ ?_
  refine wp_seq_k fun K69 hK69 => ?_
  refine wp_seq_k fun K70 hK70 => ?_
  -- law.go:29
  refine wp_region_lit ?_
  refine L (r_mv Hz rfl) Hz rfl ?_
  clear Hz az; intro az Hz
  refine L (r_eqP Tryz.underlying29 Hz rfl rfl) Hz rfl ?_
  clear Hz az; intro az Hz
  refine hK70 _ _ ?_
  refine br_false Hz rfl ?_
  refine wp_skip ?_
  refine hK69 _ _ ?_
  refine wp_seq_k fun K71 hK71 => ?_
  -- law.go:32
  refine wp_region_lit ?_
  refine LCV (v := .int .i64 (0)) Hz rfl rfl Tryz.call10 (fix_eq (congrArg (Value.int .i64) (by decide +kernel : jsum [] = 0)) (Sum_v _ [] (by decide))) rfl fun w72 o73 => ?_
  clear Hz az; intro az Hz
  refine L (r_eqRI Hz rfl rfl) Hz rfl ?_
  clear Hz az; intro az Hz
  refine L (r_mv Hz rfl) Hz rfl ?_
  clear Hz az; intro az Hz
  refine LGV (v := .int .i64 (97)) Hz rfl rfl gd_t rfl (fun hb => rfl) Tryz.call10 (fun hb => fix_eq (congrArg (Value.int .i64) (by decide +kernel : jsum [97] = 97)) (Sum_v _ [97] (by decide))) rfl fun w74 o75 => ?_
  clear Hz az; intro az Hz
  refine LT Hz rfl rfl (r_eqRI Hz rfl rfl) rfl ?_
  clear Hz az; intro az Hz
  refine L (r_pick Hz rfl rfl rfl) Hz rfl ?_
  clear Hz az; intro az Hz
  refine L (r_mv Hz rfl) Hz rfl ?_
  clear Hz az; intro az Hz
  refine LGV (v := .int .i64 (293)) Hz rfl rfl gd_t rfl (fun hb => rfl) Tryz.call10 (fun hb => fix_eq (congrArg (Value.int .i64) (by decide +kernel : jsum [97, 98] = 293)) (Sum_v _ [97, 98] (by decide))) rfl fun w76 o77 => ?_
  clear Hz az; intro az Hz
  refine LT Hz rfl rfl (r_eqRI Hz rfl rfl) rfl ?_
  clear Hz az; intro az Hz
  refine L (r_pick Hz rfl rfl rfl) Hz rfl ?_
  clear Hz az; intro az Hz
  refine L (r_as Hz rfl) Hz rfl ?_
  clear Hz az; intro az Hz
  refine hK71 _ _ ?_
  refine wp_seq_k fun K78 hK78 => ?_
  -- law.go:33
  refine wp_region_lit ?_
  refine L (r_mv Hz rfl) Hz rfl ?_
  clear Hz az; intro az Hz
  refine L (r_eqRI Hz rfl rfl) Hz rfl ?_
  clear Hz az; intro az Hz
  refine L (r_mv Hz rfl) Hz rfl ?_
  clear Hz az; intro az Hz
  refine LT Hz rfl rfl (r_mv Hz rfl) rfl ?_
  clear Hz az; intro az Hz
  refine LT Hz rfl rfl (r_eqRI Hz rfl rfl) rfl ?_
  clear Hz az; intro az Hz
  refine L (r_pick Hz rfl rfl rfl) Hz rfl ?_
  clear Hz az; intro az Hz
  refine L (r_mv Hz rfl) Hz rfl ?_
  clear Hz az; intro az Hz
  refine LT Hz rfl rfl (r_mv Hz rfl) rfl ?_
  clear Hz az; intro az Hz
  refine LT Hz rfl rfl (r_eqRI Hz rfl rfl) rfl ?_
  clear Hz az; intro az Hz
  refine L (r_pick Hz rfl rfl rfl) Hz rfl ?_
  clear Hz az; intro az Hz
  refine L (r_mv Hz rfl) Hz rfl ?_
  clear Hz az; intro az Hz
  refine LT Hz rfl rfl (r_mv Hz rfl) rfl ?_
  clear Hz az; intro az Hz
  refine LT Hz rfl rfl (r_eqSh Hz rfl rfl rfl) rfl ?_
  clear Hz az; intro az Hz
  refine L (r_pick Hz rfl rfl rfl) Hz rfl ?_
  clear Hz az; intro az Hz
  refine L (r_mv Hz rfl) Hz rfl ?_
  clear Hz az; intro az Hz
  refine LT Hz rfl rfl (r_mv Hz rfl) rfl ?_
  clear Hz az; intro az Hz
  have O79 : Only NoF w60 w76 := (Only.trans' (Only.trans' o73 o75) o77)
  have T80 : (BothT (JB b3 g12 ⟨3, [bAB, []], 14, false⟩) (JT b3 g59 D5 ⟨4, [bAB], 9, false⟩)) w76 F61 := ((BothT.good (jb_good _ _ _) (jt_good _ _ _ _)).only h62 O79 (fun _ _ h => h))
  refine LGV (v := .int .i64 (2)) Hz rfl rfl gd_t rfl (fun hb => rfl) Tryz.call31 (fun hb => len_b (BothT.l T80)) rfl fun w81 o82 => ?_
  clear Hz az; intro az Hz
  refine LT Hz rfl rfl (r_eqRI Hz rfl rfl) rfl ?_
  clear Hz az; intro az Hz
  refine L (r_pick Hz rfl rfl rfl) Hz rfl ?_
  clear Hz az; intro az Hz
  refine L (r_mv Hz rfl) Hz rfl ?_
  clear Hz az; intro az Hz
  refine LT Hz rfl rfl (r_mv Hz rfl) rfl ?_
  clear Hz az; intro az Hz
  have T83 : (BothT (JB b3 g12 ⟨3, [bAB, []], 14, false⟩) (JT b3 g59 D5 ⟨4, [bAB], 9, false⟩)) w81 F61 := ((BothT.good (jb_good _ _ _) (jt_good _ _ _ _)).only T80 o82 (fun _ _ h => h))
  refine LGV (v := strV ([97, 98])) Hz rfl rfl gd_t rfl (fun hb => rfl) Tryz.call32 (fun hb => get_b (BothT.l T83) 0) rfl fun w84 o85 => ?_
  clear Hz az; intro az Hz
  refine LT Hz rfl rfl (r_eqSh Hz rfl rfl rfl) rfl ?_
  clear Hz az; intro az Hz
  refine L (r_pick Hz rfl rfl rfl) Hz rfl ?_
  clear Hz az; intro az Hz
  refine L (r_as Hz rfl) Hz rfl ?_
  clear Hz az; intro az Hz
  refine hK78 _ _ ?_
  refine wp_seq_k fun K86 hK86 => ?_
  -- law.go:34
  refine wp_region_lit ?_
  refine L (r_mv Hz rfl) Hz rfl ?_
  clear Hz az; intro az Hz
  refine L (r_mv Hz rfl) Hz rfl ?_
  clear Hz az; intro az Hz
  refine LT Hz rfl rfl (r_mv Hz rfl) rfl ?_
  clear Hz az; intro az Hz
  refine L (r_pick Hz rfl rfl rfl) Hz rfl ?_
  clear Hz az; intro az Hz
  refine L (r_mv Hz rfl) Hz rfl ?_
  clear Hz az; intro az Hz
  refine LT Hz rfl rfl (r_mv Hz rfl) rfl ?_
  clear Hz az; intro az Hz
  refine LT Hz rfl rfl (r_eqRI Hz rfl rfl) rfl ?_
  clear Hz az; intro az Hz
  refine L (r_pick Hz rfl rfl rfl) Hz rfl ?_
  clear Hz az; intro az Hz
  refine L (r_mv Hz rfl) Hz rfl ?_
  clear Hz az; intro az Hz
  refine LT Hz rfl rfl (r_mv Hz rfl) rfl ?_
  clear Hz az; intro az Hz
  have T92 : (BothT (JB b3 g12 ⟨3, [bAB, []], 14, false⟩) (JT b3 g59 D5 ⟨4, [bAB], 9, false⟩)) w84 F61 := ((BothT.good (jb_good _ _ _) (jt_good _ _ _ _)).only T83 o85 (fun _ _ h => h))
  have hokl := okB ((BothT.r T92).elim fun _ q => BothT.l q)
  refine LCT Hz rfl rfl rfl rfl Tryz.call25 (all_b ((BothT.r T92).elim fun _ q => BothT.l q) (by decide)) rfl ?_
  rintro e w87 ⟨A88, c89, rfl, r90, o91⟩; refine ⟨_, rfl, ?_⟩
  have okl93 := hokl; clear hokl
  clear Hz az; intro az Hz
  obtain ⟨A94, w95, hw, hA, r96, o97⟩ := Row.made (w := w87) KStr (e := 9) ([bAB] : List Str) (by simp only [List.length_cons, List.length_nil]; unfold maxLen; omega)
  refine LT Hz rfl rfl (r_bs (z := strV ([])) (size := 1) (vs := [(0, strV ([97, 98]))]) (cs := List.flatMap KStr.cells [bAB]) Tryz.underlying46 Tryz.sizeOf9 Tryz.zeroValue9 rfl (Fr.evalps Hz rfl) (by kernel_rfl)) rfl ?_
  rw [← hw, ← hA]; clear Hz az; intro az Hz
  clear hw hA
  have ok98 : ∀ zq ∈ ([bAB] : List Str), KStr.ok zq := by intro zq hx; simp only [List.mem_cons, List.not_mem_nil, or_false] at hx; rcases hx with rfl <;> first | exact (by show List.length bAB ≤ maxLen; unfold maxLen; decide)
  have h99 := Row.own KStr r90 okl93
  have h100 := (SliceOf.kp h99 o97 (fun _ _ h => h) (fun _ _ _ _ h => h))
  have h101 := SliceOf.pl h100
  have h102 := Row.own KStr r96 ok98
  have h103 := SliceOf.pl h102
  refine LGV (v := .bool (true)) Hz rfl rfl gd_t rfl (fun hb => rfl) Tryz.call24 (fun hb => fix_eq (congrArg Value.bool (decide_eq_true rfl)) (SameTexts_v h101 h103)) rfl fun w104 o105 => ?_
  clear Hz az; intro az Hz
  refine L (r_pick Hz rfl rfl rfl) Hz rfl ?_
  clear Hz az; intro az Hz
  refine L (r_mv Hz rfl) Hz rfl ?_
  clear Hz az; intro az Hz
  refine LT Hz rfl rfl (r_mv Hz rfl) rfl ?_
  clear Hz az; intro az Hz
  have O106 : Only NoF w84 w104 := (Only.trans' (Only.trans' o91 o97) o105)
  have T107 : (BothT (JB b3 g12 ⟨3, [bAB, []], 14, false⟩) (JT b3 g59 D5 ⟨4, [bAB], 9, false⟩)) w104 F61 := ((BothT.good (jb_good _ _ _) (jt_good _ _ _ _)).only T92 O106 (fun _ _ h => h))
  obtain ⟨F109, hd108⟩ := (BothT.r T107).elim fun _ q => JT.d q
  refine LGV (v := .int .i64 (9)) Hz rfl rfl gd_t rfl (fun hb => rfl) Tryz.call27 (fun hb => fix_eq (by rw [z1]; rfl) (size_d hd108 4)) rfl fun w110 o111 => ?_
  clear Hz az; intro az Hz
  refine LT Hz rfl rfl (r_eqRI Hz rfl rfl) rfl ?_
  clear Hz az; intro az Hz
  refine L (r_pick Hz rfl rfl rfl) Hz rfl ?_
  clear Hz az; intro az Hz
  refine L (r_as Hz rfl) Hz rfl ?_
  clear Hz az; intro az Hz
  refine hK86 _ _ ?_
  refine wp_ret ?_
  show bodyPost _ _ _ .ret _ _
  refine ret_of (vs := [.bool (true)]) Hz Tryz.results4 ⟨rfl, trivial⟩ ?_
  have O112 : Only NoF w w110 := (Only.trans' (Only.trans' (Only.trans' (Only.trans' (Only.trans' (Only.trans' (Only.trans' (Only.trans' (Only.trans' (o_sg O67 o63 (Nat.le_refl _) (fun k h => hge57 k (.inl h))) o73) o75) o77) o82) o85) o91) o97) o105) o111)
  exact ⟨rfl, O112⟩

theorem small03_v {w : World} (hG : Gr w) : Calls Tryz.prog 4 ([] : List Value).toArray w (Fix (.bool true) w) := by
  obtain ⟨D1, D2, D3, D5, h1, h2, h3, h4, h5, h6⟩ := small_plain
  exact small03_ hG h1 h2 h3 h4 h5 h6
end Go.Proofs.YtlnadcihnfppaaaGreatDoor
