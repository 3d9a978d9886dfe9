/-
  WireWrites, walked: it returns true. No condition but the listed variables.
-/
import Derived.Test.YtgmnoianhonihaaDoorWW7
import Derived.Test.YtgmnoianhonihaaDoorWW8
namespace Go.Proofs.YtgmnoianhonihaaDoor
set_option linter.unusedVariables false
set_option linter.unusedSimpArgs false
set_option linter.unusedSectionVars false
open Go.RowKit

theorem r_eqSs {P : Program} {w : World} {n : Nat} {l : List (Nat × Value)} {a : Act} {dst : Option Tmp} {ty : TypeId} {pos : String} {aft : Array Edge} {g : Option (Nat × Bool)} {x y : Operand} {t yt : TypeId} {s : Str} (H : Fr n l a) (hx : ev l x = some (strV s)) (hy : ev l y = some (strV s)) :
    (execOp a.eval ⟨dst, .binOp .eql t x y yt, ty, pos, aft, g⟩).run P w = .ok (.value (.bool true)) w := by
  have := r_eqS (P := P) (w := w) (dst := dst) (ty := ty) (pos := pos) (aft := aft) (g := g) (t := t) (yt := yt) H hx hy
  rwa [decide_eq_true rfl] at this
set_option maxRecDepth 20000 in
set_option maxHeartbeats 4000000 in
theorem writes_v {w : World} (hG : Gr w) {m : VM} (hk1 : (KVal w).ok m) : Calls Tryd.prog 3 [.agg #[.int .i64 m.k, .int .i64 m.n, strV m.s, .slice m.A m.l.length m.c, .slice m.B m.t.length m.d]].toArray w (Fix (.bool true) w) := by
  have hok := okM hk1
  obtain ⟨_, _, _, h1, h2⟩ := id hk1
  refine calls_start Tryd.func3 rfl rfl ?_
  intro az Hz
  rw [Tryd.ntmps3] at Hz
  refine wp_seq_k fun K1 hK1 => ?_
  -- law.go:99
  refine wp_region_lit ?_
  refine LBox Hz rfl rfl rfl ?_
  clear Hz az; intro g2 w3 hg6 hl7 o4 B5 az Hz
  refine L (r_as Hz rfl) Hz rfl ?_
  clear Hz az; intro az Hz
  refine hK1 _ _ ?_
  refine wp_seq_k fun K8 hK8 => ?_
  -- law.go:100
  refine wp_region_lit ?_
  have G9 := Gr.k hG o4
  refine LCV (v := .bool (true)) Hz rfl rfl Tryd.call15 (small_v G9) rfl fun w10 o11 => ?_
  clear Hz az; intro az Hz
  refine L (r_as Hz rfl) Hz rfl ?_
  clear Hz az; intro az Hz
  refine hK8 _ _ ?_
  refine wp_seq_k fun K12 hK12 => ?_
  refine wp_seq_k fun K13 hK13 => ?_
  -- law.go:101
  refine wp_region_lit ?_
  have B14 := (Blk.k B5 o11)
  refine L (r_ldA Tryd.isAgg25 Tryd.sizeOf25 Hz rfl (Blk.ca B14) rfl) Hz rfl ?_
  clear Hz az; intro az Hz
  obtain ⟨A15, w16, hw, hA, r17, o18⟩ := Row.made (w := w10) (KVal w) (e := 25) ([m] : List VM) (by simp only [List.length_cons, List.length_nil]; unfold maxLen; omega)
  refine L (r_bs (z := .agg #[.int .i64 (0), .int .i64 (0), strV ([]), .slice none (0) 0, .slice none (0) 0]) (size := 5) (vs := [(0, .agg #[.int .i64 (m.k), .int .i64 (m.n), strV (m.s), .slice m.A (m.l.length) m.c, .slice m.B (m.t.length) m.d])]) (cs := List.flatMap (KVal w).cells [m]) Tryd.underlying28 Tryd.sizeOf25 Tryd.zeroValue25 rfl (Fr.evalps Hz rfl) (by kernel_rfl)) Hz rfl ?_
  rw [← hw, ← hA]; clear Hz az; intro az Hz
  clear hw hA
  have ok19 : ∀ zq ∈ ([m] : List VM), (KVal w).ok zq := by intro zq hx; simp only [List.mem_cons, List.not_mem_nil, or_false] at hx; rcases hx with rfl <;> first | exact hk1
  have h20 := Row.own (KVal w) r17 ok19
  have h21 := SliceOf.pl h20
  have O22 : Only NoF w w16 := (Only.trans' (Only.trans' o4 o11) o18)
  refine LCE Hz rfl rfl Tryd.call16 (few_v (vals_up h21 O22)) rfl fun b25 w23 hs26 o24 => ?_
  clear Hz az; intro az Hz
  refine L (r_not Hz rfl) Hz rfl ?_
  clear Hz az; intro az Hz
  refine hK13 _ _ ?_
  refine br Hz rfl (fun hc27 => ?_) (fun hc27 => ?_)
  · -- if0
    have q28 : b25 = false := (nt_t hc27)
    refine wp_seq_k fun K29 hK29 => ?_
    -- law.go:102
    refine wp_region_lit ?_
    refine L (r_mv Hz rfl) Hz rfl ?_
    clear Hz az; intro az Hz
    refine L (r_as Hz rfl) Hz rfl ?_
    clear Hz az; intro az Hz
    refine hK29 _ _ ?_
    refine wp_ret ?_
    show bodyPost _ _ _ .ret _ _
    refine ret_of (vs := [.bool (true)]) Hz Tryd.results3 ⟨rfl, trivial⟩ ?_
    have O30 : Only NoF w w23 := (Only.trans' O22 o24)
    exact ⟨rfl, O30⟩
  · -- else0
    have q31 : b25 = true := (nt_f hc27)
    have S32 := hs26 q31
    have hf := (S32).2 m (by simp)
    refine wp_skip ?_
    refine hK12 _ _ ?_
    refine wp_seq_k fun K33 hK33 => ?_
    -- law.go:104
    refine reg_p NoF 6 [2, 5, 10, 13, 19, 22] (.rd 0 (.rd 1 (.rd 3 (.rd 4 (.ex 2 (.ex 5 (.rd 6 (.rd 7 (.rd 8 (.rd 9 (.rd 11 (.rd 12 (.ex 10 (.ex 13 (.rd 14 (.rd 15 (.rd 16 (.rd 17 (.rd 18 (.rd 20 (.rd 21 (.ex 19 (.ex 22 (.rd 23 (.rd 24 (.rd 25 .nil)))))))))))))))))))))))))) (by kernel_rfl) (by kernel_rfl) (fun _ _ _ _ _ h => h) fun w34 o35 => ?_
    have B36 := (Blk.k (Blk.k (Blk.k B14 o18) o24) o35)
    refine Pl.MSP (b := true) (by kernel_rfl) (fun W oW => r_fa (m' := 1) Tryd.underlying25 rfl Tryd.sizeOf3 rfl Hz rfl rfl) Hz rfl rfl ?_
    clear Hz az; intro az Hz
    refine Pl.MSP (b := true) (by kernel_rfl) (fun W oW => r_ld Tryd.isAgg3 Hz rfl ((Blk.ca (Blk.k B36 oW)) 1 _ rfl)) Hz rfl rfl ?_
    clear Hz az; intro az Hz
    refine Pl.MSP (b := true) (by kernel_rfl) (fun W oW => r_fa (m' := 1) Tryd.underlying25 rfl Tryd.sizeOf3 rfl Hz rfl rfl) Hz rfl rfl ?_
    clear Hz az; intro az Hz
    refine Pl.MSP (b := true) (by kernel_rfl) (fun W oW => r_ld Tryd.isAgg3 Hz rfl ((Blk.ca (Blk.k B36 oW)) 1 _ rfl)) Hz rfl rfl ?_
    clear Hz az; intro az Hz
    have O38 : Only NoF w w34 := (Only.trans' (Only.trans' O22 o24) o35)
    have G37 := Gr.k hG O38
    refine Pl.MSV (v := strV (Wr.numE m.n)) Hz rfl rfl rfl Tryd.call17 (Num_v G37 m.n hok.2.1) rfl (fun w' o' => ⟨fun _ => o', (Only.trans (Only.refl NoF w34) o' (fun _ h => h.elim))⟩) fun w39 o40 => ?_
    clear Hz az; intro az Hz
    refine Pl.MSV (v := strV (Wr.numE m.n)) Hz rfl rfl rfl Tryd.call18 (vNum_v _ m.n hok.2.1) rfl (fun w' o' => ⟨fun _ => (Only.trans' o40 o'), (Only.trans (Only.trans (Only.refl NoF w34) o40 (fun _ h => h.elim)) o' (fun _ h => h.elim))⟩) fun w41 o42 => ?_
    clear Hz az; intro az Hz
    refine Pl.MSP (b := true) (by kernel_rfl) (fun W oW => r_eqSs Hz rfl rfl) Hz rfl rfl ?_
    clear Hz az; intro az Hz
    refine Pl.MSP (b := true) (by kernel_rfl) (fun W oW => r_mv Hz rfl) Hz rfl rfl ?_
    clear Hz az; intro az Hz
    refine Pl.MSPT (b := true) (by kernel_rfl) Hz rfl rfl (fun W oW => r_fa (m' := 1) Tryd.underlying25 rfl Tryd.sizeOf3 rfl Hz rfl rfl) rfl rfl ?_
    clear Hz az; intro az Hz
    refine Pl.MSPT (b := true) (by kernel_rfl) Hz rfl rfl (fun W oW => r_ld Tryd.isAgg3 Hz rfl ((Blk.ca (Blk.k B36 oW)) 1 _ rfl)) rfl rfl ?_
    clear Hz az; intro az Hz
    refine Pl.MSPT (b := true) (by kernel_rfl) Hz rfl rfl (fun W oW => r_fa (m' := 1) Tryd.underlying25 rfl Tryd.sizeOf3 rfl Hz rfl rfl) rfl rfl ?_
    clear Hz az; intro az Hz
    refine Pl.MSPT (b := true) (by kernel_rfl) Hz rfl rfl (fun W oW => r_ld Tryd.isAgg3 Hz rfl ((Blk.ca (Blk.k B36 oW)) 1 _ rfl)) rfl rfl ?_
    clear Hz az; intro az Hz
    have O44 : Only NoF w w41 := (Only.trans' (Only.trans' O38 o40) o42)
    have G43 := Gr.k hG O44
    refine Pl.MSGV (v := strV (Wr.intE m.n)) Hz rfl rfl gd_t rfl rfl (fun hb => rfl) Tryd.call19 (fun hb => Int_v G43 m.n hok.2.1) rfl (fun w' o' => ⟨fun _ => (Only.trans' (Only.trans' o40 o42) o'), (Only.trans (Only.trans (Only.trans (Only.refl NoF w34) o40 (fun _ h => h.elim)) o42 (fun _ h => h.elim)) o' (fun _ h => h.elim))⟩) fun w45 o46 => ?_
    clear Hz az; intro az Hz
    refine Pl.MSGV (v := strV (Wr.intE m.n)) Hz rfl rfl gd_t rfl rfl (fun hb => rfl) Tryd.call20 (fun hb => vInt_v _ m.n hok.2.1) rfl (fun w' o' => ⟨fun _ => (Only.trans' (Only.trans' (Only.trans' o40 o42) o46) o'), (Only.trans (Only.trans (Only.trans (Only.trans (Only.refl NoF w34) o40 (fun _ h => h.elim)) o42 (fun _ h => h.elim)) o46 (fun _ h => h.elim)) o' (fun _ h => h.elim))⟩) fun w47 o48 => ?_
    clear Hz az; intro az Hz
    refine Pl.MSPT (b := true) (by kernel_rfl) Hz rfl rfl (fun W oW => r_eqSs Hz rfl rfl) rfl rfl ?_
    clear Hz az; intro az Hz
    refine Pl.MSP (b := true) (by kernel_rfl) (fun W oW => r_pick Hz rfl rfl rfl) Hz rfl rfl ?_
    clear Hz az; intro az Hz
    refine Pl.MSP (b := true) (by kernel_rfl) (fun W oW => r_mv Hz rfl) Hz rfl rfl ?_
    clear Hz az; intro az Hz
    refine Pl.MSPT (b := true) (by kernel_rfl) Hz rfl rfl (fun W oW => r_fa (m' := 2) Tryd.underlying25 rfl Tryd.sizeOf9 rfl Hz rfl rfl) rfl rfl ?_
    clear Hz az; intro az Hz
    refine Pl.MSPT (b := true) (by kernel_rfl) Hz rfl rfl (fun W oW => r_ld Tryd.isAgg9 Hz rfl ((Blk.ca (Blk.k B36 oW)) 2 _ rfl)) rfl rfl ?_
    clear Hz az; intro az Hz
    refine Pl.MSPT (b := true) (by kernel_rfl) Hz rfl rfl (fun W oW => r_fa (m' := 2) Tryd.underlying25 rfl Tryd.sizeOf9 rfl Hz rfl rfl) rfl rfl ?_
    clear Hz az; intro az Hz
    refine Pl.MSPT (b := true) (by kernel_rfl) Hz rfl rfl (fun W oW => r_ld Tryd.isAgg9 Hz rfl ((Blk.ca (Blk.k B36 oW)) 2 _ rfl)) rfl rfl ?_
    clear Hz az; intro az Hz
    have O50 : Only NoF w w47 := (Only.trans' (Only.trans' O44 o46) o48)
    have G49 := Gr.k hG O50
    refine Pl.MSGV (v := strV (Wr.textE m.s)) Hz rfl rfl gd_t rfl rfl (fun hb => rfl) Tryd.call21 (fun hb => Text_v G49 m.s (by have := hf.2.2.1; omega)) rfl (fun w' o' => ⟨fun _ => (Only.trans' (Only.trans' (Only.trans' (Only.trans' o40 o42) o46) o48) o'), (Only.trans (Only.trans (Only.trans (Only.trans (Only.trans (Only.refl NoF w34) o40 (fun _ h => h.elim)) o42 (fun _ h => h.elim)) o46 (fun _ h => h.elim)) o48 (fun _ h => h.elim)) o' (fun _ h => h.elim))⟩) fun w51 o52 => ?_
    clear Hz az; intro az Hz
    refine Pl.MSGV (v := strV (Wr.textE m.s)) Hz rfl rfl gd_t rfl rfl (fun hb => rfl) Tryd.call22 (fun hb => vText_v _ m.s (by have := hf.2.2.1; omega)) rfl (fun w' o' => ⟨fun _ => (Only.trans' (Only.trans' (Only.trans' (Only.trans' (Only.trans' o40 o42) o46) o48) o52) o'), (Only.trans (Only.trans (Only.trans (Only.trans (Only.trans (Only.trans (Only.refl NoF w34) o40 (fun _ h => h.elim)) o42 (fun _ h => h.elim)) o46 (fun _ h => h.elim)) o48 (fun _ h => h.elim)) o52 (fun _ h => h.elim)) o' (fun _ h => h.elim))⟩) fun w53 o54 => ?_
    clear Hz az; intro az Hz
    refine Pl.MSPT (b := true) (by kernel_rfl) Hz rfl rfl (fun W oW => r_eqSs Hz rfl rfl) rfl rfl ?_
    clear Hz az; intro az Hz
    refine Pl.MSP (b := true) (by kernel_rfl) (fun W oW => r_pick Hz rfl rfl rfl) Hz rfl rfl ?_
    clear Hz az; intro az Hz
    refine Pl.MSP (b := true) (by kernel_rfl) (fun W oW => r_as Hz rfl) Hz rfl rfl ?_
    clear Hz az; intro az Hz
    refine wpPl_nil ?_
    refine hK33 _ _ ?_
    refine wp_seq_k fun K55 hK55 => ?_
    -- law.go:105
    refine reg_p NoF 4 [7, 10, 16, 19] (.rd 0 (.rd 1 (.rd 2 (.rd 3 (.rd 4 (.rd 5 (.rd 6 (.rd 8 (.rd 9 (.ex 7 (.ex 10 (.rd 11 (.rd 12 (.rd 13 (.rd 14 (.rd 15 (.rd 17 (.rd 18 (.ex 16 (.ex 19 (.rd 20 (.rd 21 (.rd 22 .nil))))))))))))))))))))))) (by kernel_rfl) (by kernel_rfl) (fun _ _ _ _ _ h => h) fun w56 o57 => ?_
    have B58 := (Blk.k (Blk.k (Blk.k (Blk.k (Blk.k (Blk.k (Blk.k B36 o40) o42) o46) o48) o52) o54) o57)
    refine Pl.MSP (b := true) (by kernel_rfl) (fun W oW => r_mv Hz rfl) Hz rfl rfl ?_
    clear Hz az; intro az Hz
    refine Pl.MSP (b := true) (by kernel_rfl) (fun W oW => r_mv Hz rfl) Hz rfl rfl ?_
    clear Hz az; intro az Hz
    refine Pl.MSPT (b := true) (by kernel_rfl) Hz rfl rfl (fun W oW => r_mv Hz rfl) rfl rfl ?_
    clear Hz az; intro az Hz
    refine Pl.MSP (b := true) (by kernel_rfl) (fun W oW => r_pick Hz rfl rfl rfl) Hz rfl rfl ?_
    clear Hz az; intro az Hz
    refine Pl.MSP (b := true) (by kernel_rfl) (fun W oW => r_mv Hz rfl) Hz rfl rfl ?_
    clear Hz az; intro az Hz
    refine Pl.MSPT (b := true) (by kernel_rfl) Hz rfl rfl (fun W oW => r_fa (m' := 3) Tryd.underlying25 rfl Tryd.sizeOf22 rfl Hz rfl rfl) rfl rfl ?_
    clear Hz az; intro az Hz
    refine Pl.MSPT (b := true) (by kernel_rfl) Hz rfl rfl (fun W oW => r_ld Tryd.isAgg22 Hz rfl ((Blk.ca (Blk.k B58 oW)) 3 _ rfl)) rfl rfl ?_
    clear Hz az; intro az Hz
    refine Pl.MSPT (b := true) (by kernel_rfl) Hz rfl rfl (fun W oW => r_fa (m' := 3) Tryd.underlying25 rfl Tryd.sizeOf22 rfl Hz rfl rfl) rfl rfl ?_
    clear Hz az; intro az Hz
    refine Pl.MSPT (b := true) (by kernel_rfl) Hz rfl rfl (fun W oW => r_ld Tryd.isAgg22 Hz rfl ((Blk.ca (Blk.k B58 oW)) 3 _ rfl)) rfl rfl ?_
    clear Hz az; intro az Hz
    have O60 : Only NoF w w56 := (Only.trans' (Only.trans' (Only.trans' O50 o52) o54) o57)
    have G59 := Gr.k hG O60
    have h61 := (SliceOf.kp h1 O60 (fun _ _ h => h) (fun _ _ _ _ h => h))
    refine Pl.MSGV (v := strV (Wr.numsE m.l)) Hz rfl rfl gd_t rfl rfl (fun hb => rfl) Tryd.call23 (fun hb => Nums_v G59 h61 (by have := hf.1; omega) (by have := (wrE_len hok hf).2.1; omega)) rfl (fun w' o' => ⟨fun _ => o', (Only.trans (Only.refl NoF w56) o' (fun _ h => h.elim))⟩) fun w62 o63 => ?_
    clear Hz az; intro az Hz
    have O64 : Only NoF w w62 := (Only.trans' O60 o63)
    have h65 := (SliceOf.kp h1 O64 (fun _ _ h => h) (fun _ _ _ _ h => h))
    refine Pl.MSGV (v := strV (Wr.numsE m.l)) Hz rfl rfl gd_t rfl rfl (fun hb => rfl) Tryd.call24 (fun hb => vNums_v h65 (by have := hf.1; omega) (by have := (wrE_len hok hf).2.1; omega)) rfl (fun w' o' => ⟨fun _ => (Only.trans' o63 o'), (Only.trans (Only.trans (Only.refl NoF w56) o63 (fun _ h => h.elim)) o' (fun _ h => h.elim))⟩) fun w66 o67 => ?_
    clear Hz az; intro az Hz
    refine Pl.MSPT (b := true) (by kernel_rfl) Hz rfl rfl (fun W oW => r_eqSs Hz rfl rfl) rfl rfl ?_
    clear Hz az; intro az Hz
    refine Pl.MSP (b := true) (by kernel_rfl) (fun W oW => r_pick Hz rfl rfl rfl) Hz rfl rfl ?_
    clear Hz az; intro az Hz
    refine Pl.MSP (b := true) (by kernel_rfl) (fun W oW => r_mv Hz rfl) Hz rfl rfl ?_
    clear Hz az; intro az Hz
    refine Pl.MSPT (b := true) (by kernel_rfl) Hz rfl rfl (fun W oW => r_fa (m' := 4) Tryd.underlying25 rfl Tryd.sizeOf23 rfl Hz rfl rfl) rfl rfl ?_
    clear Hz az; intro az Hz
    refine Pl.MSPT (b := true) (by kernel_rfl) Hz rfl rfl (fun W oW => r_ld Tryd.isAgg23 Hz rfl ((Blk.ca (Blk.k B58 oW)) 4 _ rfl)) rfl rfl ?_
    clear Hz az; intro az Hz
    refine Pl.MSPT (b := true) (by kernel_rfl) Hz rfl rfl (fun W oW => r_fa (m' := 4) Tryd.underlying25 rfl Tryd.sizeOf23 rfl Hz rfl rfl) rfl rfl ?_
    clear Hz az; intro az Hz
    refine Pl.MSPT (b := true) (by kernel_rfl) Hz rfl rfl (fun W oW => r_ld Tryd.isAgg23 Hz rfl ((Blk.ca (Blk.k B58 oW)) 4 _ rfl)) rfl rfl ?_
    clear Hz az; intro az Hz
    have O69 : Only NoF w w66 := (Only.trans' O64 o67)
    have G68 := Gr.k hG O69
    have h70 := (SliceOf.kp h2 O69 (fun _ _ h => h) (fun _ _ _ _ h => h))
    refine Pl.MSGV (v := strV (Wr.textsE m.t)) Hz rfl rfl gd_t rfl rfl (fun hb => rfl) Tryd.call25 (fun hb => Texts_v G68 h70 (by have := hf.2.1; omega) (by have := (wrE_len hok hf).2.2; omega)) rfl (fun w' o' => ⟨fun _ => (Only.trans' (Only.trans' o63 o67) o'), (Only.trans (Only.trans (Only.trans (Only.refl NoF w56) o63 (fun _ h => h.elim)) o67 (fun _ h => h.elim)) o' (fun _ h => h.elim))⟩) fun w71 o72 => ?_
    clear Hz az; intro az Hz
    have O73 : Only NoF w w71 := (Only.trans' O69 o72)
    have h74 := (SliceOf.kp h2 O73 (fun _ _ h => h) (fun _ _ _ _ h => h))
    refine Pl.MSGV (v := strV (Wr.textsE m.t)) Hz rfl rfl gd_t rfl rfl (fun hb => rfl) Tryd.call26 (fun hb => vTexts_v h74 (by have := hf.2.1; omega) (by have := (wrE_len hok hf).2.2; omega)) rfl (fun w' o' => ⟨fun _ => (Only.trans' (Only.trans' (Only.trans' o63 o67) o72) o'), (Only.trans (Only.trans (Only.trans (Only.trans (Only.refl NoF w56) o63 (fun _ h => h.elim)) o67 (fun _ h => h.elim)) o72 (fun _ h => h.elim)) o' (fun _ h => h.elim))⟩) fun w75 o76 => ?_
    clear Hz az; intro az Hz
    refine Pl.MSPT (b := true) (by kernel_rfl) Hz rfl rfl (fun W oW => r_eqSs Hz rfl rfl) rfl rfl ?_
    clear Hz az; intro az Hz
    refine Pl.MSP (b := true) (by kernel_rfl) (fun W oW => r_pick Hz rfl rfl rfl) Hz rfl rfl ?_
    clear Hz az; intro az Hz
    refine Pl.MSP (b := true) (by kernel_rfl) (fun W oW => r_as Hz rfl) Hz rfl rfl ?_
    clear Hz az; intro az Hz
    refine wpPl_nil ?_
    refine hK55 _ _ ?_
    refine wp_ret ?_
    show bodyPost _ _ _ .ret _ _
    refine ret_of (vs := [.bool (true)]) Hz Tryd.results3 ⟨rfl, trivial⟩ ?_
    have O77 : Only NoF w w75 := (Only.trans' O73 o76)
    exact ⟨rfl, O77⟩
end Go.Proofs.YtgmnoianhonihaaDoor
