/-
  The seal's reference: Decode, walked. Condition: at most 1,000,000 bytes.
-/
import Derived.Test.YtgmnoianhonihaaDoorSW5
import Derived.Test.YtgmnoianhonihaaDoorSW7
import Derived.Test.YtgmnoianhonihaaDoorWW10
namespace Go.Proofs.YtgmnoianhonihaaDoor
set_option linter.unusedVariables false
set_option linter.unusedSimpArgs false
set_option linter.unusedSectionVars false
open Go.RowKit

theorem build_Note3 (h n d : Int) (w : World) : (Instr.build 54 #[(0, .int .i64 h), (1, .int .i64 n), (2, .int .i64 d)]).run Tryd.prog w = .ok (.agg #[.int .i64 h, .int .i64 n, .int .i64 d, .slice none 0 0, strV []]) w := by kernel_rfl
theorem pair_step {N : List Int} {O : List RM} {i : Nat} {a b : Int} (h : N = flat2 O ++ N.drop i) (h0 : N[i]? = some a) (h1 : N[i + 1]? = some b) : N = flat2 (O ++ [⟨a, b⟩]) ++ N.drop (i + 2) := by
  obtain ⟨k0, e0⟩ := List.getElem?_eq_some_iff.1 h0
  obtain ⟨k1, e1⟩ := List.getElem?_eq_some_iff.1 h1
  have : N.drop i = a :: b :: N.drop (i + 2) := by
    rw [List.drop_eq_getElem_cons k0, List.drop_eq_getElem_cons k1, e0, e1]
  conv => lhs; rw [h, this]
  unfold flat2
  rw [List.flatMap_append]
  simp
theorem tmod_drop {N : List Int} {i n : Nat} (hi : i = 2 * n) (h1 : i ≤ N.length) (h2 : N.length ≤ i + 1) : (!decide (Int.tmod ((N.length : Nat) : Int) 2 = 0)) = decide ((0 : Int) < (((N.drop i).length : Nat) : Int)) := by
  rw [List.length_drop]
  have e : Int.tmod ((N.length : Nat) : Int) 2 = ((N.length % 2 : Nat) : Int) := rfl
  rw [e]
  rcases Nat.eq_or_lt_of_le h1 with h | h
  · rw [decide_eq_true (by omega), decide_eq_false (by omega)]; rfl
  · rw [decide_eq_false (by omega), decide_eq_true (by omega)]; rfl
set_option maxRecDepth 20000 in
set_option maxHeartbeats 4000000 in
theorem rDecode_v {w : World} {t : Str} (ht : t.length ≤ 1000000) : Calls Tryd.prog 58 [strV t].toArray w (DecTo t w) := by
  refine calls_start Tryd.func58 rfl rfl ?_
  intro az Hz
  rw [Tryd.ntmps58] at Hz
  refine wp_seq_k fun K1 hK1 => ?_
  -- ref.go:105
  refine wp_region_lit ?_
  refine LAl (v := .agg #[.int .i64 (0), .int .i64 (0), .int .i64 (0), .slice none (0) 0, strV ([])]) Tryd.zeroValue54 Hz rfl rfl ?_
  clear Hz az; intro g2 w3 hg6 hl7 o4 B5 az Hz
  refine L (r_as Hz rfl) Hz rfl ?_
  clear Hz az; intro az Hz
  refine hK1 _ _ ?_
  refine wp_seq_k fun K8 hK8 => ?_
  -- ref.go:106
  refine wp_region_lit ?_
  refine L (r_mv Hz rfl) Hz rfl ?_
  clear Hz az; intro az Hz
  refine LC Hz rfl rfl Tryd.call38 (vOpen_v _ t) rfl ?_
  rintro e w10 ⟨g9, rfl, hg11, B12, o13⟩; refine ⟨_, rfl, ?_⟩
  clear Hz az; intro az Hz
  refine L (r_as Hz rfl) Hz rfl ?_
  clear Hz az; intro az Hz
  refine hK8 _ _ ?_
  refine wp_seq_k fun K14 hK14 => ?_
  -- ref.go:107
  refine wp_region_lit ?_
  refine L (r_mv Hz rfl) Hz rfl ?_
  clear Hz az; intro az Hz
  refine LC Hz rfl rfl Tryd.call39 (vrNum_v (s := (⟨t, false⟩ : Wr.Rd)) B12) rfl ?_
  rintro e w15 ⟨rfl, B16, o17⟩; refine ⟨_, rfl, ?_⟩
  clear Hz az; intro az Hz
  refine L (r_mv Hz rfl) Hz rfl ?_
  clear Hz az; intro az Hz
  refine LC Hz rfl rfl Tryd.call39 (vrNum_v (s := (Wr.num (⟨t, false⟩ : Wr.Rd)).2) B16) rfl ?_
  rintro e w18 ⟨rfl, B19, o20⟩; refine ⟨_, rfl, ?_⟩
  clear Hz az; intro az Hz
  refine L (r_mv Hz rfl) Hz rfl ?_
  clear Hz az; intro az Hz
  refine LC Hz rfl rfl Tryd.call39 (vrNum_v (s := (Wr.num ((Wr.num (⟨t, false⟩ : Wr.Rd)).2)).2) B19) rfl ?_
  rintro e w21 ⟨rfl, B22, o23⟩; refine ⟨_, rfl, ?_⟩
  clear Hz az; intro az Hz
  refine L (r_bd (v := .agg #[.int .i64 ((Wr.num (⟨t, false⟩ : Wr.Rd)).1), .int .i64 ((Wr.num ((Wr.num (⟨t, false⟩ : Wr.Rd)).2)).1), .int .i64 ((Wr.num ((Wr.num ((Wr.num (⟨t, false⟩ : Wr.Rd)).2)).2)).1), .slice none (0) 0, strV ([])]) (build_Note3 _ _ _) Hz rfl) Hz rfl ?_
  clear Hz az; intro az Hz
  refine LAl (v := .agg #[.int .i64 (0), .int .i64 (0), .int .i64 (0), .slice none (0) 0, strV ([])]) Tryd.zeroValue54 Hz rfl rfl ?_
  clear Hz az; intro g24 w25 hg28 hl29 o26 B27 az Hz
  refine LSt (cs' := [.int .i64 ((Wr.num (⟨t, false⟩ : Wr.Rd)).1), .int .i64 ((Wr.num ((Wr.num (⟨t, false⟩ : Wr.Rd)).2)).1), .int .i64 ((Wr.num ((Wr.num ((Wr.num (⟨t, false⟩ : Wr.Rd)).2)).2)).1), .slice none (0) 0, strV ([])]) Tryd.sizeOf54 Hz rfl rfl rfl rfl rfl ⟨rfl, rfl, rfl, rfl, rfl, trivial⟩ B27 rfl rfl fun w30 s31 B32 => ?_
  refine hK14 _ _ ?_
  refine wp_seq_k fun K33 hK33 => ?_
  -- ref.go:108
  refine wp_region_lit ?_
  refine L (r_mv Hz rfl) Hz rfl ?_
  clear Hz az; intro az Hz
  have O42 := (Only.trans (Only.trans (Only.trans (Only.refl (fun _ => True) w10) o17 (fun _ _ => .inl trivial)) o20 (fun _ _ => .inl trivial)) o23 (fun _ _ => .inl trivial))
  have ne41 : g9 ≠ g24 := (ne_of (Blk.lt B12) (Nat.le_trans (size_only O42) hg28))
  have B43 := (Blk.st (Blk.k B22 o26) s31 ne41)
  refine LC Hz rfl rfl Tryd.call43 (vrNums_v (s := (Wr.num ((Wr.num ((Wr.num (⟨t, false⟩ : Wr.Rd)).2)).2)).2) B43 (Nat.le_trans (dlen_3 t) (by omega)) (dfine_3 t)) rfl ?_
  rintro e w34 ⟨A37, c38, rfl, r39, k40, B35, o36⟩; refine ⟨_, rfl, ?_⟩
  clear Hz az; intro az Hz
  refine L (r_as Hz rfl) Hz rfl ?_
  clear Hz az; intro az Hz
  refine hK33 _ _ ?_
  refine wp_seq_k fun K44 hK44 => ?_
  -- ref.go:109
  refine wp_region_lit ?_
  refine L (r_mv Hz rfl) Hz rfl ?_
  clear Hz az; intro az Hz
  refine LC Hz rfl rfl Tryd.call41 (vrText_v (s := (Wr.nums ((Wr.num ((Wr.num ((Wr.num (⟨t, false⟩ : Wr.Rd)).2)).2)).2)).2) B35 (dfine_4 t)) rfl ?_
  rintro e w45 ⟨rfl, B46, o47⟩; refine ⟨_, rfl, ?_⟩
  clear Hz az; intro az Hz
  refine L (r_fa (m' := 4) Tryd.underlying54 rfl Tryd.sizeOf9 rfl Hz rfl rfl) Hz rfl ?_
  clear Hz az; intro az Hz
  have ne48 : g24 ≠ g9 := (ne_of (Blk.lt B12) (Nat.le_trans (size_only O42) hg28)).symm
  have B49 := (Blk.st (Blk.st B32 o36 ne48) o47 ne48)
  refine LSt (cs' := [.int .i64 ((Wr.num (⟨t, false⟩ : Wr.Rd)).1), .int .i64 ((Wr.num ((Wr.num (⟨t, false⟩ : Wr.Rd)).2)).1), .int .i64 ((Wr.num ((Wr.num ((Wr.num (⟨t, false⟩ : Wr.Rd)).2)).2)).1), .slice none (0) 0, strV ((Wr.text ((Wr.nums ((Wr.num ((Wr.num ((Wr.num (⟨t, false⟩ : Wr.Rd)).2)).2)).2)).2)).1)]) Tryd.sizeOf9 Hz rfl rfl rfl rfl rfl ⟨rfl, trivial⟩ B49 rfl rfl fun w50 s51 B52 => ?_
  refine hK44 _ _ ?_
  refine wp_seq_k fun K53 hK53 => ?_
  refine wp_seq_k fun K54 hK54 => ?_
  -- ref.go:110
  refine wp_region_lit ?_
  refine L (r_as Hz rfl) Hz rfl ?_
  clear Hz az; intro az Hz
  refine hK54 _ _ ?_
  refine wp_block ?_
  have hNSl : List.length (d4 t).1 ≤ t.length := (Nat.le_trans (Wr.list_sizes Wr.int_was Wr.intE_ne (d3 t).2).1 (dlen_3 t))
  have O55 := (Only.trans (Only.trans (Only.trans (Only.trans (Only.trans (Only.refl (fun _ => True) w10) o17 (fun _ _ => .inl trivial)) o20 (fun _ _ => .inl trivial)) o23 (fun _ _ => .inl trivial)) o26 (fun _ _ => .inl trivial)) s31 (fun _ _ => .inl trivial))
  have O56 := (Only.trans (Only.refl (fun _ => True) w25) s31 (fun _ _ => .inl trivial))
  have r57 := (ow_only (ow_only r39 o47 (fun k hk => ge_F (oneF_lt (Blk.lt B12)) (size_only O55) k (ownF_ge r39 k hk))) s51 (fun k hk => ge_F (oneF_lt hl29) (size_only O56) k (ownF_ge (ow_only r39 o47 (fun k hk => ge_F (oneF_lt (Blk.lt B12)) (size_only O55) k (ownF_ge r39 k hk))) k hk)))
  have fr0 := SliceOf.sup (SliceOf.rg (Row.own KInt r57 k40)) (S' := lbB w50.heap.size g24) (fun q hq => ⟨hq.2, fun h => by have h1 := Nat.lt_of_lt_of_le (Nat.lt_of_lt_of_le hl29 (size_only O56)) hq.1; unfold oneF at h; omega⟩)
  have ne58 : g2 ≠ g9 := (ne_of hl7 hg11)
  have O60 : Only NoF w3 w21 := (o_sg (o_sg (o_sg o13 o17 (Nat.le_refl _) (oneF_ge hg11)) o20 (Nat.le_refl _) (oneF_ge hg11)) o23 (Nat.le_refl _) (oneF_ge hg11))
  have ne59 : g2 ≠ g24 := (ne_of hl7 (Nat.le_trans (size_only O60) hg28))
  have B61 := (Blk.st (Blk.st (Blk.st (Blk.st (Blk.k (Blk.st (Blk.st (Blk.st (Blk.k B5 o13) o17 ne58) o20 ne58) o23 ne58) o26) s31 ne59) o36 ne58) o47 ne58) s51 ne59)
  have B62 := (Blk.st B46 s51 ne41)
  refine wp_loop_m (fun mz az W => ∃ i : Nat, ∃ O : List RM, ∃ Ao : Option Addr, ∃ co : Nat, mz = List.length (d4 t).1 - i ∧ Fr 60 [(2, .pointer (some ((⟨g2, 0, none⟩ : Addr)))), (4, .pointer (some ((⟨g9, 0, none⟩ : Addr)))), (5, .pointer (some ((⟨g24, 0, none⟩ : Addr)))), (6, .slice A37 ((Wr.nums ((Wr.num ((Wr.num ((Wr.num (⟨t, false⟩ : Wr.Rd)).2)).2)).2)).1.length) c38), (7, .int .i64 ((i : Int))), (6, .slice A37 ((d4 t).1.length) c38)] az ∧ ((d4 t).1 = flat2 O ++ List.drop i (d4 t).1) ∧ (i = 2 * O.length) ∧ (∀ z ∈ O, KRef.ok z) ∧ Only (oneF g24) w50 W ∧ Blk W g24 54 [.int .i64 ((Wr.num (⟨t, false⟩ : Wr.Rd)).1), .int .i64 ((Wr.num ((Wr.num (⟨t, false⟩ : Wr.Rd)).2)).1), .int .i64 ((Wr.num ((Wr.num ((Wr.num (⟨t, false⟩ : Wr.Rd)).2)).2)).1), .slice Ao (O.length) co, strV ((Wr.text ((Wr.nums ((Wr.num ((Wr.num ((Wr.num (⟨t, false⟩ : Wr.Rd)).2)).2)).2)).2)).1)].toArray ∧ Blk W g2 54 [.int .i64 (0), .int .i64 (0), .int .i64 (0), .slice none (0) 0, strV ([])].toArray ∧ Blk W g9 85 [strV ((Wr.text ((Wr.nums ((Wr.num ((Wr.num ((Wr.num (⟨t, false⟩ : Wr.Rd)).2)).2)).2)).2)).2.r), .bool ((Wr.text ((Wr.nums ((Wr.num ((Wr.num ((Wr.num (⟨t, false⟩ : Wr.Rd)).2)).2)).2)).2)).2.b)].toArray ∧ SliceOf (lbB w50.heap.size g24) 1 KInt.R W (.slice A37 (List.length (d4 t).1) c38) (d4 t).1 ∧ W.ownsRow w50.heap.size 71 2 (.slice Ao O.length co) O.length (List.flatMap KRef.cells O)) ?_ ?_
  · -- start
    exact ⟨_, 0, [], none, 0, rfl, Hz.cut ⟨rfl, rfl, rfl, rfl, rfl, rfl, trivial⟩, rfl, rfl, (fun z hz => by cases hz), (Only.refl (oneF g24) w50), B52, B61, B62, fr0, (World.ownsRow_nil _ _ _ _)⟩
  clear Hz az
  rintro mz az w63 ⟨i, O, Ao, co, hm65, Hz, hns, hi, okO, o64, B66, B67, B68, fr, rO⟩
  have hEl : (Wr.nums (Wr.num (Wr.num (Wr.num (⟨t, false⟩ : Wr.Rd)).2).2).2).1.length = List.length (d4 t).1 := rfl
  have hOl : List.length (d4 t).1 = 2 * O.length + (List.length (d4 t).1 - i) := by have := congrArg List.length hns; rwa [List.length_append, flat2_len, List.length_drop] at this
  refine wp_seq_k fun K69 hK69 => ?_
  refine wp_seq_k fun K70 hK70 => ?_
  -- ref.go:110
  refine wp_region_lit ?_
  refine L (r_mv Hz rfl) Hz rfl ?_
  clear Hz az; intro az Hz
  have i71 : I64 (((i : Int) + 1)) := by unfold I64; omega
  refine L (r_addI (r := ((i : Int) + 1)) Hz rfl rfl rfl i71) Hz rfl ?_
  clear Hz az; intro az Hz
  refine L (r_mv Hz rfl) Hz rfl ?_
  clear Hz az; intro az Hz
  refine L (r_lenL Tryd.underlying22 Hz rfl) Hz rfl ?_
  clear Hz az; intro az Hz
  refine L (r_ltI Hz rfl rfl) Hz rfl ?_
  clear Hz az; intro az Hz
  refine hK70 _ _ ?_
  refine br Hz rfl (fun hc72 => ?_) (fun hc72 => ?_)
  · -- if0
    have p73 := of_decide_eq_true hc72
    refine wp_skip ?_
    refine hK69 _ _ ?_
    refine wp_seq_k fun K74 hK74 => ?_
    refine wp_block ?_
    -- ref.go:111
    refine reg_p (orF (ownF (.slice Ao (O.length) co)) (oneF g24)) 1 [12, 13, 15] (.rd 0 (.rd 1 (.rd 2 (.rd 3 (.rd 4 (.rd 5 (.rd 6 (.rd 7 (.rd 8 (.rd 9 (.rd 10 (.rd 11 (.ex 12 (.ex 13 (.rd 14 (.ex 15 .nil)))))))))))))))) (by kernel_rfl) (by kernel_rfl) (fun _ _ _ _ _ h => h) fun w75 o76 => ?_
    have B77 := (Blk.k B66 o76)
    refine Pl.MSP (b := false) (by kernel_rfl) (fun W oW => r_fa (m' := 3) Tryd.underlying54 rfl Tryd.sizeOf52 rfl Hz rfl rfl) Hz rfl rfl ?_
    clear Hz az; intro az Hz
    refine Pl.MSP (b := true) (by kernel_rfl) (fun W oW => r_ld Tryd.isAgg52 Hz rfl ((Blk.ca (Blk.k B77 oW)) 3 _ rfl)) Hz rfl rfl ?_
    clear Hz az; intro az Hz
    refine Pl.MSP (b := false) (by kernel_rfl) (fun W oW => r_mv Hz rfl) Hz rfl rfl ?_
    clear Hz az; intro az Hz
    refine Pl.MSP (b := false) (by kernel_rfl) (fun W oW => r_mv Hz rfl) Hz rfl rfl ?_
    clear Hz az; intro az Hz
    have hk78 : i < ((d4 t).1).length := by omega
    have h84 := (SliceOf.kp fr o76 (fun _ _ h => h) (fun _ _ _ _ h => h))
    obtain ⟨m79, hm80, ok81, hA82⟩ := Row.el KInt h84 hk78
    have E83 : ∀ W, Only NoF w75 W → CA W (eA A37 1 (i)) [.int .i64 (m79)] := Row.ce KInt h84 hm80 rfl
    refine Pl.MSP (b := false) (by kernel_rfl) (fun W oW => r_ia (k := i) (size := 1) Tryd.underlying22 Tryd.sizeOf3 Hz rfl rfl rfl hk78 hA82) Hz rfl rfl ?_
    clear Hz az; intro az Hz
    refine Pl.MSP (b := false) (by kernel_rfl) (fun W oW => r_ld Tryd.isAgg3 Hz rfl (CA.first (Row.ce KInt (SliceOf.kp h84 oW (fun k hk h => h.elim (fun h => Nat.lt_irrefl _ (Nat.lt_of_lt_of_le hk.1 ((ownF_ge rO) k h))) (fun h => hk.2 h)) (fun _ _ _ _ h => h)) hm80 rfl _ (Only.refl NoF _)))) Hz rfl rfl ?_
    clear Hz az; intro az Hz
    refine Pl.MSP (b := false) (by kernel_rfl) (fun W oW => r_mv Hz rfl) Hz rfl rfl ?_
    clear Hz az; intro az Hz
    refine Pl.MSP (b := false) (by kernel_rfl) (fun W oW => r_mv Hz rfl) Hz rfl rfl ?_
    clear Hz az; intro az Hz
    have i85 : I64 (((i : Int) + 1)) := by unfold I64; omega
    refine Pl.MSP (b := false) (by kernel_rfl) (fun W oW => r_addI (r := ((i : Int) + 1)) Hz rfl rfl rfl i85) Hz rfl rfl ?_
    clear Hz az; intro az Hz
    have hk86 : (i + 1) < ((d4 t).1).length := by omega
    obtain ⟨m87, hm88, ok89, hA90⟩ := Row.el KInt h84 hk86
    have E91 : ∀ W, Only NoF w75 W → CA W (eA A37 1 ((i + 1))) [.int .i64 (m87)] := Row.ce KInt h84 hm88 rfl
    refine Pl.MSP (b := false) (by kernel_rfl) (fun W oW => r_ia (k := (i + 1)) (size := 1) Tryd.underlying22 Tryd.sizeOf3 Hz rfl rfl rfl hk86 hA90) Hz rfl rfl ?_
    clear Hz az; intro az Hz
    refine Pl.MSP (b := false) (by kernel_rfl) (fun W oW => r_ld Tryd.isAgg3 Hz rfl (CA.first (Row.ce KInt (SliceOf.kp h84 oW (fun k hk h => h.elim (fun h => Nat.lt_irrefl _ (Nat.lt_of_lt_of_le hk.1 ((ownF_ge rO) k h))) (fun h => hk.2 h)) (fun _ _ _ _ h => h)) hm88 rfl _ (Only.refl NoF _)))) Hz rfl rfl ?_
    clear Hz az; intro az Hz
    refine Pl.MSP (b := true) (by kernel_rfl) (fun W oW => r_bd (v := .agg #[.int .i64 (m79), .int .i64 (m87)]) (build_Ref2 _ _) Hz rfl) Hz rfl rfl ?_
    clear Hz az; intro az Hz
    obtain ⟨A92, w93, hw, hA, r94, o95⟩ := Row.made (w := w75) KRef (e := 71) ([(⟨m79, m87⟩ : RM)] : List RM) (by simp only [List.length_cons, List.length_nil]; unfold maxLen; omega)
    refine Pl.MD (r_bs (z := .agg #[.int .i64 (0), .int .i64 (0)]) (size := 2) (vs := [(0, .agg #[.int .i64 (m79), .int .i64 (m87)])]) (cs := List.flatMap KRef.cells [(⟨m79, m87⟩ : RM)]) Tryd.underlying52 Tryd.sizeOf71 Tryd.zeroValue71 rfl (Fr.evalps Hz rfl) (by kernel_rfl)) Hz rfl rfl ?_ ?_
    · rw [← hw]; exact ⟨fun _ => o95, (Only.trans (Only.refl (orF (ownF (.slice Ao (O.length) co)) (oneF g24)) w75) o95 (fun _ h => h.elim))⟩
    rw [← hw, ← hA]; clear Hz az; intro az Hz
    clear hw hA
    have ok96 : ∀ zq ∈ ([(⟨m79, m87⟩ : RM)] : List RM), KRef.ok zq := by intro zq hx; simp only [List.mem_cons, List.not_mem_nil, or_false] at hx; rcases hx with rfl <;> first | exact ⟨ok81, ok89⟩
    have r97 := (ow_k (ow_k rO o76) o95)
    have h98 := Row.own KRef r94 ok96
    have h99 := SliceOf.pl h98
    have hb107 : (List.length (O) + List.length ([(⟨m79, m87⟩ : RM)])) * 16 ≤ 140737488355328 := by simp only [List.length_cons, List.length_nil]; omega
    have O108 := (Only.trans (Only.trans (Only.trans (Only.refl (fun _ => True) w50) o64 (fun _ _ => .inl trivial)) o76 (fun _ _ => .inl trivial)) o95 (fun _ _ => .inl trivial))
    obtain ⟨A100, c101, w102, hr103, r104, o105, al106⟩ := Row.app (P := Tryd.prog) (l := O) (l2 := [(⟨m79, m87⟩ : RM)]) KRef elemRef r97 h99 hb107 (by unfold maxLen; omega) (size_only O108)
    refine Pl.MD (r_app hr103 Hz rfl rfl) Hz rfl rfl ?_ ?_
    · exact ⟨fun h => absurd h (by decide), (Only.trans (Only.trans (Only.refl (orF (ownF (.slice Ao (O.length) co)) (oneF g24)) w75) o95 (fun _ h => h.elim)) o105 (fun _ h => .inl (.inl h)))⟩
    clear Hz az; intro az Hz
    have ok109 : ∀ zq ∈ (O ++ [(⟨m79, m87⟩ : RM)]), KRef.ok zq := (fun x hx => (List.mem_append.1 hx).elim (okO x) ((Row.oks KRef h99) x))
    have h110 := Row.own KRef r104 ok109
    refine Pl.MSP (b := false) (by kernel_rfl) (fun W oW => r_fa (m' := 3) Tryd.underlying54 rfl Tryd.sizeOf52 rfl Hz rfl rfl) Hz rfl rfl ?_
    clear Hz az; intro az Hz
    have B111 := (Blk.only (Blk.k B77 o95) o105 (ow_nb r97 (Blk.k B77 o95) (by decide)))
    refine Pl.MSS (cs' := [.int .i64 ((Wr.num (⟨t, false⟩ : Wr.Rd)).1), .int .i64 ((Wr.num ((Wr.num (⟨t, false⟩ : Wr.Rd)).2)).1), .int .i64 ((Wr.num ((Wr.num ((Wr.num (⟨t, false⟩ : Wr.Rd)).2)).2)).1), .slice A100 (((O ++ [(⟨m79, m87⟩ : RM)])).length) c101, strV ((Wr.text ((Wr.nums ((Wr.num ((Wr.num ((Wr.num (⟨t, false⟩ : Wr.Rd)).2)).2)).2)).2)).1)]) Tryd.sizeOf52 Hz rfl rfl rfl rfl rfl rfl ⟨rfl, trivial⟩ B111 rfl rfl fun w112 s113 B114 => ?_
    refine ⟨⟨fun h => absurd h (by decide), (Only.trans (Only.trans (Only.trans (Only.refl (orF (ownF (.slice Ao (O.length) co)) (oneF g24)) w75) o95 (fun _ h => h.elim)) o105 (fun _ h => .inl (.inl h))) s113 (fun _ h => .inl (.inr h)))⟩, ?_⟩
    refine wpPl_nil ?_
    refine hK74 _ _ ?_
    -- ref.go:110
    refine wp_region_lit ?_
    refine L (r_mv Hz rfl) Hz rfl ?_
    clear Hz az; intro az Hz
    have i115 : I64 (((i : Int) + 2)) := by unfold I64; omega
    refine L (r_addI (r := ((i : Int) + 2)) Hz rfl rfl rfl i115) Hz rfl ?_
    clear Hz az; intro az Hz
    refine L (r_as Hz rfl) Hz rfl ?_
    clear Hz az; intro az Hz
    have B116 := (Blk.st (Blk.only (Blk.k (Blk.k B67 o76) o95) o105 (ow_nb r97 (Blk.k (Blk.k B67 o76) o95) (by decide))) s113 ne59)
    have B117 := (Blk.st (Blk.only (Blk.k (Blk.k B68 o76) o95) o105 (ow_nb r97 (Blk.k (Blk.k B68 o76) o95) (by decide))) s113 ne41)
    have h118 := (SliceOf.kp (SliceOf.kp (SliceOf.kp h84 o95 (fun _ _ h => h) (fun _ _ _ _ h => h)) o105 (fun k hk h => Nat.lt_irrefl _ (Nat.lt_of_lt_of_le hk.1 ((ownF_ge rO) k h))) (fun _ _ _ _ h => h)) s113 (fun k hk h => hk.2 h) (fun _ _ _ _ h => h))
    have O119 := (Only.trans (Only.trans (Only.trans (Only.trans (Only.refl (fun _ => True) w25) s31 (fun _ _ => .inl trivial)) o36 (fun _ _ => .inl trivial)) o47 (fun _ _ => .inl trivial)) s51 (fun _ _ => .inl trivial))
    have r120 := (ow_only r104 s113 (fun k hk => ge_F (oneF_lt hl29) (size_only O119) k (ownF_ge r104 k hk)))
    exact ⟨_, (by omega), i + 2, _, A100, c101, rfl, Hz.cut ⟨rfl, rfl, rfl, rfl, rfl, rfl, trivial⟩, (pair_step hns hm80 hm88), (by rw [List.length_append, hi]; rfl), ok109, (Only.trans (Only.trans (Only.trans (Only.trans (Only.trans (Only.refl (oneF g24) w50) o64 (fun _ h => .inl h)) o76 (fun _ h => h.elim)) o95 (fun _ h => h.elim)) o105 (fun k h => .inr (Nat.le_trans (Nat.le_refl _) ((ownF_ge rO) k h)))) s113 (fun _ h => .inl h)), B114, B116, B117, h118, (ow_low r120 (Nat.le_refl _))⟩
  · -- else0
    have p121 := of_decide_eq_false hc72
    refine wp_exit ?_
    refine th_exit ?_
    refine th_exit ?_
    refine ib_hit ?_
    refine hK53 _ _ ?_
    refine wp_seq_k fun K122 hK122 => ?_
    refine wp_seq_k fun K123 hK123 => ?_
    -- ref.go:113
    refine wp_region_lit ?_
    refine L (r_mv Hz rfl) Hz rfl ?_
    clear Hz az; intro az Hz
    refine LCV (v := .bool (Wr.done ((Wr.text ((Wr.nums ((Wr.num ((Wr.num ((Wr.num (⟨t, false⟩ : Wr.Rd)).2)).2)).2)).2)).2))) Hz rfl rfl Tryd.call47 (vrDone_v (s := (Wr.text ((Wr.nums ((Wr.num ((Wr.num ((Wr.num (⟨t, false⟩ : Wr.Rd)).2)).2)).2)).2)).2) B68) rfl fun w124 o125 => ?_
    clear Hz az; intro az Hz
    refine L (r_not Hz rfl) Hz rfl ?_
    clear Hz az; intro az Hz
    refine L (r_mv Hz rfl) Hz rfl ?_
    clear Hz az; intro az Hz
    refine LG Hz rfl rfl gd_f (fun hb => r_mv Hz rfl) rfl ?_
    clear Hz az; intro az Hz
    refine LG Hz rfl rfl gd_f (fun hb => r_lenL Tryd.underlying22 Hz (evg hb rfl)) rfl ?_
    clear Hz az; intro az Hz
    refine LG Hz rfl rfl gd_f (fun hb => r_remI Hz (evg hb rfl) rfl (by decide)) rfl ?_
    clear Hz az; intro az Hz
    refine LG Hz rfl rfl gd_f (fun hb => r_neI Hz (evg hb rfl) rfl) rfl ?_
    clear Hz az; intro az Hz
    refine L (r_or Hz rfl rfl rfl) Hz rfl ?_
    clear Hz az; intro az Hz
    refine L (r_mv Hz rfl) Hz rfl ?_
    clear Hz az; intro az Hz
    have B126 := (Blk.k B66 o125)
    refine LG Hz rfl rfl gd_f (fun hb => r_ldA Tryd.isAgg54 Tryd.sizeOf54 Hz rfl (Blk.ca B126) rfl) rfl ?_
    clear Hz az; intro az Hz
    have h127 := Row.own KRef rO okO
    have h128 := (SliceOf.kp h127 o125 (fun _ _ h => h) (fun _ _ _ _ h => h))
    have h129 := SliceOf.pl h128
    refine LGV (v := .bool (right (⟨(Wr.num (⟨t, false⟩ : Wr.Rd)).1, (Wr.num ((Wr.num (⟨t, false⟩ : Wr.Rd)).2)).1, (Wr.num ((Wr.num ((Wr.num (⟨t, false⟩ : Wr.Rd)).2)).2)).1, Ao, O, co, (Wr.text ((Wr.nums ((Wr.num ((Wr.num ((Wr.num (⟨t, false⟩ : Wr.Rd)).2)).2)).2)).2)).1⟩ : NM))) Hz rfl rfl gd_f rfl (fun hb => (evs_c (evg hb rfl) rfl)) Tryd.call63 (fun hb => rRight_v (m := (⟨(Wr.num (⟨t, false⟩ : Wr.Rd)).1, (Wr.num ((Wr.num (⟨t, false⟩ : Wr.Rd)).2)).1, (Wr.num ((Wr.num ((Wr.num (⟨t, false⟩ : Wr.Rd)).2)).2)).1, Ao, O, co, (Wr.text ((Wr.nums ((Wr.num ((Wr.num ((Wr.num (⟨t, false⟩ : Wr.Rd)).2)).2)).2)).2)).1⟩ : NM)) h129) rfl fun w130 o131 => ?_
    clear Hz az; intro az Hz
    refine LG Hz rfl rfl gd_f (fun hb => r_not Hz (evg hb rfl)) rfl ?_
    clear Hz az; intro az Hz
    refine L (r_or Hz rfl rfl rfl) Hz rfl ?_
    clear Hz az; intro az Hz
    refine hK123 _ _ ?_
    refine br Hz rfl (fun hc132 => ?_) (fun hc132 => ?_)
    · -- if1
      have d133 := hc132
      refine wp_seq_k fun K134 hK134 => ?_
      -- ref.go:114
      refine wp_region_lit ?_
      refine L (r_bd (v := .agg #[.int .i64 (0), .int .i64 (0), .int .i64 (0), .slice none (0) 0, strV ([])]) (build_Note0) Hz rfl) Hz rfl ?_
      clear Hz az; intro az Hz
      have B135 := (Blk.k (Blk.k B67 o125) o131)
      refine LSt (cs' := [.int .i64 (0), .int .i64 (0), .int .i64 (0), .slice none (0) 0, strV ([])]) Tryd.sizeOf54 Hz rfl rfl rfl rfl rfl ⟨rfl, rfl, rfl, rfl, rfl, trivial⟩ B135 rfl rfl fun w136 s137 B138 => ?_
      refine L (r_as Hz rfl) Hz rfl ?_
      clear Hz az; intro az Hz
      refine hK134 _ _ ?_
      refine wp_ret ?_
      show bodyPost _ _ _ .ret _ _
      refine ret_of (vs := [.agg #[.int .i64 (0), .int .i64 (0), .int .i64 (0), .slice none (0) 0, strV ([])], .bool (false)]) Hz Tryd.results58 ⟨⟨_, rfl, l_ca Tryd.isAgg54 Tryd.sizeOf54 (Blk.ca B138) rfl⟩, rfl, trivial⟩ ?_
      have O139 : Only NoF w w21 := (o_sg (o_sg (o_sg (Only.trans' o4 o13) o17 (size_only o4) (oneF_ge hg11)) o20 (size_only o4) (oneF_ge hg11)) o23 (size_only o4) (oneF_ge hg11))
      have O140 : Only NoF w w136 := (o_sg (Only.trans' (Only.trans' (o_sg (o_sg (o_sg (o_sg (o_sg (Only.trans' (o_sg (o_sg (o_sg (Only.trans' o4 o13) o17 (size_only o4) (oneF_ge hg11)) o20 (size_only o4) (oneF_ge hg11)) o23 (size_only o4) (oneF_ge hg11)) o26) s31 (size_only O139) (oneF_ge hg28)) o36 (size_only o4) (oneF_ge hg11)) o47 (size_only o4) (oneF_ge hg11)) s51 (size_only O139) (oneF_ge hg28)) o64 (size_only O139) (oneF_ge hg28)) o125) o131) s137 (Nat.le_refl _) (oneF_ge hg6))
      have hpr := pairs_of hns (by rw [List.length_drop]; omega)
      have hcn := hc132
      rw [tmod_drop (i := i) (n := O.length) (N := (d4 t).1) hi (by omega) (by omega)] at hcn
      have hdo := dec_ok (t := t) hpr hcn
      exact ⟨_, by rw [hdo]; rfl, O140, .inl ⟨hdo, rfl⟩⟩
    · -- else1
      have q141 : Wr.done ((Wr.text ((Wr.nums ((Wr.num ((Wr.num ((Wr.num (⟨t, false⟩ : Wr.Rd)).2)).2)).2)).2)).2) = true := (nt_f (or_f (or_f hc132).1).1)
      have p142 := of_decide_eq_true (nt_f (or_f (or_f hc132).1).2)
      have q143 : right (⟨(Wr.num (⟨t, false⟩ : Wr.Rd)).1, (Wr.num ((Wr.num (⟨t, false⟩ : Wr.Rd)).2)).1, (Wr.num ((Wr.num ((Wr.num (⟨t, false⟩ : Wr.Rd)).2)).2)).1, Ao, O, co, (Wr.text ((Wr.nums ((Wr.num ((Wr.num ((Wr.num (⟨t, false⟩ : Wr.Rd)).2)).2)).2)).2)).1⟩ : NM) = true := (nt_f (or_f hc132).2)
      refine wp_skip ?_
      refine hK122 _ _ ?_
      refine wp_seq_k fun K144 hK144 => ?_
      -- ref.go:116
      refine wp_region_lit ?_
      have B145 := (Blk.k B126 o131)
      refine L (r_ldA Tryd.isAgg54 Tryd.sizeOf54 Hz rfl (Blk.ca B145) rfl) Hz rfl ?_
      clear Hz az; intro az Hz
      have B146 := (Blk.k (Blk.k B67 o125) o131)
      refine LSt (cs' := [.int .i64 ((Wr.num (⟨t, false⟩ : Wr.Rd)).1), .int .i64 ((Wr.num ((Wr.num (⟨t, false⟩ : Wr.Rd)).2)).1), .int .i64 ((Wr.num ((Wr.num ((Wr.num (⟨t, false⟩ : Wr.Rd)).2)).2)).1), .slice Ao (O.length) co, strV ((Wr.text ((Wr.nums ((Wr.num ((Wr.num ((Wr.num (⟨t, false⟩ : Wr.Rd)).2)).2)).2)).2)).1)]) Tryd.sizeOf54 Hz rfl rfl rfl rfl rfl ⟨rfl, rfl, rfl, rfl, rfl, trivial⟩ B146 rfl rfl fun w147 s148 B149 => ?_
      refine L (r_as Hz rfl) Hz rfl ?_
      clear Hz az; intro az Hz
      refine hK144 _ _ ?_
      refine wp_ret ?_
      show bodyPost _ _ _ .ret _ _
      refine ret_of (vs := [.agg #[.int .i64 ((Wr.num (⟨t, false⟩ : Wr.Rd)).1), .int .i64 ((Wr.num ((Wr.num (⟨t, false⟩ : Wr.Rd)).2)).1), .int .i64 ((Wr.num ((Wr.num ((Wr.num (⟨t, false⟩ : Wr.Rd)).2)).2)).1), .slice Ao (O.length) co, strV ((Wr.text ((Wr.nums ((Wr.num ((Wr.num ((Wr.num (⟨t, false⟩ : Wr.Rd)).2)).2)).2)).2)).1)], .bool (true)]) Hz Tryd.results58 ⟨⟨_, rfl, l_ca Tryd.isAgg54 Tryd.sizeOf54 (Blk.ca B149) rfl⟩, rfl, trivial⟩ ?_
      have O150 : Only NoF w w21 := (o_sg (o_sg (o_sg (Only.trans' o4 o13) o17 (size_only o4) (oneF_ge hg11)) o20 (size_only o4) (oneF_ge hg11)) o23 (size_only o4) (oneF_ge hg11))
      have O151 : Only NoF w w147 := (o_sg (Only.trans' (Only.trans' (o_sg (o_sg (o_sg (o_sg (o_sg (Only.trans' (o_sg (o_sg (o_sg (Only.trans' o4 o13) o17 (size_only o4) (oneF_ge hg11)) o20 (size_only o4) (oneF_ge hg11)) o23 (size_only o4) (oneF_ge hg11)) o26) s31 (size_only O150) (oneF_ge hg28)) o36 (size_only o4) (oneF_ge hg11)) o47 (size_only o4) (oneF_ge hg11)) s51 (size_only O150) (oneF_ge hg28)) o64 (size_only O150) (oneF_ge hg28)) o125) o131) s148 (Nat.le_refl _) (oneF_ge hg6))
      have hpr := pairs_of hns (by rw [List.length_drop]; omega)
      have hcn := hc132
      rw [tmod_drop (i := i) (n := O.length) (N := (d4 t).1) hi (by omega) (by omega)] at hcn
      have hdo := dec_ok (t := t) hpr hcn
      have O152 : Only NoF w3 w50 := (o_sg (o_sg (o_sg (o_sg (Only.trans' O60 o26) s31 (size_only O60) (oneF_ge hg28)) o36 (Nat.le_refl _) (oneF_ge hg11)) o47 (Nat.le_refl _) (oneF_ge hg11)) s51 (size_only O60) (oneF_ge hg28))
      have r153 := (ow_only (ow_k (ow_k rO o125) o131) s148 (fun k hk => ge_F (oneF_lt hl7) (size_only O152) k (ownF_ge (ow_k (ow_k rO o125) o131) k hk)))
      have O154 : Only NoF w w50 := (o_sg (o_sg (o_sg (o_sg (Only.trans' O150 o26) s31 (size_only O150) (oneF_ge hg28)) o36 (size_only o4) (oneF_ge hg11)) o47 (size_only o4) (oneF_ge hg11)) s51 (size_only O150) (oneF_ge hg28))
      exact ⟨noteV (⟨(Wr.num (⟨t, false⟩ : Wr.Rd)).1, (Wr.num ((Wr.num (⟨t, false⟩ : Wr.Rd)).2)).1, (Wr.num ((Wr.num ((Wr.num (⟨t, false⟩ : Wr.Rd)).2)).2)).1, Ao, O, co, (Wr.text ((Wr.nums ((Wr.num ((Wr.num ((Wr.num (⟨t, false⟩ : Wr.Rd)).2)).2)).2)).2)).1⟩ : NM), by rw [hdo]; rfl, O151, .inr ⟨hdo, (⟨(Wr.num (⟨t, false⟩ : Wr.Rd)).1, (Wr.num ((Wr.num (⟨t, false⟩ : Wr.Rd)).2)).1, (Wr.num ((Wr.num ((Wr.num (⟨t, false⟩ : Wr.Rd)).2)).2)).1, Ao, O, co, (Wr.text ((Wr.nums ((Wr.num ((Wr.num ((Wr.num (⟨t, false⟩ : Wr.Rd)).2)).2)).2)).2)).1⟩ : NM), rfl, rfl, rfl, rfl, hpr.1.symm, rfl, ⟨(ok_wr (Wr.number_int _ _ _)), (ok_wr (Wr.number_int _ _ _)), (ok_wr (Wr.number_int _ _ _)), (SliceOf.pl (Row.own KRef r153 okO)), (dtxt t (by omega))⟩, (SliceOf.sup (Row.own KRef r153 okO) (fun k hk => Nat.le_trans (size_only O154) hk))⟩⟩
end Go.Proofs.YtgmnoianhonihaaDoor
