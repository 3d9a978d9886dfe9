/-
  WireBack, walked: it returns true. No condition but the listed variables.
-/
import Derived.Test.YtgmnoianhonihaaDoorWW7
namespace Go.Proofs.YtgmnoianhonihaaDoor
set_option linter.unusedVariables false
set_option linter.unusedSimpArgs false
set_option linter.unusedSectionVars false
open Go.RowKit

set_option maxRecDepth 20000 in
set_option maxHeartbeats 4000000 in
theorem back_v_ {w : World} (hG : Gr w) {l : List VM} {A1 : Option Addr} {c1 : Nat} (f1 : ValsV w w (.slice A1 l.length c1) l) {tail : Str} : Calls Tryd.prog 8 [.slice A1 l.length c1, strV tail].toArray w (Fix (.bool true) w) := by
  refine calls_start Tryd.func8 rfl rfl ?_
  intro az Hz
  rw [Tryd.ntmps8] at Hz
  refine wp_seq_k fun K1 hK1 => ?_
  -- law.go:141
  refine wp_region_lit ?_
  refine L (r_as Hz rfl) Hz rfl ?_
  clear Hz az; intro az Hz
  refine hK1 _ _ ?_
  refine wp_seq_k fun K2 hK2 => ?_
  -- law.go:142
  refine wp_region_lit ?_
  have G3 := Gr.k hG (Only.refl NoF w)
  refine LCV (v := .bool (true)) Hz rfl rfl Tryd.call15 (small_v G3) rfl fun w4 o5 => ?_
  clear Hz az; intro az Hz
  refine L (r_as Hz rfl) Hz rfl ?_
  clear Hz az; intro az Hz
  refine hK2 _ _ ?_
  refine wp_seq_k fun K6 hK6 => ?_
  refine wp_seq_k fun K7 hK7 => ?_
  -- law.go:143
  refine wp_region_lit ?_
  refine L (r_mv Hz rfl) Hz rfl ?_
  clear Hz az; intro az Hz
  have h8 := (SliceOf.kp f1 o5 (fun _ _ h => h) (fun _ _ _ _ h => h))
  refine LCE Hz rfl rfl Tryd.call16 (few_v (vals_up h8 o5)) rfl fun b11 w9 hs12 o10 => ?_
  clear Hz az; intro az Hz
  refine L (r_not Hz rfl) Hz rfl ?_
  clear Hz az; intro az Hz
  refine L (r_mv Hz rfl) Hz rfl ?_
  clear Hz az; intro az Hz
  refine LG Hz rfl rfl gd_f (fun hb => r_mv Hz rfl) rfl ?_
  clear Hz az; intro az Hz
  refine LG Hz rfl rfl gd_f (fun hb => r_lenS Tryd.underlying9 Hz (evg hb rfl)) rfl ?_
  clear Hz az; intro az Hz
  refine LG Hz rfl rfl gd_f (fun hb => r_gtI Hz (evg hb rfl) rfl) rfl ?_
  clear Hz az; intro az Hz
  refine L (r_or Hz rfl rfl rfl) Hz rfl ?_
  clear Hz az; intro az Hz
  refine hK7 _ _ ?_
  refine br Hz rfl (fun hc13 => ?_) (fun hc13 => ?_)
  · -- if0
    have d14 := hc13
    refine wp_seq_k fun K15 hK15 => ?_
    -- law.go:144
    refine wp_region_lit ?_
    refine L (r_mv Hz rfl) Hz rfl ?_
    clear Hz az; intro az Hz
    refine L (r_as Hz rfl) Hz rfl ?_
    clear Hz az; intro az Hz
    refine hK15 _ _ ?_
    refine wp_ret ?_
    show bodyPost _ _ _ .ret _ _
    refine ret_of (vs := [.bool (true)]) Hz Tryd.results8 ⟨rfl, trivial⟩ ?_
    have O16 : Only NoF w w9 := (Only.trans' o5 o10)
    exact ⟨rfl, O16⟩
  · -- else0
    have q17 : b11 = true := (nt_f (or_f hc13).1)
    have S18 := hs12 q17
    have p19 := of_decide_eq_false (or_f hc13).2
    obtain ⟨few1, fewm⟩ := S18
    have hfl : (l.flatMap wrE).length ≤ 4000000 := Nat.le_trans (flat_len_le wrE 200000 l fun x hx => (wrE_len (okM (Row.oks (KVal w) f1 x hx)) (fewm x hx)).1) (by omega)
    refine wp_skip ?_
    refine hK6 _ _ ?_
    refine wp_seq_k fun K20 hK20 => ?_
    -- law.go:146
    refine wp_region_lit ?_
    refine L (r_as Hz rfl) Hz rfl ?_
    clear Hz az; intro az Hz
    refine hK20 _ _ ?_
    refine wp_seq_k fun K21 hK21 => ?_
    refine wp_seq_k fun K22 hK22 => ?_
    -- law.go:147
    refine wp_region_lit ?_
    refine L (r_as Hz rfl) Hz rfl ?_
    clear Hz az; intro az Hz
    refine hK22 _ _ ?_
    refine wp_block ?_
    refine wp_loop_m (fun mz az W => ∃ k : Nat, ∃ acc : Str, mz = l.length - k ∧ Fr 86 [(0, .slice A1 (l.length) c1), (1, strV (tail)), (5, .bool (true)), (7, .int .i64 ((k : Int))), (6, strV (acc))] az ∧ (k ≤ l.length) ∧ (acc = List.flatMap wrE (List.take k l)) ∧ (acc.length ≤ k * 200000) ∧ Only NoF w9 W) ?_ ?_
    · -- start
      exact ⟨_, 0, [], rfl, Hz.cut ⟨rfl, rfl, rfl, rfl, rfl, trivial⟩, Nat.zero_le _, rfl, Nat.zero_le _, (Only.refl NoF w9)⟩
    clear Hz az
    rintro mz az w23 ⟨k, acc, hm25, Hz, hk, hacc, hal, o24⟩
    refine wp_seq_k fun K26 hK26 => ?_
    refine wp_seq_k fun K27 hK27 => ?_
    -- law.go:147
    refine wp_region_lit ?_
    refine L (r_mv Hz rfl) Hz rfl ?_
    clear Hz az; intro az Hz
    refine L (r_mv Hz rfl) Hz rfl ?_
    clear Hz az; intro az Hz
    refine L (r_lenL Tryd.underlying28 Hz rfl) Hz rfl ?_
    clear Hz az; intro az Hz
    refine L (r_ltI Hz rfl rfl) Hz rfl ?_
    clear Hz az; intro az Hz
    refine hK27 _ _ ?_
    refine br Hz rfl (fun hc28 => ?_) (fun hc28 => ?_)
    · -- if1
      have p29 := of_decide_eq_true hc28
      refine wp_skip ?_
      refine hK26 _ _ ?_
      refine wp_seq_k fun K30 hK30 => ?_
      refine wp_block ?_
      -- law.go:148
      refine wp_region_lit ?_
      refine L (r_mv Hz rfl) Hz rfl ?_
      clear Hz az; intro az Hz
      refine L (r_mv Hz rfl) Hz rfl ?_
      clear Hz az; intro az Hz
      refine L (r_mv Hz rfl) Hz rfl ?_
      clear Hz az; intro az Hz
      have hk31 : k < (l).length := by omega
      have O37 : Only NoF w w23 := (Only.trans' (Only.trans' o5 o10) o24)
      have h38 := (SliceOf.kp f1 O37 (fun _ _ h => h) (fun _ _ _ _ h => h))
      obtain ⟨m32, hm33, ok34, hA35⟩ := Row.el (KVal w) h38 hk31
      have E36 : ∀ W, Only NoF w23 W → CA W (eA A1 5 (k)) [.int .i64 (m32.k), .int .i64 (m32.n), strV (m32.s), .slice m32.A (m32.l.length) m32.c, .slice m32.B (m32.t.length) m32.d] := Row.ce (KVal w) h38 hm33 rfl
      refine L (r_ia (k := k) (size := 5) Tryd.underlying28 Tryd.sizeOf25 Hz rfl rfl rfl hk31 hA35) Hz rfl ?_
      clear Hz az; intro az Hz
      refine L (r_ldA Tryd.isAgg25 Tryd.sizeOf25 Hz rfl (E36 _ (Only.refl NoF w23)) rfl) Hz rfl ?_
      clear Hz az; intro az Hz
      have hwl := (wrE_len (okM ok34) (fewm _ (List.mem_of_getElem? hm33))).1
      have G39 := Gr.k hG O37
      have h40 := (SliceOf.kp ok34.2.2.2.1 O37 (fun _ _ h => h) (fun _ _ _ _ h => h))
      have h41 := (SliceOf.kp ok34.2.2.2.2 O37 (fun _ _ h => h) (fun _ _ _ _ h => h))
      refine LCV (v := strV (wrE m32)) Hz rfl rfl Tryd.call36 (write_v G39 h40 h41 (okM ok34) (fewm _ (List.mem_of_getElem? hm33))) rfl fun w42 o43 => ?_
      clear Hz az; intro az Hz
      refine L (r_addS Hz rfl rfl (by (try simp only [List.length_append, List.length_cons, List.length_nil]); omega)) Hz rfl ?_
      clear Hz az; intro az Hz
      refine L (r_as Hz rfl) Hz rfl ?_
      clear Hz az; intro az Hz
      refine hK30 _ _ ?_
      -- law.go:147
      refine wp_region_lit ?_
      refine L (r_mv Hz rfl) Hz rfl ?_
      clear Hz az; intro az Hz
      have i44 : I64 (((k : Int) + 1)) := by unfold I64; omega
      refine L (r_addI (r := ((k : Int) + 1)) Hz rfl rfl rfl i44) Hz rfl ?_
      clear Hz az; intro az Hz
      refine L (r_as Hz rfl) Hz rfl ?_
      clear Hz az; intro az Hz
      have O45 : Only NoF w9 w42 := (Only.trans' o24 o43)
      exact ⟨_, (by omega), k + 1, acc ++ wrE m32, rfl, Hz.cut ⟨rfl, rfl, rfl, rfl, rfl, trivial⟩, (by omega), (by rw [flat_step wrE hm33, ← hacc]), (by rw [List.length_append]; omega), O45⟩
    · -- else1
      have p46 := of_decide_eq_false hc28
      refine wp_exit ?_
      refine th_exit ?_
      refine th_exit ?_
      refine ib_hit ?_
      refine hK21 _ _ ?_
      refine wp_seq_k fun K47 hK47 => ?_
      -- law.go:150
      refine wp_region_lit ?_
      refine L (r_mv Hz rfl) Hz rfl ?_
      clear Hz az; intro az Hz
      refine L (r_mv Hz rfl) Hz rfl ?_
      clear Hz az; intro az Hz
      refine L (r_addS Hz rfl rfl (by (try simp only [List.length_append, List.length_cons, List.length_nil]); omega)) Hz rfl ?_
      clear Hz az; intro az Hz
      refine LC Hz rfl rfl Tryd.call27 (Open_v _ (acc ++ tail)) rfl ?_
      rintro e w49 ⟨g48, rfl, hg50, B51, o52⟩; refine ⟨_, rfl, ?_⟩
      clear Hz az; intro az Hz
      refine L (r_as Hz rfl) Hz rfl ?_
      clear Hz az; intro az Hz
      refine hK47 _ _ ?_
      refine wp_seq_k fun K53 hK53 => ?_
      refine wp_seq_k fun K54 hK54 => ?_
      -- law.go:151
      refine wp_region_lit ?_
      refine L (r_mv Hz rfl) Hz rfl ?_
      clear Hz az; intro az Hz
      refine L (r_eqP Tryd.underlying34 Hz rfl rfl) Hz rfl ?_
      clear Hz az; intro az Hz
      refine hK54 _ _ ?_
      refine br_false Hz rfl ?_
      refine wp_skip ?_
      refine hK53 _ _ ?_
      refine wp_seq_k fun K55 hK55 => ?_
      refine wp_seq_k fun K56 hK56 => ?_
      -- law.go:154
      refine wp_region_lit ?_
      refine L (r_as Hz rfl) Hz rfl ?_
      clear Hz az; intro az Hz
      refine hK56 _ _ ?_
      refine wp_block ?_
      have e0 : acc ++ tail = List.flatMap wrE (List.drop 0 l) ++ tail := by rw [hacc, List.take_of_length_le (by omega), List.drop_zero]
      refine wp_loop_m (fun mz az W => ∃ j : Nat, mz = l.length - j ∧ Fr 86 [(0, .slice A1 (l.length) c1), (1, strV (tail)), (5, .bool (true)), (8, .pointer (some ((⟨g48, 0, none⟩ : Addr)))), (9, .int .i64 ((j : Int)))] az ∧ (j ≤ l.length) ∧ Only (oneF g48) w49 W ∧ Blk W g48 78 [strV (List.flatMap wrE (List.drop j l) ++ tail), .bool (false)].toArray) ?_ ?_
      · -- start
        rw [e0] at B51
        exact ⟨_, 0, rfl, Hz.cut ⟨rfl, rfl, rfl, rfl, rfl, trivial⟩, Nat.zero_le _, (Only.refl (oneF g48) w49), B51⟩
      clear Hz az
      rintro mz az w57 ⟨j, hm59, Hz, hj, o58, B60⟩
      refine wp_seq_k fun K61 hK61 => ?_
      refine wp_seq_k fun K62 hK62 => ?_
      -- law.go:154
      refine wp_region_lit ?_
      refine L (r_mv Hz rfl) Hz rfl ?_
      clear Hz az; intro az Hz
      refine L (r_mv Hz rfl) Hz rfl ?_
      clear Hz az; intro az Hz
      refine L (r_lenL Tryd.underlying28 Hz rfl) Hz rfl ?_
      clear Hz az; intro az Hz
      refine L (r_ltI Hz rfl rfl) Hz rfl ?_
      clear Hz az; intro az Hz
      refine hK62 _ _ ?_
      refine br Hz rfl (fun hc63 => ?_) (fun hc63 => ?_)
      · -- if3
        have p64 := of_decide_eq_true hc63
        refine wp_skip ?_
        refine hK61 _ _ ?_
        refine wp_seq_k fun K65 hK65 => ?_
        refine wp_block ?_
        refine wp_seq_k fun K66 hK66 => ?_
        -- law.go:155
        refine wp_region_lit ?_
        refine L (r_mv Hz rfl) Hz rfl ?_
        clear Hz az; intro az Hz
        refine L (r_mv Hz rfl) Hz rfl ?_
        clear Hz az; intro az Hz
        refine L (r_mv Hz rfl) Hz rfl ?_
        clear Hz az; intro az Hz
        have hk67 : j < (l).length := by omega
        have O73 : Only NoF w w23 := (Only.trans' (Only.trans' o5 o10) o24)
        have O74 : Only NoF w w57 := (o_sg (Only.trans' (Only.trans' (Only.trans' o5 o10) o24) o52) o58 (size_only O73) (oneF_ge hg50))
        have h75 := (SliceOf.kp f1 O74 (fun _ _ h => h) (fun _ _ _ _ h => h))
        obtain ⟨m68, hm69, ok70, hA71⟩ := Row.el (KVal w) h75 hk67
        have E72 : ∀ W, Only NoF w57 W → CA W (eA A1 5 (j)) [.int .i64 (m68.k), .int .i64 (m68.n), strV (m68.s), .slice m68.A (m68.l.length) m68.c, .slice m68.B (m68.t.length) m68.d] := Row.ce (KVal w) h75 hm69 rfl
        refine L (r_ia (k := j) (size := 5) Tryd.underlying28 Tryd.sizeOf25 Hz rfl rfl rfl hk67 hA71) Hz rfl ?_
        clear Hz az; intro az Hz
        refine L (r_ldA Tryd.isAgg25 Tryd.sizeOf25 Hz rfl (E72 _ (Only.refl NoF w57)) rfl) Hz rfl ?_
        clear Hz az; intro az Hz
        have heq := read_step hm69 (okM ok70) tail
        have hdl : (List.flatMap wrE (List.drop j l) ++ tail).length ≤ 1000000000 := by have := flat_drop_le wrE l j; rw [List.length_append]; omega
        have h76 := SliceOf.sup (SliceOf.ltB ok70.2.2.2.1) (S' := neB g48) (fun q hq => Nat.ne_of_lt (Nat.lt_of_lt_of_le hq (Nat.le_trans (size_only O73) hg50)))
        have h77 := SliceOf.sup (SliceOf.ltB ok70.2.2.2.2) (S' := neB g48) (fun q hq => Nat.ne_of_lt (Nat.lt_of_lt_of_le hq (Nat.le_trans (size_only O73) hg50)))
        have G78 := Gr.k hG O74
        have h79 := (SliceOf.kp h76 O74 (fun _ _ h => h) (fun _ _ _ _ h => h))
        have h80 := (SliceOf.kp h77 O74 (fun _ _ h => h) (fun _ _ _ _ h => h))
        refine LC Hz rfl rfl Tryd.call37 (rd_eq (congrArg (fun p => Value.bool p.1) heq) (congrArg (·.2) heq) (equal_v (s := ⟨List.flatMap wrE (List.drop j l) ++ tail, false⟩) G78 B60 (Nat.le_trans hG.1 (Nat.le_trans (size_only O73) hg50)) hdl (fun h => by cases h) h79 h80 (okM ok70))) rfl ?_
        rintro e w81 ⟨rfl, B82, o83⟩; refine ⟨_, rfl, ?_⟩
        clear Hz az; intro az Hz
        refine L (r_not Hz rfl) Hz rfl ?_
        clear Hz az; intro az Hz
        refine hK66 _ _ ?_
        refine br_false Hz rfl ?_
        refine wp_skip ?_
        refine hK65 _ _ ?_
        -- law.go:154
        refine wp_region_lit ?_
        refine L (r_mv Hz rfl) Hz rfl ?_
        clear Hz az; intro az Hz
        have i84 : I64 (((j : Int) + 1)) := by unfold I64; omega
        refine L (r_addI (r := ((j : Int) + 1)) Hz rfl rfl rfl i84) Hz rfl ?_
        clear Hz az; intro az Hz
        refine L (r_as Hz rfl) Hz rfl ?_
        clear Hz az; intro az Hz
        exact ⟨_, (by omega), j + 1, rfl, Hz.cut ⟨rfl, rfl, rfl, rfl, rfl, trivial⟩, (by omega), (Only.trans (Only.trans (Only.refl (oneF g48) w49) o58 (fun _ h => .inl h)) o83 (fun _ h => .inl h)), B82⟩
      · -- else3
        have p85 := of_decide_eq_false hc63
        refine wp_exit ?_
        have e1 : List.flatMap wrE (List.drop j l) ++ tail = tail := by rw [List.drop_of_length_le (by omega)]; rfl
        rw [e1] at B60
        refine th_exit ?_
        refine th_exit ?_
        refine ib_hit ?_
        refine hK55 _ _ ?_
        refine wp_seq_k fun K86 hK86 => ?_
        -- law.go:159
        refine wp_region_lit ?_
        refine L (r_mv Hz rfl) Hz rfl ?_
        clear Hz az; intro az Hz
        refine LCV (v := .int .i64 (((List.length (tail) : Nat) : Int))) Hz rfl rfl Tryd.call34 (rLeft_v (s := ⟨tail, false⟩) B60) rfl fun w87 o88 => ?_
        clear Hz az; intro az Hz
        refine L (r_as Hz rfl) Hz rfl ?_
        clear Hz az; intro az Hz
        refine hK86 _ _ ?_
        refine wp_seq_k fun K89 hK89 => ?_
        -- law.go:160
        refine wp_region_lit ?_
        refine L (r_mv Hz rfl) Hz rfl ?_
        clear Hz az; intro az Hz
        have B90 := (Blk.k B60 o88)
        refine LCV (v := .bool (decide (tail = []))) Hz rfl rfl Tryd.call35 (fix_eq (congrArg Value.bool (done_eq tail)) (rDone_v (s := ⟨tail, false⟩) B90)) rfl fun w91 o92 => ?_
        clear Hz az; intro az Hz
        refine L (r_as Hz rfl) Hz rfl ?_
        clear Hz az; intro az Hz
        refine hK89 _ _ ?_
        refine wp_seq_k fun K93 hK93 => ?_
        -- law.go:161
        refine wp_region_lit ?_
        refine L (r_mv Hz rfl) Hz rfl ?_
        clear Hz az; intro az Hz
        refine L (r_mv Hz rfl) Hz rfl ?_
        clear Hz az; intro az Hz
        refine LT Hz rfl rfl (r_mv Hz rfl) rfl ?_
        clear Hz az; intro az Hz
        refine LT Hz rfl rfl (r_mv Hz rfl) rfl ?_
        clear Hz az; intro az Hz
        refine LT Hz rfl rfl (r_lenS Tryd.underlying9 Hz rfl) rfl ?_
        clear Hz az; intro az Hz
        refine LT Hz rfl rfl (r_eqRI Hz rfl rfl) rfl ?_
        clear Hz az; intro az Hz
        refine L (r_pick Hz rfl rfl rfl) Hz rfl ?_
        clear Hz az; intro az Hz
        refine L (r_mv Hz rfl) Hz rfl ?_
        clear Hz az; intro az Hz
        refine LT Hz rfl rfl (r_mv Hz rfl) rfl ?_
        clear Hz az; intro az Hz
        refine LT Hz rfl rfl (r_mv Hz rfl) rfl ?_
        clear Hz az; intro az Hz
        refine LT Hz rfl rfl (r_eqS Hz rfl rfl) rfl ?_
        clear Hz az; intro az Hz
        refine LT Hz rfl rfl (r_eqRBu Tryd.underlying4 Hz rfl rfl) rfl ?_
        clear Hz az; intro az Hz
        refine L (r_pick Hz rfl rfl rfl) Hz rfl ?_
        clear Hz az; intro az Hz
        refine L (r_mv Hz rfl) Hz rfl ?_
        clear Hz az; intro az Hz
        refine LT Hz rfl rfl (r_mv Hz rfl) rfl ?_
        clear Hz az; intro az Hz
        have B94 := (Blk.k B90 o92)
        refine LCT Hz rfl rfl rfl rfl Tryd.call48 (rRest_v (s := ⟨tail, false⟩) B94) rfl ?_
        rintro e w95 ⟨rfl, B96, o97⟩; refine ⟨_, rfl, ?_⟩
        clear Hz az; intro az Hz
        refine LT Hz rfl rfl (r_mv Hz rfl) rfl ?_
        clear Hz az; intro az Hz
        refine LT Hz rfl rfl (r_eqRS Hz rfl rfl) rfl ?_
        clear Hz az; intro az Hz
        refine L (r_pick Hz rfl rfl rfl) Hz rfl ?_
        clear Hz az; intro az Hz
        refine L (r_mv Hz rfl) Hz rfl ?_
        clear Hz az; intro az Hz
        refine LT Hz rfl rfl (r_mv Hz rfl) rfl ?_
        clear Hz az; intro az Hz
        refine LGV (v := .bool (true)) Hz rfl rfl gd_t rfl (fun hb => rfl) Tryd.call35 (fun hb => rDone_v (s := ⟨[], false⟩) B96) rfl fun w98 o99 => ?_
        clear Hz az; intro az Hz
        refine L (r_pick Hz rfl rfl rfl) Hz rfl ?_
        clear Hz az; intro az Hz
        refine L (r_mv Hz rfl) Hz rfl ?_
        clear Hz az; intro az Hz
        refine LT Hz rfl rfl (r_mv Hz rfl) rfl ?_
        clear Hz az; intro az Hz
        have B100 := (Blk.k B96 o99)
        refine LGV (v := .int .i64 (0)) Hz rfl rfl gd_t rfl (fun hb => rfl) Tryd.call34 (fun hb => rLeft_v (s := ⟨[], false⟩) B100) rfl fun w101 o102 => ?_
        clear Hz az; intro az Hz
        refine LT Hz rfl rfl (r_eqRI Hz rfl rfl) rfl ?_
        clear Hz az; intro az Hz
        refine L (r_pick Hz rfl rfl rfl) Hz rfl ?_
        clear Hz az; intro az Hz
        refine L (r_as Hz rfl) Hz rfl ?_
        clear Hz az; intro az Hz
        refine hK93 _ _ ?_
        refine wp_ret ?_
        show bodyPost _ _ _ .ret _ _
        refine ret_of (vs := [.bool (true)]) Hz Tryd.results8 ⟨rfl, trivial⟩ ?_
        have O103 : Only NoF w w23 := (Only.trans' (Only.trans' o5 o10) o24)
        have O104 : Only NoF w w101 := (Only.trans' (Only.trans' (o_sg (Only.trans' (Only.trans' (o_sg (Only.trans' (Only.trans' (Only.trans' o5 o10) o24) o52) o58 (size_only O103) (oneF_ge hg50)) o88) o92) o97 (size_only O103) (oneF_ge hg50)) o99) o102)
        exact ⟨rfl, O104⟩

theorem back_v {w : World} (hG : Gr w) {v : Value} {l : List VM} (h : ValsV w w v l) {tail : Str} : Calls Tryd.prog 8 #[v, strV tail] w (Fix (.bool true) w) := by
  obtain ⟨A1, c1, rfl, _⟩ := SliceOf.shape h
  exact back_v_ hG h
end Go.Proofs.YtgmnoianhonihaaDoor
