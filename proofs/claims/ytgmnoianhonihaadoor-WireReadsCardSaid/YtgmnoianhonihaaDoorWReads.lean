/-
  WireReads, walked: it returns true. No condition but the listed variables.
-/
import Derived.Test.YtgmnoianhonihaaDoorWW7
import Derived.Test.YtgmnoianhonihaaDoorWW10
namespace Go.Proofs.YtgmnoianhonihaaDoor
set_option linter.unusedVariables false
set_option linter.unusedSimpArgs false
set_option linter.unusedSectionVars false
open Go.RowKit

theorem build_Val2 (k : Int) (w : World) : (Instr.build 25 #[(0, .int .i64 k)]).run Tryd.prog w = .ok (.agg #[.int .i64 k, .int .i64 0, strV [], .slice none 0 0, .slice none 0 0]) w := by kernel_rfl
theorem Wr.len_of {s' : Rd} {s E : Str} (hf : Fine s') (hw : s'.b = false → s = E ++ s'.r) : s'.r.length ≤ s.length := by
  rcases tf s'.b with h | h
  · rw [hw h, List.length_append]; omega
  · rw [hf h]; simp
section
variable {P : Program} {w : World} {n : Nat} {l : List (Nat × Value)} {a : Act} {dst : Option Tmp} {ty : TypeId} {pos : String} {aft : Array Edge} {g : Option (Nat × Bool)} {x y : Operand}
theorem r_eqSr {t yt : TypeId} {s : Str} (H : Fr n l a) (hx : ev l x = some (strV s)) (hy : ev l y = some (strV s)) :
    (execOp a.eval ⟨dst, .binOp .eql t x y yt, ty, pos, aft, g⟩).run P w = .ok (.value (.bool true)) w := by
  have := r_eqS (P := P) (w := w) (dst := dst) (ty := ty) (pos := pos) (aft := aft) (g := g) (t := t) (yt := yt) H hx hy
  rwa [decide_eq_true rfl] at this
theorem ne_bool {t : TypeId} {b : Bool} (hu : P.underlying t = some .bool) : (binOp .neq t (.bool b) (.bool b)).run P w = .ok (.bool false) w := by
  have := eq_bool (P := P) (w := w) (t := t) (b := b) (c := b) hu
  simp only [binOp, Sem.run_bind, this, Result.andThen_ok]
  simp
theorem r_neBr {t yt : TypeId} {b : Bool} (hu : P.underlying t = some .bool) (H : Fr n l a) (hx : ev l x = some (.bool b)) (hy : ev l y = some (.bool b)) : (execOp a.eval ⟨dst, .binOp .neq t x y yt, ty, pos, aft, g⟩).run P w = .ok (.value (.bool false)) w := by
  simp [execOp, H.eval hx, H.eval hy, eqGuard, ne_bool hu]
end
set_option maxRecDepth 20000 in
set_option maxHeartbeats 4000000 in
theorem reads_v_ {w : World} (hG : Gr w) {t : Str} {l : List Int} {A1 : Option Addr} {c1 : Nat} (f1 : IntsV w (.slice A1 l.length c1) l) : Calls Tryd.prog 7 [strV t, .slice A1 l.length c1].toArray w (Fix (.bool true) w) := by
  refine calls_start Tryd.func7 rfl rfl ?_
  intro az Hz
  rw [Tryd.ntmps7] at Hz
  refine wp_seq_k fun K1 hK1 => ?_
  -- law.go:109
  refine wp_region_lit ?_
  refine L (r_as Hz rfl) Hz rfl ?_
  clear Hz az; intro az Hz
  refine hK1 _ _ ?_
  refine wp_seq_k fun K2 hK2 => ?_
  -- law.go:110
  refine wp_region_lit ?_
  have G3 := Gr.k hG (Only.refl NoF w)
  refine LCV (v := .bool (true)) Hz rfl rfl Tryd.call15 (small_v G3) rfl fun w4 o5 => ?_
  clear Hz az; intro az Hz
  refine L (r_as Hz rfl) Hz rfl ?_
  clear Hz az; intro az Hz
  refine hK2 _ _ ?_
  refine wp_seq_k fun K6 hK6 => ?_
  refine wp_seq_k fun K7 hK7 => ?_
  -- law.go:111
  refine wp_region_lit ?_
  refine L (r_mv Hz rfl) Hz rfl ?_
  clear Hz az; intro az Hz
  refine L (r_lenS Tryd.underlying9 Hz rfl) Hz rfl ?_
  clear Hz az; intro az Hz
  refine L (r_gtI Hz rfl rfl) Hz rfl ?_
  clear Hz az; intro az Hz
  refine L (r_mv Hz rfl) Hz rfl ?_
  clear Hz az; intro az Hz
  refine LG Hz rfl rfl gd_f (fun hb => r_mv Hz rfl) rfl ?_
  clear Hz az; intro az Hz
  refine LG Hz rfl rfl gd_f (fun hb => r_lenL Tryd.underlying22 Hz (evg hb rfl)) rfl ?_
  clear Hz az; intro az Hz
  refine LG Hz rfl rfl gd_f (fun hb => r_gtI Hz (evg hb rfl) rfl) rfl ?_
  clear Hz az; intro az Hz
  refine L (r_or Hz rfl rfl rfl) Hz rfl ?_
  clear Hz az; intro az Hz
  refine hK7 _ _ ?_
  refine br Hz rfl (fun hc8 => ?_) (fun hc8 => ?_)
  · -- if0
    have d9 := hc8
    refine wp_seq_k fun K10 hK10 => ?_
    -- law.go:112
    refine wp_region_lit ?_
    refine L (r_mv Hz rfl) Hz rfl ?_
    clear Hz az; intro az Hz
    refine L (r_as Hz rfl) Hz rfl ?_
    clear Hz az; intro az Hz
    refine hK10 _ _ ?_
    refine wp_ret ?_
    show bodyPost _ _ _ .ret _ _
    refine ret_of (vs := [.bool (true)]) Hz Tryd.results7 ⟨rfl, trivial⟩ ?_
    exact ⟨rfl, o5⟩
  · -- else0
    have p11 := of_decide_eq_false (or_f hc8).1
    have p12 := of_decide_eq_false (or_f hc8).2
    refine wp_skip ?_
    refine hK6 _ _ ?_
    refine wp_seq_k fun K13 hK13 => ?_
    -- law.go:114
    refine wp_region_lit ?_
    refine L (r_mv Hz rfl) Hz rfl ?_
    clear Hz az; intro az Hz
    refine LC Hz rfl rfl Tryd.call27 (Open_v _ t) rfl ?_
    rintro e w15 ⟨g14, rfl, hg16, B17, o18⟩; refine ⟨_, rfl, ?_⟩
    clear Hz az; intro az Hz
    refine L (r_as Hz rfl) Hz rfl ?_
    clear Hz az; intro az Hz
    refine hK13 _ _ ?_
    refine wp_seq_k fun K19 hK19 => ?_
    -- law.go:115
    refine wp_region_lit ?_
    refine L (r_mv Hz rfl) Hz rfl ?_
    clear Hz az; intro az Hz
    refine LC Hz rfl rfl Tryd.call38 (vOpen_v _ t) rfl ?_
    rintro e w21 ⟨g20, rfl, hg22, B23, o24⟩; refine ⟨_, rfl, ?_⟩
    clear Hz az; intro az Hz
    refine L (r_as Hz rfl) Hz rfl ?_
    clear Hz az; intro az Hz
    refine hK19 _ _ ?_
    refine wp_seq_k fun K25 hK25 => ?_
    refine wp_seq_k fun K26 hK26 => ?_
    -- law.go:116
    refine wp_region_lit ?_
    refine L (r_mv Hz rfl) Hz rfl ?_
    clear Hz az; intro az Hz
    refine L (r_eqP Tryd.underlying34 Hz rfl rfl) Hz rfl ?_
    clear Hz az; intro az Hz
    refine hK26 _ _ ?_
    refine br_false Hz rfl ?_
    refine wp_skip ?_
    refine hK25 _ _ ?_
    refine wp_seq_k fun K27 hK27 => ?_
    refine wp_seq_k fun K28 hK28 => ?_
    -- law.go:119
    refine wp_region_lit ?_
    refine L (r_as Hz rfl) Hz rfl ?_
    clear Hz az; intro az Hz
    refine hK28 _ _ ?_
    refine wp_block ?_
    have B29 := (Blk.k B17 o24)
    have ne30 : g14 ≠ g20 := (ne_of (Blk.lt B17) hg22)
    have ne31 : g20 ≠ g14 := (ne_of (Blk.lt B17) hg22).symm
    refine wp_loop_m (fun mz az W => ∃ k : Nat, ∃ st : Wr.Rd, mz = l.length - k ∧ Fr 109 [(1, .slice A1 (l.length) c1), (5, .bool (true)), (6, .pointer (some ((⟨g14, 0, none⟩ : Addr)))), (7, .pointer (some ((⟨g20, 0, none⟩ : Addr)))), (8, .int .i64 ((k : Int)))] az ∧ (k ≤ l.length) ∧ (Wr.Fine st) ∧ (st.r.length ≤ t.length) ∧ Only NoF w W ∧ Blk W g14 78 [strV (st.r), .bool (st.b)].toArray ∧ Blk W g20 85 [strV (st.r), .bool (st.b)].toArray) ?_ ?_
    · -- start
      have O32 : Only NoF w w21 := (Only.trans' (Only.trans' o5 o18) o24)
      exact ⟨_, 0, ⟨t, false⟩, rfl, Hz.cut ⟨rfl, rfl, rfl, rfl, rfl, trivial⟩, Nat.zero_le _, (fun h => by cases h), Nat.le_refl _, O32, B29, B23⟩
    clear Hz az
    rintro mz az w33 ⟨k, st, hm35, Hz, hk, hfs, hrl, o34, B36, B37⟩
    have O38 : Only NoF w w15 := (Only.trans' o5 o18)
    refine wp_seq_k fun K39 hK39 => ?_
    refine wp_seq_k fun K40 hK40 => ?_
    -- law.go:119
    refine wp_region_lit ?_
    refine L (r_mv Hz rfl) Hz rfl ?_
    clear Hz az; intro az Hz
    refine L (r_mv Hz rfl) Hz rfl ?_
    clear Hz az; intro az Hz
    refine L (r_lenL Tryd.underlying22 Hz rfl) Hz rfl ?_
    clear Hz az; intro az Hz
    refine L (r_ltI Hz rfl rfl) Hz rfl ?_
    clear Hz az; intro az Hz
    refine hK40 _ _ ?_
    refine br Hz rfl (fun hc41 => ?_) (fun hc41 => ?_)
    · -- if2
      have p42 := of_decide_eq_true hc41
      refine wp_skip ?_
      refine hK39 _ _ ?_
      refine wp_seq_k fun K43 hK43 => ?_
      refine wp_block ?_
      refine wp_seq_k fun K44 hK44 => ?_
      -- law.go:120
      refine wp_region_lit ?_
      refine L (r_as Hz rfl) Hz rfl ?_
      clear Hz az; intro az Hz
      refine hK44 _ _ ?_
      refine wp_seq_k fun K45 hK45 => ?_
      refine wp_seq_k fun K46 hK46 => ?_
      -- law.go:121
      refine wp_region_lit ?_
      refine L (r_mv Hz rfl) Hz rfl ?_
      clear Hz az; intro az Hz
      refine L (r_mv Hz rfl) Hz rfl ?_
      clear Hz az; intro az Hz
      have hk47 : k < (l).length := by omega
      have h53 := (SliceOf.kp f1 o34 (fun _ _ h => h) (fun _ _ _ _ h => h))
      obtain ⟨m48, hm49, ok50, hA51⟩ := Row.el KInt h53 hk47
      have E52 : ∀ W, Only NoF w33 W → CA W (eA A1 1 (k)) [.int .i64 (m48)] := Row.ce KInt h53 hm49 rfl
      refine L (r_ia (k := k) (size := 1) Tryd.underlying22 Tryd.sizeOf3 Hz rfl rfl rfl hk47 hA51) Hz rfl ?_
      clear Hz az; intro az Hz
      refine L (r_ld Tryd.isAgg3 Hz rfl (CA.first (E52 _ (Only.refl NoF w33)))) Hz rfl ?_
      clear Hz az; intro az Hz
      refine L (r_bd (v := .agg #[.int .i64 (m48), .int .i64 (0), strV ([]), .slice none (0) 0, .slice none (0) 0]) (build_Val2 _) Hz rfl) Hz rfl ?_
      clear Hz az; intro az Hz
      refine LCV (v := .int .i64 ((Wr.kind m48))) Hz rfl rfl Tryd.call28 (kind_v _ m48 _ _ _ _ (wr_ok ok50)) rfl fun w54 o55 => ?_
      clear Hz az; intro az Hz
      refine hK46 _ _ ?_
      refine wp_block ?_
      refine wp_seq_k fun K56 hK56 => ?_
      -- law.go:122
      refine wp_region_lit ?_
      refine L (r_eqI Hz rfl rfl) Hz rfl ?_
      clear Hz az; intro az Hz
      refine L (r_as Hz rfl) Hz rfl ?_
      clear Hz az; intro az Hz
      refine hK56 _ _ ?_
      refine br Hz rfl (fun hc57 => ?_) (fun hc57 => ?_)
      · -- if3
        have p58 := of_decide_eq_true hc57
        -- law.go:123
        refine wp_region_lit ?_
        refine L (r_mv Hz rfl) Hz rfl ?_
        clear Hz az; intro az Hz
        have O60 : Only NoF w w54 := (Only.trans' o34 o55)
        have G59 := Gr.k hG O60
        have B61 := (Blk.k B36 o55)
        refine LC Hz rfl rfl Tryd.call29 (rNum_v (s := st) G59 B61 (Nat.le_trans hG.1 (Nat.le_trans (Nat.le_refl _) (Nat.le_trans (size_only o5) hg16))) (by omega)) rfl ?_
        rintro e w62 ⟨rfl, B63, o64⟩; refine ⟨_, rfl, ?_⟩
        clear Hz az; intro az Hz
        refine L (r_mv Hz rfl) Hz rfl ?_
        clear Hz az; intro az Hz
        have B65 := (Blk.st (Blk.k B37 o55) o64 ne31)
        refine LC Hz rfl rfl Tryd.call39 (vrNum_v (s := st) B65) rfl ?_
        rintro e w66 ⟨rfl, B67, o68⟩; refine ⟨_, rfl, ?_⟩
        clear Hz az; intro az Hz
        refine L (r_eqRI Hz rfl rfl) Hz rfl ?_
        clear Hz az; intro az Hz
        refine L (r_as Hz rfl) Hz rfl ?_
        clear Hz az; intro az Hz
        refine hK45 _ _ ?_
        refine wp_seq_k fun K69 hK69 => ?_
        -- law.go:133
        refine wp_region_lit ?_
        refine L (r_mv Hz rfl) Hz rfl ?_
        clear Hz az; intro az Hz
        refine L (r_not Hz rfl) Hz rfl ?_
        clear Hz az; intro az Hz
        refine L (r_mv Hz rfl) Hz rfl ?_
        clear Hz az; intro az Hz
        refine LT Hz rfl rfl (r_mv Hz rfl) rfl ?_
        clear Hz az; intro az Hz
        have B70 := (Blk.st B63 o68 ne30)
        refine LGV (v := .int .i64 (((List.length ((Wr.num st).2.r) : Nat) : Int))) Hz rfl rfl gd_f rfl (fun hb => rfl) Tryd.call34 (fun hb => rLeft_v (s := (Wr.num st).2) B70) rfl fun w71 o72 => ?_
        clear Hz az; intro az Hz
        refine LT Hz rfl rfl (r_mv Hz rfl) rfl ?_
        clear Hz az; intro az Hz
        have B73 := (Blk.k B67 o72)
        refine LGV (v := .int .i64 (((List.length ((Wr.num st).2.r) : Nat) : Int))) Hz rfl rfl gd_f rfl (fun hb => rfl) Tryd.call46 (fun hb => vrLeft_v (s := (Wr.num st).2) B73) rfl fun w74 o75 => ?_
        clear Hz az; intro az Hz
        refine LT Hz rfl rfl (r_neRI Hz rfl rfl) rfl ?_
        clear Hz az; intro az Hz
        refine L (r_pick Hz rfl rfl rfl) Hz rfl ?_
        clear Hz az; intro az Hz
        refine L (r_mv Hz rfl) Hz rfl ?_
        clear Hz az; intro az Hz
        refine LT Hz rfl rfl (r_mv Hz rfl) rfl ?_
        clear Hz az; intro az Hz
        have B76 := (Blk.k (Blk.k B70 o72) o75)
        refine LGV (v := .bool (Wr.done ((Wr.num st).2))) Hz rfl rfl gd_f rfl (fun hb => rfl) Tryd.call35 (fun hb => rDone_v (s := (Wr.num st).2) B76) rfl fun w77 o78 => ?_
        clear Hz az; intro az Hz
        refine LT Hz rfl rfl (r_mv Hz rfl) rfl ?_
        clear Hz az; intro az Hz
        have B79 := (Blk.k (Blk.k B73 o75) o78)
        refine LGV (v := .bool (Wr.done ((Wr.num st).2))) Hz rfl rfl gd_f rfl (fun hb => rfl) Tryd.call47 (fun hb => vrDone_v (s := (Wr.num st).2) B79) rfl fun w80 o81 => ?_
        clear Hz az; intro az Hz
        refine LT Hz rfl rfl (r_neBr Tryd.underlying4 Hz rfl rfl) rfl ?_
        clear Hz az; intro az Hz
        refine L (r_pick Hz rfl rfl rfl) Hz rfl ?_
        clear Hz az; intro az Hz
        refine hK69 _ _ ?_
        refine br_false Hz rfl ?_
        refine wp_skip ?_
        refine hK43 _ _ ?_
        -- law.go:119
        refine wp_region_lit ?_
        refine L (r_mv Hz rfl) Hz rfl ?_
        clear Hz az; intro az Hz
        have i82 : I64 (((k : Int) + 1)) := by unfold I64; omega
        refine L (r_addI (r := ((k : Int) + 1)) Hz rfl rfl rfl i82) Hz rfl ?_
        clear Hz az; intro az Hz
        refine L (r_as Hz rfl) Hz rfl ?_
        clear Hz az; intro az Hz
        have hfn2 := Wr.num_fine hfs
        have hln2 := Wr.len_of hfn2 (Wr.num_was st)
        have O83 : Only NoF w w80 := (Only.trans' (Only.trans' (Only.trans' (Only.trans' (o_sg (o_sg O60 o64 (Nat.le_refl _) (oneF_ge (Nat.le_trans (size_only o5) hg16))) o68 (Nat.le_refl _) (oneF_ge (Nat.le_trans (size_only O38) hg22))) o72) o75) o78) o81)
        have B84 := (Blk.k (Blk.k B76 o78) o81)
        have B85 := (Blk.k B79 o81)
        exact ⟨_, (by omega), k + 1, (Wr.num st).2, rfl, Hz.cut ⟨rfl, rfl, rfl, rfl, rfl, trivial⟩, (by omega), hfn2, (Nat.le_trans hln2 hrl), O83, B84, B85⟩
      · -- else3
        have p86 := of_decide_eq_false hc57
        refine wp_seq_k fun K87 hK87 => ?_
        -- law.go:124
        refine wp_region_lit ?_
        refine L (r_eqI Hz rfl rfl) Hz rfl ?_
        clear Hz az; intro az Hz
        refine L (r_as Hz rfl) Hz rfl ?_
        clear Hz az; intro az Hz
        refine hK87 _ _ ?_
        refine br Hz rfl (fun hc88 => ?_) (fun hc88 => ?_)
        · -- if4
          have p89 := of_decide_eq_true hc88
          -- law.go:125
          refine wp_region_lit ?_
          refine L (r_mv Hz rfl) Hz rfl ?_
          clear Hz az; intro az Hz
          have O91 : Only NoF w w54 := (Only.trans' o34 o55)
          have G90 := Gr.k hG O91
          have B92 := (Blk.k B36 o55)
          refine LC Hz rfl rfl Tryd.call30 (rInt_v (s := st) G90 B92 (Nat.le_trans hG.1 (Nat.le_trans (Nat.le_refl _) (Nat.le_trans (size_only o5) hg16))) (by omega)) rfl ?_
          rintro e w93 ⟨rfl, B94, o95⟩; refine ⟨_, rfl, ?_⟩
          clear Hz az; intro az Hz
          refine L (r_mv Hz rfl) Hz rfl ?_
          clear Hz az; intro az Hz
          have B96 := (Blk.st (Blk.k B37 o55) o95 ne31)
          refine LC Hz rfl rfl Tryd.call40 (vrInt_v (s := st) B96) rfl ?_
          rintro e w97 ⟨rfl, B98, o99⟩; refine ⟨_, rfl, ?_⟩
          clear Hz az; intro az Hz
          refine L (r_eqRI Hz rfl rfl) Hz rfl ?_
          clear Hz az; intro az Hz
          refine L (r_as Hz rfl) Hz rfl ?_
          clear Hz az; intro az Hz
          refine hK45 _ _ ?_
          refine wp_seq_k fun K100 hK100 => ?_
          -- law.go:133
          refine wp_region_lit ?_
          refine L (r_mv Hz rfl) Hz rfl ?_
          clear Hz az; intro az Hz
          refine L (r_not Hz rfl) Hz rfl ?_
          clear Hz az; intro az Hz
          refine L (r_mv Hz rfl) Hz rfl ?_
          clear Hz az; intro az Hz
          refine LT Hz rfl rfl (r_mv Hz rfl) rfl ?_
          clear Hz az; intro az Hz
          have B101 := (Blk.st B94 o99 ne30)
          refine LGV (v := .int .i64 (((List.length ((Wr.int st).2.r) : Nat) : Int))) Hz rfl rfl gd_f rfl (fun hb => rfl) Tryd.call34 (fun hb => rLeft_v (s := (Wr.int st).2) B101) rfl fun w102 o103 => ?_
          clear Hz az; intro az Hz
          refine LT Hz rfl rfl (r_mv Hz rfl) rfl ?_
          clear Hz az; intro az Hz
          have B104 := (Blk.k B98 o103)
          refine LGV (v := .int .i64 (((List.length ((Wr.int st).2.r) : Nat) : Int))) Hz rfl rfl gd_f rfl (fun hb => rfl) Tryd.call46 (fun hb => vrLeft_v (s := (Wr.int st).2) B104) rfl fun w105 o106 => ?_
          clear Hz az; intro az Hz
          refine LT Hz rfl rfl (r_neRI Hz rfl rfl) rfl ?_
          clear Hz az; intro az Hz
          refine L (r_pick Hz rfl rfl rfl) Hz rfl ?_
          clear Hz az; intro az Hz
          refine L (r_mv Hz rfl) Hz rfl ?_
          clear Hz az; intro az Hz
          refine LT Hz rfl rfl (r_mv Hz rfl) rfl ?_
          clear Hz az; intro az Hz
          have B107 := (Blk.k (Blk.k B101 o103) o106)
          refine LGV (v := .bool (Wr.done ((Wr.int st).2))) Hz rfl rfl gd_f rfl (fun hb => rfl) Tryd.call35 (fun hb => rDone_v (s := (Wr.int st).2) B107) rfl fun w108 o109 => ?_
          clear Hz az; intro az Hz
          refine LT Hz rfl rfl (r_mv Hz rfl) rfl ?_
          clear Hz az; intro az Hz
          have B110 := (Blk.k (Blk.k B104 o106) o109)
          refine LGV (v := .bool (Wr.done ((Wr.int st).2))) Hz rfl rfl gd_f rfl (fun hb => rfl) Tryd.call47 (fun hb => vrDone_v (s := (Wr.int st).2) B110) rfl fun w111 o112 => ?_
          clear Hz az; intro az Hz
          refine LT Hz rfl rfl (r_neBr Tryd.underlying4 Hz rfl rfl) rfl ?_
          clear Hz az; intro az Hz
          refine L (r_pick Hz rfl rfl rfl) Hz rfl ?_
          clear Hz az; intro az Hz
          refine hK100 _ _ ?_
          refine br_false Hz rfl ?_
          refine wp_skip ?_
          refine hK43 _ _ ?_
          -- law.go:119
          refine wp_region_lit ?_
          refine L (r_mv Hz rfl) Hz rfl ?_
          clear Hz az; intro az Hz
          have i113 : I64 (((k : Int) + 1)) := by unfold I64; omega
          refine L (r_addI (r := ((k : Int) + 1)) Hz rfl rfl rfl i113) Hz rfl ?_
          clear Hz az; intro az Hz
          refine L (r_as Hz rfl) Hz rfl ?_
          clear Hz az; intro az Hz
          have hfn2 := Wr.int_fine hfs
          have hln2 := Wr.len_of hfn2 (Wr.int_was st)
          have O114 : Only NoF w w111 := (Only.trans' (Only.trans' (Only.trans' (Only.trans' (o_sg (o_sg O91 o95 (Nat.le_refl _) (oneF_ge (Nat.le_trans (size_only o5) hg16))) o99 (Nat.le_refl _) (oneF_ge (Nat.le_trans (size_only O38) hg22))) o103) o106) o109) o112)
          have B115 := (Blk.k (Blk.k B107 o109) o112)
          have B116 := (Blk.k B110 o112)
          exact ⟨_, (by omega), k + 1, (Wr.int st).2, rfl, Hz.cut ⟨rfl, rfl, rfl, rfl, rfl, trivial⟩, (by omega), hfn2, (Nat.le_trans hln2 hrl), O114, B115, B116⟩
        · -- else4
          have p117 := of_decide_eq_false hc88
          refine wp_seq_k fun K118 hK118 => ?_
          -- law.go:126
          refine wp_region_lit ?_
          refine L (r_eqI Hz rfl rfl) Hz rfl ?_
          clear Hz az; intro az Hz
          refine L (r_as Hz rfl) Hz rfl ?_
          clear Hz az; intro az Hz
          refine hK118 _ _ ?_
          refine br Hz rfl (fun hc119 => ?_) (fun hc119 => ?_)
          · -- if5
            have p120 := of_decide_eq_true hc119
            -- law.go:127
            refine wp_region_lit ?_
            refine L (r_mv Hz rfl) Hz rfl ?_
            clear Hz az; intro az Hz
            have O122 : Only NoF w w54 := (Only.trans' o34 o55)
            have G121 := Gr.k hG O122
            have B123 := (Blk.k B36 o55)
            refine LC Hz rfl rfl Tryd.call31 (rText_v (s := st) G121 B123 (Nat.le_trans hG.1 (Nat.le_trans (Nat.le_refl _) (Nat.le_trans (size_only o5) hg16))) (by omega)) rfl ?_
            rintro e w124 ⟨rfl, B125, o126⟩; refine ⟨_, rfl, ?_⟩
            clear Hz az; intro az Hz
            refine L (r_mv Hz rfl) Hz rfl ?_
            clear Hz az; intro az Hz
            have B127 := (Blk.st (Blk.k B37 o55) o126 ne31)
            refine LC Hz rfl rfl Tryd.call41 (vrText_v (s := st) B127 hfs) rfl ?_
            rintro e w128 ⟨rfl, B129, o130⟩; refine ⟨_, rfl, ?_⟩
            clear Hz az; intro az Hz
            refine L (r_eqSr Hz rfl rfl) Hz rfl ?_
            clear Hz az; intro az Hz
            refine L (r_as Hz rfl) Hz rfl ?_
            clear Hz az; intro az Hz
            refine hK45 _ _ ?_
            refine wp_seq_k fun K131 hK131 => ?_
            -- law.go:133
            refine wp_region_lit ?_
            refine L (r_mv Hz rfl) Hz rfl ?_
            clear Hz az; intro az Hz
            refine L (r_not Hz rfl) Hz rfl ?_
            clear Hz az; intro az Hz
            refine L (r_mv Hz rfl) Hz rfl ?_
            clear Hz az; intro az Hz
            refine LT Hz rfl rfl (r_mv Hz rfl) rfl ?_
            clear Hz az; intro az Hz
            have B132 := (Blk.st B125 o130 ne30)
            refine LGV (v := .int .i64 (((List.length ((Wr.text st).2.r) : Nat) : Int))) Hz rfl rfl gd_f rfl (fun hb => rfl) Tryd.call34 (fun hb => rLeft_v (s := (Wr.text st).2) B132) rfl fun w133 o134 => ?_
            clear Hz az; intro az Hz
            refine LT Hz rfl rfl (r_mv Hz rfl) rfl ?_
            clear Hz az; intro az Hz
            have B135 := (Blk.k B129 o134)
            refine LGV (v := .int .i64 (((List.length ((Wr.text st).2.r) : Nat) : Int))) Hz rfl rfl gd_f rfl (fun hb => rfl) Tryd.call46 (fun hb => vrLeft_v (s := (Wr.text st).2) B135) rfl fun w136 o137 => ?_
            clear Hz az; intro az Hz
            refine LT Hz rfl rfl (r_neRI Hz rfl rfl) rfl ?_
            clear Hz az; intro az Hz
            refine L (r_pick Hz rfl rfl rfl) Hz rfl ?_
            clear Hz az; intro az Hz
            refine L (r_mv Hz rfl) Hz rfl ?_
            clear Hz az; intro az Hz
            refine LT Hz rfl rfl (r_mv Hz rfl) rfl ?_
            clear Hz az; intro az Hz
            have B138 := (Blk.k (Blk.k B132 o134) o137)
            refine LGV (v := .bool (Wr.done ((Wr.text st).2))) Hz rfl rfl gd_f rfl (fun hb => rfl) Tryd.call35 (fun hb => rDone_v (s := (Wr.text st).2) B138) rfl fun w139 o140 => ?_
            clear Hz az; intro az Hz
            refine LT Hz rfl rfl (r_mv Hz rfl) rfl ?_
            clear Hz az; intro az Hz
            have B141 := (Blk.k (Blk.k B135 o137) o140)
            refine LGV (v := .bool (Wr.done ((Wr.text st).2))) Hz rfl rfl gd_f rfl (fun hb => rfl) Tryd.call47 (fun hb => vrDone_v (s := (Wr.text st).2) B141) rfl fun w142 o143 => ?_
            clear Hz az; intro az Hz
            refine LT Hz rfl rfl (r_neBr Tryd.underlying4 Hz rfl rfl) rfl ?_
            clear Hz az; intro az Hz
            refine L (r_pick Hz rfl rfl rfl) Hz rfl ?_
            clear Hz az; intro az Hz
            refine hK131 _ _ ?_
            refine br_false Hz rfl ?_
            refine wp_skip ?_
            refine hK43 _ _ ?_
            -- law.go:119
            refine wp_region_lit ?_
            refine L (r_mv Hz rfl) Hz rfl ?_
            clear Hz az; intro az Hz
            have i144 : I64 (((k : Int) + 1)) := by unfold I64; omega
            refine L (r_addI (r := ((k : Int) + 1)) Hz rfl rfl rfl i144) Hz rfl ?_
            clear Hz az; intro az Hz
            refine L (r_as Hz rfl) Hz rfl ?_
            clear Hz az; intro az Hz
            have hfn2 := Wr.text_fine hfs
            have hln2 := Wr.len_of hfn2 (Wr.text_was st)
            have O145 : Only NoF w w142 := (Only.trans' (Only.trans' (Only.trans' (Only.trans' (o_sg (o_sg O122 o126 (Nat.le_refl _) (oneF_ge (Nat.le_trans (size_only o5) hg16))) o130 (Nat.le_refl _) (oneF_ge (Nat.le_trans (size_only O38) hg22))) o134) o137) o140) o143)
            have B146 := (Blk.k (Blk.k B138 o140) o143)
            have B147 := (Blk.k B141 o143)
            exact ⟨_, (by omega), k + 1, (Wr.text st).2, rfl, Hz.cut ⟨rfl, rfl, rfl, rfl, rfl, trivial⟩, (by omega), hfn2, (Nat.le_trans hln2 hrl), O145, B146, B147⟩
          · -- else5
            have p148 := of_decide_eq_false hc119
            refine wp_seq_k fun K149 hK149 => ?_
            -- law.go:128
            refine wp_region_lit ?_
            refine L (r_eqI Hz rfl rfl) Hz rfl ?_
            clear Hz az; intro az Hz
            refine L (r_as Hz rfl) Hz rfl ?_
            clear Hz az; intro az Hz
            refine hK149 _ _ ?_
            refine br Hz rfl (fun hc150 => ?_) (fun hc150 => ?_)
            · -- if6
              have p151 := of_decide_eq_true hc150
              -- law.go:129
              refine wp_region_lit ?_
              refine L (r_mv Hz rfl) Hz rfl ?_
              clear Hz az; intro az Hz
              have O160 : Only NoF w w54 := (Only.trans' o34 o55)
              have G159 := Gr.k hG O160
              have B161 := (Blk.k B36 o55)
              refine LC Hz rfl rfl Tryd.call32 (rNums_v (s := st) G159 B161 (Nat.le_trans hG.1 (Nat.le_trans (Nat.le_refl _) (Nat.le_trans (size_only o5) hg16))) (by omega) hfs) rfl ?_
              rintro e w152 ⟨A155, c156, rfl, r157, k158, B153, o154⟩; refine ⟨_, rfl, ?_⟩
              clear Hz az; intro az Hz
              refine L (r_mv Hz rfl) Hz rfl ?_
              clear Hz az; intro az Hz
              have B169 := (Blk.st (Blk.k B37 o55) o154 ne31)
              refine LC Hz rfl rfl Tryd.call43 (vrNums_v (s := st) B169 (by omega) hfs) rfl ?_
              rintro e w162 ⟨A165, c166, rfl, r167, k168, B163, o164⟩; refine ⟨_, rfl, ?_⟩
              clear Hz az; intro az Hz
              have h170 := Row.own KInt r157 k158
              have h171 := (SliceOf.kp h170 o164 (ge_F (oneF_lt (Blk.lt B37)) (size_only o55)) (fun _ _ _ _ h => h))
              have h172 := SliceOf.pl h171
              have h173 := Row.own KInt r167 k168
              have h174 := SliceOf.pl h173
              refine LCV (v := .bool (true)) Hz rfl rfl Tryd.call42 (fix_eq (congrArg Value.bool (decide_eq_true rfl)) (SameNums_v h172 h174)) rfl fun w175 o176 => ?_
              clear Hz az; intro az Hz
              refine L (r_as Hz rfl) Hz rfl ?_
              clear Hz az; intro az Hz
              refine hK45 _ _ ?_
              refine wp_seq_k fun K177 hK177 => ?_
              -- law.go:133
              refine wp_region_lit ?_
              refine L (r_mv Hz rfl) Hz rfl ?_
              clear Hz az; intro az Hz
              refine L (r_not Hz rfl) Hz rfl ?_
              clear Hz az; intro az Hz
              refine L (r_mv Hz rfl) Hz rfl ?_
              clear Hz az; intro az Hz
              refine LT Hz rfl rfl (r_mv Hz rfl) rfl ?_
              clear Hz az; intro az Hz
              have B178 := (Blk.k (Blk.st B153 o164 ne30) o176)
              refine LGV (v := .int .i64 (((List.length ((Wr.nums st).2.r) : Nat) : Int))) Hz rfl rfl gd_f rfl (fun hb => rfl) Tryd.call34 (fun hb => rLeft_v (s := (Wr.nums st).2) B178) rfl fun w179 o180 => ?_
              clear Hz az; intro az Hz
              refine LT Hz rfl rfl (r_mv Hz rfl) rfl ?_
              clear Hz az; intro az Hz
              have B181 := (Blk.k (Blk.k B163 o176) o180)
              refine LGV (v := .int .i64 (((List.length ((Wr.nums st).2.r) : Nat) : Int))) Hz rfl rfl gd_f rfl (fun hb => rfl) Tryd.call46 (fun hb => vrLeft_v (s := (Wr.nums st).2) B181) rfl fun w182 o183 => ?_
              clear Hz az; intro az Hz
              refine LT Hz rfl rfl (r_neRI Hz rfl rfl) rfl ?_
              clear Hz az; intro az Hz
              refine L (r_pick Hz rfl rfl rfl) Hz rfl ?_
              clear Hz az; intro az Hz
              refine L (r_mv Hz rfl) Hz rfl ?_
              clear Hz az; intro az Hz
              refine LT Hz rfl rfl (r_mv Hz rfl) rfl ?_
              clear Hz az; intro az Hz
              have B184 := (Blk.k (Blk.k B178 o180) o183)
              refine LGV (v := .bool (Wr.done ((Wr.nums st).2))) Hz rfl rfl gd_f rfl (fun hb => rfl) Tryd.call35 (fun hb => rDone_v (s := (Wr.nums st).2) B184) rfl fun w185 o186 => ?_
              clear Hz az; intro az Hz
              refine LT Hz rfl rfl (r_mv Hz rfl) rfl ?_
              clear Hz az; intro az Hz
              have B187 := (Blk.k (Blk.k B181 o183) o186)
              refine LGV (v := .bool (Wr.done ((Wr.nums st).2))) Hz rfl rfl gd_f rfl (fun hb => rfl) Tryd.call47 (fun hb => vrDone_v (s := (Wr.nums st).2) B187) rfl fun w188 o189 => ?_
              clear Hz az; intro az Hz
              refine LT Hz rfl rfl (r_neBr Tryd.underlying4 Hz rfl rfl) rfl ?_
              clear Hz az; intro az Hz
              refine L (r_pick Hz rfl rfl rfl) Hz rfl ?_
              clear Hz az; intro az Hz
              refine hK177 _ _ ?_
              refine br_false Hz rfl ?_
              refine wp_skip ?_
              refine hK43 _ _ ?_
              -- law.go:119
              refine wp_region_lit ?_
              refine L (r_mv Hz rfl) Hz rfl ?_
              clear Hz az; intro az Hz
              have i190 : I64 (((k : Int) + 1)) := by unfold I64; omega
              refine L (r_addI (r := ((k : Int) + 1)) Hz rfl rfl rfl i190) Hz rfl ?_
              clear Hz az; intro az Hz
              refine L (r_as Hz rfl) Hz rfl ?_
              clear Hz az; intro az Hz
              have hfn2 := Wr.nums_fine hfs
              have hln2 := Wr.len_of hfn2 (Wr.nums_was st)
              have O191 : Only NoF w w188 := (Only.trans' (Only.trans' (Only.trans' (Only.trans' (Only.trans' (o_sg (o_sg O160 o154 (Nat.le_refl _) (oneF_ge (Nat.le_trans (size_only o5) hg16))) o164 (Nat.le_refl _) (oneF_ge (Nat.le_trans (size_only O38) hg22))) o176) o180) o183) o186) o189)
              have B192 := (Blk.k (Blk.k B184 o186) o189)
              have B193 := (Blk.k B187 o189)
              exact ⟨_, (by omega), k + 1, (Wr.nums st).2, rfl, Hz.cut ⟨rfl, rfl, rfl, rfl, rfl, trivial⟩, (by omega), hfn2, (Nat.le_trans hln2 hrl), O191, B192, B193⟩
            · -- else6
              have p194 := of_decide_eq_false hc150
              -- law.go:131
              refine wp_region_lit ?_
              refine L (r_mv Hz rfl) Hz rfl ?_
              clear Hz az; intro az Hz
              have O203 : Only NoF w w54 := (Only.trans' o34 o55)
              have G202 := Gr.k hG O203
              have B204 := (Blk.k B36 o55)
              refine LC Hz rfl rfl Tryd.call33 (rTexts_v (s := st) G202 B204 (Nat.le_trans hG.1 (Nat.le_trans (Nat.le_refl _) (Nat.le_trans (size_only o5) hg16))) (by omega) hfs) rfl ?_
              rintro e w195 ⟨A198, c199, rfl, r200, k201, B196, o197⟩; refine ⟨_, rfl, ?_⟩
              clear Hz az; intro az Hz
              refine L (r_mv Hz rfl) Hz rfl ?_
              clear Hz az; intro az Hz
              have B212 := (Blk.st (Blk.k B37 o55) o197 ne31)
              refine LC Hz rfl rfl Tryd.call45 (vrTexts_v (s := st) B212 (by omega) hfs) rfl ?_
              rintro e w205 ⟨A208, c209, rfl, r210, k211, B206, o207⟩; refine ⟨_, rfl, ?_⟩
              clear Hz az; intro az Hz
              have h213 := Row.own KStr r200 k201
              have h214 := (SliceOf.kp h213 o207 (ge_F (oneF_lt (Blk.lt B37)) (size_only o55)) (fun _ _ _ _ h => h))
              have h215 := SliceOf.pl h214
              have h216 := Row.own KStr r210 k211
              have h217 := SliceOf.pl h216
              refine LCV (v := .bool (true)) Hz rfl rfl Tryd.call44 (fix_eq (congrArg Value.bool (decide_eq_true rfl)) (SameTexts_v h215 h217)) rfl fun w218 o219 => ?_
              clear Hz az; intro az Hz
              refine L (r_as Hz rfl) Hz rfl ?_
              clear Hz az; intro az Hz
              refine hK45 _ _ ?_
              refine wp_seq_k fun K220 hK220 => ?_
              -- law.go:133
              refine wp_region_lit ?_
              refine L (r_mv Hz rfl) Hz rfl ?_
              clear Hz az; intro az Hz
              refine L (r_not Hz rfl) Hz rfl ?_
              clear Hz az; intro az Hz
              refine L (r_mv Hz rfl) Hz rfl ?_
              clear Hz az; intro az Hz
              refine LT Hz rfl rfl (r_mv Hz rfl) rfl ?_
              clear Hz az; intro az Hz
              have B221 := (Blk.k (Blk.st B196 o207 ne30) o219)
              refine LGV (v := .int .i64 (((List.length ((Wr.texts st).2.r) : Nat) : Int))) Hz rfl rfl gd_f rfl (fun hb => rfl) Tryd.call34 (fun hb => rLeft_v (s := (Wr.texts st).2) B221) rfl fun w222 o223 => ?_
              clear Hz az; intro az Hz
              refine LT Hz rfl rfl (r_mv Hz rfl) rfl ?_
              clear Hz az; intro az Hz
              have B224 := (Blk.k (Blk.k B206 o219) o223)
              refine LGV (v := .int .i64 (((List.length ((Wr.texts st).2.r) : Nat) : Int))) Hz rfl rfl gd_f rfl (fun hb => rfl) Tryd.call46 (fun hb => vrLeft_v (s := (Wr.texts st).2) B224) rfl fun w225 o226 => ?_
              clear Hz az; intro az Hz
              refine LT Hz rfl rfl (r_neRI Hz rfl rfl) rfl ?_
              clear Hz az; intro az Hz
              refine L (r_pick Hz rfl rfl rfl) Hz rfl ?_
              clear Hz az; intro az Hz
              refine L (r_mv Hz rfl) Hz rfl ?_
              clear Hz az; intro az Hz
              refine LT Hz rfl rfl (r_mv Hz rfl) rfl ?_
              clear Hz az; intro az Hz
              have B227 := (Blk.k (Blk.k B221 o223) o226)
              refine LGV (v := .bool (Wr.done ((Wr.texts st).2))) Hz rfl rfl gd_f rfl (fun hb => rfl) Tryd.call35 (fun hb => rDone_v (s := (Wr.texts st).2) B227) rfl fun w228 o229 => ?_
              clear Hz az; intro az Hz
              refine LT Hz rfl rfl (r_mv Hz rfl) rfl ?_
              clear Hz az; intro az Hz
              have B230 := (Blk.k (Blk.k B224 o226) o229)
              refine LGV (v := .bool (Wr.done ((Wr.texts st).2))) Hz rfl rfl gd_f rfl (fun hb => rfl) Tryd.call47 (fun hb => vrDone_v (s := (Wr.texts st).2) B230) rfl fun w231 o232 => ?_
              clear Hz az; intro az Hz
              refine LT Hz rfl rfl (r_neBr Tryd.underlying4 Hz rfl rfl) rfl ?_
              clear Hz az; intro az Hz
              refine L (r_pick Hz rfl rfl rfl) Hz rfl ?_
              clear Hz az; intro az Hz
              refine hK220 _ _ ?_
              refine br_false Hz rfl ?_
              refine wp_skip ?_
              refine hK43 _ _ ?_
              -- law.go:119
              refine wp_region_lit ?_
              refine L (r_mv Hz rfl) Hz rfl ?_
              clear Hz az; intro az Hz
              have i233 : I64 (((k : Int) + 1)) := by unfold I64; omega
              refine L (r_addI (r := ((k : Int) + 1)) Hz rfl rfl rfl i233) Hz rfl ?_
              clear Hz az; intro az Hz
              refine L (r_as Hz rfl) Hz rfl ?_
              clear Hz az; intro az Hz
              have hfn2 := Wr.texts_fine hfs
              have hln2 := Wr.len_of hfn2 (Wr.texts_was st)
              have O234 : Only NoF w w231 := (Only.trans' (Only.trans' (Only.trans' (Only.trans' (Only.trans' (o_sg (o_sg O203 o197 (Nat.le_refl _) (oneF_ge (Nat.le_trans (size_only o5) hg16))) o207 (Nat.le_refl _) (oneF_ge (Nat.le_trans (size_only O38) hg22))) o219) o223) o226) o229) o232)
              have B235 := (Blk.k (Blk.k B227 o229) o232)
              have B236 := (Blk.k B230 o232)
              exact ⟨_, (by omega), k + 1, (Wr.texts st).2, rfl, Hz.cut ⟨rfl, rfl, rfl, rfl, rfl, trivial⟩, (by omega), hfn2, (Nat.le_trans hln2 hrl), O234, B235, B236⟩
    · -- else2
      have p237 := of_decide_eq_false hc41
      refine wp_exit ?_
      refine th_exit ?_
      refine th_exit ?_
      refine ib_hit ?_
      refine hK27 _ _ ?_
      refine wp_seq_k fun K238 hK238 => ?_
      -- law.go:137
      refine wp_region_lit ?_
      refine L (r_mv Hz rfl) Hz rfl ?_
      clear Hz az; intro az Hz
      refine L (r_mv Hz rfl) Hz rfl ?_
      clear Hz az; intro az Hz
      refine LT Hz rfl rfl (r_mv Hz rfl) rfl ?_
      clear Hz az; intro az Hz
      refine LCT Hz rfl rfl rfl rfl Tryd.call48 (rRest_v (s := st) B36) rfl ?_
      rintro e w239 ⟨rfl, B240, o241⟩; refine ⟨_, rfl, ?_⟩
      clear Hz az; intro az Hz
      refine LT Hz rfl rfl (r_mv Hz rfl) rfl ?_
      clear Hz az; intro az Hz
      have B242 := (Blk.st B37 o241 ne31)
      refine LCT Hz rfl rfl rfl rfl Tryd.call49 (vrTail_v (s := st) B242) rfl ?_
      rintro e w243 ⟨rfl, B244, o245⟩; refine ⟨_, rfl, ?_⟩
      clear Hz az; intro az Hz
      refine LT Hz rfl rfl (r_eqSr Hz rfl rfl) rfl ?_
      clear Hz az; intro az Hz
      refine L (r_pick Hz rfl rfl rfl) Hz rfl ?_
      clear Hz az; intro az Hz
      refine L (r_mv Hz rfl) Hz rfl ?_
      clear Hz az; intro az Hz
      refine LT Hz rfl rfl (r_mv Hz rfl) rfl ?_
      clear Hz az; intro az Hz
      have B246 := (Blk.st B240 o245 ne30)
      refine LGV (v := .int .i64 (((List.length ((⟨[], st.b⟩ : Wr.Rd).r) : Nat) : Int))) Hz rfl rfl gd_t rfl (fun hb => rfl) Tryd.call34 (fun hb => rLeft_v (s := (⟨[], st.b⟩ : Wr.Rd)) B246) rfl fun w247 o248 => ?_
      clear Hz az; intro az Hz
      refine LT Hz rfl rfl (r_mv Hz rfl) rfl ?_
      clear Hz az; intro az Hz
      have B249 := (Blk.k B244 o248)
      refine LGV (v := .int .i64 (((List.length ((⟨[], st.b⟩ : Wr.Rd).r) : Nat) : Int))) Hz rfl rfl gd_t rfl (fun hb => rfl) Tryd.call46 (fun hb => vrLeft_v (s := (⟨[], st.b⟩ : Wr.Rd)) B249) rfl fun w250 o251 => ?_
      clear Hz az; intro az Hz
      refine LT Hz rfl rfl (r_eqRI Hz rfl rfl) rfl ?_
      clear Hz az; intro az Hz
      refine L (r_pick Hz rfl rfl rfl) Hz rfl ?_
      clear Hz az; intro az Hz
      refine L (r_mv Hz rfl) Hz rfl ?_
      clear Hz az; intro az Hz
      refine LT Hz rfl rfl (r_mv Hz rfl) rfl ?_
      clear Hz az; intro az Hz
      have B252 := (Blk.k (Blk.k B246 o248) o251)
      refine LGV (v := .bool (Wr.done (⟨[], st.b⟩ : Wr.Rd))) Hz rfl rfl gd_t rfl (fun hb => rfl) Tryd.call35 (fun hb => rDone_v (s := (⟨[], st.b⟩ : Wr.Rd)) B252) rfl fun w253 o254 => ?_
      clear Hz az; intro az Hz
      refine LT Hz rfl rfl (r_mv Hz rfl) rfl ?_
      clear Hz az; intro az Hz
      have B255 := (Blk.k (Blk.k B249 o251) o254)
      refine LGV (v := .bool (Wr.done (⟨[], st.b⟩ : Wr.Rd))) Hz rfl rfl gd_t rfl (fun hb => rfl) Tryd.call47 (fun hb => vrDone_v (s := (⟨[], st.b⟩ : Wr.Rd)) B255) rfl fun w256 o257 => ?_
      clear Hz az; intro az Hz
      refine LT Hz rfl rfl (r_eqRBu Tryd.underlying4 Hz rfl rfl) rfl ?_
      clear Hz az; intro az Hz
      refine L (r_pick Hz rfl rfl rfl) Hz rfl ?_
      clear Hz az; intro az Hz
      refine L (r_as Hz rfl) Hz rfl ?_
      clear Hz az; intro az Hz
      refine hK238 _ _ ?_
      refine wp_ret ?_
      show bodyPost _ _ _ .ret _ _
      refine ret_of (vs := [.bool (true)]) Hz Tryd.results7 ⟨rfl, trivial⟩ ?_
      have O258 : Only NoF w w256 := (Only.trans' (Only.trans' (Only.trans' (Only.trans' (o_sg (o_sg o34 o241 (Nat.le_refl _) (oneF_ge (Nat.le_trans (size_only o5) hg16))) o245 (Nat.le_refl _) (oneF_ge (Nat.le_trans (size_only O38) hg22))) o248) o251) o254) o257)
      exact ⟨rfl, O258⟩

theorem reads_v {w : World} (hG : Gr w) {t : Str} {v : Value} {l : List Int} (_ : t.length ≤ maxLen) (h : IntsV w v l) : Calls Tryd.prog 7 #[strV t, v] w (Fix (.bool true) w) := by
  obtain ⟨A1, c1, rfl, _⟩ := SliceOf.shape h
  exact reads_v_ hG h
end Go.Proofs.YtgmnoianhonihaaDoor
