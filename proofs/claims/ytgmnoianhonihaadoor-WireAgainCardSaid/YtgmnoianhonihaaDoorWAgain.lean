/-
  WireAgain, walked: it returns true. No condition but the listed variables.
-/
import Derived.Test.YtgmnoianhonihaaDoorWW5
namespace Go.Proofs.YtgmnoianhonihaaDoor
set_option linter.unusedVariables false
set_option linter.unusedSimpArgs false
set_option linter.unusedSectionVars false
open Go.RowKit

theorem build_Val1 (k : Int) (w : World) : (Instr.build 25 #[(0, .int .i64 k)]).run Tryd.prog w = .ok (.agg #[.int .i64 k, .int .i64 0, strV [], .slice none 0 0, .slice none 0 0]) w := by kernel_rfl
set_option maxRecDepth 20000 in
set_option maxHeartbeats 4000000 in
theorem again_v {w : World} (hG : Gr w) {s : Str} {what : Int} (hx : Wr.Ok what) : Calls Tryd.prog 4 [strV s, .int .i64 what].toArray w (Fix (.bool true) w) := by
  refine calls_start Tryd.func4 rfl rfl ?_
  intro az Hz
  rw [Tryd.ntmps4] at Hz
  refine wp_seq_k fun K1 hK1 => ?_
  -- law.go:165
  refine wp_region_lit ?_
  refine L (r_as Hz rfl) Hz rfl ?_
  clear Hz az; intro az Hz
  refine hK1 _ _ ?_
  refine wp_seq_k fun K2 hK2 => ?_
  -- law.go:166
  refine wp_region_lit ?_
  have G3 := Gr.k hG (Only.refl NoF w)
  refine LCV (v := .bool (true)) Hz rfl rfl Tryd.call15 (small_v G3) rfl fun w4 o5 => ?_
  clear Hz az; intro az Hz
  refine L (r_as Hz rfl) Hz rfl ?_
  clear Hz az; intro az Hz
  refine hK2 _ _ ?_
  refine wp_seq_k fun K6 hK6 => ?_
  refine wp_seq_k fun K7 hK7 => ?_
  -- law.go:167
  refine wp_region_lit ?_
  refine L (r_mv Hz rfl) Hz rfl ?_
  clear Hz az; intro az Hz
  refine L (r_lenS Tryd.underlying9 Hz rfl) Hz rfl ?_
  clear Hz az; intro az Hz
  refine L (r_gtI Hz rfl rfl) Hz rfl ?_
  clear Hz az; intro az Hz
  refine hK7 _ _ ?_
  refine br Hz rfl (fun hc8 => ?_) (fun hc8 => ?_)
  · -- if0
    have p9 := of_decide_eq_true hc8
    refine wp_seq_k fun K10 hK10 => ?_
    -- law.go:168
    refine wp_region_lit ?_
    refine L (r_mv Hz rfl) Hz rfl ?_
    clear Hz az; intro az Hz
    refine L (r_as Hz rfl) Hz rfl ?_
    clear Hz az; intro az Hz
    refine hK10 _ _ ?_
    refine wp_ret ?_
    show bodyPost _ _ _ .ret _ _
    refine ret_of (vs := [.bool (true)]) Hz Tryd.results4 ⟨rfl, trivial⟩ ?_
    exact ⟨rfl, o5⟩
  · -- else0
    have p11 := of_decide_eq_false hc8
    refine wp_skip ?_
    refine hK6 _ _ ?_
    refine wp_seq_k fun K12 hK12 => ?_
    -- law.go:170
    refine wp_region_lit ?_
    refine L (r_mv Hz rfl) Hz rfl ?_
    clear Hz az; intro az Hz
    refine LC Hz rfl rfl Tryd.call27 (Open_v _ s) rfl ?_
    rintro e w14 ⟨g13, rfl, hg15, B16, o17⟩; refine ⟨_, rfl, ?_⟩
    clear Hz az; intro az Hz
    refine L (r_as Hz rfl) Hz rfl ?_
    clear Hz az; intro az Hz
    refine hK12 _ _ ?_
    refine wp_seq_k fun K18 hK18 => ?_
    refine wp_seq_k fun K19 hK19 => ?_
    -- law.go:171
    refine wp_region_lit ?_
    refine L (r_mv Hz rfl) Hz rfl ?_
    clear Hz az; intro az Hz
    refine L (r_eqP Tryd.underlying34 Hz rfl rfl) Hz rfl ?_
    clear Hz az; intro az Hz
    refine hK19 _ _ ?_
    refine br_false Hz rfl ?_
    refine wp_skip ?_
    refine hK18 _ _ ?_
    refine wp_seq_k fun K20 hK20 => ?_
    -- law.go:174
    refine wp_region_lit ?_
    refine L (r_as Hz rfl) Hz rfl ?_
    clear Hz az; intro az Hz
    refine hK20 _ _ ?_
    refine wp_seq_k fun K21 hK21 => ?_
    refine wp_seq_k fun K22 hK22 => ?_
    -- law.go:175
    refine wp_region_lit ?_
    refine L (r_mv Hz rfl) Hz rfl ?_
    clear Hz az; intro az Hz
    refine L (r_bd (v := .agg #[.int .i64 (what), .int .i64 (0), strV ([]), .slice none (0) 0, .slice none (0) 0]) (build_Val1 _) Hz rfl) Hz rfl ?_
    clear Hz az; intro az Hz
    refine LCV (v := .int .i64 ((Wr.kind what))) Hz rfl rfl Tryd.call28 (kind_v _ what _ _ _ _ hx) rfl fun w23 o24 => ?_
    clear Hz az; intro az Hz
    refine hK22 _ _ ?_
    refine wp_block ?_
    refine wp_seq_k fun K25 hK25 => ?_
    -- law.go:176
    refine wp_region_lit ?_
    refine L (r_eqI Hz rfl rfl) Hz rfl ?_
    clear Hz az; intro az Hz
    refine L (r_as Hz rfl) Hz rfl ?_
    clear Hz az; intro az Hz
    refine hK25 _ _ ?_
    refine br Hz rfl (fun hc26 => ?_) (fun hc26 => ?_)
    · -- if2
      have p27 := of_decide_eq_true hc26
      -- law.go:177
      refine wp_region_lit ?_
      refine L (r_mv Hz rfl) Hz rfl ?_
      clear Hz az; intro az Hz
      have O29 : Only NoF w w23 := (Only.trans' (Only.trans' o5 o17) o24)
      have G28 := Gr.k hG O29
      have B30 := (Blk.k B16 o24)
      refine LC Hz rfl rfl Tryd.call29 (rNum_v (s := (⟨s, false⟩ : Wr.Rd)) G28 B30 (Nat.le_trans hG.1 (Nat.le_trans (size_only o5) hg15)) (by show List.length s ≤ 1000000; omega)) rfl ?_
      rintro e w31 ⟨rfl, B32, o33⟩; refine ⟨_, rfl, ?_⟩
      clear Hz az; intro az Hz
      have O35 : Only NoF w w31 := (o_sg O29 o33 (size_only o5) (oneF_ge hg15))
      have G34 := Gr.k hG O35
      refine LCV (v := strV (Wr.numE ((Wr.num (⟨s, false⟩ : Wr.Rd)).1))) Hz rfl rfl Tryd.call17 (Num_v G34 ((Wr.num (⟨s, false⟩ : Wr.Rd)).1) (Wr.number_int _ _ _)) rfl fun w36 o37 => ?_
      clear Hz az; intro az Hz
      refine L (r_as Hz rfl) Hz rfl ?_
      clear Hz az; intro az Hz
      refine hK21 _ _ ?_
      refine wp_seq_k fun K38 hK38 => ?_
      refine wp_seq_k fun K39 hK39 => ?_
      -- law.go:187
      refine wp_region_lit ?_
      refine L (r_mv Hz rfl) Hz rfl ?_
      clear Hz az; intro az Hz
      have B40 := (Blk.k B32 o37)
      refine LCV (v := .int .i64 (((List.length ((Wr.num (⟨s, false⟩ : Wr.Rd)).2.r) : Nat) : Int))) Hz rfl rfl Tryd.call34 (rLeft_v (s := (Wr.num (⟨s, false⟩ : Wr.Rd)).2) B40) rfl fun w41 o42 => ?_
      clear Hz az; intro az Hz
      refine L (r_eqI Hz rfl rfl) Hz rfl ?_
      clear Hz az; intro az Hz
      refine L (r_mv Hz rfl) Hz rfl ?_
      clear Hz az; intro az Hz
      refine LG Hz rfl rfl gd_t (fun hb => r_mv Hz rfl) rfl ?_
      clear Hz az; intro az Hz
      have B43 := (Blk.k B40 o42)
      refine LGV (v := .bool (Wr.done ((Wr.num (⟨s, false⟩ : Wr.Rd)).2))) Hz rfl rfl gd_t rfl (fun hb => (evs_c (evg hb rfl) rfl)) Tryd.call35 (fun hb => rDone_v (s := (Wr.num (⟨s, false⟩ : Wr.Rd)).2) B43) rfl fun w44 o45 => ?_
      clear Hz az; intro az Hz
      refine LG Hz rfl rfl gd_t (fun hb => r_not Hz (evg hb rfl)) rfl ?_
      clear Hz az; intro az Hz
      refine L (r_and Hz rfl rfl rfl) Hz rfl ?_
      clear Hz az; intro az Hz
      refine hK39 _ _ ?_
      refine br Hz rfl (fun hc46 => ?_) (fun hc46 => ?_)
      · -- if6
        have p47 := of_decide_eq_true (and_t hc46).1
        have q48 : Wr.done ((Wr.num (⟨s, false⟩ : Wr.Rd)).2) = false := (nt_t (and_t hc46).2)
        refine wp_seq_k fun K49 hK49 => ?_
        -- law.go:188
        refine wp_region_lit ?_
        refine L (r_mv Hz rfl) Hz rfl ?_
        clear Hz az; intro az Hz
        refine L (r_as Hz rfl) Hz rfl ?_
        clear Hz az; intro az Hz
        refine hK49 _ _ ?_
        refine wp_ret ?_
        show bodyPost _ _ _ .ret _ _
        refine ret_of (vs := [.bool (true)]) Hz Tryd.results4 ⟨rfl, trivial⟩ ?_
        have O50 : Only NoF w w44 := (Only.trans' (Only.trans' (Only.trans' O35 o37) o42) o45)
        exact ⟨rfl, O50⟩
      · -- else6
        have d51 := hc46
        obtain ⟨hle, hE⟩ := Wr.again (s := s) (Wr.num_fine (s := (⟨s, false⟩ : Wr.Rd)) (fun h => by cases h)) (Wr.num_was (⟨s, false⟩ : Wr.Rd)) hc46
        refine wp_skip ?_
        refine hK38 _ _ ?_
        refine wp_seq_k fun K52 hK52 => ?_
        -- law.go:190
        refine wp_region_lit ?_
        refine L (r_mv Hz rfl) Hz rfl ?_
        clear Hz az; intro az Hz
        refine L (r_lenS Tryd.underlying9 Hz rfl) Hz rfl ?_
        clear Hz az; intro az Hz
        refine L (r_mv Hz rfl) Hz rfl ?_
        clear Hz az; intro az Hz
        have B53 := (Blk.k B43 o45)
        refine LCV (v := .int .i64 (((List.length ((Wr.num (⟨s, false⟩ : Wr.Rd)).2.r) : Nat) : Int))) Hz rfl rfl Tryd.call34 (rLeft_v (s := (Wr.num (⟨s, false⟩ : Wr.Rd)).2) B53) rfl fun w54 o55 => ?_
        clear Hz az; intro az Hz
        have i56 : I64 ((((List.length (s) : Nat) : Int) - ((List.length ((Wr.num (⟨s, false⟩ : Wr.Rd)).2.r) : Nat) : Int))) := by unfold I64; omega
        refine L (r_subI (r := (((List.length (s) : Nat) : Int) - ((List.length ((Wr.num (⟨s, false⟩ : Wr.Rd)).2.r) : Nat) : Int))) Hz rfl rfl rfl i56) Hz rfl ?_
        clear Hz az; intro az Hz
        refine L (r_as Hz rfl) Hz rfl ?_
        clear Hz az; intro az Hz
        refine hK52 _ _ ?_
        refine wp_seq_k fun K57 hK57 => ?_
        -- law.go:191
        refine wp_region_lit ?_
        refine L (r_mv Hz rfl) Hz rfl ?_
        clear Hz az; intro az Hz
        refine L (r_mv Hz rfl) Hz rfl ?_
        clear Hz az; intro az Hz
        refine LT Hz rfl rfl (r_mv Hz rfl) rfl ?_
        clear Hz az; intro az Hz
        refine LT Hz rfl rfl (r_geI Hz rfl rfl) rfl ?_
        clear Hz az; intro az Hz
        refine L (r_pick Hz rfl rfl rfl) Hz rfl ?_
        clear Hz az; intro az Hz
        refine L (r_mv Hz rfl) Hz rfl ?_
        clear Hz az; intro az Hz
        refine LG Hz rfl rfl gd_t (fun hb => r_mv Hz rfl) rfl ?_
        clear Hz az; intro az Hz
        refine LG Hz rfl rfl gd_t (fun hb => r_mv Hz rfl) rfl ?_
        clear Hz az; intro az Hz
        refine LG Hz rfl rfl gd_t (fun hb => r_lenS Tryd.underlying9 Hz (evg hb rfl)) rfl ?_
        clear Hz az; intro az Hz
        refine LG Hz rfl rfl gd_t (fun hb => r_leI Hz (evg hb rfl) (evg hb rfl)) rfl ?_
        clear Hz az; intro az Hz
        refine L (r_and Hz rfl rfl rfl) Hz rfl ?_
        clear Hz az; intro az Hz
        refine L (r_mv Hz rfl) Hz rfl ?_
        clear Hz az; intro az Hz
        refine LG Hz rfl rfl gd_t (fun hb => r_mv Hz rfl) rfl ?_
        clear Hz az; intro az Hz
        refine LG Hz rfl rfl gd_t (fun hb => r_mv Hz rfl) rfl ?_
        clear Hz az; intro az Hz
        refine LG Hz rfl rfl gd_t (fun hb => r_mv Hz rfl) rfl ?_
        clear Hz az; intro az Hz
        refine LG Hz rfl rfl gd_t (fun hb => r_mv Hz rfl) rfl ?_
        clear Hz az; intro az Hz
        refine LG Hz rfl rfl gd_t (fun hb => r_lenS Tryd.underlying9 Hz (evg hb rfl)) rfl ?_
        clear Hz az; intro az Hz
        refine LG Hz rfl rfl gd_t (fun hb => r_min Hz (evg hb rfl) (evg hb rfl)) rfl ?_
        clear Hz az; intro az Hz
        refine LG Hz rfl rfl gd_t (fun hb => r_max Hz rfl (evg hb rfl)) rfl ?_
        clear Hz az; intro az Hz
        have z58 : (max (0) ((min ((((List.length (s) : Nat) : Int) - ((List.length ((Wr.num (⟨s, false⟩ : Wr.Rd)).2.r) : Nat) : Int))) (((List.length (s) : Nat) : Int))))) = ((s.length - List.length (Wr.num (⟨s, false⟩ : Wr.Rd)).2.r : Nat) : Int) := by omega
        have le59 : (s.length - List.length (Wr.num (⟨s, false⟩ : Wr.Rd)).2.r) ≤ List.length (s) := by omega
        refine LG Hz rfl rfl gd_t (fun hb => r_ssh (m := (s.length - List.length (Wr.num (⟨s, false⟩ : Wr.Rd)).2.r)) Tryd.underlying9 Hz (evg hb rfl) (evg hb rfl) z58 le59) rfl ?_
        clear Hz az; intro az Hz
        refine LG Hz rfl rfl gd_t (fun hb => r_eqS Hz (evg hb rfl) (evg hb rfl)) rfl ?_
        clear Hz az; intro az Hz
        refine L (r_and Hz rfl rfl rfl) Hz rfl ?_
        clear Hz az; intro az Hz
        refine L (r_as Hz rfl) Hz rfl ?_
        clear Hz az; intro az Hz
        refine hK57 _ _ ?_
        refine wp_ret ?_
        show bodyPost _ _ _ .ret _ _
        refine ret_of (vs := [.bool ((((decide (0 ≤ (((List.length (s) : Nat) : Int) - ((List.length ((Wr.num (⟨s, false⟩ : Wr.Rd)).2.r) : Nat) : Int)))) && (decide ((((List.length (s) : Nat) : Int) - ((List.length ((Wr.num (⟨s, false⟩ : Wr.Rd)).2.r) : Nat) : Int)) ≤ ((List.length (s) : Nat) : Int)))) && (decide (Wr.numE ((Wr.num (⟨s, false⟩ : Wr.Rd)).1) = List.take (s.length - List.length (Wr.num (⟨s, false⟩ : Wr.Rd)).2.r) s))))]) Hz Tryd.results4 ⟨rfl, trivial⟩ ?_
        have O60 : Only NoF w w54 := (Only.trans' (Only.trans' (Only.trans' (Only.trans' O35 o37) o42) o45) o55)
        refine ⟨congrArg (fun b => Ending.returned (Value.bool b)) ?_, O60⟩
        rw [decide_eq_true hE, decide_eq_true (show _ ≤ _ by omega), decide_eq_true (show _ ≤ _ by omega)]; rfl
    · -- else2
      have p61 := of_decide_eq_false hc26
      refine wp_seq_k fun K62 hK62 => ?_
      -- law.go:178
      refine wp_region_lit ?_
      refine L (r_eqI Hz rfl rfl) Hz rfl ?_
      clear Hz az; intro az Hz
      refine L (r_as Hz rfl) Hz rfl ?_
      clear Hz az; intro az Hz
      refine hK62 _ _ ?_
      refine br Hz rfl (fun hc63 => ?_) (fun hc63 => ?_)
      · -- if3
        have p64 := of_decide_eq_true hc63
        -- law.go:179
        refine wp_region_lit ?_
        refine L (r_mv Hz rfl) Hz rfl ?_
        clear Hz az; intro az Hz
        have O66 : Only NoF w w23 := (Only.trans' (Only.trans' o5 o17) o24)
        have G65 := Gr.k hG O66
        have B67 := (Blk.k B16 o24)
        refine LC Hz rfl rfl Tryd.call30 (rInt_v (s := (⟨s, false⟩ : Wr.Rd)) G65 B67 (Nat.le_trans hG.1 (Nat.le_trans (size_only o5) hg15)) (by show List.length s ≤ 1000000; omega)) rfl ?_
        rintro e w68 ⟨rfl, B69, o70⟩; refine ⟨_, rfl, ?_⟩
        clear Hz az; intro az Hz
        have O72 : Only NoF w w68 := (o_sg O66 o70 (size_only o5) (oneF_ge hg15))
        have G71 := Gr.k hG O72
        refine LCV (v := strV (Wr.intE ((Wr.int (⟨s, false⟩ : Wr.Rd)).1))) Hz rfl rfl Tryd.call19 (Int_v G71 ((Wr.int (⟨s, false⟩ : Wr.Rd)).1) (Wr.number_int _ _ _)) rfl fun w73 o74 => ?_
        clear Hz az; intro az Hz
        refine L (r_as Hz rfl) Hz rfl ?_
        clear Hz az; intro az Hz
        refine hK21 _ _ ?_
        refine wp_seq_k fun K75 hK75 => ?_
        refine wp_seq_k fun K76 hK76 => ?_
        -- law.go:187
        refine wp_region_lit ?_
        refine L (r_mv Hz rfl) Hz rfl ?_
        clear Hz az; intro az Hz
        have B77 := (Blk.k B69 o74)
        refine LCV (v := .int .i64 (((List.length ((Wr.int (⟨s, false⟩ : Wr.Rd)).2.r) : Nat) : Int))) Hz rfl rfl Tryd.call34 (rLeft_v (s := (Wr.int (⟨s, false⟩ : Wr.Rd)).2) B77) rfl fun w78 o79 => ?_
        clear Hz az; intro az Hz
        refine L (r_eqI Hz rfl rfl) Hz rfl ?_
        clear Hz az; intro az Hz
        refine L (r_mv Hz rfl) Hz rfl ?_
        clear Hz az; intro az Hz
        refine LG Hz rfl rfl gd_t (fun hb => r_mv Hz rfl) rfl ?_
        clear Hz az; intro az Hz
        have B80 := (Blk.k B77 o79)
        refine LGV (v := .bool (Wr.done ((Wr.int (⟨s, false⟩ : Wr.Rd)).2))) Hz rfl rfl gd_t rfl (fun hb => (evs_c (evg hb rfl) rfl)) Tryd.call35 (fun hb => rDone_v (s := (Wr.int (⟨s, false⟩ : Wr.Rd)).2) B80) rfl fun w81 o82 => ?_
        clear Hz az; intro az Hz
        refine LG Hz rfl rfl gd_t (fun hb => r_not Hz (evg hb rfl)) rfl ?_
        clear Hz az; intro az Hz
        refine L (r_and Hz rfl rfl rfl) Hz rfl ?_
        clear Hz az; intro az Hz
        refine hK76 _ _ ?_
        refine br Hz rfl (fun hc83 => ?_) (fun hc83 => ?_)
        · -- if6
          have p84 := of_decide_eq_true (and_t hc83).1
          have q85 : Wr.done ((Wr.int (⟨s, false⟩ : Wr.Rd)).2) = false := (nt_t (and_t hc83).2)
          refine wp_seq_k fun K86 hK86 => ?_
          -- law.go:188
          refine wp_region_lit ?_
          refine L (r_mv Hz rfl) Hz rfl ?_
          clear Hz az; intro az Hz
          refine L (r_as Hz rfl) Hz rfl ?_
          clear Hz az; intro az Hz
          refine hK86 _ _ ?_
          refine wp_ret ?_
          show bodyPost _ _ _ .ret _ _
          refine ret_of (vs := [.bool (true)]) Hz Tryd.results4 ⟨rfl, trivial⟩ ?_
          have O87 : Only NoF w w81 := (Only.trans' (Only.trans' (Only.trans' O72 o74) o79) o82)
          exact ⟨rfl, O87⟩
        · -- else6
          have d88 := hc83
          obtain ⟨hle, hE⟩ := Wr.again (s := s) (Wr.int_fine (s := (⟨s, false⟩ : Wr.Rd)) (fun h => by cases h)) (Wr.int_was (⟨s, false⟩ : Wr.Rd)) hc83
          refine wp_skip ?_
          refine hK75 _ _ ?_
          refine wp_seq_k fun K89 hK89 => ?_
          -- law.go:190
          refine wp_region_lit ?_
          refine L (r_mv Hz rfl) Hz rfl ?_
          clear Hz az; intro az Hz
          refine L (r_lenS Tryd.underlying9 Hz rfl) Hz rfl ?_
          clear Hz az; intro az Hz
          refine L (r_mv Hz rfl) Hz rfl ?_
          clear Hz az; intro az Hz
          have B90 := (Blk.k B80 o82)
          refine LCV (v := .int .i64 (((List.length ((Wr.int (⟨s, false⟩ : Wr.Rd)).2.r) : Nat) : Int))) Hz rfl rfl Tryd.call34 (rLeft_v (s := (Wr.int (⟨s, false⟩ : Wr.Rd)).2) B90) rfl fun w91 o92 => ?_
          clear Hz az; intro az Hz
          have i93 : I64 ((((List.length (s) : Nat) : Int) - ((List.length ((Wr.int (⟨s, false⟩ : Wr.Rd)).2.r) : Nat) : Int))) := by unfold I64; omega
          refine L (r_subI (r := (((List.length (s) : Nat) : Int) - ((List.length ((Wr.int (⟨s, false⟩ : Wr.Rd)).2.r) : Nat) : Int))) Hz rfl rfl rfl i93) Hz rfl ?_
          clear Hz az; intro az Hz
          refine L (r_as Hz rfl) Hz rfl ?_
          clear Hz az; intro az Hz
          refine hK89 _ _ ?_
          refine wp_seq_k fun K94 hK94 => ?_
          -- law.go:191
          refine wp_region_lit ?_
          refine L (r_mv Hz rfl) Hz rfl ?_
          clear Hz az; intro az Hz
          refine L (r_mv Hz rfl) Hz rfl ?_
          clear Hz az; intro az Hz
          refine LT Hz rfl rfl (r_mv Hz rfl) rfl ?_
          clear Hz az; intro az Hz
          refine LT Hz rfl rfl (r_geI Hz rfl rfl) rfl ?_
          clear Hz az; intro az Hz
          refine L (r_pick Hz rfl rfl rfl) Hz rfl ?_
          clear Hz az; intro az Hz
          refine L (r_mv Hz rfl) Hz rfl ?_
          clear Hz az; intro az Hz
          refine LG Hz rfl rfl gd_t (fun hb => r_mv Hz rfl) rfl ?_
          clear Hz az; intro az Hz
          refine LG Hz rfl rfl gd_t (fun hb => r_mv Hz rfl) rfl ?_
          clear Hz az; intro az Hz
          refine LG Hz rfl rfl gd_t (fun hb => r_lenS Tryd.underlying9 Hz (evg hb rfl)) rfl ?_
          clear Hz az; intro az Hz
          refine LG Hz rfl rfl gd_t (fun hb => r_leI Hz (evg hb rfl) (evg hb rfl)) rfl ?_
          clear Hz az; intro az Hz
          refine L (r_and Hz rfl rfl rfl) Hz rfl ?_
          clear Hz az; intro az Hz
          refine L (r_mv Hz rfl) Hz rfl ?_
          clear Hz az; intro az Hz
          refine LG Hz rfl rfl gd_t (fun hb => r_mv Hz rfl) rfl ?_
          clear Hz az; intro az Hz
          refine LG Hz rfl rfl gd_t (fun hb => r_mv Hz rfl) rfl ?_
          clear Hz az; intro az Hz
          refine LG Hz rfl rfl gd_t (fun hb => r_mv Hz rfl) rfl ?_
          clear Hz az; intro az Hz
          refine LG Hz rfl rfl gd_t (fun hb => r_mv Hz rfl) rfl ?_
          clear Hz az; intro az Hz
          refine LG Hz rfl rfl gd_t (fun hb => r_lenS Tryd.underlying9 Hz (evg hb rfl)) rfl ?_
          clear Hz az; intro az Hz
          refine LG Hz rfl rfl gd_t (fun hb => r_min Hz (evg hb rfl) (evg hb rfl)) rfl ?_
          clear Hz az; intro az Hz
          refine LG Hz rfl rfl gd_t (fun hb => r_max Hz rfl (evg hb rfl)) rfl ?_
          clear Hz az; intro az Hz
          have z95 : (max (0) ((min ((((List.length (s) : Nat) : Int) - ((List.length ((Wr.int (⟨s, false⟩ : Wr.Rd)).2.r) : Nat) : Int))) (((List.length (s) : Nat) : Int))))) = ((s.length - List.length (Wr.int (⟨s, false⟩ : Wr.Rd)).2.r : Nat) : Int) := by omega
          have le96 : (s.length - List.length (Wr.int (⟨s, false⟩ : Wr.Rd)).2.r) ≤ List.length (s) := by omega
          refine LG Hz rfl rfl gd_t (fun hb => r_ssh (m := (s.length - List.length (Wr.int (⟨s, false⟩ : Wr.Rd)).2.r)) Tryd.underlying9 Hz (evg hb rfl) (evg hb rfl) z95 le96) rfl ?_
          clear Hz az; intro az Hz
          refine LG Hz rfl rfl gd_t (fun hb => r_eqS Hz (evg hb rfl) (evg hb rfl)) rfl ?_
          clear Hz az; intro az Hz
          refine L (r_and Hz rfl rfl rfl) Hz rfl ?_
          clear Hz az; intro az Hz
          refine L (r_as Hz rfl) Hz rfl ?_
          clear Hz az; intro az Hz
          refine hK94 _ _ ?_
          refine wp_ret ?_
          show bodyPost _ _ _ .ret _ _
          refine ret_of (vs := [.bool ((((decide (0 ≤ (((List.length (s) : Nat) : Int) - ((List.length ((Wr.int (⟨s, false⟩ : Wr.Rd)).2.r) : Nat) : Int)))) && (decide ((((List.length (s) : Nat) : Int) - ((List.length ((Wr.int (⟨s, false⟩ : Wr.Rd)).2.r) : Nat) : Int)) ≤ ((List.length (s) : Nat) : Int)))) && (decide (Wr.intE ((Wr.int (⟨s, false⟩ : Wr.Rd)).1) = List.take (s.length - List.length (Wr.int (⟨s, false⟩ : Wr.Rd)).2.r) s))))]) Hz Tryd.results4 ⟨rfl, trivial⟩ ?_
          have O97 : Only NoF w w91 := (Only.trans' (Only.trans' (Only.trans' (Only.trans' O72 o74) o79) o82) o92)
          refine ⟨congrArg (fun b => Ending.returned (Value.bool b)) ?_, O97⟩
          rw [decide_eq_true hE, decide_eq_true (show _ ≤ _ by omega), decide_eq_true (show _ ≤ _ by omega)]; rfl
      · -- else3
        have p98 := of_decide_eq_false hc63
        refine wp_seq_k fun K99 hK99 => ?_
        -- law.go:180
        refine wp_region_lit ?_
        refine L (r_eqI Hz rfl rfl) Hz rfl ?_
        clear Hz az; intro az Hz
        refine L (r_as Hz rfl) Hz rfl ?_
        clear Hz az; intro az Hz
        refine hK99 _ _ ?_
        refine br Hz rfl (fun hc100 => ?_) (fun hc100 => ?_)
        · -- if4
          have p101 := of_decide_eq_true hc100
          -- law.go:181
          refine wp_region_lit ?_
          refine L (r_mv Hz rfl) Hz rfl ?_
          clear Hz az; intro az Hz
          have O103 : Only NoF w w23 := (Only.trans' (Only.trans' o5 o17) o24)
          have G102 := Gr.k hG O103
          have B104 := (Blk.k B16 o24)
          refine LC Hz rfl rfl Tryd.call31 (rText_v (s := (⟨s, false⟩ : Wr.Rd)) G102 B104 (Nat.le_trans hG.1 (Nat.le_trans (size_only o5) hg15)) (by show List.length s ≤ 1000000; omega)) rfl ?_
          rintro e w105 ⟨rfl, B106, o107⟩; refine ⟨_, rfl, ?_⟩
          clear Hz az; intro az Hz
          have O109 : Only NoF w w105 := (o_sg O103 o107 (size_only o5) (oneF_ge hg15))
          have G108 := Gr.k hG O109
          refine LCV (v := strV (Wr.textE ((Wr.text (⟨s, false⟩ : Wr.Rd)).1))) Hz rfl rfl Tryd.call21 (Text_v G108 ((Wr.text (⟨s, false⟩ : Wr.Rd)).1) (by have := Wr.text_val_len (⟨s, false⟩ : Wr.Rd); have : List.length (Wr.Rd.r (⟨s, false⟩ : Wr.Rd)) = List.length s := rfl; omega)) rfl fun w110 o111 => ?_
          clear Hz az; intro az Hz
          refine L (r_as Hz rfl) Hz rfl ?_
          clear Hz az; intro az Hz
          refine hK21 _ _ ?_
          refine wp_seq_k fun K112 hK112 => ?_
          refine wp_seq_k fun K113 hK113 => ?_
          -- law.go:187
          refine wp_region_lit ?_
          refine L (r_mv Hz rfl) Hz rfl ?_
          clear Hz az; intro az Hz
          have B114 := (Blk.k B106 o111)
          refine LCV (v := .int .i64 (((List.length ((Wr.text (⟨s, false⟩ : Wr.Rd)).2.r) : Nat) : Int))) Hz rfl rfl Tryd.call34 (rLeft_v (s := (Wr.text (⟨s, false⟩ : Wr.Rd)).2) B114) rfl fun w115 o116 => ?_
          clear Hz az; intro az Hz
          refine L (r_eqI Hz rfl rfl) Hz rfl ?_
          clear Hz az; intro az Hz
          refine L (r_mv Hz rfl) Hz rfl ?_
          clear Hz az; intro az Hz
          refine LG Hz rfl rfl gd_t (fun hb => r_mv Hz rfl) rfl ?_
          clear Hz az; intro az Hz
          have B117 := (Blk.k B114 o116)
          refine LGV (v := .bool (Wr.done ((Wr.text (⟨s, false⟩ : Wr.Rd)).2))) Hz rfl rfl gd_t rfl (fun hb => (evs_c (evg hb rfl) rfl)) Tryd.call35 (fun hb => rDone_v (s := (Wr.text (⟨s, false⟩ : Wr.Rd)).2) B117) rfl fun w118 o119 => ?_
          clear Hz az; intro az Hz
          refine LG Hz rfl rfl gd_t (fun hb => r_not Hz (evg hb rfl)) rfl ?_
          clear Hz az; intro az Hz
          refine L (r_and Hz rfl rfl rfl) Hz rfl ?_
          clear Hz az; intro az Hz
          refine hK113 _ _ ?_
          refine br Hz rfl (fun hc120 => ?_) (fun hc120 => ?_)
          · -- if6
            have p121 := of_decide_eq_true (and_t hc120).1
            have q122 : Wr.done ((Wr.text (⟨s, false⟩ : Wr.Rd)).2) = false := (nt_t (and_t hc120).2)
            refine wp_seq_k fun K123 hK123 => ?_
            -- law.go:188
            refine wp_region_lit ?_
            refine L (r_mv Hz rfl) Hz rfl ?_
            clear Hz az; intro az Hz
            refine L (r_as Hz rfl) Hz rfl ?_
            clear Hz az; intro az Hz
            refine hK123 _ _ ?_
            refine wp_ret ?_
            show bodyPost _ _ _ .ret _ _
            refine ret_of (vs := [.bool (true)]) Hz Tryd.results4 ⟨rfl, trivial⟩ ?_
            have O124 : Only NoF w w118 := (Only.trans' (Only.trans' (Only.trans' O109 o111) o116) o119)
            exact ⟨rfl, O124⟩
          · -- else6
            have d125 := hc120
            obtain ⟨hle, hE⟩ := Wr.again (s := s) (Wr.text_fine (s := (⟨s, false⟩ : Wr.Rd)) (fun h => by cases h)) (Wr.text_was (⟨s, false⟩ : Wr.Rd)) hc120
            refine wp_skip ?_
            refine hK112 _ _ ?_
            refine wp_seq_k fun K126 hK126 => ?_
            -- law.go:190
            refine wp_region_lit ?_
            refine L (r_mv Hz rfl) Hz rfl ?_
            clear Hz az; intro az Hz
            refine L (r_lenS Tryd.underlying9 Hz rfl) Hz rfl ?_
            clear Hz az; intro az Hz
            refine L (r_mv Hz rfl) Hz rfl ?_
            clear Hz az; intro az Hz
            have B127 := (Blk.k B117 o119)
            refine LCV (v := .int .i64 (((List.length ((Wr.text (⟨s, false⟩ : Wr.Rd)).2.r) : Nat) : Int))) Hz rfl rfl Tryd.call34 (rLeft_v (s := (Wr.text (⟨s, false⟩ : Wr.Rd)).2) B127) rfl fun w128 o129 => ?_
            clear Hz az; intro az Hz
            have i130 : I64 ((((List.length (s) : Nat) : Int) - ((List.length ((Wr.text (⟨s, false⟩ : Wr.Rd)).2.r) : Nat) : Int))) := by unfold I64; omega
            refine L (r_subI (r := (((List.length (s) : Nat) : Int) - ((List.length ((Wr.text (⟨s, false⟩ : Wr.Rd)).2.r) : Nat) : Int))) Hz rfl rfl rfl i130) Hz rfl ?_
            clear Hz az; intro az Hz
            refine L (r_as Hz rfl) Hz rfl ?_
            clear Hz az; intro az Hz
            refine hK126 _ _ ?_
            refine wp_seq_k fun K131 hK131 => ?_
            -- law.go:191
            refine wp_region_lit ?_
            refine L (r_mv Hz rfl) Hz rfl ?_
            clear Hz az; intro az Hz
            refine L (r_mv Hz rfl) Hz rfl ?_
            clear Hz az; intro az Hz
            refine LT Hz rfl rfl (r_mv Hz rfl) rfl ?_
            clear Hz az; intro az Hz
            refine LT Hz rfl rfl (r_geI Hz rfl rfl) rfl ?_
            clear Hz az; intro az Hz
            refine L (r_pick Hz rfl rfl rfl) Hz rfl ?_
            clear Hz az; intro az Hz
            refine L (r_mv Hz rfl) Hz rfl ?_
            clear Hz az; intro az Hz
            refine LG Hz rfl rfl gd_t (fun hb => r_mv Hz rfl) rfl ?_
            clear Hz az; intro az Hz
            refine LG Hz rfl rfl gd_t (fun hb => r_mv Hz rfl) rfl ?_
            clear Hz az; intro az Hz
            refine LG Hz rfl rfl gd_t (fun hb => r_lenS Tryd.underlying9 Hz (evg hb rfl)) rfl ?_
            clear Hz az; intro az Hz
            refine LG Hz rfl rfl gd_t (fun hb => r_leI Hz (evg hb rfl) (evg hb rfl)) rfl ?_
            clear Hz az; intro az Hz
            refine L (r_and Hz rfl rfl rfl) Hz rfl ?_
            clear Hz az; intro az Hz
            refine L (r_mv Hz rfl) Hz rfl ?_
            clear Hz az; intro az Hz
            refine LG Hz rfl rfl gd_t (fun hb => r_mv Hz rfl) rfl ?_
            clear Hz az; intro az Hz
            refine LG Hz rfl rfl gd_t (fun hb => r_mv Hz rfl) rfl ?_
            clear Hz az; intro az Hz
            refine LG Hz rfl rfl gd_t (fun hb => r_mv Hz rfl) rfl ?_
            clear Hz az; intro az Hz
            refine LG Hz rfl rfl gd_t (fun hb => r_mv Hz rfl) rfl ?_
            clear Hz az; intro az Hz
            refine LG Hz rfl rfl gd_t (fun hb => r_lenS Tryd.underlying9 Hz (evg hb rfl)) rfl ?_
            clear Hz az; intro az Hz
            refine LG Hz rfl rfl gd_t (fun hb => r_min Hz (evg hb rfl) (evg hb rfl)) rfl ?_
            clear Hz az; intro az Hz
            refine LG Hz rfl rfl gd_t (fun hb => r_max Hz rfl (evg hb rfl)) rfl ?_
            clear Hz az; intro az Hz
            have z132 : (max (0) ((min ((((List.length (s) : Nat) : Int) - ((List.length ((Wr.text (⟨s, false⟩ : Wr.Rd)).2.r) : Nat) : Int))) (((List.length (s) : Nat) : Int))))) = ((s.length - List.length (Wr.text (⟨s, false⟩ : Wr.Rd)).2.r : Nat) : Int) := by omega
            have le133 : (s.length - List.length (Wr.text (⟨s, false⟩ : Wr.Rd)).2.r) ≤ List.length (s) := by omega
            refine LG Hz rfl rfl gd_t (fun hb => r_ssh (m := (s.length - List.length (Wr.text (⟨s, false⟩ : Wr.Rd)).2.r)) Tryd.underlying9 Hz (evg hb rfl) (evg hb rfl) z132 le133) rfl ?_
            clear Hz az; intro az Hz
            refine LG Hz rfl rfl gd_t (fun hb => r_eqS Hz (evg hb rfl) (evg hb rfl)) rfl ?_
            clear Hz az; intro az Hz
            refine L (r_and Hz rfl rfl rfl) Hz rfl ?_
            clear Hz az; intro az Hz
            refine L (r_as Hz rfl) Hz rfl ?_
            clear Hz az; intro az Hz
            refine hK131 _ _ ?_
            refine wp_ret ?_
            show bodyPost _ _ _ .ret _ _
            refine ret_of (vs := [.bool ((((decide (0 ≤ (((List.length (s) : Nat) : Int) - ((List.length ((Wr.text (⟨s, false⟩ : Wr.Rd)).2.r) : Nat) : Int)))) && (decide ((((List.length (s) : Nat) : Int) - ((List.length ((Wr.text (⟨s, false⟩ : Wr.Rd)).2.r) : Nat) : Int)) ≤ ((List.length (s) : Nat) : Int)))) && (decide (Wr.textE ((Wr.text (⟨s, false⟩ : Wr.Rd)).1) = List.take (s.length - List.length (Wr.text (⟨s, false⟩ : Wr.Rd)).2.r) s))))]) Hz Tryd.results4 ⟨rfl, trivial⟩ ?_
            have O134 : Only NoF w w128 := (Only.trans' (Only.trans' (Only.trans' (Only.trans' O109 o111) o116) o119) o129)
            refine ⟨congrArg (fun b => Ending.returned (Value.bool b)) ?_, O134⟩
            rw [decide_eq_true hE, decide_eq_true (show _ ≤ _ by omega), decide_eq_true (show _ ≤ _ by omega)]; rfl
        · -- else4
          have p135 := of_decide_eq_false hc100
          refine wp_seq_k fun K136 hK136 => ?_
          -- law.go:182
          refine wp_region_lit ?_
          refine L (r_eqI Hz rfl rfl) Hz rfl ?_
          clear Hz az; intro az Hz
          refine L (r_as Hz rfl) Hz rfl ?_
          clear Hz az; intro az Hz
          refine hK136 _ _ ?_
          refine br Hz rfl (fun hc137 => ?_) (fun hc137 => ?_)
          · -- if5
            have p138 := of_decide_eq_true hc137
            -- law.go:183
            refine wp_region_lit ?_
            refine L (r_mv Hz rfl) Hz rfl ?_
            clear Hz az; intro az Hz
            have O147 : Only NoF w w23 := (Only.trans' (Only.trans' o5 o17) o24)
            have G146 := Gr.k hG O147
            have B148 := (Blk.k B16 o24)
            refine LC Hz rfl rfl Tryd.call32 (rNums_v (s := (⟨s, false⟩ : Wr.Rd)) G146 B148 (Nat.le_trans hG.1 (Nat.le_trans (size_only o5) hg15)) (by show List.length s ≤ 1000000; omega) (fun h => by cases h)) rfl ?_
            rintro e w139 ⟨A142, c143, rfl, r144, k145, B140, o141⟩; refine ⟨_, rfl, ?_⟩
            clear Hz az; intro az Hz
            have O150 : Only NoF w w139 := (o_sg O147 o141 (size_only o5) (oneF_ge hg15))
            have G149 := Gr.k hG O150
            have h151 := Row.own KInt r144 k145
            have h152 := SliceOf.pl h151
            have hsz : (Wr.nums (⟨s, false⟩ : Wr.Rd)).1.length ≤ s.length ∧ ((Wr.nums (⟨s, false⟩ : Wr.Rd)).1.flatMap Wr.intE).length ≤ s.length := Wr.list_sizes Wr.int_was Wr.intE_ne (⟨s, false⟩ : Wr.Rd)
            refine LCV (v := strV (Wr.numsE ((Wr.nums (⟨s, false⟩ : Wr.Rd)).1))) Hz rfl rfl Tryd.call23 (Nums_v G149 h152 (by omega) (by omega)) rfl fun w153 o154 => ?_
            clear Hz az; intro az Hz
            refine L (r_as Hz rfl) Hz rfl ?_
            clear Hz az; intro az Hz
            refine hK21 _ _ ?_
            refine wp_seq_k fun K155 hK155 => ?_
            refine wp_seq_k fun K156 hK156 => ?_
            -- law.go:187
            refine wp_region_lit ?_
            refine L (r_mv Hz rfl) Hz rfl ?_
            clear Hz az; intro az Hz
            have B157 := (Blk.k B140 o154)
            refine LCV (v := .int .i64 (((List.length ((Wr.nums (⟨s, false⟩ : Wr.Rd)).2.r) : Nat) : Int))) Hz rfl rfl Tryd.call34 (rLeft_v (s := (Wr.nums (⟨s, false⟩ : Wr.Rd)).2) B157) rfl fun w158 o159 => ?_
            clear Hz az; intro az Hz
            refine L (r_eqI Hz rfl rfl) Hz rfl ?_
            clear Hz az; intro az Hz
            refine L (r_mv Hz rfl) Hz rfl ?_
            clear Hz az; intro az Hz
            refine LG Hz rfl rfl gd_t (fun hb => r_mv Hz rfl) rfl ?_
            clear Hz az; intro az Hz
            have B160 := (Blk.k B157 o159)
            refine LGV (v := .bool (Wr.done ((Wr.nums (⟨s, false⟩ : Wr.Rd)).2))) Hz rfl rfl gd_t rfl (fun hb => (evs_c (evg hb rfl) rfl)) Tryd.call35 (fun hb => rDone_v (s := (Wr.nums (⟨s, false⟩ : Wr.Rd)).2) B160) rfl fun w161 o162 => ?_
            clear Hz az; intro az Hz
            refine LG Hz rfl rfl gd_t (fun hb => r_not Hz (evg hb rfl)) rfl ?_
            clear Hz az; intro az Hz
            refine L (r_and Hz rfl rfl rfl) Hz rfl ?_
            clear Hz az; intro az Hz
            refine hK156 _ _ ?_
            refine br Hz rfl (fun hc163 => ?_) (fun hc163 => ?_)
            · -- if6
              have p164 := of_decide_eq_true (and_t hc163).1
              have q165 : Wr.done ((Wr.nums (⟨s, false⟩ : Wr.Rd)).2) = false := (nt_t (and_t hc163).2)
              refine wp_seq_k fun K166 hK166 => ?_
              -- law.go:188
              refine wp_region_lit ?_
              refine L (r_mv Hz rfl) Hz rfl ?_
              clear Hz az; intro az Hz
              refine L (r_as Hz rfl) Hz rfl ?_
              clear Hz az; intro az Hz
              refine hK166 _ _ ?_
              refine wp_ret ?_
              show bodyPost _ _ _ .ret _ _
              refine ret_of (vs := [.bool (true)]) Hz Tryd.results4 ⟨rfl, trivial⟩ ?_
              have O167 : Only NoF w w161 := (Only.trans' (Only.trans' (Only.trans' O150 o154) o159) o162)
              exact ⟨rfl, O167⟩
            · -- else6
              have d168 := hc163
              obtain ⟨hle, hE⟩ := Wr.again (s := s) (Wr.nums_fine (s := (⟨s, false⟩ : Wr.Rd)) (fun h => by cases h)) (Wr.nums_was (⟨s, false⟩ : Wr.Rd)) hc163
              refine wp_skip ?_
              refine hK155 _ _ ?_
              refine wp_seq_k fun K169 hK169 => ?_
              -- law.go:190
              refine wp_region_lit ?_
              refine L (r_mv Hz rfl) Hz rfl ?_
              clear Hz az; intro az Hz
              refine L (r_lenS Tryd.underlying9 Hz rfl) Hz rfl ?_
              clear Hz az; intro az Hz
              refine L (r_mv Hz rfl) Hz rfl ?_
              clear Hz az; intro az Hz
              have B170 := (Blk.k B160 o162)
              refine LCV (v := .int .i64 (((List.length ((Wr.nums (⟨s, false⟩ : Wr.Rd)).2.r) : Nat) : Int))) Hz rfl rfl Tryd.call34 (rLeft_v (s := (Wr.nums (⟨s, false⟩ : Wr.Rd)).2) B170) rfl fun w171 o172 => ?_
              clear Hz az; intro az Hz
              have i173 : I64 ((((List.length (s) : Nat) : Int) - ((List.length ((Wr.nums (⟨s, false⟩ : Wr.Rd)).2.r) : Nat) : Int))) := by unfold I64; omega
              refine L (r_subI (r := (((List.length (s) : Nat) : Int) - ((List.length ((Wr.nums (⟨s, false⟩ : Wr.Rd)).2.r) : Nat) : Int))) Hz rfl rfl rfl i173) Hz rfl ?_
              clear Hz az; intro az Hz
              refine L (r_as Hz rfl) Hz rfl ?_
              clear Hz az; intro az Hz
              refine hK169 _ _ ?_
              refine wp_seq_k fun K174 hK174 => ?_
              -- law.go:191
              refine wp_region_lit ?_
              refine L (r_mv Hz rfl) Hz rfl ?_
              clear Hz az; intro az Hz
              refine L (r_mv Hz rfl) Hz rfl ?_
              clear Hz az; intro az Hz
              refine LT Hz rfl rfl (r_mv Hz rfl) rfl ?_
              clear Hz az; intro az Hz
              refine LT Hz rfl rfl (r_geI Hz rfl rfl) rfl ?_
              clear Hz az; intro az Hz
              refine L (r_pick Hz rfl rfl rfl) Hz rfl ?_
              clear Hz az; intro az Hz
              refine L (r_mv Hz rfl) Hz rfl ?_
              clear Hz az; intro az Hz
              refine LG Hz rfl rfl gd_t (fun hb => r_mv Hz rfl) rfl ?_
              clear Hz az; intro az Hz
              refine LG Hz rfl rfl gd_t (fun hb => r_mv Hz rfl) rfl ?_
              clear Hz az; intro az Hz
              refine LG Hz rfl rfl gd_t (fun hb => r_lenS Tryd.underlying9 Hz (evg hb rfl)) rfl ?_
              clear Hz az; intro az Hz
              refine LG Hz rfl rfl gd_t (fun hb => r_leI Hz (evg hb rfl) (evg hb rfl)) rfl ?_
              clear Hz az; intro az Hz
              refine L (r_and Hz rfl rfl rfl) Hz rfl ?_
              clear Hz az; intro az Hz
              refine L (r_mv Hz rfl) Hz rfl ?_
              clear Hz az; intro az Hz
              refine LG Hz rfl rfl gd_t (fun hb => r_mv Hz rfl) rfl ?_
              clear Hz az; intro az Hz
              refine LG Hz rfl rfl gd_t (fun hb => r_mv Hz rfl) rfl ?_
              clear Hz az; intro az Hz
              refine LG Hz rfl rfl gd_t (fun hb => r_mv Hz rfl) rfl ?_
              clear Hz az; intro az Hz
              refine LG Hz rfl rfl gd_t (fun hb => r_mv Hz rfl) rfl ?_
              clear Hz az; intro az Hz
              refine LG Hz rfl rfl gd_t (fun hb => r_lenS Tryd.underlying9 Hz (evg hb rfl)) rfl ?_
              clear Hz az; intro az Hz
              refine LG Hz rfl rfl gd_t (fun hb => r_min Hz (evg hb rfl) (evg hb rfl)) rfl ?_
              clear Hz az; intro az Hz
              refine LG Hz rfl rfl gd_t (fun hb => r_max Hz rfl (evg hb rfl)) rfl ?_
              clear Hz az; intro az Hz
              have z175 : (max (0) ((min ((((List.length (s) : Nat) : Int) - ((List.length ((Wr.nums (⟨s, false⟩ : Wr.Rd)).2.r) : Nat) : Int))) (((List.length (s) : Nat) : Int))))) = ((s.length - List.length (Wr.nums (⟨s, false⟩ : Wr.Rd)).2.r : Nat) : Int) := by omega
              have le176 : (s.length - List.length (Wr.nums (⟨s, false⟩ : Wr.Rd)).2.r) ≤ List.length (s) := by omega
              refine LG Hz rfl rfl gd_t (fun hb => r_ssh (m := (s.length - List.length (Wr.nums (⟨s, false⟩ : Wr.Rd)).2.r)) Tryd.underlying9 Hz (evg hb rfl) (evg hb rfl) z175 le176) rfl ?_
              clear Hz az; intro az Hz
              refine LG Hz rfl rfl gd_t (fun hb => r_eqS Hz (evg hb rfl) (evg hb rfl)) rfl ?_
              clear Hz az; intro az Hz
              refine L (r_and Hz rfl rfl rfl) Hz rfl ?_
              clear Hz az; intro az Hz
              refine L (r_as Hz rfl) Hz rfl ?_
              clear Hz az; intro az Hz
              refine hK174 _ _ ?_
              refine wp_ret ?_
              show bodyPost _ _ _ .ret _ _
              refine ret_of (vs := [.bool ((((decide (0 ≤ (((List.length (s) : Nat) : Int) - ((List.length ((Wr.nums (⟨s, false⟩ : Wr.Rd)).2.r) : Nat) : Int)))) && (decide ((((List.length (s) : Nat) : Int) - ((List.length ((Wr.nums (⟨s, false⟩ : Wr.Rd)).2.r) : Nat) : Int)) ≤ ((List.length (s) : Nat) : Int)))) && (decide (Wr.numsE ((Wr.nums (⟨s, false⟩ : Wr.Rd)).1) = List.take (s.length - List.length (Wr.nums (⟨s, false⟩ : Wr.Rd)).2.r) s))))]) Hz Tryd.results4 ⟨rfl, trivial⟩ ?_
              have O177 : Only NoF w w171 := (Only.trans' (Only.trans' (Only.trans' (Only.trans' O150 o154) o159) o162) o172)
              refine ⟨congrArg (fun b => Ending.returned (Value.bool b)) ?_, O177⟩
              rw [decide_eq_true hE, decide_eq_true (show _ ≤ _ by omega), decide_eq_true (show _ ≤ _ by omega)]; rfl
          · -- else5
            have p178 := of_decide_eq_false hc137
            -- law.go:185
            refine wp_region_lit ?_
            refine L (r_mv Hz rfl) Hz rfl ?_
            clear Hz az; intro az Hz
            have O187 : Only NoF w w23 := (Only.trans' (Only.trans' o5 o17) o24)
            have G186 := Gr.k hG O187
            have B188 := (Blk.k B16 o24)
            refine LC Hz rfl rfl Tryd.call33 (rTexts_v (s := (⟨s, false⟩ : Wr.Rd)) G186 B188 (Nat.le_trans hG.1 (Nat.le_trans (size_only o5) hg15)) (by show List.length s ≤ 1000000; omega) (fun h => by cases h)) rfl ?_
            rintro e w179 ⟨A182, c183, rfl, r184, k185, B180, o181⟩; refine ⟨_, rfl, ?_⟩
            clear Hz az; intro az Hz
            have O190 : Only NoF w w179 := (o_sg O187 o181 (size_only o5) (oneF_ge hg15))
            have G189 := Gr.k hG O190
            have h191 := Row.own KStr r184 k185
            have h192 := SliceOf.pl h191
            have hsz : (Wr.texts (⟨s, false⟩ : Wr.Rd)).1.length ≤ s.length ∧ ((Wr.texts (⟨s, false⟩ : Wr.Rd)).1.flatMap Wr.textE).length ≤ s.length := Wr.list_sizes Wr.text_was Wr.textE_ne (⟨s, false⟩ : Wr.Rd)
            refine LCV (v := strV (Wr.textsE ((Wr.texts (⟨s, false⟩ : Wr.Rd)).1))) Hz rfl rfl Tryd.call25 (Texts_v G189 h192 (by omega) (by omega)) rfl fun w193 o194 => ?_
            clear Hz az; intro az Hz
            refine L (r_as Hz rfl) Hz rfl ?_
            clear Hz az; intro az Hz
            refine hK21 _ _ ?_
            refine wp_seq_k fun K195 hK195 => ?_
            refine wp_seq_k fun K196 hK196 => ?_
            -- law.go:187
            refine wp_region_lit ?_
            refine L (r_mv Hz rfl) Hz rfl ?_
            clear Hz az; intro az Hz
            have B197 := (Blk.k B180 o194)
            refine LCV (v := .int .i64 (((List.length ((Wr.texts (⟨s, false⟩ : Wr.Rd)).2.r) : Nat) : Int))) Hz rfl rfl Tryd.call34 (rLeft_v (s := (Wr.texts (⟨s, false⟩ : Wr.Rd)).2) B197) rfl fun w198 o199 => ?_
            clear Hz az; intro az Hz
            refine L (r_eqI Hz rfl rfl) Hz rfl ?_
            clear Hz az; intro az Hz
            refine L (r_mv Hz rfl) Hz rfl ?_
            clear Hz az; intro az Hz
            refine LG Hz rfl rfl gd_t (fun hb => r_mv Hz rfl) rfl ?_
            clear Hz az; intro az Hz
            have B200 := (Blk.k B197 o199)
            refine LGV (v := .bool (Wr.done ((Wr.texts (⟨s, false⟩ : Wr.Rd)).2))) Hz rfl rfl gd_t rfl (fun hb => (evs_c (evg hb rfl) rfl)) Tryd.call35 (fun hb => rDone_v (s := (Wr.texts (⟨s, false⟩ : Wr.Rd)).2) B200) rfl fun w201 o202 => ?_
            clear Hz az; intro az Hz
            refine LG Hz rfl rfl gd_t (fun hb => r_not Hz (evg hb rfl)) rfl ?_
            clear Hz az; intro az Hz
            refine L (r_and Hz rfl rfl rfl) Hz rfl ?_
            clear Hz az; intro az Hz
            refine hK196 _ _ ?_
            refine br Hz rfl (fun hc203 => ?_) (fun hc203 => ?_)
            · -- if6
              have p204 := of_decide_eq_true (and_t hc203).1
              have q205 : Wr.done ((Wr.texts (⟨s, false⟩ : Wr.Rd)).2) = false := (nt_t (and_t hc203).2)
              refine wp_seq_k fun K206 hK206 => ?_
              -- law.go:188
              refine wp_region_lit ?_
              refine L (r_mv Hz rfl) Hz rfl ?_
              clear Hz az; intro az Hz
              refine L (r_as Hz rfl) Hz rfl ?_
              clear Hz az; intro az Hz
              refine hK206 _ _ ?_
              refine wp_ret ?_
              show bodyPost _ _ _ .ret _ _
              refine ret_of (vs := [.bool (true)]) Hz Tryd.results4 ⟨rfl, trivial⟩ ?_
              have O207 : Only NoF w w201 := (Only.trans' (Only.trans' (Only.trans' O190 o194) o199) o202)
              exact ⟨rfl, O207⟩
            · -- else6
              have d208 := hc203
              obtain ⟨hle, hE⟩ := Wr.again (s := s) (Wr.texts_fine (s := (⟨s, false⟩ : Wr.Rd)) (fun h => by cases h)) (Wr.texts_was (⟨s, false⟩ : Wr.Rd)) hc203
              refine wp_skip ?_
              refine hK195 _ _ ?_
              refine wp_seq_k fun K209 hK209 => ?_
              -- law.go:190
              refine wp_region_lit ?_
              refine L (r_mv Hz rfl) Hz rfl ?_
              clear Hz az; intro az Hz
              refine L (r_lenS Tryd.underlying9 Hz rfl) Hz rfl ?_
              clear Hz az; intro az Hz
              refine L (r_mv Hz rfl) Hz rfl ?_
              clear Hz az; intro az Hz
              have B210 := (Blk.k B200 o202)
              refine LCV (v := .int .i64 (((List.length ((Wr.texts (⟨s, false⟩ : Wr.Rd)).2.r) : Nat) : Int))) Hz rfl rfl Tryd.call34 (rLeft_v (s := (Wr.texts (⟨s, false⟩ : Wr.Rd)).2) B210) rfl fun w211 o212 => ?_
              clear Hz az; intro az Hz
              have i213 : I64 ((((List.length (s) : Nat) : Int) - ((List.length ((Wr.texts (⟨s, false⟩ : Wr.Rd)).2.r) : Nat) : Int))) := by unfold I64; omega
              refine L (r_subI (r := (((List.length (s) : Nat) : Int) - ((List.length ((Wr.texts (⟨s, false⟩ : Wr.Rd)).2.r) : Nat) : Int))) Hz rfl rfl rfl i213) Hz rfl ?_
              clear Hz az; intro az Hz
              refine L (r_as Hz rfl) Hz rfl ?_
              clear Hz az; intro az Hz
              refine hK209 _ _ ?_
              refine wp_seq_k fun K214 hK214 => ?_
              -- law.go:191
              refine wp_region_lit ?_
              refine L (r_mv Hz rfl) Hz rfl ?_
              clear Hz az; intro az Hz
              refine L (r_mv Hz rfl) Hz rfl ?_
              clear Hz az; intro az Hz
              refine LT Hz rfl rfl (r_mv Hz rfl) rfl ?_
              clear Hz az; intro az Hz
              refine LT Hz rfl rfl (r_geI Hz rfl rfl) rfl ?_
              clear Hz az; intro az Hz
              refine L (r_pick Hz rfl rfl rfl) Hz rfl ?_
              clear Hz az; intro az Hz
              refine L (r_mv Hz rfl) Hz rfl ?_
              clear Hz az; intro az Hz
              refine LG Hz rfl rfl gd_t (fun hb => r_mv Hz rfl) rfl ?_
              clear Hz az; intro az Hz
              refine LG Hz rfl rfl gd_t (fun hb => r_mv Hz rfl) rfl ?_
              clear Hz az; intro az Hz
              refine LG Hz rfl rfl gd_t (fun hb => r_lenS Tryd.underlying9 Hz (evg hb rfl)) rfl ?_
              clear Hz az; intro az Hz
              refine LG Hz rfl rfl gd_t (fun hb => r_leI Hz (evg hb rfl) (evg hb rfl)) rfl ?_
              clear Hz az; intro az Hz
              refine L (r_and Hz rfl rfl rfl) Hz rfl ?_
              clear Hz az; intro az Hz
              refine L (r_mv Hz rfl) Hz rfl ?_
              clear Hz az; intro az Hz
              refine LG Hz rfl rfl gd_t (fun hb => r_mv Hz rfl) rfl ?_
              clear Hz az; intro az Hz
              refine LG Hz rfl rfl gd_t (fun hb => r_mv Hz rfl) rfl ?_
              clear Hz az; intro az Hz
              refine LG Hz rfl rfl gd_t (fun hb => r_mv Hz rfl) rfl ?_
              clear Hz az; intro az Hz
              refine LG Hz rfl rfl gd_t (fun hb => r_mv Hz rfl) rfl ?_
              clear Hz az; intro az Hz
              refine LG Hz rfl rfl gd_t (fun hb => r_lenS Tryd.underlying9 Hz (evg hb rfl)) rfl ?_
              clear Hz az; intro az Hz
              refine LG Hz rfl rfl gd_t (fun hb => r_min Hz (evg hb rfl) (evg hb rfl)) rfl ?_
              clear Hz az; intro az Hz
              refine LG Hz rfl rfl gd_t (fun hb => r_max Hz rfl (evg hb rfl)) rfl ?_
              clear Hz az; intro az Hz
              have z215 : (max (0) ((min ((((List.length (s) : Nat) : Int) - ((List.length ((Wr.texts (⟨s, false⟩ : Wr.Rd)).2.r) : Nat) : Int))) (((List.length (s) : Nat) : Int))))) = ((s.length - List.length (Wr.texts (⟨s, false⟩ : Wr.Rd)).2.r : Nat) : Int) := by omega
              have le216 : (s.length - List.length (Wr.texts (⟨s, false⟩ : Wr.Rd)).2.r) ≤ List.length (s) := by omega
              refine LG Hz rfl rfl gd_t (fun hb => r_ssh (m := (s.length - List.length (Wr.texts (⟨s, false⟩ : Wr.Rd)).2.r)) Tryd.underlying9 Hz (evg hb rfl) (evg hb rfl) z215 le216) rfl ?_
              clear Hz az; intro az Hz
              refine LG Hz rfl rfl gd_t (fun hb => r_eqS Hz (evg hb rfl) (evg hb rfl)) rfl ?_
              clear Hz az; intro az Hz
              refine L (r_and Hz rfl rfl rfl) Hz rfl ?_
              clear Hz az; intro az Hz
              refine L (r_as Hz rfl) Hz rfl ?_
              clear Hz az; intro az Hz
              refine hK214 _ _ ?_
              refine wp_ret ?_
              show bodyPost _ _ _ .ret _ _
              refine ret_of (vs := [.bool ((((decide (0 ≤ (((List.length (s) : Nat) : Int) - ((List.length ((Wr.texts (⟨s, false⟩ : Wr.Rd)).2.r) : Nat) : Int)))) && (decide ((((List.length (s) : Nat) : Int) - ((List.length ((Wr.texts (⟨s, false⟩ : Wr.Rd)).2.r) : Nat) : Int)) ≤ ((List.length (s) : Nat) : Int)))) && (decide (Wr.textsE ((Wr.texts (⟨s, false⟩ : Wr.Rd)).1) = List.take (s.length - List.length (Wr.texts (⟨s, false⟩ : Wr.Rd)).2.r) s))))]) Hz Tryd.results4 ⟨rfl, trivial⟩ ?_
              have O217 : Only NoF w w211 := (Only.trans' (Only.trans' (Only.trans' (Only.trans' O190 o194) o199) o202) o212)
              refine ⟨congrArg (fun b => Ending.returned (Value.bool b)) ?_, O217⟩
              rw [decide_eq_true hE, decide_eq_true (show _ ≤ _ by omega), decide_eq_true (show _ ≤ _ by omega)]; rfl
end Go.Proofs.YtgmnoianhonihaaDoor
