/-
  JournalReads, walked: it returns true. No condition but the listed variables.
-/
import Derived.Test.YtlnadcihnfppaaaDoorJSm
namespace Go.Proofs.YtlnadcihnfppaaaDoor
set_option linter.unusedVariables false
set_option linter.unusedSimpArgs false
set_option linter.unusedSectionVars false
open Go.RowKit

theorem forms_snoc (O : List Str) (a : Str) : (forms (O ++ [a])).length = (forms O).length + (form a).length := by rw [forms_app, forms_one, List.length_append]
theorem rd_bnd {b : Bool} {L k m : Nat} (h : (!(b || decide (((L : Nat) : Int) < ((k : Int) + ((m : Nat) : Int))))) = true) : k + m ≤ L := by
  cases b
  · simp at h; omega
  · simp at h
section
variable {t : Str} {k : Nat}
theorem rd_form (h : (((!decide ((Wr.num (Wr.text ⟨List.drop k t, false⟩).2).1 = jsum (Wr.text ⟨List.drop k t, false⟩).1)) || decide (((List.length t : Nat) : Int) < ((k : Int) + ((List.length (Wr.textE (Wr.text ⟨List.drop k t, false⟩).1 ++ Wr.numE (Wr.num (Wr.text ⟨List.drop k t, false⟩).2).1) : Nat) : Int)))) || (!decide (List.take (List.length (Wr.textE (Wr.text ⟨List.drop k t, false⟩).1 ++ Wr.numE (Wr.num (Wr.text ⟨List.drop k t, false⟩).2).1)) (List.drop k t) = Wr.textE (Wr.text ⟨List.drop k t, false⟩).1 ++ Wr.numE (Wr.num (Wr.text ⟨List.drop k t, false⟩).2).1))) = false) : Wr.textE (Wr.text ⟨List.drop k t, false⟩).1 ++ Wr.numE (Wr.num (Wr.text ⟨List.drop k t, false⟩).2).1 = form (Wr.text ⟨List.drop k t, false⟩).1 := by
  simp only [Bool.or_eq_false_iff, Bool.not_eq_false', decide_eq_true_eq] at h
  unfold form
  rw [h.1.1]
theorem rd_one (hk : k ≤ t.length) (hl : t.length ≤ 300) (h : (((!decide ((Wr.num (Wr.text ⟨List.drop k t, false⟩).2).1 = jsum (Wr.text ⟨List.drop k t, false⟩).1)) || decide (((List.length t : Nat) : Int) < ((k : Int) + ((List.length (Wr.textE (Wr.text ⟨List.drop k t, false⟩).1 ++ Wr.numE (Wr.num (Wr.text ⟨List.drop k t, false⟩).2).1) : Nat) : Int)))) || (!decide (List.take (List.length (Wr.textE (Wr.text ⟨List.drop k t, false⟩).1 ++ Wr.numE (Wr.num (Wr.text ⟨List.drop k t, false⟩).2).1)) (List.drop k t) = Wr.textE (Wr.text ⟨List.drop k t, false⟩).1 ++ Wr.numE (Wr.num (Wr.text ⟨List.drop k t, false⟩).2).1))) = false) : one (t.drop k) = some (Wr.text ⟨List.drop k t, false⟩).1 := by
  have hf := rd_form h
  rw [hf] at h
  simp only [Bool.or_eq_false_iff, Bool.not_eq_false', decide_eq_true_eq, decide_eq_false_iff_not] at h
  obtain ⟨⟨h1, h2⟩, h3⟩ := h
  have hA : List.length (Wr.text ⟨List.drop k t, false⟩).1 ≤ 300 := Nat.le_trans (Wr.text_val_len _) (by show (List.drop k t).length ≤ _; rw [List.length_drop]; omega)
  unfold one
  rw [if_neg (by omega), if_neg (fun h => h h1), if_neg (by rw [List.length_drop]; omega), if_neg (fun h => h h3)]
theorem rd_none (hk : k ≤ t.length) (h : (((!decide ((Wr.num (Wr.text ⟨List.drop k t, false⟩).2).1 = jsum (Wr.text ⟨List.drop k t, false⟩).1)) || decide (((List.length t : Nat) : Int) < ((k : Int) + ((List.length (Wr.textE (Wr.text ⟨List.drop k t, false⟩).1 ++ Wr.numE (Wr.num (Wr.text ⟨List.drop k t, false⟩).2).1) : Nat) : Int)))) || (!decide (List.take (List.length (Wr.textE (Wr.text ⟨List.drop k t, false⟩).1 ++ Wr.numE (Wr.num (Wr.text ⟨List.drop k t, false⟩).2).1)) (List.drop k t) = Wr.textE (Wr.text ⟨List.drop k t, false⟩).1 ++ Wr.numE (Wr.num (Wr.text ⟨List.drop k t, false⟩).2).1))) = true) : one (t.drop k) = none := by
  unfold one
  split
  · rfl
  split
  · rfl
  · rename_i h0 h1
    have h1' : (Wr.num (Wr.text ⟨List.drop k t, false⟩).2).1 = jsum (Wr.text ⟨List.drop k t, false⟩).1 := Decidable.of_not_not h1
    have hf : Wr.textE (Wr.text ⟨List.drop k t, false⟩).1 ++ Wr.numE (Wr.num (Wr.text ⟨List.drop k t, false⟩).2).1 = form (Wr.text ⟨List.drop k t, false⟩).1 := by unfold form; rw [h1']
    rw [hf, h1', decide_eq_true rfl] at h
    simp only [Bool.not_true, Bool.false_or, Bool.or_eq_true, decide_eq_true_eq, Bool.not_eq_true', decide_eq_false_iff_not] at h
    rcases h with h | h
    · rw [if_pos (by rw [List.length_drop]; omega)]
    · split
      · rfl
      · first | rfl | rw [if_pos h]
theorem rd_end (h : decide ((0 : Int) < ((List.length ((⟨List.drop k t, false⟩ : Wr.Rd).r) : Nat) : Int)) = false) : List.drop k t = [] := by
  have := of_decide_eq_false h
  exact List.eq_nil_of_length_eq_zero (by show (List.drop k t).length = 0; have e : List.length ((⟨List.drop k t, false⟩ : Wr.Rd).r) = (List.drop k t).length := rfl; omega)
theorem rd_blk {W : World} {g : Nat} {m : Nat} (h : one (t.drop k) = some (Wr.text ⟨List.drop k t, false⟩).1) (hm : m = (form (Wr.text ⟨List.drop k t, false⟩).1).length) (hB : Blk W g 70 [strV ((Wr.num (Wr.text ⟨List.drop k t, false⟩).2).2).r, .bool ((Wr.num (Wr.text ⟨List.drop k t, false⟩).2).2).b].toArray) : Blk W g 70 [strV (List.drop (k + m) t), .bool false].toArray := by
  rw [one_next h] at hB
  rw [hm, ← List.drop_drop]
  exact hB
end
set_option maxRecDepth 20000 in
set_option maxHeartbeats 4000000 in
theorem jreads_l {w : World} (hG : Gr w) {t : Str} (hlt : 300 < t.length) : Calls Tryd.prog 3 [strV t].toArray w (Fix (.bool true) w) := by
  refine calls_start Tryd.func3 rfl rfl ?_
  intro az Hz
  rw [Tryd.ntmps3] at Hz
  refine wp_seq_k fun K1 hK1 => ?_
  -- law.go:267
  refine wp_region_lit ?_
  refine L (r_as Hz rfl) Hz rfl ?_
  clear Hz az; intro az Hz
  refine hK1 _ _ ?_
  refine wp_seq_k fun K2 hK2 => ?_
  -- law.go:268
  refine wp_region_lit ?_
  have G3 := Gr.k hG (Only.refl NoF w)
  refine LCV (v := .bool (true)) Hz rfl rfl Tryd.call6 (small03_v G3) rfl fun w4 o5 => ?_
  clear Hz az; intro az Hz
  refine L (r_as Hz rfl) Hz rfl ?_
  clear Hz az; intro az Hz
  refine hK2 _ _ ?_
  refine wp_seq_k fun K6 hK6 => ?_
  refine wp_seq_k fun K7 hK7 => ?_
  -- law.go:269
  refine wp_region_lit ?_
  refine L (r_mv Hz rfl) Hz rfl ?_
  clear Hz az; intro az Hz
  refine L (r_lenS Tryd.underlying9 Hz rfl) Hz rfl ?_
  clear Hz az; intro az Hz
  refine L (r_gtI Hz rfl rfl) Hz rfl ?_
  clear Hz az; intro az Hz
  refine hK7 _ _ ?_
  refine br Hz rfl (fun hc8 => ?_) (fun hc8 => ?_)
  · -- if0
    have p9 := of_decide_eq_true hc8
    refine wp_seq_k fun K10 hK10 => ?_
    -- law.go:270
    refine wp_region_lit ?_
    refine L (r_mv Hz rfl) Hz rfl ?_
    clear Hz az; intro az Hz
    refine L (r_as Hz rfl) Hz rfl ?_
    clear Hz az; intro az Hz
    refine hK10 _ _ ?_
    refine wp_ret ?_
    show bodyPost _ _ _ .ret _ _
    refine ret_of (vs := [.bool (true)]) Hz Tryd.results3 ⟨rfl, trivial⟩ ?_
    exact ⟨rfl, o5⟩
  · -- else0
    have p11 := of_decide_eq_false hc8
    exact absurd (of_decide_eq_false hc8) (by omega)

set_option maxRecDepth 20000 in
set_option maxHeartbeats 4000000 in
theorem jreads_s {w : World} (hG : Gr w) {t : Str} (hlt : t.length ≤ 300) {D2 D3 : Dsk} {n : Nat} (e2 : openJ (Dsk.init.write 7 0 t).1 7 = (D2, 0, some ⟨7, recs t, n, false⟩)) (e3 : openJ D2 7 = (D3, 0, some ⟨7, recs t, n, false⟩)) (r2 : D2.read 7 0 ((D2.size 7 : Nat) : Int) = (forms (recs t), 0)) (r3 : D3.read 7 0 ((D3.size 7 : Nat) : Int) = (forms (recs t), 0)) : Calls Tryd.prog 3 [strV t].toArray w (Fix (.bool true) w) := by
  refine calls_start Tryd.func3 rfl rfl ?_
  intro az Hz
  rw [Tryd.ntmps3] at Hz
  refine wp_seq_k fun K1 hK1 => ?_
  -- law.go:267
  refine wp_region_lit ?_
  refine L (r_as Hz rfl) Hz rfl ?_
  clear Hz az; intro az Hz
  refine hK1 _ _ ?_
  refine wp_seq_k fun K2 hK2 => ?_
  -- law.go:268
  refine wp_region_lit ?_
  have G3 := Gr.k hG (Only.refl NoF w)
  refine LCV (v := .bool (true)) Hz rfl rfl Tryd.call6 (small03_v G3) rfl fun w4 o5 => ?_
  clear Hz az; intro az Hz
  refine L (r_as Hz rfl) Hz rfl ?_
  clear Hz az; intro az Hz
  refine hK2 _ _ ?_
  refine wp_seq_k fun K6 hK6 => ?_
  refine wp_seq_k fun K7 hK7 => ?_
  -- law.go:269
  refine wp_region_lit ?_
  refine L (r_mv Hz rfl) Hz rfl ?_
  clear Hz az; intro az Hz
  refine L (r_lenS Tryd.underlying9 Hz rfl) Hz rfl ?_
  clear Hz az; intro az Hz
  refine L (r_gtI Hz rfl rfl) Hz rfl ?_
  clear Hz az; intro az Hz
  refine hK7 _ _ ?_
  refine br Hz rfl (fun hc8 => ?_) (fun hc8 => ?_)
  · -- if0
    have p9 := of_decide_eq_true hc8
    exact absurd (of_decide_eq_true hc8) (by omega)
  · -- else0
    have p10 := of_decide_eq_false hc8
    refine wp_skip ?_
    refine hK6 _ _ ?_
    refine wp_seq_k fun K11 hK11 => ?_
    -- law.go:272
    refine wp_region_lit ?_
    refine LC Hz rfl rfl Tryd.call7 (dNew_l _) rfl ?_
    rintro e w14 ⟨b12, F13, rfl, h15, o16, hge17⟩; refine ⟨_, rfl, ?_⟩
    clear Hz az; intro az Hz
    refine L (r_as Hz rfl) Hz rfl ?_
    clear Hz az; intro az Hz
    refine hK11 _ _ ?_
    refine wp_seq_k fun K18 hK18 => ?_
    refine wp_seq_k fun K19 hK19 => ?_
    -- law.go:273
    refine wp_region_lit ?_
    refine L (r_mv Hz rfl) Hz rfl ?_
    clear Hz az; intro az Hz
    refine L (r_eqP Tryd.underlying23 Hz rfl rfl) Hz rfl ?_
    clear Hz az; intro az Hz
    refine hK19 _ _ ?_
    refine br_false Hz rfl ?_
    refine wp_skip ?_
    refine hK18 _ _ ?_
    refine wp_seq_k fun K20 hK20 => ?_
    -- law.go:276
    refine wp_region_lit ?_
    refine L (r_mv Hz rfl) Hz rfl ?_
    clear Hz az; intro az Hz
    refine L (r_mv Hz rfl) Hz rfl ?_
    clear Hz az; intro az Hz
    refine LC Hz rfl rfl Tryd.call8 (write_d (f := 7) (a := 0) (s := t) h15 (by unfold I64; omega) (by omega)) rfl ?_
    rintro e w21 ⟨rfl, F22, h23, o24, fm25, fr26⟩; refine ⟨_, rfl, ?_⟩
    have hge27 := ge_next hge17 (size_only o16) fm25 fr26
    clear Hz az; intro az Hz
    refine hK20 _ _ ?_
    refine wp_seq_k fun K28 hK28 => ?_
    -- law.go:277
    refine wp_region_lit ?_
    refine L (r_mv Hz rfl) Hz rfl ?_
    clear Hz az; intro az Hz
    have O37 : Only NoF w w21 := (o_sg (Only.trans' o5 o16) o24 (size_only o5) (fun k h => hge17 k (.inl h)))
    have G36 := Gr.k hG O37
    refine LC Hz rfl rfl Tryd.call9 (open_d G36 h23 (fun k hk => Nat.le_trans (Nat.le_trans hG.1 (size_only o5)) (hge27 k (.inl hk))) e2) rfl ?_
    rintro e w30 ⟨g29, rfl, F31, h32, o33, fm34, fr35⟩; refine ⟨_, rfl, ?_⟩
    have O38 : Only NoF w4 w21 := (o_sg o16 o24 (Nat.le_refl _) (fun k h => hge17 k (.inl h)))
    have hge39 := ge_next hge27 (size_only O38) fm34 fr35
    clear Hz az; intro az Hz
    refine L (r_mv Hz rfl) Hz rfl ?_
    clear Hz az; intro az Hz
    refine L (r_ex Hz rfl rfl) Hz rfl ?_
    clear Hz az; intro az Hz
    refine L (r_ex Hz rfl rfl) Hz rfl ?_
    clear Hz az; intro az Hz
    refine L (r_as Hz rfl) Hz rfl ?_
    clear Hz az; intro az Hz
    refine L (r_as Hz rfl) Hz rfl ?_
    clear Hz az; intro az Hz
    refine hK28 _ _ ?_
    refine wp_seq_k fun K40 hK40 => ?_
    refine wp_seq_k fun K41 hK41 => ?_
    -- law.go:278
    refine wp_region_lit ?_
    refine L (r_mv Hz rfl) Hz rfl ?_
    clear Hz az; intro az Hz
    refine L (r_eqP Tryd.underlying27 Hz rfl rfl) Hz rfl ?_
    clear Hz az; intro az Hz
    refine L (r_mv Hz rfl) Hz rfl ?_
    clear Hz az; intro az Hz
    refine LT Hz rfl rfl (r_mv Hz rfl) rfl ?_
    clear Hz az; intro az Hz
    refine LT Hz rfl rfl (r_neRI Hz rfl rfl) rfl ?_
    clear Hz az; intro az Hz
    refine L (r_pick Hz rfl rfl rfl) Hz rfl ?_
    clear Hz az; intro az Hz
    refine hK41 _ _ ?_
    refine br_false Hz rfl ?_
    refine wp_skip ?_
    refine hK40 _ _ ?_
    refine wp_seq_k fun K42 hK42 => ?_
    -- law.go:281
    refine wp_region_lit ?_
    refine L (r_mv Hz rfl) Hz rfl ?_
    clear Hz az; intro az Hz
    have hokl := okB (BothT.l h32)
    refine LC Hz rfl rfl Tryd.call10 (all_b (BothT.l h32) (by have := Nat.le_trans (forms_count (recs t)) (recs_le t); show (recs t).length ≤ 100000000; omega)) rfl ?_
    rintro e w43 ⟨A44, c45, rfl, r46, o47⟩; refine ⟨_, rfl, ?_⟩
    have okl48 := hokl; clear hokl
    clear Hz az; intro az Hz
    refine L (r_as Hz rfl) Hz rfl ?_
    clear Hz az; intro az Hz
    refine hK42 _ _ ?_
    refine wp_seq_k fun K49 hK49 => ?_
    -- law.go:282
    refine wp_region_lit ?_
    refine L (r_mv Hz rfl) Hz rfl ?_
    clear Hz az; intro az Hz
    refine LC Hz rfl rfl Tryd.call11 (Open_v _ t) rfl ?_
    rintro e w51 ⟨g50, rfl, hg52, B53, o54⟩; refine ⟨_, rfl, ?_⟩
    clear Hz az; intro az Hz
    refine L (r_as Hz rfl) Hz rfl ?_
    clear Hz az; intro az Hz
    refine hK49 _ _ ?_
    refine wp_seq_k fun K55 hK55 => ?_
    refine wp_seq_k fun K56 hK56 => ?_
    -- law.go:283
    refine wp_region_lit ?_
    refine L (r_mv Hz rfl) Hz rfl ?_
    clear Hz az; intro az Hz
    refine L (r_eqP Tryd.underlying32 Hz rfl rfl) Hz rfl ?_
    clear Hz az; intro az Hz
    refine hK56 _ _ ?_
    refine br_false Hz rfl ?_
    refine wp_skip ?_
    refine hK55 _ _ ?_
    refine wp_seq_k fun K57 hK57 => ?_
    -- law.go:286
    refine wp_region_lit ?_
    refine L (r_as Hz rfl) Hz rfl ?_
    clear Hz az; intro az Hz
    refine hK57 _ _ ?_
    refine wp_seq_k fun K58 hK58 => ?_
    -- law.go:287
    refine wp_region_lit ?_
    refine L (r_as Hz rfl) Hz rfl ?_
    clear Hz az; intro az Hz
    refine hK58 _ _ ?_
    refine wp_seq_k fun K59 hK59 => ?_
    refine wp_block ?_
    have hrll := Nat.le_trans (forms_count (recs t)) (recs_le t)
    refine wp_loop_m (fun mz az W => ∃ k : Nat, ∃ O : List Str, ∃ Ao : Option Addr, ∃ co : Nat, mz = t.length - k ∧ Fr 141 [(0, strV (t)), (3, .bool (true)), (4, .pointer (some ⟨b12, 0, none⟩)), (7, .slice A44 (((recs t)).length) c45), (8, .pointer (some ((⟨g50, 0, none⟩ : Addr)))), (10, .int .i64 ((k : Int))), (9, .slice Ao (O.length) co)] az ∧ (k ≤ t.length) ∧ (recs t = O ++ recs (t.drop k)) ∧ (k = (forms O).length) ∧ (∀ z ∈ O, KStr.ok z) ∧ Only (oneF g50) w51 W ∧ Blk W g50 70 [strV (List.drop k t), .bool (false)].toArray ∧ W.ownsRow w51.heap.size 9 1 (.slice Ao O.length co) O.length (List.flatMap KStr.cells O)) ?_ ?_
    · -- start
      exact ⟨_, 0, [], none, 0, rfl, Hz.cut ⟨rfl, rfl, rfl, rfl, rfl, rfl, rfl, trivial⟩, Nat.zero_le _, rfl, rfl, (fun z hz => by cases hz), (Only.refl (oneF g50) w51), B53, (World.ownsRow_nil _ _ _ _)⟩
    clear Hz az
    rintro mz az w60 ⟨k, O, Ao, co, hm62, Hz, hk, hO, hkn, okO, o61, B63, rO⟩
    have hOl : O.length ≤ k := by rw [hkn]; exact forms_count O
    refine wp_seq_k fun K64 hK64 => ?_
    refine wp_seq_k fun K65 hK65 => ?_
    -- law.go:288
    refine wp_region_lit ?_
    refine L (r_mv Hz rfl) Hz rfl ?_
    clear Hz az; intro az Hz
    refine LCV (v := .int .i64 (((List.length ((⟨List.drop k t, false⟩ : Wr.Rd).r) : Nat) : Int))) Hz rfl rfl Tryd.call12 (rLeft_v (s := (⟨List.drop k t, false⟩ : Wr.Rd)) B63) rfl fun w66 o67 => ?_
    clear Hz az; intro az Hz
    refine L (r_gtI Hz rfl rfl) Hz rfl ?_
    clear Hz az; intro az Hz
    refine hK65 _ _ ?_
    refine br Hz rfl (fun hc68 => ?_) (fun hc68 => ?_)
    · -- if4
      have p69 := of_decide_eq_true hc68
      refine wp_skip ?_
      refine hK64 _ _ ?_
      refine wp_block ?_
      refine wp_seq_k fun K70 hK70 => ?_
      -- law.go:289
      refine wp_region_lit ?_
      refine L (r_mv Hz rfl) Hz rfl ?_
      clear Hz az; intro az Hz
      have O72 : Only NoF w w43 := (Only.trans' (o_sg O37 o33 (size_only o5) (fun k h => hge27 k (.inl h))) o47)
      have O73 : Only NoF w w66 := (Only.trans' (o_sg (Only.trans' (Only.trans' (o_sg O37 o33 (size_only o5) (fun k h => hge27 k (.inl h))) o47) o54) o61 (size_only O72) (oneF_ge hg52)) o67)
      have G71 := Gr.k hG O73
      have B74 := (Blk.k B63 o67)
      refine LC Hz rfl rfl Tryd.call13 (rText_v (s := (⟨List.drop k t, false⟩ : Wr.Rd)) G71 B74 (Nat.le_trans hG.1 (Nat.le_trans (size_only O72) hg52)) (by show (List.drop k t).length ≤ _; rw [List.length_drop]; omega)) rfl ?_
      rintro e w75 ⟨rfl, B76, o77⟩; refine ⟨_, rfl, ?_⟩
      clear Hz az; intro az Hz
      refine L (r_as Hz rfl) Hz rfl ?_
      clear Hz az; intro az Hz
      refine hK70 _ _ ?_
      refine wp_seq_k fun K78 hK78 => ?_
      -- law.go:290
      refine wp_region_lit ?_
      refine L (r_mv Hz rfl) Hz rfl ?_
      clear Hz az; intro az Hz
      have O80 : Only NoF w w75 := (o_sg O73 o77 (size_only O72) (oneF_ge hg52))
      have G79 := Gr.k hG O80
      refine LC Hz rfl rfl Tryd.call14 (rNum_v (s := (Wr.text (⟨List.drop k t, false⟩ : Wr.Rd)).2) G79 B76 (Nat.le_trans hG.1 (Nat.le_trans (size_only O72) hg52)) (Nat.le_trans (Nat.le_trans (rest_le (fun h => by cases h)) (by show (List.drop k t).length ≤ _; exact Nat.le_refl _)) (by rw [List.length_drop]; omega))) rfl ?_
      rintro e w81 ⟨rfl, B82, o83⟩; refine ⟨_, rfl, ?_⟩
      clear Hz az; intro az Hz
      refine L (r_as Hz rfl) Hz rfl ?_
      clear Hz az; intro az Hz
      refine hK78 _ _ ?_
      refine wp_seq_k fun K84 hK84 => ?_
      -- law.go:291
      refine wp_region_lit ?_
      refine L (r_mv Hz rfl) Hz rfl ?_
      clear Hz az; intro az Hz
      have O86 : Only NoF w w81 := (o_sg O80 o83 (size_only O72) (oneF_ge hg52))
      have G85 := Gr.k hG O86
      refine LCV (v := strV (Wr.textE ((Wr.text (⟨List.drop k t, false⟩ : Wr.Rd)).1))) Hz rfl rfl Tryd.call15 (Text_v G85 ((Wr.text (⟨List.drop k t, false⟩ : Wr.Rd)).1) (Nat.le_trans (Wr.text_val_len _) (by show (List.drop k t).length ≤ _; rw [List.length_drop]; omega))) rfl fun w87 o88 => ?_
      clear Hz az; intro az Hz
      refine L (r_mv Hz rfl) Hz rfl ?_
      clear Hz az; intro az Hz
      have O90 : Only NoF w w87 := (Only.trans' O86 o88)
      have G89 := Gr.k hG O90
      refine LCV (v := strV (Wr.numE ((Wr.num ((Wr.text (⟨List.drop k t, false⟩ : Wr.Rd)).2)).1))) Hz rfl rfl Tryd.call16 (Num_v G89 ((Wr.num ((Wr.text (⟨List.drop k t, false⟩ : Wr.Rd)).2)).1) (Wr.number_int _ _ _)) rfl fun w91 o92 => ?_
      clear Hz az; intro az Hz
      refine L (r_addS Hz rfl rfl (by have ht1 : List.length (Wr.text ⟨List.drop k t, false⟩).1 ≤ 300 := Nat.le_trans (Wr.text_val_len _) (by show (List.drop k t).length ≤ _; rw [List.length_drop]; omega); have e1 := text_size2 (s := (Wr.text ⟨List.drop k t, false⟩).1) (by omega); have e2 := numE_len (n := (Wr.num (Wr.text ⟨List.drop k t, false⟩).2).1) (Wr.number_int _ _ _);  omega)) Hz rfl ?_
      clear Hz az; intro az Hz
      refine L (r_as Hz rfl) Hz rfl ?_
      clear Hz az; intro az Hz
      refine hK84 _ _ ?_
      refine wp_seq_k fun K93 hK93 => ?_
      refine wp_seq_k fun K94 hK94 => ?_
      -- law.go:292
      refine wp_region_lit ?_
      refine L (r_mv Hz rfl) Hz rfl ?_
      clear Hz az; intro az Hz
      refine L (r_mv Hz rfl) Hz rfl ?_
      clear Hz az; intro az Hz
      refine LCV (v := .int .i64 ((jsum ((Wr.text (⟨List.drop k t, false⟩ : Wr.Rd)).1)))) Hz rfl rfl Tryd.call17 (Sum_v _ ((Wr.text (⟨List.drop k t, false⟩ : Wr.Rd)).1) (Nat.le_trans (Wr.text_val_len _) (by show (List.drop k t).length ≤ _; rw [List.length_drop]; omega))) rfl fun w95 o96 => ?_
      clear Hz az; intro az Hz
      refine L (r_neI Hz rfl rfl) Hz rfl ?_
      clear Hz az; intro az Hz
      refine L (r_mv Hz rfl) Hz rfl ?_
      clear Hz az; intro az Hz
      refine LG Hz rfl rfl gd_f (fun hb => r_mv Hz rfl) rfl ?_
      clear Hz az; intro az Hz
      refine LG Hz rfl rfl gd_f (fun hb => r_mv Hz rfl) rfl ?_
      clear Hz az; intro az Hz
      refine LG Hz rfl rfl gd_f (fun hb => r_lenS Tryd.underlying9 Hz (evg hb rfl)) rfl ?_
      clear Hz az; intro az Hz
      have i97 : I64 (((k : Int) + ((List.length (Wr.textE ((Wr.text (⟨List.drop k t, false⟩ : Wr.Rd)).1) ++ Wr.numE ((Wr.num ((Wr.text (⟨List.drop k t, false⟩ : Wr.Rd)).2)).1)) : Nat) : Int))) := by unfold I64; (have ht1 : List.length (Wr.text ⟨List.drop k t, false⟩).1 ≤ 300 := Nat.le_trans (Wr.text_val_len _) (by show (List.drop k t).length ≤ _; rw [List.length_drop]; omega); have e1 := text_size2 (s := (Wr.text ⟨List.drop k t, false⟩).1) (by omega); have e2 := numE_len (n := (Wr.num (Wr.text ⟨List.drop k t, false⟩).2).1) (Wr.number_int _ _ _); (try simp only [List.length_append]); omega)
      refine LG Hz rfl rfl gd_f (fun hb => r_addI (r := ((k : Int) + ((List.length (Wr.textE ((Wr.text (⟨List.drop k t, false⟩ : Wr.Rd)).1) ++ Wr.numE ((Wr.num ((Wr.text (⟨List.drop k t, false⟩ : Wr.Rd)).2)).1)) : Nat) : Int))) Hz (evg hb rfl) (evg hb rfl) rfl i97) rfl ?_
      clear Hz az; intro az Hz
      refine LG Hz rfl rfl gd_f (fun hb => r_mv Hz rfl) rfl ?_
      clear Hz az; intro az Hz
      refine LG Hz rfl rfl gd_f (fun hb => r_lenS Tryd.underlying9 Hz (evg hb rfl)) rfl ?_
      clear Hz az; intro az Hz
      refine LG Hz rfl rfl gd_f (fun hb => r_gtI Hz (evg hb rfl) (evg hb rfl)) rfl ?_
      clear Hz az; intro az Hz
      refine L (r_or Hz rfl rfl rfl) Hz rfl ?_
      clear Hz az; intro az Hz
      refine L (r_mv Hz rfl) Hz rfl ?_
      clear Hz az; intro az Hz
      refine LG Hz rfl rfl gd_f (fun hb => r_mv Hz rfl) rfl ?_
      clear Hz az; intro az Hz
      refine LG Hz rfl rfl gd_f (fun hb => r_mv Hz rfl) rfl ?_
      clear Hz az; intro az Hz
      refine LG Hz rfl rfl gd_f (fun hb => r_mv Hz rfl) rfl ?_
      clear Hz az; intro az Hz
      refine LG Hz rfl rfl gd_f (fun hb => r_mv Hz rfl) rfl ?_
      clear Hz az; intro az Hz
      refine LG Hz rfl rfl gd_f (fun hb => r_lenS Tryd.underlying9 Hz (evg hb rfl)) rfl ?_
      clear Hz az; intro az Hz
      have i98 : I64 (((k : Int) + ((List.length (Wr.textE ((Wr.text (⟨List.drop k t, false⟩ : Wr.Rd)).1) ++ Wr.numE ((Wr.num ((Wr.text (⟨List.drop k t, false⟩ : Wr.Rd)).2)).1)) : Nat) : Int))) := by unfold I64; (have ht1 : List.length (Wr.text ⟨List.drop k t, false⟩).1 ≤ 300 := Nat.le_trans (Wr.text_val_len _) (by show (List.drop k t).length ≤ _; rw [List.length_drop]; omega); have e1 := text_size2 (s := (Wr.text ⟨List.drop k t, false⟩).1) (by omega); have e2 := numE_len (n := (Wr.num (Wr.text ⟨List.drop k t, false⟩).2).1) (Wr.number_int _ _ _); (try simp only [List.length_append]); omega)
      refine LG Hz rfl rfl gd_f (fun hb => r_addI (r := ((k : Int) + ((List.length (Wr.textE ((Wr.text (⟨List.drop k t, false⟩ : Wr.Rd)).1) ++ Wr.numE ((Wr.num ((Wr.text (⟨List.drop k t, false⟩ : Wr.Rd)).2)).1)) : Nat) : Int))) Hz (evg hb rfl) (evg hb rfl) rfl i98) rfl ?_
      clear Hz az; intro az Hz
      refine LG Hz rfl rfl gd_f (fun hb => r_ss (lo := k) (m := List.length (Wr.textE (Wr.text ⟨List.drop k t, false⟩).1 ++ Wr.numE (Wr.num (Wr.text ⟨List.drop k t, false⟩).2).1)) Tryd.underlying9 Hz (evg hb rfl) (evg hb rfl) (evg hb rfl) rfl (by omega) (rd_bnd hb)) rfl ?_
      clear Hz az; intro az Hz
      refine LG Hz rfl rfl gd_f (fun hb => r_mv Hz rfl) rfl ?_
      clear Hz az; intro az Hz
      refine LG Hz rfl rfl gd_f (fun hb => r_neS Hz (evg hb rfl) (evg hb rfl)) rfl ?_
      clear Hz az; intro az Hz
      refine L (r_or Hz rfl rfl rfl) Hz rfl ?_
      clear Hz az; intro az Hz
      refine hK94 _ _ ?_
      refine br Hz rfl (fun hc99 => ?_) (fun hc99 => ?_)
      · -- if5
        have d100 := hc99
        refine wp_exit ?_
        refine th_exit ?_
        refine ib_miss rfl ?_
        refine th_exit ?_
        refine ib_hit ?_
        refine hK59 _ _ ?_
        refine wp_seq_k fun K101 hK101 => ?_
        have hst := recs_none (rd_none hk hc99)
        rw [hst, List.append_nil] at hO
        subst hO
        subst hkn
        -- law.go:298
        refine wp_region_lit ?_
        refine L (r_mv Hz rfl) Hz rfl ?_
        clear Hz az; intro az Hz
        refine L (r_mv Hz rfl) Hz rfl ?_
        clear Hz az; intro az Hz
        have O102 : Only NoF w30 w51 := (Only.trans' o47 o54)
        have O103 : Only NoF w81 w95 := (Only.trans' (Only.trans' o88 o92) o96)
        have T104 : (JT b12 g29 D2 ⟨7, recs t, n, false⟩) w95 F31 := ((jt_good _ _ _ _).only ((jt_good _ _ _ _).only ((jt_good _ _ _ _).only ((jt_good _ _ _ _).only ((jt_good _ _ _ _).only ((jt_good _ _ _ _).only h32 O102 (fun _ _ h => h)) o61 (fun k hk (e : k = g50) => (fun h => absurd ((jt_good _ _ _ _).lt h32 _ h) (Nat.not_lt.2 (Nat.le_trans (size_only o47) hg52))) (by rw [← e]; exact hk))) o67 (fun _ _ h => h)) o77 (fun k hk (e : k = g50) => (fun h => absurd ((jt_good _ _ _ _).lt h32 _ h) (Nat.not_lt.2 (Nat.le_trans (size_only o47) hg52))) (by rw [← e]; exact hk))) o83 (fun k hk (e : k = g50) => (fun h => absurd ((jt_good _ _ _ _).lt h32 _ h) (Nat.not_lt.2 (Nat.le_trans (size_only o47) hg52))) (by rw [← e]; exact hk))) O103 (fun _ _ h => h))
        obtain ⟨F106, hd105⟩ := JT.d T104
        refine LCV (v := .int .i64 (((Dsk.size D2 7 : Nat) : Int))) Hz rfl rfl Tryd.call19 (size_d hd105 7) rfl fun w107 o108 => ?_
        clear Hz az; intro az Hz
        have T109 : (JT b12 g29 D2 ⟨7, recs t, n, false⟩) w107 F31 := ((jt_good _ _ _ _).only T104 o108 (fun _ _ h => h))
        obtain ⟨F111, hd110⟩ := JT.d T109
        refine LCV (v := .tuple #[strV (forms (recs t)), .int .i64 (0)]) Hz rfl rfl Tryd.call18 (read_d hd110 (by unfold I64; omega) (by first | exact size_i64 hd110 _ | (unfold I64; omega)) r2) rfl fun w112 o113 => ?_
        clear Hz az; intro az Hz
        refine L (r_mv Hz rfl) Hz rfl ?_
        clear Hz az; intro az Hz
        refine L (r_ex Hz rfl rfl) Hz rfl ?_
        clear Hz az; intro az Hz
        refine L (r_ex Hz rfl rfl) Hz rfl ?_
        clear Hz az; intro az Hz
        refine L (r_as Hz rfl) Hz rfl ?_
        clear Hz az; intro az Hz
        refine L (r_as Hz rfl) Hz rfl ?_
        clear Hz az; intro az Hz
        refine hK101 _ _ ?_
        refine wp_seq_k fun K114 hK114 => ?_
        -- law.go:299
        refine wp_region_lit ?_
        refine L (r_mv Hz rfl) Hz rfl ?_
        clear Hz az; intro az Hz
        have O123 : Only NoF w w112 := (Only.trans' (Only.trans' (Only.trans' (Only.trans' O90 o92) o96) o108) o113)
        have G122 := Gr.k hG O123
        have T124 : (JT b12 g29 D2 ⟨7, recs t, n, false⟩) w112 F31 := ((jt_good _ _ _ _).only T109 o113 (fun _ _ h => h))
        refine LC Hz rfl rfl Tryd.call9 (open_j G122 T124 (fun k hk => Nat.le_trans (Nat.le_trans hG.1 (size_only o5)) (hge39 k (.inl hk))) e3) rfl ?_
        rintro e w116 ⟨g115, rfl, F117, h118, o119, fm120, fr121⟩; refine ⟨_, rfl, ?_⟩
        have O125 : Only NoF w4 w43 := (Only.trans' (o_sg O38 o33 (Nat.le_refl _) (fun k h => hge27 k (.inl h))) o47)
        have O126 : Only NoF w4 w112 := (Only.trans' (Only.trans' (Only.trans' (Only.trans' (Only.trans' (o_sg (o_sg (Only.trans' (o_sg (Only.trans' (Only.trans' (o_sg O38 o33 (Nat.le_refl _) (fun k h => hge27 k (.inl h))) o47) o54) o61 (size_only O125) (oneF_ge hg52)) o67) o77 (size_only O125) (oneF_ge hg52)) o83 (size_only O125) (oneF_ge hg52)) o88) o92) o96) o108) o113)
        have hge127 := ge_next hge39 (size_only O126) fm120 fr121
        clear Hz az; intro az Hz
        refine L (r_mv Hz rfl) Hz rfl ?_
        clear Hz az; intro az Hz
        refine L (r_ex Hz rfl rfl) Hz rfl ?_
        clear Hz az; intro az Hz
        refine L (r_ex Hz rfl rfl) Hz rfl ?_
        clear Hz az; intro az Hz
        refine L (r_as Hz rfl) Hz rfl ?_
        clear Hz az; intro az Hz
        refine L (r_as Hz rfl) Hz rfl ?_
        clear Hz az; intro az Hz
        refine hK114 _ _ ?_
        refine wp_seq_k fun K128 hK128 => ?_
        refine wp_seq_k fun K129 hK129 => ?_
        -- law.go:300
        refine wp_region_lit ?_
        refine L (r_mv Hz rfl) Hz rfl ?_
        clear Hz az; intro az Hz
        refine L (r_eqP Tryd.underlying27 Hz rfl rfl) Hz rfl ?_
        clear Hz az; intro az Hz
        refine L (r_mv Hz rfl) Hz rfl ?_
        clear Hz az; intro az Hz
        refine LT Hz rfl rfl (r_mv Hz rfl) rfl ?_
        clear Hz az; intro az Hz
        refine LT Hz rfl rfl (r_neRI Hz rfl rfl) rfl ?_
        clear Hz az; intro az Hz
        refine L (r_pick Hz rfl rfl rfl) Hz rfl ?_
        clear Hz az; intro az Hz
        refine hK129 _ _ ?_
        refine br_false Hz rfl ?_
        refine wp_skip ?_
        refine hK128 _ _ ?_
        refine wp_seq_k fun K130 hK130 => ?_
        -- law.go:303
        refine wp_region_lit ?_
        refine L (r_mv Hz rfl) Hz rfl ?_
        clear Hz az; intro az Hz
        refine L (r_mv Hz rfl) Hz rfl ?_
        clear Hz az; intro az Hz
        obtain ⟨F132, hd131⟩ := JT.d h118
        refine LCV (v := .int .i64 (((Dsk.size D3 7 : Nat) : Int))) Hz rfl rfl Tryd.call19 (size_d hd131 7) rfl fun w133 o134 => ?_
        clear Hz az; intro az Hz
        have T135 : (JT b12 g115 D3 ⟨7, recs t, n, false⟩) w133 F117 := ((jt_good _ _ _ _).only h118 o134 (fun _ _ h => h))
        obtain ⟨F137, hd136⟩ := JT.d T135
        refine LCV (v := .tuple #[strV (forms (recs t)), .int .i64 (0)]) Hz rfl rfl Tryd.call18 (read_d hd136 (by unfold I64; omega) (by first | exact size_i64 hd136 _ | (unfold I64; omega)) r3) rfl fun w138 o139 => ?_
        clear Hz az; intro az Hz
        refine L (r_mv Hz rfl) Hz rfl ?_
        clear Hz az; intro az Hz
        refine L (r_ex Hz rfl rfl) Hz rfl ?_
        clear Hz az; intro az Hz
        refine L (r_ex Hz rfl rfl) Hz rfl ?_
        clear Hz az; intro az Hz
        refine L (r_as Hz rfl) Hz rfl ?_
        clear Hz az; intro az Hz
        refine L (r_as Hz rfl) Hz rfl ?_
        clear Hz az; intro az Hz
        refine hK130 _ _ ?_
        refine wp_seq_k fun K140 hK140 => ?_
        -- law.go:304
        refine wp_region_lit ?_
        refine L (r_mv Hz rfl) Hz rfl ?_
        clear Hz az; intro az Hz
        refine L (r_mv Hz rfl) Hz rfl ?_
        clear Hz az; intro az Hz
        refine LT Hz rfl rfl (r_mv Hz rfl) rfl ?_
        clear Hz az; intro az Hz
        refine LT Hz rfl rfl (r_mv Hz rfl) rfl ?_
        clear Hz az; intro az Hz
        have h141 := Row.own KStr r46 okl48
        have h142 := SliceOf.rg h141
        have O143 : Only NoF w43 w112 := (Only.trans' (Only.trans' (Only.trans' (Only.trans' (Only.trans' (o_sg (o_sg (Only.trans' (o_sg o54 o61 (Nat.le_refl _) (oneF_ge hg52)) o67) o77 (Nat.le_refl _) (oneF_ge hg52)) o83 (Nat.le_refl _) (oneF_ge hg52)) o88) o92) o96) o108) o113)
        have O144 : Only NoF w116 w138 := (Only.trans' o134 o139)
        have h145 := (SliceOf.kp (SliceOf.kp (SliceOf.kp h142 O143 (fun _ _ h => h) (fun _ _ _ _ h => h)) o119 (fun k hk => ge_F (fun k h => (jt_good _ _ _ _).lt h32 k (.inl h)) (Nat.le_refl _) k hk.1) (fun _ _ _ _ h => h)) O144 (fun _ _ h => h) (fun _ _ _ _ h => h))
        have h146 := SliceOf.pl h145
        have h147 := Row.own KStr rO okO
        have O148 : Only NoF w81 w112 := (Only.trans' (Only.trans' O103 o108) o113)
        have h149 := (SliceOf.kp (SliceOf.kp (SliceOf.kp (SliceOf.kp (SliceOf.kp (SliceOf.kp h147 o67 (fun _ _ h => h) (fun _ _ _ _ h => h)) o77 (ge_F (oneF_lt (Blk.lt B53)) (Nat.le_refl _)) (fun _ _ _ _ h => h)) o83 (ge_F (oneF_lt (Blk.lt B53)) (Nat.le_refl _)) (fun _ _ _ _ h => h)) O148 (fun _ _ h => h) (fun _ _ _ _ h => h)) o119 (ge_F (fun k h => (jt_good _ _ _ _).lt h32 k (.inl h)) (size_only O102)) (fun _ _ _ _ h => h)) O144 (fun _ _ h => h) (fun _ _ _ _ h => h))
        have h150 := SliceOf.pl h149
        refine LGV (v := .bool (true)) Hz rfl rfl gd_t rfl (fun hb => rfl) Tryd.call20 (fun hb => fix_eq (congrArg Value.bool (decide_eq_true rfl)) (SameTexts_v h146 h150)) rfl fun w151 o152 => ?_
        clear Hz az; intro az Hz
        refine L (r_pick Hz rfl rfl rfl) Hz rfl ?_
        clear Hz az; intro az Hz
        refine L (r_mv Hz rfl) Hz rfl ?_
        clear Hz az; intro az Hz
        refine LT Hz rfl rfl (r_mv Hz rfl) rfl ?_
        clear Hz az; intro az Hz
        refine LT Hz rfl rfl (r_mv Hz rfl) rfl ?_
        clear Hz az; intro az Hz
        refine LT Hz rfl rfl (r_mv Hz rfl) rfl ?_
        clear Hz az; intro az Hz
        refine LT Hz rfl rfl (r_ssh (m := (forms (recs t)).length) Tryd.underlying9 Hz rfl rfl rfl (recs_le t)) rfl ?_
        clear Hz az; intro az Hz
        refine LT Hz rfl rfl (r_eqSh Hz rfl rfl (recs_take t).symm) rfl ?_
        clear Hz az; intro az Hz
        refine L (r_pick Hz rfl rfl rfl) Hz rfl ?_
        clear Hz az; intro az Hz
        refine L (r_mv Hz rfl) Hz rfl ?_
        clear Hz az; intro az Hz
        refine LT Hz rfl rfl (r_mv Hz rfl) rfl ?_
        clear Hz az; intro az Hz
        have O158 : Only NoF w133 w151 := (Only.trans' o139 o152)
        have T159 : (JT b12 g115 D3 ⟨7, recs t, n, false⟩) w151 F117 := ((jt_good _ _ _ _).only T135 O158 (fun _ _ h => h))
        have hokl := okB (BothT.l T159)
        refine LCT Hz rfl rfl rfl rfl Tryd.call10 (all_b (BothT.l T159) (by have := Nat.le_trans (forms_count (recs t)) (recs_le t); show (recs t).length ≤ 100000000; omega)) rfl ?_
        rintro e w153 ⟨A154, c155, rfl, r156, o157⟩; refine ⟨_, rfl, ?_⟩
        have okl160 := hokl; clear hokl
        clear Hz az; intro az Hz
        refine LT Hz rfl rfl (r_mv Hz rfl) rfl ?_
        clear Hz az; intro az Hz
        have h161 := Row.own KStr r156 okl160
        have h162 := SliceOf.pl h161
        have O163 : Only NoF w138 w153 := (Only.trans' o152 o157)
        have h164 := (SliceOf.kp h149 O163 (fun _ _ h => h) (fun _ _ _ _ h => h))
        have h165 := SliceOf.pl h164
        refine LGV (v := .bool (true)) Hz rfl rfl gd_t rfl (fun hb => rfl) Tryd.call20 (fun hb => fix_eq (congrArg Value.bool (decide_eq_true rfl)) (SameTexts_v h162 h165)) rfl fun w166 o167 => ?_
        clear Hz az; intro az Hz
        refine L (r_pick Hz rfl rfl rfl) Hz rfl ?_
        clear Hz az; intro az Hz
        refine L (r_mv Hz rfl) Hz rfl ?_
        clear Hz az; intro az Hz
        refine LT Hz rfl rfl (r_mv Hz rfl) rfl ?_
        clear Hz az; intro az Hz
        refine LT Hz rfl rfl (r_mv Hz rfl) rfl ?_
        clear Hz az; intro az Hz
        refine LT Hz rfl rfl (r_eqSh Hz rfl rfl rfl) rfl ?_
        clear Hz az; intro az Hz
        refine L (r_pick Hz rfl rfl rfl) Hz rfl ?_
        clear Hz az; intro az Hz
        refine L (r_as Hz rfl) Hz rfl ?_
        clear Hz az; intro az Hz
        refine hK140 _ _ ?_
        refine wp_ret ?_
        show bodyPost _ _ _ .ret _ _
        refine ret_of (vs := [.bool (true)]) Hz Tryd.results3 ⟨rfl, trivial⟩ ?_
        have O168 : Only NoF w w166 := (Only.trans' (Only.trans' (Only.trans' (Only.trans' (Only.trans' (o_sg O123 o119 (size_only o5) (fun k h => hge39 k (.inl h))) o134) o139) o152) o157) o167)
        exact ⟨rfl, O168⟩
      · -- else5
        have p169 := of_decide_eq_true (nt_f (or_f (or_f hc99).1).1)
        have p170 := of_decide_eq_false (or_f (or_f hc99).1).2
        have p171 := of_decide_eq_true (nt_f (or_f hc99).2)
        refine wp_skip ?_
        refine hK93 _ _ ?_
        refine wp_seq_k fun K172 hK172 => ?_
        -- law.go:295
        refine wp_region_lit ?_
        refine L (r_mv Hz rfl) Hz rfl ?_
        clear Hz az; intro az Hz
        refine L (r_mv Hz rfl) Hz rfl ?_
        clear Hz az; intro az Hz
        obtain ⟨A173, w174, hw, hA, r175, o176⟩ := Row.made (w := w95) KStr (e := 9) ([(Wr.text (⟨List.drop k t, false⟩ : Wr.Rd)).1] : List Str) (by simp only [List.length_cons, List.length_nil]; unfold maxLen; omega)
        refine L (r_bs (z := strV ([])) (size := 1) (vs := [(0, strV ((Wr.text (⟨List.drop k t, false⟩ : Wr.Rd)).1))]) (cs := List.flatMap KStr.cells [(Wr.text (⟨List.drop k t, false⟩ : Wr.Rd)).1]) Tryd.underlying30 Tryd.sizeOf9 Tryd.zeroValue9 rfl (Fr.evalps Hz rfl) (by kernel_rfl)) Hz rfl ?_
        rw [← hw, ← hA]; clear Hz az; intro az Hz
        clear hw hA
        have ok177 : ∀ zq ∈ ([(Wr.text (⟨List.drop k t, false⟩ : Wr.Rd)).1] : List Str), KStr.ok zq := by intro zq hx; simp only [List.mem_cons, List.not_mem_nil, or_false] at hx; rcases hx with rfl <;> first | exact (by have ht1 : List.length (Wr.text ⟨List.drop k t, false⟩).1 ≤ 300 := Nat.le_trans (Wr.text_val_len _) (by show (List.drop k t).length ≤ _; rw [List.length_drop]; omega); have e1 := text_size2 (s := (Wr.text ⟨List.drop k t, false⟩).1) (by omega); have e2 := numE_len (n := (Wr.num (Wr.text ⟨List.drop k t, false⟩).2).1) (Wr.number_int _ _ _);  show List.length ((Wr.text (⟨List.drop k t, false⟩ : Wr.Rd)).1) ≤ maxLen; unfold maxLen; omega)
        have r178 := (ow_k (ow_k (ow_k (ow_k (ow_only (ow_only (ow_k rO o67) o77 (fun k hk => ge_F (oneF_lt (Blk.lt B53)) (Nat.le_refl _) k (ownF_ge (ow_k rO o67) k hk))) o83 (fun k hk => ge_F (oneF_lt (Blk.lt B53)) (Nat.le_refl _) k (ownF_ge (ow_only (ow_k rO o67) o77 (fun k hk => ge_F (oneF_lt (Blk.lt B53)) (Nat.le_refl _) k (ownF_ge (ow_k rO o67) k hk))) k hk))) o88) o92) o96) o176)
        have h179 := Row.own KStr r175 ok177
        have h180 := SliceOf.pl h179
        have hb188 : (List.length (O) + List.length ([(Wr.text (⟨List.drop k t, false⟩ : Wr.Rd)).1])) * 16 ≤ 140737488355328 := by (simp only [List.length_cons, List.length_nil]; omega)
        have O189 := (Only.trans (Only.trans (Only.trans (Only.trans (Only.trans (Only.trans (Only.trans (Only.trans (Only.refl (fun _ => True) w51) o61 (fun _ _ => .inl trivial)) o67 (fun _ _ => .inl trivial)) o77 (fun _ _ => .inl trivial)) o83 (fun _ _ => .inl trivial)) o88 (fun _ _ => .inl trivial)) o92 (fun _ _ => .inl trivial)) o96 (fun _ _ => .inl trivial)) o176 (fun _ _ => .inl trivial))
        obtain ⟨A181, c182, w183, hr184, r185, o186, al187⟩ := Row.app (P := Tryd.prog) (l := O) (l2 := [(Wr.text (⟨List.drop k t, false⟩ : Wr.Rd)).1]) KStr elemStr r178 h180 hb188 (by unfold maxLen; omega) (size_only O189)
        refine L (r_app hr184 Hz rfl rfl) Hz rfl ?_
        clear Hz az; intro az Hz
        have ok190 : ∀ zq ∈ (O ++ [(Wr.text (⟨List.drop k t, false⟩ : Wr.Rd)).1]), KStr.ok zq := (fun x hx => (List.mem_append.1 hx).elim (okO x) ((Row.oks KStr h180) x))
        have h191 := Row.own KStr r185 ok190
        refine L (r_as Hz rfl) Hz rfl ?_
        clear Hz az; intro az Hz
        refine hK172 _ _ ?_
        -- law.go:296
        refine wp_region_lit ?_
        refine L (r_mv Hz rfl) Hz rfl ?_
        clear Hz az; intro az Hz
        refine L (r_mv Hz rfl) Hz rfl ?_
        clear Hz az; intro az Hz
        refine L (r_lenS Tryd.underlying9 Hz rfl) Hz rfl ?_
        clear Hz az; intro az Hz
        have i192 : I64 (((k : Int) + ((List.length (Wr.textE ((Wr.text (⟨List.drop k t, false⟩ : Wr.Rd)).1) ++ Wr.numE ((Wr.num ((Wr.text (⟨List.drop k t, false⟩ : Wr.Rd)).2)).1)) : Nat) : Int))) := by unfold I64; (have ht1 : List.length (Wr.text ⟨List.drop k t, false⟩).1 ≤ 300 := Nat.le_trans (Wr.text_val_len _) (by show (List.drop k t).length ≤ _; rw [List.length_drop]; omega); have e1 := text_size2 (s := (Wr.text ⟨List.drop k t, false⟩).1) (by omega); have e2 := numE_len (n := (Wr.num (Wr.text ⟨List.drop k t, false⟩).2).1) (Wr.number_int _ _ _); (try simp only [List.length_append]); omega)
        refine L (r_addI (r := ((k : Int) + ((List.length (Wr.textE ((Wr.text (⟨List.drop k t, false⟩ : Wr.Rd)).1) ++ Wr.numE ((Wr.num ((Wr.text (⟨List.drop k t, false⟩ : Wr.Rd)).2)).1)) : Nat) : Int))) Hz rfl rfl rfl i192) Hz rfl ?_
        clear Hz az; intro az Hz
        refine L (r_as Hz rfl) Hz rfl ?_
        clear Hz az; intro az Hz
        have hone := rd_one hk hlt hc99
        have hfeq : List.length (Wr.textE (Wr.text ⟨List.drop k t, false⟩).1 ++ Wr.numE (Wr.num (Wr.text ⟨List.drop k t, false⟩).2).1) = (form (Wr.text ⟨List.drop k t, false⟩).1).length := by rw [rd_form hc99]
        obtain ⟨_, _, _, hfl, _⟩ := one_some hone
        have hfp := form_pos (Wr.text ⟨List.drop k t, false⟩).1
        rw [List.length_drop] at hfl
        have B193 := (Blk.only (Blk.k (Blk.k (Blk.k (Blk.k B82 o88) o92) o96) o176) o186 (ow_nb r178 (Blk.k (Blk.k (Blk.k (Blk.k B82 o88) o92) o96) o176) (by decide)))
        exact ⟨_, (by omega), k + List.length (Wr.textE (Wr.text ⟨List.drop k t, false⟩).1 ++ Wr.numE (Wr.num (Wr.text ⟨List.drop k t, false⟩).2).1), _, A181, c182, rfl, Hz.cut ⟨rfl, rfl, rfl, rfl, rfl, rfl, rfl, trivial⟩, (by omega), (by rw [hO, recs_some hone, List.drop_drop, List.append_assoc, hfeq]; rfl), (by rw [forms_snoc, ← hkn, hfeq]), ok190, (Only.trans (Only.trans (Only.trans (Only.trans (Only.trans (Only.trans (Only.trans (Only.trans (Only.trans (Only.refl (oneF g50) w51) o61 (fun _ h => .inl h)) o67 (fun _ h => h.elim)) o77 (fun _ h => .inl h)) o83 (fun _ h => .inl h)) o88 (fun _ h => h.elim)) o92 (fun _ h => h.elim)) o96 (fun _ h => h.elim)) o176 (fun _ h => h.elim)) o186 (fun k h => .inr (Nat.le_trans (Nat.le_refl _) ((ownF_ge rO) k h)))), (rd_blk hone hfeq B193), (ow_low r185 (Nat.le_refl _))⟩
    · -- else4
      have p194 := of_decide_eq_false hc68
      refine wp_exit ?_
      refine th_exit ?_
      refine th_exit ?_
      refine ib_hit ?_
      refine hK59 _ _ ?_
      refine wp_seq_k fun K195 hK195 => ?_
      have hst : recs (t.drop k) = [] := by rw [rd_end hc68]; exact recs_nil
      rw [hst, List.append_nil] at hO
      subst hO
      subst hkn
      -- law.go:298
      refine wp_region_lit ?_
      refine L (r_mv Hz rfl) Hz rfl ?_
      clear Hz az; intro az Hz
      refine L (r_mv Hz rfl) Hz rfl ?_
      clear Hz az; intro az Hz
      have O196 : Only NoF w30 w51 := (Only.trans' o47 o54)
      have T197 : (JT b12 g29 D2 ⟨7, recs t, n, false⟩) w66 F31 := ((jt_good _ _ _ _).only ((jt_good _ _ _ _).only ((jt_good _ _ _ _).only h32 O196 (fun _ _ h => h)) o61 (fun k hk (e : k = g50) => (fun h => absurd ((jt_good _ _ _ _).lt h32 _ h) (Nat.not_lt.2 (Nat.le_trans (size_only o47) hg52))) (by rw [← e]; exact hk))) o67 (fun _ _ h => h))
      obtain ⟨F199, hd198⟩ := JT.d T197
      refine LCV (v := .int .i64 (((Dsk.size D2 7 : Nat) : Int))) Hz rfl rfl Tryd.call19 (size_d hd198 7) rfl fun w200 o201 => ?_
      clear Hz az; intro az Hz
      have T202 : (JT b12 g29 D2 ⟨7, recs t, n, false⟩) w200 F31 := ((jt_good _ _ _ _).only T197 o201 (fun _ _ h => h))
      obtain ⟨F204, hd203⟩ := JT.d T202
      refine LCV (v := .tuple #[strV (forms (recs t)), .int .i64 (0)]) Hz rfl rfl Tryd.call18 (read_d hd203 (by unfold I64; omega) (by first | exact size_i64 hd203 _ | (unfold I64; omega)) r2) rfl fun w205 o206 => ?_
      clear Hz az; intro az Hz
      refine L (r_mv Hz rfl) Hz rfl ?_
      clear Hz az; intro az Hz
      refine L (r_ex Hz rfl rfl) Hz rfl ?_
      clear Hz az; intro az Hz
      refine L (r_ex Hz rfl rfl) Hz rfl ?_
      clear Hz az; intro az Hz
      refine L (r_as Hz rfl) Hz rfl ?_
      clear Hz az; intro az Hz
      refine L (r_as Hz rfl) Hz rfl ?_
      clear Hz az; intro az Hz
      refine hK195 _ _ ?_
      refine wp_seq_k fun K207 hK207 => ?_
      -- law.go:299
      refine wp_region_lit ?_
      refine L (r_mv Hz rfl) Hz rfl ?_
      clear Hz az; intro az Hz
      have O216 : Only NoF w w43 := (Only.trans' (o_sg O37 o33 (size_only o5) (fun k h => hge27 k (.inl h))) o47)
      have O217 : Only NoF w w205 := (Only.trans' (Only.trans' (Only.trans' (o_sg (Only.trans' (Only.trans' (o_sg O37 o33 (size_only o5) (fun k h => hge27 k (.inl h))) o47) o54) o61 (size_only O216) (oneF_ge hg52)) o67) o201) o206)
      have G215 := Gr.k hG O217
      have T218 : (JT b12 g29 D2 ⟨7, recs t, n, false⟩) w205 F31 := ((jt_good _ _ _ _).only T202 o206 (fun _ _ h => h))
      refine LC Hz rfl rfl Tryd.call9 (open_j G215 T218 (fun k hk => Nat.le_trans (Nat.le_trans hG.1 (size_only o5)) (hge39 k (.inl hk))) e3) rfl ?_
      rintro e w209 ⟨g208, rfl, F210, h211, o212, fm213, fr214⟩; refine ⟨_, rfl, ?_⟩
      have O219 : Only NoF w4 w43 := (Only.trans' (o_sg O38 o33 (Nat.le_refl _) (fun k h => hge27 k (.inl h))) o47)
      have O220 : Only NoF w4 w205 := (Only.trans' (Only.trans' (Only.trans' (o_sg (Only.trans' (Only.trans' (o_sg O38 o33 (Nat.le_refl _) (fun k h => hge27 k (.inl h))) o47) o54) o61 (size_only O219) (oneF_ge hg52)) o67) o201) o206)
      have hge221 := ge_next hge39 (size_only O220) fm213 fr214
      clear Hz az; intro az Hz
      refine L (r_mv Hz rfl) Hz rfl ?_
      clear Hz az; intro az Hz
      refine L (r_ex Hz rfl rfl) Hz rfl ?_
      clear Hz az; intro az Hz
      refine L (r_ex Hz rfl rfl) Hz rfl ?_
      clear Hz az; intro az Hz
      refine L (r_as Hz rfl) Hz rfl ?_
      clear Hz az; intro az Hz
      refine L (r_as Hz rfl) Hz rfl ?_
      clear Hz az; intro az Hz
      refine hK207 _ _ ?_
      refine wp_seq_k fun K222 hK222 => ?_
      refine wp_seq_k fun K223 hK223 => ?_
      -- law.go:300
      refine wp_region_lit ?_
      refine L (r_mv Hz rfl) Hz rfl ?_
      clear Hz az; intro az Hz
      refine L (r_eqP Tryd.underlying27 Hz rfl rfl) Hz rfl ?_
      clear Hz az; intro az Hz
      refine L (r_mv Hz rfl) Hz rfl ?_
      clear Hz az; intro az Hz
      refine LT Hz rfl rfl (r_mv Hz rfl) rfl ?_
      clear Hz az; intro az Hz
      refine LT Hz rfl rfl (r_neRI Hz rfl rfl) rfl ?_
      clear Hz az; intro az Hz
      refine L (r_pick Hz rfl rfl rfl) Hz rfl ?_
      clear Hz az; intro az Hz
      refine hK223 _ _ ?_
      refine br_false Hz rfl ?_
      refine wp_skip ?_
      refine hK222 _ _ ?_
      refine wp_seq_k fun K224 hK224 => ?_
      -- law.go:303
      refine wp_region_lit ?_
      refine L (r_mv Hz rfl) Hz rfl ?_
      clear Hz az; intro az Hz
      refine L (r_mv Hz rfl) Hz rfl ?_
      clear Hz az; intro az Hz
      obtain ⟨F226, hd225⟩ := JT.d h211
      refine LCV (v := .int .i64 (((Dsk.size D3 7 : Nat) : Int))) Hz rfl rfl Tryd.call19 (size_d hd225 7) rfl fun w227 o228 => ?_
      clear Hz az; intro az Hz
      have T229 : (JT b12 g208 D3 ⟨7, recs t, n, false⟩) w227 F210 := ((jt_good _ _ _ _).only h211 o228 (fun _ _ h => h))
      obtain ⟨F231, hd230⟩ := JT.d T229
      refine LCV (v := .tuple #[strV (forms (recs t)), .int .i64 (0)]) Hz rfl rfl Tryd.call18 (read_d hd230 (by unfold I64; omega) (by first | exact size_i64 hd230 _ | (unfold I64; omega)) r3) rfl fun w232 o233 => ?_
      clear Hz az; intro az Hz
      refine L (r_mv Hz rfl) Hz rfl ?_
      clear Hz az; intro az Hz
      refine L (r_ex Hz rfl rfl) Hz rfl ?_
      clear Hz az; intro az Hz
      refine L (r_ex Hz rfl rfl) Hz rfl ?_
      clear Hz az; intro az Hz
      refine L (r_as Hz rfl) Hz rfl ?_
      clear Hz az; intro az Hz
      refine L (r_as Hz rfl) Hz rfl ?_
      clear Hz az; intro az Hz
      refine hK224 _ _ ?_
      refine wp_seq_k fun K234 hK234 => ?_
      -- law.go:304
      refine wp_region_lit ?_
      refine L (r_mv Hz rfl) Hz rfl ?_
      clear Hz az; intro az Hz
      refine L (r_mv Hz rfl) Hz rfl ?_
      clear Hz az; intro az Hz
      refine LT Hz rfl rfl (r_mv Hz rfl) rfl ?_
      clear Hz az; intro az Hz
      refine LT Hz rfl rfl (r_mv Hz rfl) rfl ?_
      clear Hz az; intro az Hz
      have h235 := Row.own KStr r46 okl48
      have h236 := SliceOf.rg h235
      have O237 : Only NoF w43 w205 := (Only.trans' (Only.trans' (Only.trans' (o_sg o54 o61 (Nat.le_refl _) (oneF_ge hg52)) o67) o201) o206)
      have O238 : Only NoF w209 w232 := (Only.trans' o228 o233)
      have h239 := (SliceOf.kp (SliceOf.kp (SliceOf.kp h236 O237 (fun _ _ h => h) (fun _ _ _ _ h => h)) o212 (fun k hk => ge_F (fun k h => (jt_good _ _ _ _).lt h32 k (.inl h)) (Nat.le_refl _) k hk.1) (fun _ _ _ _ h => h)) O238 (fun _ _ h => h) (fun _ _ _ _ h => h))
      have h240 := SliceOf.pl h239
      have h241 := Row.own KStr rO okO
      have O242 : Only NoF w60 w205 := (Only.trans' (Only.trans' o67 o201) o206)
      have h243 := (SliceOf.kp (SliceOf.kp (SliceOf.kp h241 O242 (fun _ _ h => h) (fun _ _ _ _ h => h)) o212 (ge_F (fun k h => (jt_good _ _ _ _).lt h32 k (.inl h)) (size_only O196)) (fun _ _ _ _ h => h)) O238 (fun _ _ h => h) (fun _ _ _ _ h => h))
      have h244 := SliceOf.pl h243
      refine LGV (v := .bool (true)) Hz rfl rfl gd_t rfl (fun hb => rfl) Tryd.call20 (fun hb => fix_eq (congrArg Value.bool (decide_eq_true rfl)) (SameTexts_v h240 h244)) rfl fun w245 o246 => ?_
      clear Hz az; intro az Hz
      refine L (r_pick Hz rfl rfl rfl) Hz rfl ?_
      clear Hz az; intro az Hz
      refine L (r_mv Hz rfl) Hz rfl ?_
      clear Hz az; intro az Hz
      refine LT Hz rfl rfl (r_mv Hz rfl) rfl ?_
      clear Hz az; intro az Hz
      refine LT Hz rfl rfl (r_mv Hz rfl) rfl ?_
      clear Hz az; intro az Hz
      refine LT Hz rfl rfl (r_mv Hz rfl) rfl ?_
      clear Hz az; intro az Hz
      refine LT Hz rfl rfl (r_ssh (m := (forms (recs t)).length) Tryd.underlying9 Hz rfl rfl rfl (recs_le t)) rfl ?_
      clear Hz az; intro az Hz
      refine LT Hz rfl rfl (r_eqSh Hz rfl rfl (recs_take t).symm) rfl ?_
      clear Hz az; intro az Hz
      refine L (r_pick Hz rfl rfl rfl) Hz rfl ?_
      clear Hz az; intro az Hz
      refine L (r_mv Hz rfl) Hz rfl ?_
      clear Hz az; intro az Hz
      refine LT Hz rfl rfl (r_mv Hz rfl) rfl ?_
      clear Hz az; intro az Hz
      have O252 : Only NoF w227 w245 := (Only.trans' o233 o246)
      have T253 : (JT b12 g208 D3 ⟨7, recs t, n, false⟩) w245 F210 := ((jt_good _ _ _ _).only T229 O252 (fun _ _ h => h))
      have hokl := okB (BothT.l T253)
      refine LCT Hz rfl rfl rfl rfl Tryd.call10 (all_b (BothT.l T253) (by have := Nat.le_trans (forms_count (recs t)) (recs_le t); show (recs t).length ≤ 100000000; omega)) rfl ?_
      rintro e w247 ⟨A248, c249, rfl, r250, o251⟩; refine ⟨_, rfl, ?_⟩
      have okl254 := hokl; clear hokl
      clear Hz az; intro az Hz
      refine LT Hz rfl rfl (r_mv Hz rfl) rfl ?_
      clear Hz az; intro az Hz
      have h255 := Row.own KStr r250 okl254
      have h256 := SliceOf.pl h255
      have O257 : Only NoF w232 w247 := (Only.trans' o246 o251)
      have h258 := (SliceOf.kp h243 O257 (fun _ _ h => h) (fun _ _ _ _ h => h))
      have h259 := SliceOf.pl h258
      refine LGV (v := .bool (true)) Hz rfl rfl gd_t rfl (fun hb => rfl) Tryd.call20 (fun hb => fix_eq (congrArg Value.bool (decide_eq_true rfl)) (SameTexts_v h256 h259)) rfl fun w260 o261 => ?_
      clear Hz az; intro az Hz
      refine L (r_pick Hz rfl rfl rfl) Hz rfl ?_
      clear Hz az; intro az Hz
      refine L (r_mv Hz rfl) Hz rfl ?_
      clear Hz az; intro az Hz
      refine LT Hz rfl rfl (r_mv Hz rfl) rfl ?_
      clear Hz az; intro az Hz
      refine LT Hz rfl rfl (r_mv Hz rfl) rfl ?_
      clear Hz az; intro az Hz
      refine LT Hz rfl rfl (r_eqSh Hz rfl rfl rfl) rfl ?_
      clear Hz az; intro az Hz
      refine L (r_pick Hz rfl rfl rfl) Hz rfl ?_
      clear Hz az; intro az Hz
      refine L (r_as Hz rfl) Hz rfl ?_
      clear Hz az; intro az Hz
      refine hK234 _ _ ?_
      refine wp_ret ?_
      show bodyPost _ _ _ .ret _ _
      refine ret_of (vs := [.bool (true)]) Hz Tryd.results3 ⟨rfl, trivial⟩ ?_
      have O262 : Only NoF w w260 := (Only.trans' (Only.trans' (Only.trans' (Only.trans' (Only.trans' (o_sg O217 o212 (size_only o5) (fun k h => hge39 k (.inl h))) o228) o233) o246) o251) o261)
      exact ⟨rfl, O262⟩

theorem jreads_v {w : World} (hG : Gr w) {t : Str} (_ : t.length ≤ maxLen) : Calls Tryd.prog 3 [strV t].toArray w (Fix (.bool true) w) := by
  rcases Nat.lt_or_ge 300 t.length with h | h
  · exact jreads_l hG h
  · obtain ⟨D2, D3, e2, e3, r2, r3⟩ := reads_plain t h
    exact jreads_s hG h e2 e3 r2 r3
end Go.Proofs.YtlnadcihnfppaaaDoor
