/-
  SealBack, walked: it returns true. No condition but the listed variables.
-/
import Derived.Test.YtgmnoianhonihaaDoorSBk0
namespace Go.Proofs.YtgmnoianhonihaaDoor
set_option linter.unusedVariables false
set_option linter.unusedSimpArgs false
set_option linter.unusedSectionVars false
open Go.RowKit

theorem r_neBs {P : Program} {w : World} {n : Nat} {l : List (Nat × Value)} {a : Act} {dst : Option Tmp} {ty : TypeId} {pos : String} {aft : Array Edge} {g : Option (Nat × Bool)} {x y : Operand} {t yt : TypeId} {b : Bool} (hu : P.underlying t = some .bool) (H : Fr n l a) (hx : ev l x = some (.bool b)) (hy : ev l y = some (.bool b)) : (execOp a.eval ⟨dst, .binOp .neq t x y yt, ty, pos, aft, g⟩).run P w = .ok (.value (.bool false)) w := by
  have h : (binOp .neq t (.bool b) (.bool b)).run P w = .ok (.bool false) w := by
    have := eq_bool (P := P) (w := w) (t := t) (b := b) (c := b) hu
    simp only [binOp, Sem.run_bind, this, Result.andThen_ok]
    simp
  simp [execOp, H.eval hx, H.eval hy, eqGuard, h]
theorem note_up {w w' : World} {m : NM} (h : (KNote w).ok m) (o : Only NoF w w') : (KNote w').ok m := ⟨h.1, h.2.1, h.2.2.1, SliceOf.kp h.2.2.2.1 o (fun _ _ h => h) (fun _ _ _ _ h => h), h.2.2.2.2⟩
theorem dec_nil : decOk [] = false := by decide +kernel
theorem dec_v_f {w : World} (hG : Gr w) {t : Str} (ht : t.length ≤ 1000000) (hd : decOk t = false) : Calls Tryd.prog 57 [strV t].toArray w (Fix (.tuple #[.agg #[.int .i64 0, .int .i64 0, .int .i64 0, .slice none 0 0, strV []], .bool false]) w) := by
  refine (Decode_v hG ht).mono ?_
  rintro e w' ⟨v, rfl, o, h | h⟩
  · obtain ⟨_, rfl⟩ := h
    exact ⟨by rw [hd], o⟩
  · rw [hd] at h; cases h.1
def NoteT (m : NM) (x : Value) (w : World) (e : Ending) (w' : World) : Prop := ∃ A c, e = .returned (.tuple #[noteV ⟨m.h, m.n, m.d, A, m.l, c, m.s⟩, x]) ∧ Only NoF w w' ∧ (KNote w').ok ⟨m.h, m.n, m.d, A, m.l, c, m.s⟩ ∧ SliceOf (geB w.heap.size) 2 KRef.R w' (.slice A m.l.length c) m.l
theorem dec_v_t {w : World} (hG : Gr w) {t : Str} (ht : t.length ≤ 1000000) (hd : decOk t = true) : Calls Tryd.prog 57 [strV t].toArray w (NoteT (decN t) (.bool true) w) := by
  refine (Decode_v hG ht).mono ?_
  rintro e w' ⟨v, rfl, o, h | h⟩
  · rw [hd] at h; cases h.1
  · obtain ⟨_, ⟨mh, mn, md, A, ml, c, ms⟩, rfl, h1, h2, h3, h4, h5, ok, sg⟩ := h
    simp only at h1 h2 h3 h4 h5
    subst h1 h2 h3 h4 h5
    exact ⟨A, c, by rw [hd], o, ok, sg⟩
theorem encN_len {w : World} {m : NM} (hk : (KNote w).ok m) (hr : right m = true) : (encN m).length ≤ 1000000 := by
  obtain ⟨l1, l2⟩ := right_len hr
  have e1 := numE_len (wr_ok hk.1)
  have e2 := numE_len (wr_ok hk.2.1)
  have e3 := numE_len (wr_ok hk.2.2.1)
  have e5 := text_size2 (s := m.s) (by omega)
  have e4 := numsE_len (l := flat2 m.l) (fun x hx => by
    unfold flat2 at hx
    obtain ⟨r, hr, hx⟩ := List.mem_flatMap.1 hx
    have := Row.oks KRef hk.2.2.2.1 r hr
    simp at hx
    rcases hx with rfl | rfl
    · exact this.1
    · exact this.2) (by rw [flat2_len]; omega)
  unfold encN
  simp only [List.length_append]; omega
theorem dec_enc_v {w : World} (hG : Gr w) {m : NM} (hk : (KNote w).ok m) (hr : right m = true) : Calls Tryd.prog 57 [strV (encN m)].toArray w (NoteT m (.bool true) w) := by
  obtain ⟨h1, h2⟩ := dec_enc hr fun r h => ⟨wr_ok (Row.oks KRef hk.2.2.2.1 r h).1, wr_ok (Row.oks KRef hk.2.2.2.1 r h).2⟩
  have := dec_v_t hG (encN_len hk hr) h1
  rw [h2] at this
  exact this
theorem right_same {m : NM} {A : Option Addr} {c : Nat} : right ⟨m.h, m.n, m.d, A, m.l, c, m.s⟩ = right m := rfl
theorem dec_right2 {t : Str} {A : Option Addr} {c : Nat} (hd : decOk t = true) : right ⟨(decN t).h, (decN t).n, (decN t).d, A, (decN t).l, c, (decN t).s⟩ = true := right_same.trans (dec_right hd)
theorem enc_dec_v {w : World} (hG : Gr w) {t : Str} {A : Option Addr} {c : Nat} (hd : decOk t = true) (h : RefsV w (.slice A (decN t).l.length c) (decN t).l) : Calls Tryd.prog 55 [noteV ⟨(decN t).h, (decN t).n, (decN t).d, A, (decN t).l, c, (decN t).s⟩].toArray w (Fix (.tuple #[strV t, .bool true]) w) := by
  have hs := (right_len (dec_right hd)).2
  have := Encode_v (m := ⟨(decN t).h, (decN t).n, (decN t).d, A, (decN t).l, c, (decN t).s⟩) hG ⟨ok_wr (Wr.number_int _ _ _), ok_wr (Wr.number_int _ _ _), ok_wr (Wr.number_int _ _ _), h, (by show (decN t).s.length ≤ maxLen; unfold maxLen; omega)⟩
  rw [show right (⟨(decN t).h, (decN t).n, (decN t).d, A, (decN t).l, c, (decN t).s⟩ : NM) = true from dec_right hd, if_pos rfl, show encN (⟨(decN t).h, (decN t).n, (decN t).d, A, (decN t).l, c, (decN t).s⟩ : NM) = t from enc_dec hd] at this
  exact this
theorem dec_w_t {w : World} (hG : Gr w) {t : Str} (ht : t.length ≤ 1000000) {N : NM} (hN : decN t = N) (hd : decOk t = true) : Calls Tryd.prog 57 [strV t].toArray w (NoteT N (.bool true) w) := by
  subst hN; exact dec_v_t hG ht hd
theorem dec_right3 {t : Str} {A : Option Addr} {c : Nat} {N : NM} (hN : decN t = N) (hd : decOk t = true) : right ⟨N.h, N.n, N.d, A, N.l, c, N.s⟩ = true := by
  subst hN; exact dec_right2 hd
theorem enc_dec_w {w : World} (hG : Gr w) {t : Str} {A : Option Addr} {c : Nat} {N : NM} (hN : decN t = N) (hd : decOk t = true) (h : RefsV w (.slice A N.l.length c) N.l) : Calls Tryd.prog 55 [noteV ⟨N.h, N.n, N.d, A, N.l, c, N.s⟩].toArray w (Fix (.tuple #[strV t, .bool true]) w) := by
  subst hN; exact enc_dec_v hG hd h
attribute [local irreducible] decN encN decOk right same
set_option maxRecDepth 20000 in
set_option maxHeartbeats 4000000 in
theorem back00 {w : World} (hG : Gr w) {m : NM} (hk1 : (KNote w).ok m) {t : Str} {N : NM} (hN : decN t = N) (hr : right m = false) (hd : decOk t = false) : Calls Tryd.prog 10 [.agg #[.int .i64 m.h, .int .i64 m.n, .int .i64 m.d, .slice m.A m.l.length m.c, strV m.s], strV t].toArray w (Fix (.bool true) w) := by
  obtain ⟨_, _, _, h1, _⟩ := id hk1
  refine calls_start Tryd.func10 rfl rfl ?_
  intro az Hz
  rw [Tryd.ntmps10] at Hz
  refine wp_seq_k fun K1 hK1 => ?_
  -- law.go:57
  refine wp_region_lit ?_
  refine LBox Hz rfl rfl rfl ?_
  clear Hz az; intro g2 w3 hg6 hl7 o4 B5 az Hz
  refine L (r_as Hz rfl) Hz rfl ?_
  clear Hz az; intro az Hz
  refine hK1 _ _ ?_
  refine wp_seq_k fun K8 hK8 => ?_
  -- law.go:58
  refine wp_region_lit ?_
  have G9 := Gr.k hG o4
  refine LCV (v := .bool (true)) Hz rfl rfl Tryd.call50 (small37_v G9) rfl fun w10 o11 => ?_
  clear Hz az; intro az Hz
  refine L (r_as Hz rfl) Hz rfl ?_
  clear Hz az; intro az Hz
  refine hK8 _ _ ?_
  refine wp_seq_k fun K12 hK12 => ?_
  refine wp_seq_k fun K13 hK13 => ?_
  -- law.go:59
  refine wp_region_lit ?_
  have B14 := (Blk.k B5 o11)
  refine L (r_ldA Tryd.isAgg54 Tryd.sizeOf54 Hz rfl (Blk.ca B14) rfl) Hz rfl ?_
  clear Hz az; intro az Hz
  have O15 : Only NoF w w10 := (Only.trans' o4 o11)
  have h16 := (SliceOf.kp h1 O15 (fun _ _ h => h) (fun _ _ _ _ h => h))
  refine LCV (v := .bool (plain m)) Hz rfl rfl Tryd.call52 (Plain_v h16) rfl fun w17 o18 => ?_
  clear Hz az; intro az Hz
  refine L (r_not Hz rfl) Hz rfl ?_
  clear Hz az; intro az Hz
  refine L (r_mv Hz rfl) Hz rfl ?_
  clear Hz az; intro az Hz
  refine LG Hz rfl rfl gd_f (fun hb => r_mv Hz rfl) rfl ?_
  clear Hz az; intro az Hz
  refine LG Hz rfl rfl gd_f (fun hb => r_lenS Tryd.underlying9 Hz (evg hb rfl)) rfl ?_
  clear Hz az; intro az Hz
  refine LG Hz rfl rfl gd_f (fun hb => r_gtI Hz (evg hb rfl) rfl) rfl ?_
  clear Hz az; intro az Hz
  refine L (r_or Hz rfl rfl rfl) Hz rfl ?_
  clear Hz az; intro az Hz
  refine hK13 _ _ ?_
  refine br Hz rfl (fun hc19 => ?_) (fun hc19 => ?_)
  · -- if0
    have d20 := hc19
    refine wp_seq_k fun K21 hK21 => ?_
    -- law.go:60
    refine wp_region_lit ?_
    refine L (r_mv Hz rfl) Hz rfl ?_
    clear Hz az; intro az Hz
    refine L (r_as Hz rfl) Hz rfl ?_
    clear Hz az; intro az Hz
    refine hK21 _ _ ?_
    refine wp_ret ?_
    show bodyPost _ _ _ .ret _ _
    refine ret_of (vs := [.bool (true)]) Hz Tryd.results10 ⟨rfl, trivial⟩ ?_
    have O22 : Only NoF w w17 := (Only.trans' O15 o18)
    exact ⟨rfl, O22⟩
  · -- else0
    have q23 : plain m = true := (nt_f (or_f hc19).1)
    have p24 := of_decide_eq_false (or_f hc19).2
    refine wp_skip ?_
    refine hK12 _ _ ?_
    refine wp_seq_k fun K25 hK25 => ?_
    -- law.go:62
    refine wp_region_lit ?_
    have B26 := (Blk.k B14 o18)
    refine L (r_ldA Tryd.isAgg54 Tryd.sizeOf54 Hz rfl (Blk.ca B26) rfl) Hz rfl ?_
    clear Hz az; intro az Hz
    have O28 : Only NoF w w17 := (Only.trans' O15 o18)
    have G27 := Gr.k hG O28
    refine LCV (v := .tuple #[strV ([]), .bool (false)]) Hz rfl rfl Tryd.call55 (fix_eq (v' := .tuple #[strV ([]), .bool false]) (by rw [hr]; rfl) (Encode_v G27 (note_up hk1 O28))) rfl fun w29 o30 => ?_
    clear Hz az; intro az Hz
    refine L (r_mv Hz rfl) Hz rfl ?_
    clear Hz az; intro az Hz
    refine L (r_ex Hz rfl rfl) Hz rfl ?_
    clear Hz az; intro az Hz
    refine L (r_ex Hz rfl rfl) Hz rfl ?_
    clear Hz az; intro az Hz
    refine L (r_as Hz rfl) Hz rfl ?_
    clear Hz az; intro az Hz
    refine L (r_as Hz rfl) Hz rfl ?_
    clear Hz az; intro az Hz
    refine hK25 _ _ ?_
    refine wp_seq_k fun K31 hK31 => ?_
    -- law.go:63
    refine wp_region_lit ?_
    refine L (r_mv Hz rfl) Hz rfl ?_
    clear Hz az; intro az Hz
    have O33 : Only NoF w w29 := (Only.trans' O28 o30)
    have G32 := Gr.k hG O33
    refine LCV (v := .tuple #[.agg #[.int .i64 (0), .int .i64 (0), .int .i64 (0), .slice none (0) 0, strV ([])], .bool (false)]) Hz rfl rfl Tryd.call57 (dec_v_f G32 (by decide) dec_nil) rfl fun w34 o35 => ?_
    clear Hz az; intro az Hz
    refine L (r_mv Hz rfl) Hz rfl ?_
    clear Hz az; intro az Hz
    refine L (r_ex Hz rfl rfl) Hz rfl ?_
    clear Hz az; intro az Hz
    refine L (r_ex Hz rfl rfl) Hz rfl ?_
    clear Hz az; intro az Hz
    refine LAl (v := .agg #[.int .i64 (0), .int .i64 (0), .int .i64 (0), .slice none (0) 0, strV ([])]) Tryd.zeroValue54 Hz rfl rfl ?_
    clear Hz az; intro g36 w37 hg40 hl41 o38 B39 az Hz
    refine LSt (cs' := [.int .i64 (0), .int .i64 (0), .int .i64 (0), .slice none (0) 0, strV ([])]) Tryd.sizeOf54 Hz rfl rfl rfl rfl rfl ⟨rfl, rfl, rfl, rfl, rfl, trivial⟩ B39 rfl rfl fun w42 s43 B44 => ?_
    refine L (r_as Hz rfl) Hz rfl ?_
    clear Hz az; intro az Hz
    refine hK31 _ _ ?_
    refine wp_seq_k fun K45 hK45 => ?_
    refine wp_seq_k fun K46 hK46 => ?_
    -- law.go:64
    refine wp_region_lit ?_
    refine L (r_mv Hz rfl) Hz rfl ?_
    clear Hz az; intro az Hz
    have O48 : Only NoF w3 w34 := (Only.trans' (Only.trans' (Only.trans' o11 o18) o30) o35)
    have ne47 : g2 ≠ g36 := (ne_of hl7 (Nat.le_trans (size_only O48) hg40))
    have B49 := (Blk.st (Blk.k (Blk.k (Blk.k B26 o30) o35) o38) s43 ne47)
    refine L (r_ldA Tryd.isAgg54 Tryd.sizeOf54 Hz rfl (Blk.ca B49) rfl) Hz rfl ?_
    clear Hz az; intro az Hz
    have O50 : Only NoF w w34 := (Only.trans' O33 o35)
    have O51 : Only NoF w w42 := (o_sg (Only.trans' (Only.trans' O33 o35) o38) s43 (size_only O50) (oneF_ge hg40))
    have h52 := (SliceOf.kp h1 O51 (fun _ _ h => h) (fun _ _ _ _ h => h))
    refine LCV (v := .bool (false)) Hz rfl rfl Tryd.call62 (fix_eq (congrArg Value.bool hr) (Right_v (m := m) h52)) rfl fun w53 o54 => ?_
    clear Hz az; intro az Hz
    refine L (r_neBs Tryd.underlying4 Hz rfl rfl) Hz rfl ?_
    clear Hz az; intro az Hz
    refine L (r_mv Hz rfl) Hz rfl ?_
    clear Hz az; intro az Hz
    refine LT Hz rfl rfl (r_mv Hz rfl) rfl ?_
    clear Hz az; intro az Hz
    refine LT Hz rfl rfl (r_mv Hz rfl) rfl ?_
    clear Hz az; intro az Hz
    refine LF Hz rfl rfl rfl rfl ?_
    clear Hz az; intro az Hz
    refine LF Hz rfl rfl rfl rfl ?_
    clear Hz az; intro az Hz
    refine LF Hz rfl rfl rfl rfl ?_
    clear Hz az; intro az Hz
    refine LF Hz rfl rfl rfl rfl ?_
    clear Hz az; intro az Hz
    refine LF Hz rfl rfl rfl rfl ?_
    clear Hz az; intro az Hz
    refine LF Hz rfl rfl rfl rfl ?_
    clear Hz az; intro az Hz
    refine LF Hz rfl rfl rfl rfl ?_
    clear Hz az; intro az Hz
    refine LF Hz rfl rfl rfl rfl ?_
    clear Hz az; intro az Hz
    refine LT Hz rfl rfl (r_pick Hz rfl rfl rfl) rfl ?_
    clear Hz az; intro az Hz
    refine L (r_pick Hz rfl rfl rfl) Hz rfl ?_
    clear Hz az; intro az Hz
    refine L (r_mv Hz rfl) Hz rfl ?_
    clear Hz az; intro az Hz
    refine LT Hz rfl rfl (r_mv Hz rfl) rfl ?_
    clear Hz az; intro az Hz
    refine LT Hz rfl rfl (r_not Hz rfl) rfl ?_
    clear Hz az; intro az Hz
    refine LT Hz rfl rfl (r_mv Hz rfl) rfl ?_
    clear Hz az; intro az Hz
    refine LT Hz rfl rfl (r_mv Hz rfl) rfl ?_
    clear Hz az; intro az Hz
    refine LT Hz rfl rfl (r_neRS Hz rfl rfl) rfl ?_
    clear Hz az; intro az Hz
    refine LT Hz rfl rfl (r_pick Hz rfl rfl rfl) rfl ?_
    clear Hz az; intro az Hz
    refine L (r_pick Hz rfl rfl rfl) Hz rfl ?_
    clear Hz az; intro az Hz
    refine hK46 _ _ ?_
    refine br_false Hz rfl ?_
    refine wp_skip ?_
    refine hK45 _ _ ?_
    refine wp_seq_k fun K55 hK55 => ?_
    -- law.go:67
    refine wp_region_lit ?_
    refine L (r_mv Hz rfl) Hz rfl ?_
    clear Hz az; intro az Hz
    have O57 : Only NoF w w53 := (Only.trans' O51 o54)
    have G56 := Gr.k hG O57
    refine LCV (v := .tuple #[.agg #[.int .i64 (0), .int .i64 (0), .int .i64 (0), .slice none (0) 0, strV ([])], .bool (false)]) Hz rfl rfl Tryd.call57 (dec_v_f G56 (by omega) hd) rfl fun w58 o59 => ?_
    clear Hz az; intro az Hz
    refine L (r_mv Hz rfl) Hz rfl ?_
    clear Hz az; intro az Hz
    refine L (r_ex Hz rfl rfl) Hz rfl ?_
    clear Hz az; intro az Hz
    refine L (r_ex Hz rfl rfl) Hz rfl ?_
    clear Hz az; intro az Hz
    refine LAl (v := .agg #[.int .i64 (0), .int .i64 (0), .int .i64 (0), .slice none (0) 0, strV ([])]) Tryd.zeroValue54 Hz rfl rfl ?_
    clear Hz az; intro g60 w61 hg64 hl65 o62 B63 az Hz
    refine LSt (cs' := [.int .i64 (0), .int .i64 (0), .int .i64 (0), .slice none (0) 0, strV ([])]) Tryd.sizeOf54 Hz rfl rfl rfl rfl rfl ⟨rfl, rfl, rfl, rfl, rfl, trivial⟩ B63 rfl rfl fun w66 s67 B68 => ?_
    refine L (r_as Hz rfl) Hz rfl ?_
    clear Hz az; intro az Hz
    refine hK55 _ _ ?_
    refine wp_seq_k fun K69 hK69 => ?_
    refine wp_seq_k fun K70 hK70 => ?_
    -- law.go:68
    refine wp_region_lit ?_
    refine L (r_mv Hz rfl) Hz rfl ?_
    clear Hz az; intro az Hz
    refine L (r_not Hz rfl) Hz rfl ?_
    clear Hz az; intro az Hz
    refine hK70 _ _ ?_
    refine br_true Hz rfl ?_
    refine wp_seq_k fun K71 hK71 => ?_
    -- law.go:69
    refine wp_region_lit ?_
    refine L (r_mv Hz rfl) Hz rfl ?_
    clear Hz az; intro az Hz
    refine L (r_mv Hz rfl) Hz rfl ?_
    clear Hz az; intro az Hz
    refine LT Hz rfl rfl (r_ldA Tryd.isAgg54 Tryd.sizeOf54 Hz rfl (Blk.ca B68) rfl) rfl ?_
    clear Hz az; intro az Hz
    refine LT Hz rfl rfl (r_bd (v := .agg #[.int .i64 (0), .int .i64 (0), .int .i64 (0), .slice none (0) 0, strV ([])]) (build_Note0) Hz rfl) rfl ?_
    clear Hz az; intro az Hz
    refine LGV (v := .bool (true)) Hz rfl rfl gd_t rfl (fun hb => rfl) Tryd.call59 (fun hb => fix_eq (congrArg Value.bool (by simp [same] : same (⟨0, 0, 0, none, [], 0, []⟩ : NM) (⟨0, 0, 0, none, [], 0, []⟩ : NM) = true)) (rSame_v (m := (⟨0, 0, 0, none, [], 0, []⟩ : NM)) (m2 := (⟨0, 0, 0, none, [], 0, []⟩ : NM)) (SliceOf.nil_ _ _ _) (SliceOf.nil_ _ _ _))) rfl fun w72 o73 => ?_
    clear Hz az; intro az Hz
    refine L (r_pick Hz rfl rfl rfl) Hz rfl ?_
    clear Hz az; intro az Hz
    refine L (r_as Hz rfl) Hz rfl ?_
    clear Hz az; intro az Hz
    refine hK71 _ _ ?_
    refine wp_ret ?_
    show bodyPost _ _ _ .ret _ _
    refine ret_of (vs := [.bool (true)]) Hz Tryd.results10 ⟨rfl, trivial⟩ ?_
    have O74 : Only NoF w w58 := (Only.trans' O57 o59)
    have O75 : Only NoF w w72 := (Only.trans' (o_sg (Only.trans' (Only.trans' O57 o59) o62) s67 (size_only O74) (oneF_ge hg64)) o73)
    exact ⟨rfl, O75⟩

set_option maxRecDepth 20000 in
set_option maxHeartbeats 4000000 in
theorem back01 {w : World} (hG : Gr w) {m : NM} (hk1 : (KNote w).ok m) {t : Str} {N : NM} (hN : decN t = N) (hr : right m = false) (hd : decOk t = true) : Calls Tryd.prog 10 [.agg #[.int .i64 m.h, .int .i64 m.n, .int .i64 m.d, .slice m.A m.l.length m.c, strV m.s], strV t].toArray w (Fix (.bool true) w) := by
  obtain ⟨_, _, _, h1, _⟩ := id hk1
  refine calls_start Tryd.func10 rfl rfl ?_
  intro az Hz
  rw [Tryd.ntmps10] at Hz
  refine wp_seq_k fun K1 hK1 => ?_
  -- law.go:57
  refine wp_region_lit ?_
  refine LBox Hz rfl rfl rfl ?_
  clear Hz az; intro g2 w3 hg6 hl7 o4 B5 az Hz
  refine L (r_as Hz rfl) Hz rfl ?_
  clear Hz az; intro az Hz
  refine hK1 _ _ ?_
  refine wp_seq_k fun K8 hK8 => ?_
  -- law.go:58
  refine wp_region_lit ?_
  have G9 := Gr.k hG o4
  refine LCV (v := .bool (true)) Hz rfl rfl Tryd.call50 (small37_v G9) rfl fun w10 o11 => ?_
  clear Hz az; intro az Hz
  refine L (r_as Hz rfl) Hz rfl ?_
  clear Hz az; intro az Hz
  refine hK8 _ _ ?_
  refine wp_seq_k fun K12 hK12 => ?_
  refine wp_seq_k fun K13 hK13 => ?_
  -- law.go:59
  refine wp_region_lit ?_
  have B14 := (Blk.k B5 o11)
  refine L (r_ldA Tryd.isAgg54 Tryd.sizeOf54 Hz rfl (Blk.ca B14) rfl) Hz rfl ?_
  clear Hz az; intro az Hz
  have O15 : Only NoF w w10 := (Only.trans' o4 o11)
  have h16 := (SliceOf.kp h1 O15 (fun _ _ h => h) (fun _ _ _ _ h => h))
  refine LCV (v := .bool (plain m)) Hz rfl rfl Tryd.call52 (Plain_v h16) rfl fun w17 o18 => ?_
  clear Hz az; intro az Hz
  refine L (r_not Hz rfl) Hz rfl ?_
  clear Hz az; intro az Hz
  refine L (r_mv Hz rfl) Hz rfl ?_
  clear Hz az; intro az Hz
  refine LG Hz rfl rfl gd_f (fun hb => r_mv Hz rfl) rfl ?_
  clear Hz az; intro az Hz
  refine LG Hz rfl rfl gd_f (fun hb => r_lenS Tryd.underlying9 Hz (evg hb rfl)) rfl ?_
  clear Hz az; intro az Hz
  refine LG Hz rfl rfl gd_f (fun hb => r_gtI Hz (evg hb rfl) rfl) rfl ?_
  clear Hz az; intro az Hz
  refine L (r_or Hz rfl rfl rfl) Hz rfl ?_
  clear Hz az; intro az Hz
  refine hK13 _ _ ?_
  refine br Hz rfl (fun hc19 => ?_) (fun hc19 => ?_)
  · -- if0
    have d20 := hc19
    refine wp_seq_k fun K21 hK21 => ?_
    -- law.go:60
    refine wp_region_lit ?_
    refine L (r_mv Hz rfl) Hz rfl ?_
    clear Hz az; intro az Hz
    refine L (r_as Hz rfl) Hz rfl ?_
    clear Hz az; intro az Hz
    refine hK21 _ _ ?_
    refine wp_ret ?_
    show bodyPost _ _ _ .ret _ _
    refine ret_of (vs := [.bool (true)]) Hz Tryd.results10 ⟨rfl, trivial⟩ ?_
    have O22 : Only NoF w w17 := (Only.trans' O15 o18)
    exact ⟨rfl, O22⟩
  · -- else0
    have q23 : plain m = true := (nt_f (or_f hc19).1)
    have p24 := of_decide_eq_false (or_f hc19).2
    refine wp_skip ?_
    refine hK12 _ _ ?_
    refine wp_seq_k fun K25 hK25 => ?_
    -- law.go:62
    refine wp_region_lit ?_
    have B26 := (Blk.k B14 o18)
    refine L (r_ldA Tryd.isAgg54 Tryd.sizeOf54 Hz rfl (Blk.ca B26) rfl) Hz rfl ?_
    clear Hz az; intro az Hz
    have O28 : Only NoF w w17 := (Only.trans' O15 o18)
    have G27 := Gr.k hG O28
    refine LCV (v := .tuple #[strV ([]), .bool (false)]) Hz rfl rfl Tryd.call55 (fix_eq (v' := .tuple #[strV ([]), .bool false]) (by rw [hr]; rfl) (Encode_v G27 (note_up hk1 O28))) rfl fun w29 o30 => ?_
    clear Hz az; intro az Hz
    refine L (r_mv Hz rfl) Hz rfl ?_
    clear Hz az; intro az Hz
    refine L (r_ex Hz rfl rfl) Hz rfl ?_
    clear Hz az; intro az Hz
    refine L (r_ex Hz rfl rfl) Hz rfl ?_
    clear Hz az; intro az Hz
    refine L (r_as Hz rfl) Hz rfl ?_
    clear Hz az; intro az Hz
    refine L (r_as Hz rfl) Hz rfl ?_
    clear Hz az; intro az Hz
    refine hK25 _ _ ?_
    refine wp_seq_k fun K31 hK31 => ?_
    -- law.go:63
    refine wp_region_lit ?_
    refine L (r_mv Hz rfl) Hz rfl ?_
    clear Hz az; intro az Hz
    have O33 : Only NoF w w29 := (Only.trans' O28 o30)
    have G32 := Gr.k hG O33
    refine LCV (v := .tuple #[.agg #[.int .i64 (0), .int .i64 (0), .int .i64 (0), .slice none (0) 0, strV ([])], .bool (false)]) Hz rfl rfl Tryd.call57 (dec_v_f G32 (by decide) dec_nil) rfl fun w34 o35 => ?_
    clear Hz az; intro az Hz
    refine L (r_mv Hz rfl) Hz rfl ?_
    clear Hz az; intro az Hz
    refine L (r_ex Hz rfl rfl) Hz rfl ?_
    clear Hz az; intro az Hz
    refine L (r_ex Hz rfl rfl) Hz rfl ?_
    clear Hz az; intro az Hz
    refine LAl (v := .agg #[.int .i64 (0), .int .i64 (0), .int .i64 (0), .slice none (0) 0, strV ([])]) Tryd.zeroValue54 Hz rfl rfl ?_
    clear Hz az; intro g36 w37 hg40 hl41 o38 B39 az Hz
    refine LSt (cs' := [.int .i64 (0), .int .i64 (0), .int .i64 (0), .slice none (0) 0, strV ([])]) Tryd.sizeOf54 Hz rfl rfl rfl rfl rfl ⟨rfl, rfl, rfl, rfl, rfl, trivial⟩ B39 rfl rfl fun w42 s43 B44 => ?_
    refine L (r_as Hz rfl) Hz rfl ?_
    clear Hz az; intro az Hz
    refine hK31 _ _ ?_
    refine wp_seq_k fun K45 hK45 => ?_
    refine wp_seq_k fun K46 hK46 => ?_
    -- law.go:64
    refine wp_region_lit ?_
    refine L (r_mv Hz rfl) Hz rfl ?_
    clear Hz az; intro az Hz
    have O48 : Only NoF w3 w34 := (Only.trans' (Only.trans' (Only.trans' o11 o18) o30) o35)
    have ne47 : g2 ≠ g36 := (ne_of hl7 (Nat.le_trans (size_only O48) hg40))
    have B49 := (Blk.st (Blk.k (Blk.k (Blk.k B26 o30) o35) o38) s43 ne47)
    refine L (r_ldA Tryd.isAgg54 Tryd.sizeOf54 Hz rfl (Blk.ca B49) rfl) Hz rfl ?_
    clear Hz az; intro az Hz
    have O50 : Only NoF w w34 := (Only.trans' O33 o35)
    have O51 : Only NoF w w42 := (o_sg (Only.trans' (Only.trans' O33 o35) o38) s43 (size_only O50) (oneF_ge hg40))
    have h52 := (SliceOf.kp h1 O51 (fun _ _ h => h) (fun _ _ _ _ h => h))
    refine LCV (v := .bool (false)) Hz rfl rfl Tryd.call62 (fix_eq (congrArg Value.bool hr) (Right_v (m := m) h52)) rfl fun w53 o54 => ?_
    clear Hz az; intro az Hz
    refine L (r_neBs Tryd.underlying4 Hz rfl rfl) Hz rfl ?_
    clear Hz az; intro az Hz
    refine L (r_mv Hz rfl) Hz rfl ?_
    clear Hz az; intro az Hz
    refine LT Hz rfl rfl (r_mv Hz rfl) rfl ?_
    clear Hz az; intro az Hz
    refine LT Hz rfl rfl (r_mv Hz rfl) rfl ?_
    clear Hz az; intro az Hz
    refine LF Hz rfl rfl rfl rfl ?_
    clear Hz az; intro az Hz
    refine LF Hz rfl rfl rfl rfl ?_
    clear Hz az; intro az Hz
    refine LF Hz rfl rfl rfl rfl ?_
    clear Hz az; intro az Hz
    refine LF Hz rfl rfl rfl rfl ?_
    clear Hz az; intro az Hz
    refine LF Hz rfl rfl rfl rfl ?_
    clear Hz az; intro az Hz
    refine LF Hz rfl rfl rfl rfl ?_
    clear Hz az; intro az Hz
    refine LF Hz rfl rfl rfl rfl ?_
    clear Hz az; intro az Hz
    refine LF Hz rfl rfl rfl rfl ?_
    clear Hz az; intro az Hz
    refine LT Hz rfl rfl (r_pick Hz rfl rfl rfl) rfl ?_
    clear Hz az; intro az Hz
    refine L (r_pick Hz rfl rfl rfl) Hz rfl ?_
    clear Hz az; intro az Hz
    refine L (r_mv Hz rfl) Hz rfl ?_
    clear Hz az; intro az Hz
    refine LT Hz rfl rfl (r_mv Hz rfl) rfl ?_
    clear Hz az; intro az Hz
    refine LT Hz rfl rfl (r_not Hz rfl) rfl ?_
    clear Hz az; intro az Hz
    refine LT Hz rfl rfl (r_mv Hz rfl) rfl ?_
    clear Hz az; intro az Hz
    refine LT Hz rfl rfl (r_mv Hz rfl) rfl ?_
    clear Hz az; intro az Hz
    refine LT Hz rfl rfl (r_neRS Hz rfl rfl) rfl ?_
    clear Hz az; intro az Hz
    refine LT Hz rfl rfl (r_pick Hz rfl rfl rfl) rfl ?_
    clear Hz az; intro az Hz
    refine L (r_pick Hz rfl rfl rfl) Hz rfl ?_
    clear Hz az; intro az Hz
    refine hK46 _ _ ?_
    refine br_false Hz rfl ?_
    refine wp_skip ?_
    refine hK45 _ _ ?_
    refine wp_seq_k fun K55 hK55 => ?_
    -- law.go:67
    refine wp_region_lit ?_
    refine L (r_mv Hz rfl) Hz rfl ?_
    clear Hz az; intro az Hz
    have O63 : Only NoF w w53 := (Only.trans' O51 o54)
    have G62 := Gr.k hG O63
    refine LC Hz rfl rfl Tryd.call57 (dec_w_t G62 (by omega) hN hd) rfl ?_
    rintro e w56 ⟨A57, c58, rfl, o59, ok60, sg61⟩; refine ⟨_, rfl, ?_⟩
    clear Hz az; intro az Hz
    refine L (r_mv Hz rfl) Hz rfl ?_
    clear Hz az; intro az Hz
    refine L (r_ex Hz rfl rfl) Hz rfl ?_
    clear Hz az; intro az Hz
    refine L (r_ex Hz rfl rfl) Hz rfl ?_
    clear Hz az; intro az Hz
    refine LAl (v := .agg #[.int .i64 (0), .int .i64 (0), .int .i64 (0), .slice none (0) 0, strV ([])]) Tryd.zeroValue54 Hz rfl rfl ?_
    clear Hz az; intro g64 w65 hg68 hl69 o66 B67 az Hz
    refine LSt (cs' := [.int .i64 (N.h), .int .i64 (N.n), .int .i64 (N.d), .slice A57 (N.l.length) c58, strV (N.s)]) Tryd.sizeOf54 Hz rfl rfl rfl rfl rfl ⟨rfl, rfl, rfl, rfl, rfl, trivial⟩ B67 rfl rfl fun w70 s71 B72 => ?_
    refine L (r_as Hz rfl) Hz rfl ?_
    clear Hz az; intro az Hz
    refine hK55 _ _ ?_
    refine wp_seq_k fun K73 hK73 => ?_
    refine wp_seq_k fun K74 hK74 => ?_
    -- law.go:68
    refine wp_region_lit ?_
    refine L (r_mv Hz rfl) Hz rfl ?_
    clear Hz az; intro az Hz
    refine L (r_not Hz rfl) Hz rfl ?_
    clear Hz az; intro az Hz
    refine hK74 _ _ ?_
    refine br_false Hz rfl ?_
    refine wp_skip ?_
    refine hK73 _ _ ?_
    refine wp_seq_k fun K75 hK75 => ?_
    -- law.go:71
    refine wp_region_lit ?_
    refine L (r_ldA Tryd.isAgg54 Tryd.sizeOf54 Hz rfl (Blk.ca B72) rfl) Hz rfl ?_
    clear Hz az; intro az Hz
    have O78 : Only NoF w w56 := (Only.trans' O63 o59)
    have O79 : Only NoF w w70 := (o_sg (Only.trans' (Only.trans' O63 o59) o66) s71 (size_only O78) (oneF_ge hg68))
    have G77 := Gr.k hG O79
    have O80 : Only NoF w56 w70 := (o_sg o66 s71 (Nat.le_refl _) (oneF_ge hg68))
    have h81 := (SliceOf.kp sg61 O80 (fun _ _ h => h) (fun _ _ _ _ h => h))
    have h82 := SliceOf.pl h81
    have hE76 := enc_dec_w (N := N) (t := t) (A := A57) (c := c58) G77 hN hd h82
    refine LCV (v := .tuple #[strV (t), .bool (true)]) Hz rfl rfl Tryd.call55 (hE76) rfl fun w83 o84 => ?_
    clear Hz az; intro az Hz
    refine L (r_mv Hz rfl) Hz rfl ?_
    clear Hz az; intro az Hz
    refine L (r_ex Hz rfl rfl) Hz rfl ?_
    clear Hz az; intro az Hz
    refine L (r_ex Hz rfl rfl) Hz rfl ?_
    clear Hz az; intro az Hz
    refine L (r_as Hz rfl) Hz rfl ?_
    clear Hz az; intro az Hz
    refine L (r_as Hz rfl) Hz rfl ?_
    clear Hz az; intro az Hz
    refine hK75 _ _ ?_
    refine wp_seq_k fun K85 hK85 => ?_
    -- law.go:72
    refine wp_region_lit ?_
    refine L (r_mv Hz rfl) Hz rfl ?_
    clear Hz az; intro az Hz
    refine L (r_mv Hz rfl) Hz rfl ?_
    clear Hz az; intro az Hz
    refine LT Hz rfl rfl (r_mv Hz rfl) rfl ?_
    clear Hz az; intro az Hz
    refine L (r_pick Hz rfl rfl rfl) Hz rfl ?_
    clear Hz az; intro az Hz
    refine L (r_mv Hz rfl) Hz rfl ?_
    clear Hz az; intro az Hz
    refine LT Hz rfl rfl (r_mv Hz rfl) rfl ?_
    clear Hz az; intro az Hz
    refine LT Hz rfl rfl (r_mv Hz rfl) rfl ?_
    clear Hz az; intro az Hz
    refine LT Hz rfl rfl (r_eqRS Hz rfl rfl) rfl ?_
    clear Hz az; intro az Hz
    refine L (r_pick Hz rfl rfl rfl) Hz rfl ?_
    clear Hz az; intro az Hz
    refine L (r_mv Hz rfl) Hz rfl ?_
    clear Hz az; intro az Hz
    have B86 := (Blk.k B72 o84)
    refine LT Hz rfl rfl (r_ldA Tryd.isAgg54 Tryd.sizeOf54 Hz rfl (Blk.ca B86) rfl) rfl ?_
    clear Hz az; intro az Hz
    have O87 : Only NoF w56 w83 := (Only.trans' O80 o84)
    have h88 := (SliceOf.kp sg61 O87 (fun _ _ h => h) (fun _ _ _ _ h => h))
    have h89 := SliceOf.pl h88
    refine LGV (v := .bool (true)) Hz rfl rfl gd_t rfl (fun hb => rfl) Tryd.call62 (fun hb => fix_eq (congrArg Value.bool (dec_right3 hN hd)) (Right_v (m := (⟨N.h, N.n, N.d, A57, N.l, c58, N.s⟩ : NM)) h89)) rfl fun w90 o91 => ?_
    clear Hz az; intro az Hz
    refine L (r_pick Hz rfl rfl rfl) Hz rfl ?_
    clear Hz az; intro az Hz
    refine L (r_as Hz rfl) Hz rfl ?_
    clear Hz az; intro az Hz
    refine hK85 _ _ ?_
    refine wp_ret ?_
    show bodyPost _ _ _ .ret _ _
    refine ret_of (vs := [.bool (true)]) Hz Tryd.results10 ⟨rfl, trivial⟩ ?_
    have O92 : Only NoF w w90 := (Only.trans' (Only.trans' O79 o84) o91)
    exact ⟨rfl, O92⟩

set_option maxRecDepth 20000 in
set_option maxHeartbeats 4000000 in
theorem back10 {w : World} (hG : Gr w) {m : NM} (hk1 : (KNote w).ok m) {t : Str} {N : NM} (hN : decN t = N) (hr : right m = true) (hd : decOk t = false) : Calls Tryd.prog 10 [.agg #[.int .i64 m.h, .int .i64 m.n, .int .i64 m.d, .slice m.A m.l.length m.c, strV m.s], strV t].toArray w (Fix (.bool true) w) := by
  obtain ⟨_, _, _, h1, _⟩ := id hk1
  refine calls_start Tryd.func10 rfl rfl ?_
  intro az Hz
  rw [Tryd.ntmps10] at Hz
  refine wp_seq_k fun K1 hK1 => ?_
  -- law.go:57
  refine wp_region_lit ?_
  refine LBox Hz rfl rfl rfl ?_
  clear Hz az; intro g2 w3 hg6 hl7 o4 B5 az Hz
  refine L (r_as Hz rfl) Hz rfl ?_
  clear Hz az; intro az Hz
  refine hK1 _ _ ?_
  refine wp_seq_k fun K8 hK8 => ?_
  -- law.go:58
  refine wp_region_lit ?_
  have G9 := Gr.k hG o4
  refine LCV (v := .bool (true)) Hz rfl rfl Tryd.call50 (small37_v G9) rfl fun w10 o11 => ?_
  clear Hz az; intro az Hz
  refine L (r_as Hz rfl) Hz rfl ?_
  clear Hz az; intro az Hz
  refine hK8 _ _ ?_
  refine wp_seq_k fun K12 hK12 => ?_
  refine wp_seq_k fun K13 hK13 => ?_
  -- law.go:59
  refine wp_region_lit ?_
  have B14 := (Blk.k B5 o11)
  refine L (r_ldA Tryd.isAgg54 Tryd.sizeOf54 Hz rfl (Blk.ca B14) rfl) Hz rfl ?_
  clear Hz az; intro az Hz
  have O15 : Only NoF w w10 := (Only.trans' o4 o11)
  have h16 := (SliceOf.kp h1 O15 (fun _ _ h => h) (fun _ _ _ _ h => h))
  refine LCV (v := .bool (plain m)) Hz rfl rfl Tryd.call52 (Plain_v h16) rfl fun w17 o18 => ?_
  clear Hz az; intro az Hz
  refine L (r_not Hz rfl) Hz rfl ?_
  clear Hz az; intro az Hz
  refine L (r_mv Hz rfl) Hz rfl ?_
  clear Hz az; intro az Hz
  refine LG Hz rfl rfl gd_f (fun hb => r_mv Hz rfl) rfl ?_
  clear Hz az; intro az Hz
  refine LG Hz rfl rfl gd_f (fun hb => r_lenS Tryd.underlying9 Hz (evg hb rfl)) rfl ?_
  clear Hz az; intro az Hz
  refine LG Hz rfl rfl gd_f (fun hb => r_gtI Hz (evg hb rfl) rfl) rfl ?_
  clear Hz az; intro az Hz
  refine L (r_or Hz rfl rfl rfl) Hz rfl ?_
  clear Hz az; intro az Hz
  refine hK13 _ _ ?_
  refine br Hz rfl (fun hc19 => ?_) (fun hc19 => ?_)
  · -- if0
    have d20 := hc19
    refine wp_seq_k fun K21 hK21 => ?_
    -- law.go:60
    refine wp_region_lit ?_
    refine L (r_mv Hz rfl) Hz rfl ?_
    clear Hz az; intro az Hz
    refine L (r_as Hz rfl) Hz rfl ?_
    clear Hz az; intro az Hz
    refine hK21 _ _ ?_
    refine wp_ret ?_
    show bodyPost _ _ _ .ret _ _
    refine ret_of (vs := [.bool (true)]) Hz Tryd.results10 ⟨rfl, trivial⟩ ?_
    have O22 : Only NoF w w17 := (Only.trans' O15 o18)
    exact ⟨rfl, O22⟩
  · -- else0
    have q23 : plain m = true := (nt_f (or_f hc19).1)
    have p24 := of_decide_eq_false (or_f hc19).2
    refine wp_skip ?_
    refine hK12 _ _ ?_
    refine wp_seq_k fun K25 hK25 => ?_
    -- law.go:62
    refine wp_region_lit ?_
    have B26 := (Blk.k B14 o18)
    refine L (r_ldA Tryd.isAgg54 Tryd.sizeOf54 Hz rfl (Blk.ca B26) rfl) Hz rfl ?_
    clear Hz az; intro az Hz
    have O28 : Only NoF w w17 := (Only.trans' O15 o18)
    have G27 := Gr.k hG O28
    refine LCV (v := .tuple #[strV (encN m), .bool (true)]) Hz rfl rfl Tryd.call55 (fix_eq (v' := .tuple #[strV (encN m), .bool true]) (by rw [hr]; rfl) (Encode_v G27 (note_up hk1 O28))) rfl fun w29 o30 => ?_
    clear Hz az; intro az Hz
    refine L (r_mv Hz rfl) Hz rfl ?_
    clear Hz az; intro az Hz
    refine L (r_ex Hz rfl rfl) Hz rfl ?_
    clear Hz az; intro az Hz
    refine L (r_ex Hz rfl rfl) Hz rfl ?_
    clear Hz az; intro az Hz
    refine L (r_as Hz rfl) Hz rfl ?_
    clear Hz az; intro az Hz
    refine L (r_as Hz rfl) Hz rfl ?_
    clear Hz az; intro az Hz
    refine hK25 _ _ ?_
    refine wp_seq_k fun K31 hK31 => ?_
    -- law.go:63
    refine wp_region_lit ?_
    refine L (r_mv Hz rfl) Hz rfl ?_
    clear Hz az; intro az Hz
    have O39 : Only NoF w w29 := (Only.trans' O28 o30)
    have G38 := Gr.k hG O39
    refine LC Hz rfl rfl Tryd.call57 (dec_enc_v G38 (note_up hk1 O39) hr) rfl ?_
    rintro e w32 ⟨A33, c34, rfl, o35, ok36, sg37⟩; refine ⟨_, rfl, ?_⟩
    clear Hz az; intro az Hz
    refine L (r_mv Hz rfl) Hz rfl ?_
    clear Hz az; intro az Hz
    refine L (r_ex Hz rfl rfl) Hz rfl ?_
    clear Hz az; intro az Hz
    refine L (r_ex Hz rfl rfl) Hz rfl ?_
    clear Hz az; intro az Hz
    refine LAl (v := .agg #[.int .i64 (0), .int .i64 (0), .int .i64 (0), .slice none (0) 0, strV ([])]) Tryd.zeroValue54 Hz rfl rfl ?_
    clear Hz az; intro g40 w41 hg44 hl45 o42 B43 az Hz
    refine LSt (cs' := [.int .i64 (m.h), .int .i64 (m.n), .int .i64 (m.d), .slice A33 (m.l.length) c34, strV (m.s)]) Tryd.sizeOf54 Hz rfl rfl rfl rfl rfl ⟨rfl, rfl, rfl, rfl, rfl, trivial⟩ B43 rfl rfl fun w46 s47 B48 => ?_
    refine L (r_as Hz rfl) Hz rfl ?_
    clear Hz az; intro az Hz
    refine hK31 _ _ ?_
    refine wp_seq_k fun K49 hK49 => ?_
    refine wp_seq_k fun K50 hK50 => ?_
    -- law.go:64
    refine wp_region_lit ?_
    refine L (r_mv Hz rfl) Hz rfl ?_
    clear Hz az; intro az Hz
    have O52 : Only NoF w3 w32 := (Only.trans' (Only.trans' (Only.trans' o11 o18) o30) o35)
    have ne51 : g2 ≠ g40 := (ne_of hl7 (Nat.le_trans (size_only O52) hg44))
    have B53 := (Blk.st (Blk.k (Blk.k (Blk.k B26 o30) o35) o42) s47 ne51)
    refine L (r_ldA Tryd.isAgg54 Tryd.sizeOf54 Hz rfl (Blk.ca B53) rfl) Hz rfl ?_
    clear Hz az; intro az Hz
    have O54 : Only NoF w w32 := (Only.trans' O39 o35)
    have O55 : Only NoF w w46 := (o_sg (Only.trans' (Only.trans' O39 o35) o42) s47 (size_only O54) (oneF_ge hg44))
    have h56 := (SliceOf.kp h1 O55 (fun _ _ h => h) (fun _ _ _ _ h => h))
    refine LCV (v := .bool (true)) Hz rfl rfl Tryd.call62 (fix_eq (congrArg Value.bool hr) (Right_v (m := m) h56)) rfl fun w57 o58 => ?_
    clear Hz az; intro az Hz
    refine L (r_neBs Tryd.underlying4 Hz rfl rfl) Hz rfl ?_
    clear Hz az; intro az Hz
    refine L (r_mv Hz rfl) Hz rfl ?_
    clear Hz az; intro az Hz
    refine LT Hz rfl rfl (r_mv Hz rfl) rfl ?_
    clear Hz az; intro az Hz
    refine LT Hz rfl rfl (r_mv Hz rfl) rfl ?_
    clear Hz az; intro az Hz
    refine LT Hz rfl rfl (r_mv Hz rfl) rfl ?_
    clear Hz az; intro az Hz
    refine LT Hz rfl rfl (r_not Hz rfl) rfl ?_
    clear Hz az; intro az Hz
    refine LT Hz rfl rfl (r_mv Hz rfl) rfl ?_
    clear Hz az; intro az Hz
    have B59 := (Blk.k B53 o58)
    refine LT Hz rfl rfl (r_ldA Tryd.isAgg54 Tryd.sizeOf54 Hz rfl (Blk.ca B59) rfl) rfl ?_
    clear Hz az; intro az Hz
    have B60 := (Blk.k B48 o58)
    refine LT Hz rfl rfl (r_ldA Tryd.isAgg54 Tryd.sizeOf54 Hz rfl (Blk.ca B60) rfl) rfl ?_
    clear Hz az; intro az Hz
    have O61 : Only NoF w w57 := (Only.trans' O55 o58)
    have h62 := (SliceOf.kp h1 O61 (fun _ _ h => h) (fun _ _ _ _ h => h))
    have O63 : Only NoF w32 w57 := (Only.trans' (o_sg o42 s47 (Nat.le_refl _) (oneF_ge hg44)) o58)
    have h64 := (SliceOf.kp sg37 O63 (fun _ _ h => h) (fun _ _ _ _ h => h))
    have h65 := SliceOf.pl h64
    refine LGV (v := .bool (true)) Hz rfl rfl gd_f rfl (fun hb => rfl) Tryd.call59 (fun hb => fix_eq (congrArg Value.bool (by simp [same] : same (⟨m.h, m.n, m.d, m.A, m.l, m.c, m.s⟩ : NM) (⟨m.h, m.n, m.d, A33, m.l, c34, m.s⟩ : NM) = true)) (rSame_v (m := (⟨m.h, m.n, m.d, m.A, m.l, m.c, m.s⟩ : NM)) (m2 := (⟨m.h, m.n, m.d, A33, m.l, c34, m.s⟩ : NM)) h62 h65)) rfl fun w66 o67 => ?_
    clear Hz az; intro az Hz
    refine LT Hz rfl rfl (r_not Hz rfl) rfl ?_
    clear Hz az; intro az Hz
    refine LT Hz rfl rfl (r_pick Hz rfl rfl rfl) rfl ?_
    clear Hz az; intro az Hz
    refine LT Hz rfl rfl (r_pick Hz rfl rfl rfl) rfl ?_
    clear Hz az; intro az Hz
    refine L (r_pick Hz rfl rfl rfl) Hz rfl ?_
    clear Hz az; intro az Hz
    refine L (r_mv Hz rfl) Hz rfl ?_
    clear Hz az; intro az Hz
    refine LT Hz rfl rfl (r_mv Hz rfl) rfl ?_
    clear Hz az; intro az Hz
    refine LT Hz rfl rfl (r_not Hz rfl) rfl ?_
    clear Hz az; intro az Hz
    refine LT Hz rfl rfl (r_mv Hz rfl) rfl ?_
    clear Hz az; intro az Hz
    refine LF Hz rfl rfl rfl rfl ?_
    clear Hz az; intro az Hz
    refine LF Hz rfl rfl rfl rfl ?_
    clear Hz az; intro az Hz
    refine LT Hz rfl rfl (r_pick Hz rfl rfl rfl) rfl ?_
    clear Hz az; intro az Hz
    refine L (r_pick Hz rfl rfl rfl) Hz rfl ?_
    clear Hz az; intro az Hz
    refine hK50 _ _ ?_
    refine br_false Hz rfl ?_
    refine wp_skip ?_
    refine hK49 _ _ ?_
    refine wp_seq_k fun K68 hK68 => ?_
    -- law.go:67
    refine wp_region_lit ?_
    refine L (r_mv Hz rfl) Hz rfl ?_
    clear Hz az; intro az Hz
    have O70 : Only NoF w w66 := (Only.trans' O61 o67)
    have G69 := Gr.k hG O70
    refine LCV (v := .tuple #[.agg #[.int .i64 (0), .int .i64 (0), .int .i64 (0), .slice none (0) 0, strV ([])], .bool (false)]) Hz rfl rfl Tryd.call57 (dec_v_f G69 (by omega) hd) rfl fun w71 o72 => ?_
    clear Hz az; intro az Hz
    refine L (r_mv Hz rfl) Hz rfl ?_
    clear Hz az; intro az Hz
    refine L (r_ex Hz rfl rfl) Hz rfl ?_
    clear Hz az; intro az Hz
    refine L (r_ex Hz rfl rfl) Hz rfl ?_
    clear Hz az; intro az Hz
    refine LAl (v := .agg #[.int .i64 (0), .int .i64 (0), .int .i64 (0), .slice none (0) 0, strV ([])]) Tryd.zeroValue54 Hz rfl rfl ?_
    clear Hz az; intro g73 w74 hg77 hl78 o75 B76 az Hz
    refine LSt (cs' := [.int .i64 (0), .int .i64 (0), .int .i64 (0), .slice none (0) 0, strV ([])]) Tryd.sizeOf54 Hz rfl rfl rfl rfl rfl ⟨rfl, rfl, rfl, rfl, rfl, trivial⟩ B76 rfl rfl fun w79 s80 B81 => ?_
    refine L (r_as Hz rfl) Hz rfl ?_
    clear Hz az; intro az Hz
    refine hK68 _ _ ?_
    refine wp_seq_k fun K82 hK82 => ?_
    refine wp_seq_k fun K83 hK83 => ?_
    -- law.go:68
    refine wp_region_lit ?_
    refine L (r_mv Hz rfl) Hz rfl ?_
    clear Hz az; intro az Hz
    refine L (r_not Hz rfl) Hz rfl ?_
    clear Hz az; intro az Hz
    refine hK83 _ _ ?_
    refine br_true Hz rfl ?_
    refine wp_seq_k fun K84 hK84 => ?_
    -- law.go:69
    refine wp_region_lit ?_
    refine L (r_mv Hz rfl) Hz rfl ?_
    clear Hz az; intro az Hz
    refine L (r_mv Hz rfl) Hz rfl ?_
    clear Hz az; intro az Hz
    refine LT Hz rfl rfl (r_ldA Tryd.isAgg54 Tryd.sizeOf54 Hz rfl (Blk.ca B81) rfl) rfl ?_
    clear Hz az; intro az Hz
    refine LT Hz rfl rfl (r_bd (v := .agg #[.int .i64 (0), .int .i64 (0), .int .i64 (0), .slice none (0) 0, strV ([])]) (build_Note0) Hz rfl) rfl ?_
    clear Hz az; intro az Hz
    refine LGV (v := .bool (true)) Hz rfl rfl gd_t rfl (fun hb => rfl) Tryd.call59 (fun hb => fix_eq (congrArg Value.bool (by simp [same] : same (⟨0, 0, 0, none, [], 0, []⟩ : NM) (⟨0, 0, 0, none, [], 0, []⟩ : NM) = true)) (rSame_v (m := (⟨0, 0, 0, none, [], 0, []⟩ : NM)) (m2 := (⟨0, 0, 0, none, [], 0, []⟩ : NM)) (SliceOf.nil_ _ _ _) (SliceOf.nil_ _ _ _))) rfl fun w85 o86 => ?_
    clear Hz az; intro az Hz
    refine L (r_pick Hz rfl rfl rfl) Hz rfl ?_
    clear Hz az; intro az Hz
    refine L (r_as Hz rfl) Hz rfl ?_
    clear Hz az; intro az Hz
    refine hK84 _ _ ?_
    refine wp_ret ?_
    show bodyPost _ _ _ .ret _ _
    refine ret_of (vs := [.bool (true)]) Hz Tryd.results10 ⟨rfl, trivial⟩ ?_
    have O87 : Only NoF w w71 := (Only.trans' O70 o72)
    have O88 : Only NoF w w85 := (Only.trans' (o_sg (Only.trans' (Only.trans' O70 o72) o75) s80 (size_only O87) (oneF_ge hg77)) o86)
    exact ⟨rfl, O88⟩

set_option maxRecDepth 20000 in
set_option maxHeartbeats 4000000 in
theorem back11 {w : World} (hG : Gr w) {m : NM} (hk1 : (KNote w).ok m) {t : Str} {N : NM} (hN : decN t = N) (hr : right m = true) (hd : decOk t = true) : Calls Tryd.prog 10 [.agg #[.int .i64 m.h, .int .i64 m.n, .int .i64 m.d, .slice m.A m.l.length m.c, strV m.s], strV t].toArray w (Fix (.bool true) w) := by
  obtain ⟨_, _, _, h1, _⟩ := id hk1
  refine calls_start Tryd.func10 rfl rfl ?_
  intro az Hz
  rw [Tryd.ntmps10] at Hz
  refine wp_seq_k fun K1 hK1 => ?_
  -- law.go:57
  refine wp_region_lit ?_
  refine LBox Hz rfl rfl rfl ?_
  clear Hz az; intro g2 w3 hg6 hl7 o4 B5 az Hz
  refine L (r_as Hz rfl) Hz rfl ?_
  clear Hz az; intro az Hz
  refine hK1 _ _ ?_
  refine wp_seq_k fun K8 hK8 => ?_
  -- law.go:58
  refine wp_region_lit ?_
  have G9 := Gr.k hG o4
  refine LCV (v := .bool (true)) Hz rfl rfl Tryd.call50 (small37_v G9) rfl fun w10 o11 => ?_
  clear Hz az; intro az Hz
  refine L (r_as Hz rfl) Hz rfl ?_
  clear Hz az; intro az Hz
  refine hK8 _ _ ?_
  refine wp_seq_k fun K12 hK12 => ?_
  refine wp_seq_k fun K13 hK13 => ?_
  -- law.go:59
  refine wp_region_lit ?_
  have B14 := (Blk.k B5 o11)
  refine L (r_ldA Tryd.isAgg54 Tryd.sizeOf54 Hz rfl (Blk.ca B14) rfl) Hz rfl ?_
  clear Hz az; intro az Hz
  have O15 : Only NoF w w10 := (Only.trans' o4 o11)
  have h16 := (SliceOf.kp h1 O15 (fun _ _ h => h) (fun _ _ _ _ h => h))
  refine LCV (v := .bool (plain m)) Hz rfl rfl Tryd.call52 (Plain_v h16) rfl fun w17 o18 => ?_
  clear Hz az; intro az Hz
  refine L (r_not Hz rfl) Hz rfl ?_
  clear Hz az; intro az Hz
  refine L (r_mv Hz rfl) Hz rfl ?_
  clear Hz az; intro az Hz
  refine LG Hz rfl rfl gd_f (fun hb => r_mv Hz rfl) rfl ?_
  clear Hz az; intro az Hz
  refine LG Hz rfl rfl gd_f (fun hb => r_lenS Tryd.underlying9 Hz (evg hb rfl)) rfl ?_
  clear Hz az; intro az Hz
  refine LG Hz rfl rfl gd_f (fun hb => r_gtI Hz (evg hb rfl) rfl) rfl ?_
  clear Hz az; intro az Hz
  refine L (r_or Hz rfl rfl rfl) Hz rfl ?_
  clear Hz az; intro az Hz
  refine hK13 _ _ ?_
  refine br Hz rfl (fun hc19 => ?_) (fun hc19 => ?_)
  · -- if0
    have d20 := hc19
    refine wp_seq_k fun K21 hK21 => ?_
    -- law.go:60
    refine wp_region_lit ?_
    refine L (r_mv Hz rfl) Hz rfl ?_
    clear Hz az; intro az Hz
    refine L (r_as Hz rfl) Hz rfl ?_
    clear Hz az; intro az Hz
    refine hK21 _ _ ?_
    refine wp_ret ?_
    show bodyPost _ _ _ .ret _ _
    refine ret_of (vs := [.bool (true)]) Hz Tryd.results10 ⟨rfl, trivial⟩ ?_
    have O22 : Only NoF w w17 := (Only.trans' O15 o18)
    exact ⟨rfl, O22⟩
  · -- else0
    have q23 : plain m = true := (nt_f (or_f hc19).1)
    have p24 := of_decide_eq_false (or_f hc19).2
    refine wp_skip ?_
    refine hK12 _ _ ?_
    refine wp_seq_k fun K25 hK25 => ?_
    -- law.go:62
    refine wp_region_lit ?_
    have B26 := (Blk.k B14 o18)
    refine L (r_ldA Tryd.isAgg54 Tryd.sizeOf54 Hz rfl (Blk.ca B26) rfl) Hz rfl ?_
    clear Hz az; intro az Hz
    have O28 : Only NoF w w17 := (Only.trans' O15 o18)
    have G27 := Gr.k hG O28
    refine LCV (v := .tuple #[strV (encN m), .bool (true)]) Hz rfl rfl Tryd.call55 (fix_eq (v' := .tuple #[strV (encN m), .bool true]) (by rw [hr]; rfl) (Encode_v G27 (note_up hk1 O28))) rfl fun w29 o30 => ?_
    clear Hz az; intro az Hz
    refine L (r_mv Hz rfl) Hz rfl ?_
    clear Hz az; intro az Hz
    refine L (r_ex Hz rfl rfl) Hz rfl ?_
    clear Hz az; intro az Hz
    refine L (r_ex Hz rfl rfl) Hz rfl ?_
    clear Hz az; intro az Hz
    refine L (r_as Hz rfl) Hz rfl ?_
    clear Hz az; intro az Hz
    refine L (r_as Hz rfl) Hz rfl ?_
    clear Hz az; intro az Hz
    refine hK25 _ _ ?_
    refine wp_seq_k fun K31 hK31 => ?_
    -- law.go:63
    refine wp_region_lit ?_
    refine L (r_mv Hz rfl) Hz rfl ?_
    clear Hz az; intro az Hz
    have O39 : Only NoF w w29 := (Only.trans' O28 o30)
    have G38 := Gr.k hG O39
    refine LC Hz rfl rfl Tryd.call57 (dec_enc_v G38 (note_up hk1 O39) hr) rfl ?_
    rintro e w32 ⟨A33, c34, rfl, o35, ok36, sg37⟩; refine ⟨_, rfl, ?_⟩
    clear Hz az; intro az Hz
    refine L (r_mv Hz rfl) Hz rfl ?_
    clear Hz az; intro az Hz
    refine L (r_ex Hz rfl rfl) Hz rfl ?_
    clear Hz az; intro az Hz
    refine L (r_ex Hz rfl rfl) Hz rfl ?_
    clear Hz az; intro az Hz
    refine LAl (v := .agg #[.int .i64 (0), .int .i64 (0), .int .i64 (0), .slice none (0) 0, strV ([])]) Tryd.zeroValue54 Hz rfl rfl ?_
    clear Hz az; intro g40 w41 hg44 hl45 o42 B43 az Hz
    refine LSt (cs' := [.int .i64 (m.h), .int .i64 (m.n), .int .i64 (m.d), .slice A33 (m.l.length) c34, strV (m.s)]) Tryd.sizeOf54 Hz rfl rfl rfl rfl rfl ⟨rfl, rfl, rfl, rfl, rfl, trivial⟩ B43 rfl rfl fun w46 s47 B48 => ?_
    refine L (r_as Hz rfl) Hz rfl ?_
    clear Hz az; intro az Hz
    refine hK31 _ _ ?_
    refine wp_seq_k fun K49 hK49 => ?_
    refine wp_seq_k fun K50 hK50 => ?_
    -- law.go:64
    refine wp_region_lit ?_
    refine L (r_mv Hz rfl) Hz rfl ?_
    clear Hz az; intro az Hz
    have O52 : Only NoF w3 w32 := (Only.trans' (Only.trans' (Only.trans' o11 o18) o30) o35)
    have ne51 : g2 ≠ g40 := (ne_of hl7 (Nat.le_trans (size_only O52) hg44))
    have B53 := (Blk.st (Blk.k (Blk.k (Blk.k B26 o30) o35) o42) s47 ne51)
    refine L (r_ldA Tryd.isAgg54 Tryd.sizeOf54 Hz rfl (Blk.ca B53) rfl) Hz rfl ?_
    clear Hz az; intro az Hz
    have O54 : Only NoF w w32 := (Only.trans' O39 o35)
    have O55 : Only NoF w w46 := (o_sg (Only.trans' (Only.trans' O39 o35) o42) s47 (size_only O54) (oneF_ge hg44))
    have h56 := (SliceOf.kp h1 O55 (fun _ _ h => h) (fun _ _ _ _ h => h))
    refine LCV (v := .bool (true)) Hz rfl rfl Tryd.call62 (fix_eq (congrArg Value.bool hr) (Right_v (m := m) h56)) rfl fun w57 o58 => ?_
    clear Hz az; intro az Hz
    refine L (r_neBs Tryd.underlying4 Hz rfl rfl) Hz rfl ?_
    clear Hz az; intro az Hz
    refine L (r_mv Hz rfl) Hz rfl ?_
    clear Hz az; intro az Hz
    refine LT Hz rfl rfl (r_mv Hz rfl) rfl ?_
    clear Hz az; intro az Hz
    refine LT Hz rfl rfl (r_mv Hz rfl) rfl ?_
    clear Hz az; intro az Hz
    refine LT Hz rfl rfl (r_mv Hz rfl) rfl ?_
    clear Hz az; intro az Hz
    refine LT Hz rfl rfl (r_not Hz rfl) rfl ?_
    clear Hz az; intro az Hz
    refine LT Hz rfl rfl (r_mv Hz rfl) rfl ?_
    clear Hz az; intro az Hz
    have B59 := (Blk.k B53 o58)
    refine LT Hz rfl rfl (r_ldA Tryd.isAgg54 Tryd.sizeOf54 Hz rfl (Blk.ca B59) rfl) rfl ?_
    clear Hz az; intro az Hz
    have B60 := (Blk.k B48 o58)
    refine LT Hz rfl rfl (r_ldA Tryd.isAgg54 Tryd.sizeOf54 Hz rfl (Blk.ca B60) rfl) rfl ?_
    clear Hz az; intro az Hz
    have O61 : Only NoF w w57 := (Only.trans' O55 o58)
    have h62 := (SliceOf.kp h1 O61 (fun _ _ h => h) (fun _ _ _ _ h => h))
    have O63 : Only NoF w32 w57 := (Only.trans' (o_sg o42 s47 (Nat.le_refl _) (oneF_ge hg44)) o58)
    have h64 := (SliceOf.kp sg37 O63 (fun _ _ h => h) (fun _ _ _ _ h => h))
    have h65 := SliceOf.pl h64
    refine LGV (v := .bool (true)) Hz rfl rfl gd_f rfl (fun hb => rfl) Tryd.call59 (fun hb => fix_eq (congrArg Value.bool (by simp [same] : same (⟨m.h, m.n, m.d, m.A, m.l, m.c, m.s⟩ : NM) (⟨m.h, m.n, m.d, A33, m.l, c34, m.s⟩ : NM) = true)) (rSame_v (m := (⟨m.h, m.n, m.d, m.A, m.l, m.c, m.s⟩ : NM)) (m2 := (⟨m.h, m.n, m.d, A33, m.l, c34, m.s⟩ : NM)) h62 h65)) rfl fun w66 o67 => ?_
    clear Hz az; intro az Hz
    refine LT Hz rfl rfl (r_not Hz rfl) rfl ?_
    clear Hz az; intro az Hz
    refine LT Hz rfl rfl (r_pick Hz rfl rfl rfl) rfl ?_
    clear Hz az; intro az Hz
    refine LT Hz rfl rfl (r_pick Hz rfl rfl rfl) rfl ?_
    clear Hz az; intro az Hz
    refine L (r_pick Hz rfl rfl rfl) Hz rfl ?_
    clear Hz az; intro az Hz
    refine L (r_mv Hz rfl) Hz rfl ?_
    clear Hz az; intro az Hz
    refine LT Hz rfl rfl (r_mv Hz rfl) rfl ?_
    clear Hz az; intro az Hz
    refine LT Hz rfl rfl (r_not Hz rfl) rfl ?_
    clear Hz az; intro az Hz
    refine LT Hz rfl rfl (r_mv Hz rfl) rfl ?_
    clear Hz az; intro az Hz
    refine LF Hz rfl rfl rfl rfl ?_
    clear Hz az; intro az Hz
    refine LF Hz rfl rfl rfl rfl ?_
    clear Hz az; intro az Hz
    refine LT Hz rfl rfl (r_pick Hz rfl rfl rfl) rfl ?_
    clear Hz az; intro az Hz
    refine L (r_pick Hz rfl rfl rfl) Hz rfl ?_
    clear Hz az; intro az Hz
    refine hK50 _ _ ?_
    refine br_false Hz rfl ?_
    refine wp_skip ?_
    refine hK49 _ _ ?_
    refine wp_seq_k fun K68 hK68 => ?_
    -- law.go:67
    refine wp_region_lit ?_
    refine L (r_mv Hz rfl) Hz rfl ?_
    clear Hz az; intro az Hz
    have O76 : Only NoF w w66 := (Only.trans' O61 o67)
    have G75 := Gr.k hG O76
    refine LC Hz rfl rfl Tryd.call57 (dec_w_t G75 (by omega) hN hd) rfl ?_
    rintro e w69 ⟨A70, c71, rfl, o72, ok73, sg74⟩; refine ⟨_, rfl, ?_⟩
    clear Hz az; intro az Hz
    refine L (r_mv Hz rfl) Hz rfl ?_
    clear Hz az; intro az Hz
    refine L (r_ex Hz rfl rfl) Hz rfl ?_
    clear Hz az; intro az Hz
    refine L (r_ex Hz rfl rfl) Hz rfl ?_
    clear Hz az; intro az Hz
    refine LAl (v := .agg #[.int .i64 (0), .int .i64 (0), .int .i64 (0), .slice none (0) 0, strV ([])]) Tryd.zeroValue54 Hz rfl rfl ?_
    clear Hz az; intro g77 w78 hg81 hl82 o79 B80 az Hz
    refine LSt (cs' := [.int .i64 (N.h), .int .i64 (N.n), .int .i64 (N.d), .slice A70 (N.l.length) c71, strV (N.s)]) Tryd.sizeOf54 Hz rfl rfl rfl rfl rfl ⟨rfl, rfl, rfl, rfl, rfl, trivial⟩ B80 rfl rfl fun w83 s84 B85 => ?_
    refine L (r_as Hz rfl) Hz rfl ?_
    clear Hz az; intro az Hz
    refine hK68 _ _ ?_
    refine wp_seq_k fun K86 hK86 => ?_
    refine wp_seq_k fun K87 hK87 => ?_
    -- law.go:68
    refine wp_region_lit ?_
    refine L (r_mv Hz rfl) Hz rfl ?_
    clear Hz az; intro az Hz
    refine L (r_not Hz rfl) Hz rfl ?_
    clear Hz az; intro az Hz
    refine hK87 _ _ ?_
    refine br_false Hz rfl ?_
    refine wp_skip ?_
    refine hK86 _ _ ?_
    refine wp_seq_k fun K88 hK88 => ?_
    -- law.go:71
    refine wp_region_lit ?_
    refine L (r_ldA Tryd.isAgg54 Tryd.sizeOf54 Hz rfl (Blk.ca B85) rfl) Hz rfl ?_
    clear Hz az; intro az Hz
    have O91 : Only NoF w w69 := (Only.trans' O76 o72)
    have O92 : Only NoF w w83 := (o_sg (Only.trans' (Only.trans' O76 o72) o79) s84 (size_only O91) (oneF_ge hg81))
    have G90 := Gr.k hG O92
    have O93 : Only NoF w69 w83 := (o_sg o79 s84 (Nat.le_refl _) (oneF_ge hg81))
    have h94 := (SliceOf.kp sg74 O93 (fun _ _ h => h) (fun _ _ _ _ h => h))
    have h95 := SliceOf.pl h94
    have hE89 := enc_dec_w (N := N) (t := t) (A := A70) (c := c71) G90 hN hd h95
    refine LCV (v := .tuple #[strV (t), .bool (true)]) Hz rfl rfl Tryd.call55 (hE89) rfl fun w96 o97 => ?_
    clear Hz az; intro az Hz
    refine L (r_mv Hz rfl) Hz rfl ?_
    clear Hz az; intro az Hz
    refine L (r_ex Hz rfl rfl) Hz rfl ?_
    clear Hz az; intro az Hz
    refine L (r_ex Hz rfl rfl) Hz rfl ?_
    clear Hz az; intro az Hz
    refine L (r_as Hz rfl) Hz rfl ?_
    clear Hz az; intro az Hz
    refine L (r_as Hz rfl) Hz rfl ?_
    clear Hz az; intro az Hz
    refine hK88 _ _ ?_
    refine wp_seq_k fun K98 hK98 => ?_
    -- law.go:72
    refine wp_region_lit ?_
    refine L (r_mv Hz rfl) Hz rfl ?_
    clear Hz az; intro az Hz
    refine L (r_mv Hz rfl) Hz rfl ?_
    clear Hz az; intro az Hz
    refine LT Hz rfl rfl (r_mv Hz rfl) rfl ?_
    clear Hz az; intro az Hz
    refine L (r_pick Hz rfl rfl rfl) Hz rfl ?_
    clear Hz az; intro az Hz
    refine L (r_mv Hz rfl) Hz rfl ?_
    clear Hz az; intro az Hz
    refine LT Hz rfl rfl (r_mv Hz rfl) rfl ?_
    clear Hz az; intro az Hz
    refine LT Hz rfl rfl (r_mv Hz rfl) rfl ?_
    clear Hz az; intro az Hz
    refine LT Hz rfl rfl (r_eqRS Hz rfl rfl) rfl ?_
    clear Hz az; intro az Hz
    refine L (r_pick Hz rfl rfl rfl) Hz rfl ?_
    clear Hz az; intro az Hz
    refine L (r_mv Hz rfl) Hz rfl ?_
    clear Hz az; intro az Hz
    have B99 := (Blk.k B85 o97)
    refine LT Hz rfl rfl (r_ldA Tryd.isAgg54 Tryd.sizeOf54 Hz rfl (Blk.ca B99) rfl) rfl ?_
    clear Hz az; intro az Hz
    have O100 : Only NoF w69 w96 := (Only.trans' O93 o97)
    have h101 := (SliceOf.kp sg74 O100 (fun _ _ h => h) (fun _ _ _ _ h => h))
    have h102 := SliceOf.pl h101
    refine LGV (v := .bool (true)) Hz rfl rfl gd_t rfl (fun hb => rfl) Tryd.call62 (fun hb => fix_eq (congrArg Value.bool (dec_right3 hN hd)) (Right_v (m := (⟨N.h, N.n, N.d, A70, N.l, c71, N.s⟩ : NM)) h102)) rfl fun w103 o104 => ?_
    clear Hz az; intro az Hz
    refine L (r_pick Hz rfl rfl rfl) Hz rfl ?_
    clear Hz az; intro az Hz
    refine L (r_as Hz rfl) Hz rfl ?_
    clear Hz az; intro az Hz
    refine hK98 _ _ ?_
    refine wp_ret ?_
    show bodyPost _ _ _ .ret _ _
    refine ret_of (vs := [.bool (true)]) Hz Tryd.results10 ⟨rfl, trivial⟩ ?_
    have O105 : Only NoF w w103 := (Only.trans' (Only.trans' O92 o97) o104)
    exact ⟨rfl, O105⟩

theorem sback_v {w : World} (hG : Gr w) {m : NM} (hk1 : (KNote w).ok m) {t : Str} (_ : t.length ≤ maxLen) : Calls Tryd.prog 10 [.agg #[.int .i64 m.h, .int .i64 m.n, .int .i64 m.d, .slice m.A m.l.length m.c, strV m.s], strV t].toArray w (Fix (.bool true) w) := by
  rcases tf (right m) with h1 | h1 <;> rcases tf (decOk t) with h2 | h2
  · exact back00 hG hk1 rfl h1 h2
  · exact back01 hG hk1 rfl h1 h2
  · exact back10 hG hk1 rfl h1 h2
  · exact back11 hG hk1 rfl h1 h2
end Go.Proofs.YtgmnoianhonihaaDoor
