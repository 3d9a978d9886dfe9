/-
  SealTells, walked: it returns true. No condition but the listed variables.
-/
import Derived.Test.YtgmnoianhonihaaDoorSBack
import Derived.Test.YtgmnoianhonihaaDoorSW8
import Derived.Test.YtgmnoianhonihaaDoorSW9
namespace Go.Proofs.YtgmnoianhonihaaDoor
set_option linter.unusedVariables false
set_option linter.unusedSimpArgs false
set_option linter.unusedSectionVars false
open Go.RowKit

abbrev zN : NM := ⟨0, 0, 0, none, [], 0, []⟩
def nextN (l : List NM) (h d : Int) (q : List RM) (t : Str) : NM := if check (l ++ [(⟨h, ((l.length : Nat) : Int), d, none, q, 0, t⟩ : NM)]) = 0 then (⟨h, ((l.length : Nat) : Int), d, none, q, 0, t⟩ : NM) else zN
def decM (t : Str) : NM := if decOk t = true then decN t else zN
theorem noteT_zero {x : Value} {w w' : World} (o : Only NoF w w') : NoteT zN x w (.returned (.tuple #[.agg #[.int .i64 0, .int .i64 0, .int .i64 0, .slice none 0 0, strV []], x])) w' :=
  ⟨none, 0, rfl, o, ⟨by show I64 0; unfold I64; omega, by show I64 0; unfold I64; omega, by show I64 0; unfold I64; omega, SliceOf.nil_ _ _ _, by show 0 ≤ maxLen; unfold maxLen; omega⟩, SliceOf.nil_ _ _ _⟩
theorem nextT {w : World} {f : Nat} {args : Array Value} {l : List NM} {h d : Int} {q : List RM} {t : Str} {N : NM} {E : Int} (hN : nextN l h d q t = N) (hE : check (l ++ [(⟨h, ((l.length : Nat) : Int), d, none, q, 0, t⟩ : NM)]) = E) (hc : Calls Tryd.prog f args w (NextTo l h d q t w)) : Calls Tryd.prog f args w (NoteT N (.int .i64 E) w) := by
  refine hc.mono ?_
  subst hN hE
  rintro e w' ⟨v, rfl, o, h | h⟩
  · obtain ⟨h0, rfl⟩ := h
    unfold nextN; rw [if_neg h0]; exact noteT_zero o
  · obtain ⟨h0, ⟨mh, mn, md, A, ml, c, ms⟩, rfl, h1, h2, h3, h4, h5, ok, sg⟩ := h
    simp only at h1 h2 h3 h4 h5
    subst h1 h2 h3 h4 h5
    unfold nextN; rw [if_pos h0]
    exact ⟨A, c, rfl, o, ok, sg⟩
theorem decT {w : World} {f : Nat} {args : Array Value} {t : Str} {D : NM} (hD : decM t = D) (hc : Calls Tryd.prog f args w (DecTo t w)) : Calls Tryd.prog f args w (NoteT D (.bool (decOk t)) w) := by
  refine hc.mono ?_
  subst hD
  rintro e w' ⟨v, rfl, o, h | h⟩
  · obtain ⟨h0, rfl⟩ := h
    unfold decM; rw [h0, if_neg (by decide)]; exact noteT_zero o
  · obtain ⟨h0, ⟨mh, mn, md, A, ml, c, ms⟩, rfl, h1, h2, h3, h4, h5, ok, sg⟩ := h
    simp only at h1 h2 h3 h4 h5
    subst h1 h2 h3 h4 h5
    unfold decM; rw [h0, if_pos rfl]
    exact ⟨A, c, rfl, o, ok, sg⟩
set_option maxRecDepth 20000 in
set_option maxHeartbeats 4000000 in
theorem tells_v_ {w : World} (hG : Gr w) {l : List NM} {A1 : Option Addr} {c1 : Nat} (f1 : NotesV w w (.slice A1 l.length c1) l) {m m2 : NM} (hk1 : (KNote w).ok m) (hk2 : (KNote w).ok m2) {t : Str} (ht : t.length ≤ maxLen) {h d : Int} (hh : I64 h) (hd : I64 d) {q : List RM} {A2 : Option Addr} {c2 : Nat} (f2 : RefsV w (.slice A2 q.length c2) q) {N D : NM} {E : Int} (hN : nextN l h d q t = N) (hE : check (l ++ [(⟨h, ((l.length : Nat) : Int), d, none, q, 0, t⟩ : NM)]) = E) (hD : decM t = D) : Calls Tryd.prog 9 [.slice A1 l.length c1, .agg #[.int .i64 m.h, .int .i64 m.n, .int .i64 m.d, .slice m.A m.l.length m.c, strV m.s], .agg #[.int .i64 m2.h, .int .i64 m2.n, .int .i64 m2.d, .slice m2.A m2.l.length m2.c, strV m2.s], strV t, .int .i64 h, .int .i64 d, .slice A2 q.length c2].toArray w (Fix (.bool true) w) := by
  obtain ⟨_, _, _, h1, _⟩ := id hk1
  obtain ⟨_, _, _, h2, _⟩ := id hk2
  refine calls_start Tryd.func9 rfl rfl ?_
  intro az Hz
  rw [Tryd.ntmps9] at Hz
  refine wp_seq_k fun K1 hK1 => ?_
  -- law.go:39
  refine wp_region_lit ?_
  refine LBox Hz rfl rfl rfl ?_
  clear Hz az; intro g2 w3 hg6 hl7 o4 B5 az Hz
  refine LBox Hz rfl rfl rfl ?_
  clear Hz az; intro g8 w9 hg12 hl13 o10 B11 az Hz
  refine L (r_as Hz rfl) Hz rfl ?_
  clear Hz az; intro az Hz
  refine hK1 _ _ ?_
  refine wp_seq_k fun K14 hK14 => ?_
  -- law.go:40
  refine wp_region_lit ?_
  have O16 : Only NoF w w9 := (Only.trans' o4 o10)
  have G15 := Gr.k hG O16
  refine LCV (v := .bool (true)) Hz rfl rfl Tryd.call50 (small37_v G15) rfl fun w17 o18 => ?_
  clear Hz az; intro az Hz
  refine L (r_as Hz rfl) Hz rfl ?_
  clear Hz az; intro az Hz
  refine hK14 _ _ ?_
  refine wp_seq_k fun K19 hK19 => ?_
  refine wp_seq_k fun K20 hK20 => ?_
  -- law.go:41
  refine wp_region_lit ?_
  refine L (r_mv Hz rfl) Hz rfl ?_
  clear Hz az; intro az Hz
  have O21 : Only NoF w w17 := (Only.trans' O16 o18)
  have h22 := (SliceOf.kp f1 O21 (fun _ _ h => h) (fun _ _ _ _ h => h))
  refine LCE Hz rfl rfl Tryd.call51 (rFew_v_ (notes_up h22 O21) (by omega)) rfl fun b25 w23 hs26 o24 => ?_
  clear Hz az; intro az Hz
  refine L (r_not Hz rfl) Hz rfl ?_
  clear Hz az; intro az Hz
  refine L (r_mv Hz rfl) Hz rfl ?_
  clear Hz az; intro az Hz
  have B27 := (Blk.k (Blk.k (Blk.k B5 o10) o18) o24)
  refine LG Hz rfl rfl gd_f (fun hb => r_ldA Tryd.isAgg54 Tryd.sizeOf54 Hz rfl (Blk.ca B27) rfl) rfl ?_
  clear Hz az; intro az Hz
  have O28 : Only NoF w w23 := (Only.trans' O21 o24)
  have h29 := (SliceOf.kp h1 O28 (fun _ _ h => h) (fun _ _ _ _ h => h))
  refine LGV (v := .bool (plain m)) Hz rfl rfl gd_f rfl (fun hb => (evs_c (evg hb rfl) rfl)) Tryd.call52 (fun hb => Plain_v h29) rfl fun w30 o31 => ?_
  clear Hz az; intro az Hz
  refine LG Hz rfl rfl gd_f (fun hb => r_not Hz (evg hb rfl)) rfl ?_
  clear Hz az; intro az Hz
  refine L (r_or Hz rfl rfl rfl) Hz rfl ?_
  clear Hz az; intro az Hz
  refine L (r_mv Hz rfl) Hz rfl ?_
  clear Hz az; intro az Hz
  have B32 := (Blk.k (Blk.k (Blk.k B11 o18) o24) o31)
  refine LG Hz rfl rfl gd_f (fun hb => r_ldA Tryd.isAgg54 Tryd.sizeOf54 Hz rfl (Blk.ca B32) rfl) rfl ?_
  clear Hz az; intro az Hz
  have O33 : Only NoF w w30 := (Only.trans' O28 o31)
  have h34 := (SliceOf.kp h2 O33 (fun _ _ h => h) (fun _ _ _ _ h => h))
  refine LGV (v := .bool (plain m2)) Hz rfl rfl gd_f rfl (fun hb => (evs_c (evg hb rfl) rfl)) Tryd.call52 (fun hb => Plain_v h34) rfl fun w35 o36 => ?_
  clear Hz az; intro az Hz
  refine LG Hz rfl rfl gd_f (fun hb => r_not Hz (evg hb rfl)) rfl ?_
  clear Hz az; intro az Hz
  refine L (r_or Hz rfl rfl rfl) Hz rfl ?_
  clear Hz az; intro az Hz
  refine L (r_mv Hz rfl) Hz rfl ?_
  clear Hz az; intro az Hz
  refine LG Hz rfl rfl gd_f (fun hb => r_mv Hz rfl) rfl ?_
  clear Hz az; intro az Hz
  refine LG Hz rfl rfl gd_f (fun hb => r_lenS Tryd.underlying9 Hz (evg hb rfl)) rfl ?_
  clear Hz az; intro az Hz
  refine LG Hz rfl rfl gd_f (fun hb => r_gtI Hz (evg hb rfl) rfl) rfl ?_
  clear Hz az; intro az Hz
  refine L (r_or Hz rfl rfl rfl) Hz rfl ?_
  clear Hz az; intro az Hz
  refine L (r_mv Hz rfl) Hz rfl ?_
  clear Hz az; intro az Hz
  refine LG Hz rfl rfl gd_f (fun hb => r_mv Hz rfl) rfl ?_
  clear Hz az; intro az Hz
  refine LG Hz rfl rfl gd_f (fun hb => r_lenL Tryd.underlying52 Hz (evg hb rfl)) rfl ?_
  clear Hz az; intro az Hz
  refine LG Hz rfl rfl gd_f (fun hb => r_gtI Hz (evg hb rfl) rfl) rfl ?_
  clear Hz az; intro az Hz
  refine L (r_or Hz rfl rfl rfl) Hz rfl ?_
  clear Hz az; intro az Hz
  refine hK20 _ _ ?_
  refine br Hz rfl (fun hc37 => ?_) (fun hc37 => ?_)
  · -- if0
    have d38 := hc37
    refine wp_seq_k fun K39 hK39 => ?_
    -- law.go:42
    refine wp_region_lit ?_
    refine L (r_mv Hz rfl) Hz rfl ?_
    clear Hz az; intro az Hz
    refine L (r_as Hz rfl) Hz rfl ?_
    clear Hz az; intro az Hz
    refine hK39 _ _ ?_
    refine wp_ret ?_
    show bodyPost _ _ _ .ret _ _
    refine ret_of (vs := [.bool (true)]) Hz Tryd.results9 ⟨rfl, trivial⟩ ?_
    have O40 : Only NoF w w35 := (Only.trans' O33 o36)
    exact ⟨rfl, O40⟩
  · -- else0
    have q41 : b25 = true := (nt_f (or_f (or_f (or_f (or_f hc37).1).1).1).1)
    have S42 := hs26 q41
    have q43 : plain m = true := (nt_f (or_f (or_f (or_f (or_f hc37).1).1).1).2)
    have q44 : plain m2 = true := (nt_f (or_f (or_f (or_f hc37).1).1).2)
    have p45 := of_decide_eq_false (or_f (or_f hc37).1).2
    have p46 := of_decide_eq_false (or_f hc37).2
    have hflen := (S42).1
    refine wp_skip ?_
    refine hK19 _ _ ?_
    refine wp_seq_k fun K47 hK47 => ?_
    -- law.go:44
    refine wp_region_lit ?_
    refine L (r_mv Hz rfl) Hz rfl ?_
    clear Hz az; intro az Hz
    refine L (r_mv Hz rfl) Hz rfl ?_
    clear Hz az; intro az Hz
    refine L (r_mv Hz rfl) Hz rfl ?_
    clear Hz az; intro az Hz
    refine L (r_mv Hz rfl) Hz rfl ?_
    clear Hz az; intro az Hz
    refine L (r_mv Hz rfl) Hz rfl ?_
    clear Hz az; intro az Hz
    have O54 : Only NoF w w35 := (Only.trans' O33 o36)
    have h55 := (SliceOf.kp f1 O54 (fun _ _ h => h) (fun _ _ _ _ h => h))
    have h56 := (SliceOf.kp f2 O54 (fun _ _ h => h) (fun _ _ _ _ h => h))
    refine LC Hz rfl rfl Tryd.call53 (nextT hN hE (Next_v (notes_up h55 O54) h56 hh hd ht (by omega) (by omega))) rfl ?_
    rintro e w48 ⟨A49, c50, rfl, o51, ok52, sg53⟩; refine ⟨_, rfl, ?_⟩
    clear Hz az; intro az Hz
    refine L (r_mv Hz rfl) Hz rfl ?_
    clear Hz az; intro az Hz
    refine L (r_ex Hz rfl rfl) Hz rfl ?_
    clear Hz az; intro az Hz
    refine L (r_ex Hz rfl rfl) Hz rfl ?_
    clear Hz az; intro az Hz
    refine LAl (v := .agg #[.int .i64 (0), .int .i64 (0), .int .i64 (0), .slice none (0) 0, strV ([])]) Tryd.zeroValue54 Hz rfl rfl ?_
    clear Hz az; intro g57 w58 hg61 hl62 o59 B60 az Hz
    refine LSt (cs' := [.int .i64 (N.h), .int .i64 (N.n), .int .i64 (N.d), .slice A49 (N.l.length) c50, strV (N.s)]) Tryd.sizeOf54 Hz rfl rfl rfl rfl rfl ⟨rfl, rfl, rfl, rfl, rfl, trivial⟩ B60 rfl rfl fun w63 s64 B65 => ?_
    refine L (r_as Hz rfl) Hz rfl ?_
    clear Hz az; intro az Hz
    refine hK47 _ _ ?_
    refine wp_seq_k fun K66 hK66 => ?_
    -- law.go:45
    refine wp_region_lit ?_
    refine L (r_mv Hz rfl) Hz rfl ?_
    clear Hz az; intro az Hz
    refine L (r_mv Hz rfl) Hz rfl ?_
    clear Hz az; intro az Hz
    refine L (r_mv Hz rfl) Hz rfl ?_
    clear Hz az; intro az Hz
    refine L (r_mv Hz rfl) Hz rfl ?_
    clear Hz az; intro az Hz
    refine L (r_mv Hz rfl) Hz rfl ?_
    clear Hz az; intro az Hz
    have O73 : Only NoF w w48 := (Only.trans' O54 o51)
    have O74 : Only NoF w w63 := (o_sg (Only.trans' (Only.trans' O54 o51) o59) s64 (size_only O73) (oneF_ge hg61))
    have h75 := (SliceOf.kp f1 O74 (fun _ _ h => h) (fun _ _ _ _ h => h))
    have h76 := (SliceOf.kp f2 O74 (fun _ _ h => h) (fun _ _ _ _ h => h))
    refine LC Hz rfl rfl Tryd.call54 (nextT hN hE (rNext_v (notes_up h75 O74) h76 hh hd ht (by omega) (by omega))) rfl ?_
    rintro e w67 ⟨A68, c69, rfl, o70, ok71, sg72⟩; refine ⟨_, rfl, ?_⟩
    clear Hz az; intro az Hz
    refine L (r_mv Hz rfl) Hz rfl ?_
    clear Hz az; intro az Hz
    refine L (r_ex Hz rfl rfl) Hz rfl ?_
    clear Hz az; intro az Hz
    refine L (r_ex Hz rfl rfl) Hz rfl ?_
    clear Hz az; intro az Hz
    refine LAl (v := .agg #[.int .i64 (0), .int .i64 (0), .int .i64 (0), .slice none (0) 0, strV ([])]) Tryd.zeroValue54 Hz rfl rfl ?_
    clear Hz az; intro g77 w78 hg81 hl82 o79 B80 az Hz
    refine LSt (cs' := [.int .i64 (N.h), .int .i64 (N.n), .int .i64 (N.d), .slice A68 (N.l.length) c69, strV (N.s)]) Tryd.sizeOf54 Hz rfl rfl rfl rfl rfl ⟨rfl, rfl, rfl, rfl, rfl, trivial⟩ B80 rfl rfl fun w83 s84 B85 => ?_
    refine L (r_as Hz rfl) Hz rfl ?_
    clear Hz az; intro az Hz
    refine hK66 _ _ ?_
    refine wp_seq_k fun K86 hK86 => ?_
    -- law.go:46
    refine wp_region_lit ?_
    have O88 : Only NoF w3 w48 := (Only.trans' (Only.trans' (Only.trans' (Only.trans' (Only.trans' o10 o18) o24) o31) o36) o51)
    have ne87 : g2 ≠ g57 := (ne_of hl7 (Nat.le_trans (size_only O88) hg61))
    have O90 : Only NoF w3 w67 := (Only.trans' (o_sg (Only.trans' O88 o59) s64 (size_only O88) (oneF_ge hg61)) o70)
    have ne89 : g2 ≠ g77 := (ne_of hl7 (Nat.le_trans (size_only O90) hg81))
    have B91 := (Blk.st (Blk.k (Blk.k (Blk.st (Blk.k (Blk.k (Blk.k (Blk.k B27 o31) o36) o51) o59) s64 ne87) o70) o79) s84 ne89)
    refine L (r_ldA Tryd.isAgg54 Tryd.sizeOf54 Hz rfl (Blk.ca B91) rfl) Hz rfl ?_
    clear Hz az; intro az Hz
    have O93 : Only NoF w w67 := (Only.trans' O74 o70)
    have O94 : Only NoF w w83 := (o_sg (Only.trans' (Only.trans' O74 o70) o79) s84 (size_only O93) (oneF_ge hg81))
    have G92 := Gr.k hG O94
    refine LCV (v := .tuple #[strV ((if right m = true then encN m else [])), .bool (right m)]) Hz rfl rfl Tryd.call55 (Encode_v G92 (note_up hk1 O94)) rfl fun w95 o96 => ?_
    clear Hz az; intro az Hz
    refine L (r_mv Hz rfl) Hz rfl ?_
    clear Hz az; intro az Hz
    refine L (r_ex Hz rfl rfl) Hz rfl ?_
    clear Hz az; intro az Hz
    refine L (r_ex Hz rfl rfl) Hz rfl ?_
    clear Hz az; intro az Hz
    refine L (r_as Hz rfl) Hz rfl ?_
    clear Hz az; intro az Hz
    refine L (r_as Hz rfl) Hz rfl ?_
    clear Hz az; intro az Hz
    refine hK86 _ _ ?_
    refine wp_seq_k fun K97 hK97 => ?_
    -- law.go:47
    refine wp_region_lit ?_
    have B98 := (Blk.k B91 o96)
    refine L (r_ldA Tryd.isAgg54 Tryd.sizeOf54 Hz rfl (Blk.ca B98) rfl) Hz rfl ?_
    clear Hz az; intro az Hz
    have O99 : Only NoF w w95 := (Only.trans' O94 o96)
    refine LCV (v := .tuple #[strV ((if right m = true then encN m else [])), .bool (right m)]) Hz rfl rfl Tryd.call56 (rEncode_v (note_up hk1 O99)) rfl fun w100 o101 => ?_
    clear Hz az; intro az Hz
    refine L (r_mv Hz rfl) Hz rfl ?_
    clear Hz az; intro az Hz
    refine L (r_ex Hz rfl rfl) Hz rfl ?_
    clear Hz az; intro az Hz
    refine L (r_ex Hz rfl rfl) Hz rfl ?_
    clear Hz az; intro az Hz
    refine L (r_as Hz rfl) Hz rfl ?_
    clear Hz az; intro az Hz
    refine L (r_as Hz rfl) Hz rfl ?_
    clear Hz az; intro az Hz
    refine hK97 _ _ ?_
    refine wp_seq_k fun K102 hK102 => ?_
    -- law.go:48
    refine wp_region_lit ?_
    refine L (r_mv Hz rfl) Hz rfl ?_
    clear Hz az; intro az Hz
    have O110 : Only NoF w w100 := (Only.trans' O99 o101)
    have G109 := Gr.k hG O110
    refine LC Hz rfl rfl Tryd.call57 (decT hD (Decode_v G109 (by omega))) rfl ?_
    rintro e w103 ⟨A104, c105, rfl, o106, ok107, sg108⟩; refine ⟨_, rfl, ?_⟩
    clear Hz az; intro az Hz
    refine L (r_mv Hz rfl) Hz rfl ?_
    clear Hz az; intro az Hz
    refine L (r_ex Hz rfl rfl) Hz rfl ?_
    clear Hz az; intro az Hz
    refine L (r_ex Hz rfl rfl) Hz rfl ?_
    clear Hz az; intro az Hz
    refine LAl (v := .agg #[.int .i64 (0), .int .i64 (0), .int .i64 (0), .slice none (0) 0, strV ([])]) Tryd.zeroValue54 Hz rfl rfl ?_
    clear Hz az; intro g111 w112 hg115 hl116 o113 B114 az Hz
    refine LSt (cs' := [.int .i64 (D.h), .int .i64 (D.n), .int .i64 (D.d), .slice A104 (D.l.length) c105, strV (D.s)]) Tryd.sizeOf54 Hz rfl rfl rfl rfl rfl ⟨rfl, rfl, rfl, rfl, rfl, trivial⟩ B114 rfl rfl fun w117 s118 B119 => ?_
    refine L (r_as Hz rfl) Hz rfl ?_
    clear Hz az; intro az Hz
    refine hK102 _ _ ?_
    refine wp_seq_k fun K120 hK120 => ?_
    -- law.go:49
    refine wp_region_lit ?_
    refine L (r_mv Hz rfl) Hz rfl ?_
    clear Hz az; intro az Hz
    refine LC Hz rfl rfl Tryd.call58 (decT hD (rDecode_v (by omega))) rfl ?_
    rintro e w121 ⟨A122, c123, rfl, o124, ok125, sg126⟩; refine ⟨_, rfl, ?_⟩
    clear Hz az; intro az Hz
    refine L (r_mv Hz rfl) Hz rfl ?_
    clear Hz az; intro az Hz
    refine L (r_ex Hz rfl rfl) Hz rfl ?_
    clear Hz az; intro az Hz
    refine L (r_ex Hz rfl rfl) Hz rfl ?_
    clear Hz az; intro az Hz
    refine LAl (v := .agg #[.int .i64 (0), .int .i64 (0), .int .i64 (0), .slice none (0) 0, strV ([])]) Tryd.zeroValue54 Hz rfl rfl ?_
    clear Hz az; intro g127 w128 hg131 hl132 o129 B130 az Hz
    refine LSt (cs' := [.int .i64 (D.h), .int .i64 (D.n), .int .i64 (D.d), .slice A122 (D.l.length) c123, strV (D.s)]) Tryd.sizeOf54 Hz rfl rfl rfl rfl rfl ⟨rfl, rfl, rfl, rfl, rfl, trivial⟩ B130 rfl rfl fun w133 s134 B135 => ?_
    refine L (r_as Hz rfl) Hz rfl ?_
    clear Hz az; intro az Hz
    refine hK120 _ _ ?_
    refine wp_seq_k fun K136 hK136 => ?_
    refine wp_seq_k fun K137 hK137 => ?_
    -- law.go:50
    refine wp_region_lit ?_
    refine L (r_mv Hz rfl) Hz rfl ?_
    clear Hz az; intro az Hz
    refine L (r_mv Hz rfl) Hz rfl ?_
    clear Hz az; intro az Hz
    refine L (r_neRI Hz rfl rfl) Hz rfl ?_
    clear Hz az; intro az Hz
    refine L (r_mv Hz rfl) Hz rfl ?_
    clear Hz az; intro az Hz
    have O139 := (Only.trans (Only.trans (Only.refl (fun _ => True) w58) s64 (fun _ _ => .inl trivial)) o70 (fun _ _ => .inl trivial))
    have ne138 : g57 ≠ g77 := (ne_of hl62 (Nat.le_trans (size_only O139) hg81))
    have O141 := (Only.trans (Only.trans (Only.trans (Only.trans (Only.trans (Only.trans (Only.trans (Only.refl (fun _ => True) w58) s64 (fun _ _ => .inl trivial)) o70 (fun _ _ => .inl trivial)) o79 (fun _ _ => .inl trivial)) s84 (fun _ _ => .inl trivial)) o96 (fun _ _ => .inl trivial)) o101 (fun _ _ => .inl trivial)) o106 (fun _ _ => .inl trivial))
    have ne140 : g57 ≠ g111 := (ne_of hl62 (Nat.le_trans (size_only O141) hg115))
    have O143 := (Only.trans (Only.trans (Only.trans (Only.trans (Only.trans (Only.trans (Only.trans (Only.trans (Only.trans (Only.trans (Only.refl (fun _ => True) w58) s64 (fun _ _ => .inl trivial)) o70 (fun _ _ => .inl trivial)) o79 (fun _ _ => .inl trivial)) s84 (fun _ _ => .inl trivial)) o96 (fun _ _ => .inl trivial)) o101 (fun _ _ => .inl trivial)) o106 (fun _ _ => .inl trivial)) o113 (fun _ _ => .inl trivial)) s118 (fun _ _ => .inl trivial)) o124 (fun _ _ => .inl trivial))
    have ne142 : g57 ≠ g127 := (ne_of hl62 (Nat.le_trans (size_only O143) hg131))
    have B144 := (Blk.st (Blk.k (Blk.k (Blk.st (Blk.k (Blk.k (Blk.k (Blk.k (Blk.st (Blk.k (Blk.k B65 o70) o79) s84 ne138) o96) o101) o106) o113) s118 ne140) o124) o129) s134 ne142)
    refine LT Hz rfl rfl (r_ldA Tryd.isAgg54 Tryd.sizeOf54 Hz rfl (Blk.ca B144) rfl) rfl ?_
    clear Hz az; intro az Hz
    have O146 := (Only.trans (Only.trans (Only.trans (Only.trans (Only.refl (fun _ => True) w78) s84 (fun _ _ => .inl trivial)) o96 (fun _ _ => .inl trivial)) o101 (fun _ _ => .inl trivial)) o106 (fun _ _ => .inl trivial))
    have ne145 : g77 ≠ g111 := (ne_of hl82 (Nat.le_trans (size_only O146) hg115))
    have O148 := (Only.trans (Only.trans (Only.trans (Only.trans (Only.trans (Only.trans (Only.trans (Only.refl (fun _ => True) w78) s84 (fun _ _ => .inl trivial)) o96 (fun _ _ => .inl trivial)) o101 (fun _ _ => .inl trivial)) o106 (fun _ _ => .inl trivial)) o113 (fun _ _ => .inl trivial)) s118 (fun _ _ => .inl trivial)) o124 (fun _ _ => .inl trivial))
    have ne147 : g77 ≠ g127 := (ne_of hl82 (Nat.le_trans (size_only O148) hg131))
    have B149 := (Blk.st (Blk.k (Blk.k (Blk.st (Blk.k (Blk.k (Blk.k (Blk.k B85 o96) o101) o106) o113) s118 ne145) o124) o129) s134 ne147)
    refine LT Hz rfl rfl (r_ldA Tryd.isAgg54 Tryd.sizeOf54 Hz rfl (Blk.ca B149) rfl) rfl ?_
    clear Hz az; intro az Hz
    have O150 : Only NoF w48 w67 := (Only.trans' (o_sg o59 s64 (Nat.le_refl _) (oneF_ge hg61)) o70)
    have O151 : Only NoF w48 w103 := (Only.trans' (Only.trans' (Only.trans' (o_sg (Only.trans' O150 o79) s84 (size_only O150) (oneF_ge hg81)) o96) o101) o106)
    have O152 : Only NoF w48 w121 := (Only.trans' (o_sg (Only.trans' O151 o113) s118 (size_only O151) (oneF_ge hg115)) o124)
    have O153 : Only NoF w48 w133 := (o_sg (Only.trans' (Only.trans' (o_sg (Only.trans' (Only.trans' (Only.trans' (Only.trans' (o_sg (Only.trans' (Only.trans' (o_sg o59 s64 (Nat.le_refl _) (oneF_ge hg61)) o70) o79) s84 (size_only O150) (oneF_ge hg81)) o96) o101) o106) o113) s118 (size_only O151) (oneF_ge hg115)) o124) o129) s134 (size_only O152) (oneF_ge hg131))
    have h154 := (SliceOf.kp sg53 O153 (fun _ _ h => h) (fun _ _ _ _ h => h))
    have h155 := SliceOf.pl h154
    have O156 : Only NoF w67 w103 := (Only.trans' (Only.trans' (Only.trans' (o_sg o79 s84 (Nat.le_refl _) (oneF_ge hg81)) o96) o101) o106)
    have O157 : Only NoF w67 w121 := (Only.trans' (o_sg (Only.trans' O156 o113) s118 (size_only O156) (oneF_ge hg115)) o124)
    have O158 : Only NoF w67 w133 := (o_sg (Only.trans' (Only.trans' (o_sg (Only.trans' (Only.trans' (Only.trans' (Only.trans' (o_sg o79 s84 (Nat.le_refl _) (oneF_ge hg81)) o96) o101) o106) o113) s118 (size_only O156) (oneF_ge hg115)) o124) o129) s134 (size_only O157) (oneF_ge hg131))
    have h159 := (SliceOf.kp sg72 O158 (fun _ _ h => h) (fun _ _ _ _ h => h))
    have h160 := SliceOf.pl h159
    refine LGV (v := .bool (true)) Hz rfl rfl gd_f rfl (fun hb => rfl) Tryd.call59 (fun hb => fix_eq (congrArg Value.bool (by simp [same] : same (⟨N.h, N.n, N.d, A49, N.l, c50, N.s⟩ : NM) (⟨N.h, N.n, N.d, A68, N.l, c69, N.s⟩ : NM) = true)) (rSame_v (m := (⟨N.h, N.n, N.d, A49, N.l, c50, N.s⟩ : NM)) (m2 := (⟨N.h, N.n, N.d, A68, N.l, c69, N.s⟩ : NM)) h155 h160)) rfl fun w161 o162 => ?_
    clear Hz az; intro az Hz
    refine LT Hz rfl rfl (r_not Hz rfl) rfl ?_
    clear Hz az; intro az Hz
    refine L (r_pick Hz rfl rfl rfl) Hz rfl ?_
    clear Hz az; intro az Hz
    refine L (r_mv Hz rfl) Hz rfl ?_
    clear Hz az; intro az Hz
    refine LT Hz rfl rfl (r_mv Hz rfl) rfl ?_
    clear Hz az; intro az Hz
    refine LT Hz rfl rfl (r_mv Hz rfl) rfl ?_
    clear Hz az; intro az Hz
    refine LT Hz rfl rfl (r_neRS Hz rfl rfl) rfl ?_
    clear Hz az; intro az Hz
    refine L (r_pick Hz rfl rfl rfl) Hz rfl ?_
    clear Hz az; intro az Hz
    refine L (r_mv Hz rfl) Hz rfl ?_
    clear Hz az; intro az Hz
    refine LT Hz rfl rfl (r_mv Hz rfl) rfl ?_
    clear Hz az; intro az Hz
    refine LT Hz rfl rfl (r_mv Hz rfl) rfl ?_
    clear Hz az; intro az Hz
    refine LT Hz rfl rfl (r_neBs Tryd.underlying4 Hz rfl rfl) rfl ?_
    clear Hz az; intro az Hz
    refine L (r_pick Hz rfl rfl rfl) Hz rfl ?_
    clear Hz az; intro az Hz
    refine L (r_mv Hz rfl) Hz rfl ?_
    clear Hz az; intro az Hz
    refine LT Hz rfl rfl (r_mv Hz rfl) rfl ?_
    clear Hz az; intro az Hz
    refine LT Hz rfl rfl (r_mv Hz rfl) rfl ?_
    clear Hz az; intro az Hz
    refine LT Hz rfl rfl (r_neBs Tryd.underlying4 Hz rfl rfl) rfl ?_
    clear Hz az; intro az Hz
    refine L (r_pick Hz rfl rfl rfl) Hz rfl ?_
    clear Hz az; intro az Hz
    refine L (r_mv Hz rfl) Hz rfl ?_
    clear Hz az; intro az Hz
    have O164 := (Only.trans (Only.trans (Only.refl (fun _ => True) w112) s118 (fun _ _ => .inl trivial)) o124 (fun _ _ => .inl trivial))
    have ne163 : g111 ≠ g127 := (ne_of hl116 (Nat.le_trans (size_only O164) hg131))
    have B165 := (Blk.k (Blk.st (Blk.k (Blk.k B119 o124) o129) s134 ne163) o162)
    refine LT Hz rfl rfl (r_ldA Tryd.isAgg54 Tryd.sizeOf54 Hz rfl (Blk.ca B165) rfl) rfl ?_
    clear Hz az; intro az Hz
    have B166 := (Blk.k B135 o162)
    refine LT Hz rfl rfl (r_ldA Tryd.isAgg54 Tryd.sizeOf54 Hz rfl (Blk.ca B166) rfl) rfl ?_
    clear Hz az; intro az Hz
    have O167 : Only NoF w103 w121 := (Only.trans' (o_sg o113 s118 (Nat.le_refl _) (oneF_ge hg115)) o124)
    have O168 : Only NoF w103 w161 := (Only.trans' (o_sg (Only.trans' (Only.trans' (o_sg o113 s118 (Nat.le_refl _) (oneF_ge hg115)) o124) o129) s134 (size_only O167) (oneF_ge hg131)) o162)
    have h169 := (SliceOf.kp sg108 O168 (fun _ _ h => h) (fun _ _ _ _ h => h))
    have h170 := SliceOf.pl h169
    have O171 : Only NoF w121 w161 := (Only.trans' (o_sg o129 s134 (Nat.le_refl _) (oneF_ge hg131)) o162)
    have h172 := (SliceOf.kp sg126 O171 (fun _ _ h => h) (fun _ _ _ _ h => h))
    have h173 := SliceOf.pl h172
    refine LGV (v := .bool (true)) Hz rfl rfl gd_f rfl (fun hb => rfl) Tryd.call59 (fun hb => fix_eq (congrArg Value.bool (by simp [same] : same (⟨D.h, D.n, D.d, A104, D.l, c105, D.s⟩ : NM) (⟨D.h, D.n, D.d, A122, D.l, c123, D.s⟩ : NM) = true)) (rSame_v (m := (⟨D.h, D.n, D.d, A104, D.l, c105, D.s⟩ : NM)) (m2 := (⟨D.h, D.n, D.d, A122, D.l, c123, D.s⟩ : NM)) h170 h173)) rfl fun w174 o175 => ?_
    clear Hz az; intro az Hz
    refine LT Hz rfl rfl (r_not Hz rfl) rfl ?_
    clear Hz az; intro az Hz
    refine L (r_pick Hz rfl rfl rfl) Hz rfl ?_
    clear Hz az; intro az Hz
    refine hK137 _ _ ?_
    refine br_false Hz rfl ?_
    refine wp_skip ?_
    refine hK136 _ _ ?_
    refine wp_seq_k fun K176 hK176 => ?_
    -- law.go:53
    refine reg_p NoF 8 [3, 5, 10, 12, 18, 21, 27, 30] (.rd 0 (.rd 1 (.rd 2 (.rd 4 (.ex 3 (.ex 5 (.rd 6 (.rd 7 (.rd 8 (.rd 9 (.rd 11 (.ex 10 (.ex 12 (.rd 13 (.rd 14 (.rd 15 (.rd 16 (.rd 17 (.rd 19 (.rd 20 (.ex 18 (.ex 21 (.rd 22 (.rd 23 (.rd 24 (.rd 25 (.rd 26 (.rd 28 (.rd 29 (.ex 27 (.ex 30 (.rd 31 (.rd 32 (.rd 33 .nil)))))))))))))))))))))))))))))))))) (by kernel_rfl) (by kernel_rfl) (fun _ _ _ _ _ h => h) fun w177 o178 => ?_
    have O180 : Only NoF w3 w103 := (Only.trans' (Only.trans' (Only.trans' (o_sg (Only.trans' O90 o79) s84 (size_only O90) (oneF_ge hg81)) o96) o101) o106)
    have ne179 : g2 ≠ g111 := (ne_of hl7 (Nat.le_trans (size_only O180) hg115))
    have O182 : Only NoF w3 w121 := (Only.trans' (o_sg (Only.trans' O180 o113) s118 (size_only O180) (oneF_ge hg115)) o124)
    have ne181 : g2 ≠ g127 := (ne_of hl7 (Nat.le_trans (size_only O182) hg131))
    have B183 := (Blk.k (Blk.k (Blk.k (Blk.st (Blk.k (Blk.k (Blk.st (Blk.k (Blk.k (Blk.k B98 o101) o106) o113) s118 ne179) o124) o129) s134 ne181) o162) o175) o178)
    have O185 : Only NoF w9 w48 := (Only.trans' (Only.trans' (Only.trans' (Only.trans' o18 o24) o31) o36) o51)
    have ne184 : g8 ≠ g57 := (ne_of hl13 (Nat.le_trans (size_only O185) hg61))
    have O187 : Only NoF w9 w67 := (Only.trans' (o_sg (Only.trans' O185 o59) s64 (size_only O185) (oneF_ge hg61)) o70)
    have ne186 : g8 ≠ g77 := (ne_of hl13 (Nat.le_trans (size_only O187) hg81))
    have O189 : Only NoF w9 w103 := (Only.trans' (Only.trans' (Only.trans' (o_sg (Only.trans' O187 o79) s84 (size_only O187) (oneF_ge hg81)) o96) o101) o106)
    have ne188 : g8 ≠ g111 := (ne_of hl13 (Nat.le_trans (size_only O189) hg115))
    have O191 : Only NoF w9 w121 := (Only.trans' (o_sg (Only.trans' O189 o113) s118 (size_only O189) (oneF_ge hg115)) o124)
    have ne190 : g8 ≠ g127 := (ne_of hl13 (Nat.le_trans (size_only O191) hg131))
    have B192 := (Blk.k (Blk.k (Blk.k (Blk.st (Blk.k (Blk.k (Blk.st (Blk.k (Blk.k (Blk.k (Blk.k (Blk.st (Blk.k (Blk.k (Blk.st (Blk.k (Blk.k (Blk.k B32 o36) o51) o59) s64 ne184) o70) o79) s84 ne186) o96) o101) o106) o113) s118 ne188) o124) o129) s134 ne190) o162) o175) o178)
    refine Pl.MSP (b := true) (by kernel_rfl) (fun W oW => r_mv Hz rfl) Hz rfl rfl ?_
    clear Hz az; intro az Hz
    refine Pl.MSP (b := true) (by kernel_rfl) (fun W oW => r_mv Hz rfl) Hz rfl rfl ?_
    clear Hz az; intro az Hz
    refine Pl.MSPT (b := true) (by kernel_rfl) Hz rfl rfl (fun W oW => r_mv Hz rfl) rfl rfl ?_
    clear Hz az; intro az Hz
    refine Pl.MSPT (b := true) (by kernel_rfl) Hz rfl rfl (fun W oW => r_mv Hz rfl) rfl rfl ?_
    clear Hz az; intro az Hz
    have O193 : Only NoF w w103 := (Only.trans' O110 o106)
    have O194 : Only NoF w w121 := (Only.trans' (o_sg (Only.trans' O193 o113) s118 (size_only O193) (oneF_ge hg115)) o124)
    have O195 : Only NoF w w177 := (Only.trans' (Only.trans' (Only.trans' (o_sg (Only.trans' (Only.trans' (o_sg (Only.trans' (Only.trans' O110 o106) o113) s118 (size_only O193) (oneF_ge hg115)) o124) o129) s134 (size_only O194) (oneF_ge hg131)) o162) o175) o178)
    have h196 := (SliceOf.kp f1 O195 (fun _ _ h => h) (fun _ _ _ _ h => h))
    refine Pl.MSGV (v := .int .i64 ((check l))) Hz rfl rfl gd_t rfl rfl (fun hb => rfl) Tryd.call60 (fun hb => Check_v (notes_up h196 O195)) rfl (fun w' o' => ⟨fun _ => o', (Only.trans (Only.refl NoF w177) o' (fun _ h => h.elim))⟩) fun w197 o198 => ?_
    clear Hz az; intro az Hz
    have O199 : Only NoF w w197 := (Only.trans' O195 o198)
    have h200 := (SliceOf.kp f1 O199 (fun _ _ h => h) (fun _ _ _ _ h => h))
    refine Pl.MSGV (v := .int .i64 ((check l))) Hz rfl rfl gd_t rfl rfl (fun hb => rfl) Tryd.call61 (fun hb => rCheck_v (notes_up h200 O199)) rfl (fun w' o' => ⟨fun _ => (Only.trans' o198 o'), (Only.trans (Only.trans (Only.refl NoF w177) o198 (fun _ h => h.elim)) o' (fun _ h => h.elim))⟩) fun w201 o202 => ?_
    clear Hz az; intro az Hz
    refine Pl.MSPT (b := true) (by kernel_rfl) Hz rfl rfl (fun W oW => r_eqRI Hz rfl rfl) rfl rfl ?_
    clear Hz az; intro az Hz
    refine Pl.MSP (b := true) (by kernel_rfl) (fun W oW => r_pick Hz rfl rfl rfl) Hz rfl rfl ?_
    clear Hz az; intro az Hz
    refine Pl.MSP (b := true) (by kernel_rfl) (fun W oW => r_mv Hz rfl) Hz rfl rfl ?_
    clear Hz az; intro az Hz
    refine Pl.MSPT (b := true) (by kernel_rfl) Hz rfl rfl (fun W oW => r_ldA Tryd.isAgg54 Tryd.sizeOf54 Hz rfl (Blk.ca (Blk.k B183 oW)) rfl) rfl rfl ?_
    clear Hz az; intro az Hz
    refine Pl.MSPT (b := true) (by kernel_rfl) Hz rfl rfl (fun W oW => r_ldA Tryd.isAgg54 Tryd.sizeOf54 Hz rfl (Blk.ca (Blk.k B183 oW)) rfl) rfl rfl ?_
    clear Hz az; intro az Hz
    have O203 : Only NoF w w201 := (Only.trans' O199 o202)
    have h204 := (SliceOf.kp h1 O203 (fun _ _ h => h) (fun _ _ _ _ h => h))
    refine Pl.MSGV (v := .bool (right m)) Hz rfl rfl gd_t rfl rfl (fun hb => rfl) Tryd.call62 (fun hb => Right_v (m := m) h204) rfl (fun w' o' => ⟨fun _ => (Only.trans' (Only.trans' o198 o202) o'), (Only.trans (Only.trans (Only.trans (Only.refl NoF w177) o198 (fun _ h => h.elim)) o202 (fun _ h => h.elim)) o' (fun _ h => h.elim))⟩) fun w205 o206 => ?_
    clear Hz az; intro az Hz
    have O207 : Only NoF w w205 := (Only.trans' O203 o206)
    have h208 := (SliceOf.kp h1 O207 (fun _ _ h => h) (fun _ _ _ _ h => h))
    refine Pl.MSGV (v := .bool (right m)) Hz rfl rfl gd_t rfl rfl (fun hb => rfl) Tryd.call63 (fun hb => rRight_v (m := m) h208) rfl (fun w' o' => ⟨fun _ => (Only.trans' (Only.trans' (Only.trans' o198 o202) o206) o'), (Only.trans (Only.trans (Only.trans (Only.trans (Only.refl NoF w177) o198 (fun _ h => h.elim)) o202 (fun _ h => h.elim)) o206 (fun _ h => h.elim)) o' (fun _ h => h.elim))⟩) fun w209 o210 => ?_
    clear Hz az; intro az Hz
    refine Pl.MSPT (b := true) (by kernel_rfl) Hz rfl rfl (fun W oW => r_eqRBu Tryd.underlying4 Hz rfl rfl) rfl rfl ?_
    clear Hz az; intro az Hz
    refine Pl.MSP (b := true) (by kernel_rfl) (fun W oW => r_pick Hz rfl rfl rfl) Hz rfl rfl ?_
    clear Hz az; intro az Hz
    refine Pl.MSP (b := true) (by kernel_rfl) (fun W oW => r_mv Hz rfl) Hz rfl rfl ?_
    clear Hz az; intro az Hz
    refine Pl.MSPT (b := true) (by kernel_rfl) Hz rfl rfl (fun W oW => r_ldA Tryd.isAgg54 Tryd.sizeOf54 Hz rfl (Blk.ca (Blk.k B183 oW)) rfl) rfl rfl ?_
    clear Hz az; intro az Hz
    refine Pl.MSPT (b := true) (by kernel_rfl) Hz rfl rfl (fun W oW => r_ldA Tryd.isAgg54 Tryd.sizeOf54 Hz rfl (Blk.ca (Blk.k B192 oW)) rfl) rfl rfl ?_
    clear Hz az; intro az Hz
    refine Pl.MSPT (b := true) (by kernel_rfl) Hz rfl rfl (fun W oW => r_ldA Tryd.isAgg54 Tryd.sizeOf54 Hz rfl (Blk.ca (Blk.k B183 oW)) rfl) rfl rfl ?_
    clear Hz az; intro az Hz
    refine Pl.MSPT (b := true) (by kernel_rfl) Hz rfl rfl (fun W oW => r_ldA Tryd.isAgg54 Tryd.sizeOf54 Hz rfl (Blk.ca (Blk.k B192 oW)) rfl) rfl rfl ?_
    clear Hz az; intro az Hz
    have O211 : Only NoF w w209 := (Only.trans' O207 o210)
    have h212 := (SliceOf.kp h1 O211 (fun _ _ h => h) (fun _ _ _ _ h => h))
    have h213 := (SliceOf.kp h2 O211 (fun _ _ h => h) (fun _ _ _ _ h => h))
    refine Pl.MSGV (v := .bool (same m m2)) Hz rfl rfl gd_t rfl rfl (fun hb => rfl) Tryd.call64 (fun hb => Same_v (m := m) (m2 := m2) h212 h213) rfl (fun w' o' => ⟨fun _ => (Only.trans' (Only.trans' (Only.trans' (Only.trans' o198 o202) o206) o210) o'), (Only.trans (Only.trans (Only.trans (Only.trans (Only.trans (Only.refl NoF w177) o198 (fun _ h => h.elim)) o202 (fun _ h => h.elim)) o206 (fun _ h => h.elim)) o210 (fun _ h => h.elim)) o' (fun _ h => h.elim))⟩) fun w214 o215 => ?_
    clear Hz az; intro az Hz
    have O216 : Only NoF w w214 := (Only.trans' O211 o215)
    have h217 := (SliceOf.kp h1 O216 (fun _ _ h => h) (fun _ _ _ _ h => h))
    have h218 := (SliceOf.kp h2 O216 (fun _ _ h => h) (fun _ _ _ _ h => h))
    refine Pl.MSGV (v := .bool (same m m2)) Hz rfl rfl gd_t rfl rfl (fun hb => rfl) Tryd.call59 (fun hb => rSame_v (m := m) (m2 := m2) h217 h218) rfl (fun w' o' => ⟨fun _ => (Only.trans' (Only.trans' (Only.trans' (Only.trans' (Only.trans' o198 o202) o206) o210) o215) o'), (Only.trans (Only.trans (Only.trans (Only.trans (Only.trans (Only.trans (Only.refl NoF w177) o198 (fun _ h => h.elim)) o202 (fun _ h => h.elim)) o206 (fun _ h => h.elim)) o210 (fun _ h => h.elim)) o215 (fun _ h => h.elim)) o' (fun _ h => h.elim))⟩) fun w219 o220 => ?_
    clear Hz az; intro az Hz
    refine Pl.MSPT (b := true) (by kernel_rfl) Hz rfl rfl (fun W oW => r_eqRBu Tryd.underlying4 Hz rfl rfl) rfl rfl ?_
    clear Hz az; intro az Hz
    refine Pl.MSP (b := true) (by kernel_rfl) (fun W oW => r_pick Hz rfl rfl rfl) Hz rfl rfl ?_
    clear Hz az; intro az Hz
    refine Pl.MSP (b := true) (by kernel_rfl) (fun W oW => r_mv Hz rfl) Hz rfl rfl ?_
    clear Hz az; intro az Hz
    refine Pl.MSPT (b := true) (by kernel_rfl) Hz rfl rfl (fun W oW => r_ldA Tryd.isAgg54 Tryd.sizeOf54 Hz rfl (Blk.ca (Blk.k B183 oW)) rfl) rfl rfl ?_
    clear Hz az; intro az Hz
    refine Pl.MSPT (b := true) (by kernel_rfl) Hz rfl rfl (fun W oW => r_ldA Tryd.isAgg54 Tryd.sizeOf54 Hz rfl (Blk.ca (Blk.k B192 oW)) rfl) rfl rfl ?_
    clear Hz az; intro az Hz
    refine Pl.MSPT (b := true) (by kernel_rfl) Hz rfl rfl (fun W oW => r_ldA Tryd.isAgg54 Tryd.sizeOf54 Hz rfl (Blk.ca (Blk.k B183 oW)) rfl) rfl rfl ?_
    clear Hz az; intro az Hz
    refine Pl.MSPT (b := true) (by kernel_rfl) Hz rfl rfl (fun W oW => r_ldA Tryd.isAgg54 Tryd.sizeOf54 Hz rfl (Blk.ca (Blk.k B192 oW)) rfl) rfl rfl ?_
    clear Hz az; intro az Hz
    have O221 : Only NoF w w219 := (Only.trans' O216 o220)
    have h222 := (SliceOf.kp h1 O221 (fun _ _ h => h) (fun _ _ _ _ h => h))
    have h223 := (SliceOf.kp h2 O221 (fun _ _ h => h) (fun _ _ _ _ h => h))
    refine Pl.MSGV (v := .bool (convicts m m2)) Hz rfl rfl gd_t rfl rfl (fun hb => rfl) Tryd.call65 (fun hb => Convicts_v (m := m) (m2 := m2) h222 h223) rfl (fun w' o' => ⟨fun _ => (Only.trans' (Only.trans' (Only.trans' (Only.trans' (Only.trans' (Only.trans' o198 o202) o206) o210) o215) o220) o'), (Only.trans (Only.trans (Only.trans (Only.trans (Only.trans (Only.trans (Only.trans (Only.refl NoF w177) o198 (fun _ h => h.elim)) o202 (fun _ h => h.elim)) o206 (fun _ h => h.elim)) o210 (fun _ h => h.elim)) o215 (fun _ h => h.elim)) o220 (fun _ h => h.elim)) o' (fun _ h => h.elim))⟩) fun w224 o225 => ?_
    clear Hz az; intro az Hz
    have O226 : Only NoF w w224 := (Only.trans' O221 o225)
    have h227 := (SliceOf.kp h1 O226 (fun _ _ h => h) (fun _ _ _ _ h => h))
    have h228 := (SliceOf.kp h2 O226 (fun _ _ h => h) (fun _ _ _ _ h => h))
    refine Pl.MSGV (v := .bool (convicts m m2)) Hz rfl rfl gd_t rfl rfl (fun hb => rfl) Tryd.call66 (fun hb => rConvicts_v (m := m) (m2 := m2) h227 h228) rfl (fun w' o' => ⟨fun _ => (Only.trans' (Only.trans' (Only.trans' (Only.trans' (Only.trans' (Only.trans' (Only.trans' o198 o202) o206) o210) o215) o220) o225) o'), (Only.trans (Only.trans (Only.trans (Only.trans (Only.trans (Only.trans (Only.trans (Only.trans (Only.refl NoF w177) o198 (fun _ h => h.elim)) o202 (fun _ h => h.elim)) o206 (fun _ h => h.elim)) o210 (fun _ h => h.elim)) o215 (fun _ h => h.elim)) o220 (fun _ h => h.elim)) o225 (fun _ h => h.elim)) o' (fun _ h => h.elim))⟩) fun w229 o230 => ?_
    clear Hz az; intro az Hz
    refine Pl.MSPT (b := true) (by kernel_rfl) Hz rfl rfl (fun W oW => r_eqRBu Tryd.underlying4 Hz rfl rfl) rfl rfl ?_
    clear Hz az; intro az Hz
    refine Pl.MSP (b := true) (by kernel_rfl) (fun W oW => r_pick Hz rfl rfl rfl) Hz rfl rfl ?_
    clear Hz az; intro az Hz
    refine Pl.MSP (b := true) (by kernel_rfl) (fun W oW => r_as Hz rfl) Hz rfl rfl ?_
    clear Hz az; intro az Hz
    refine wpPl_nil ?_
    refine hK176 _ _ ?_
    refine wp_ret ?_
    show bodyPost _ _ _ .ret _ _
    refine ret_of (vs := [.bool (true)]) Hz Tryd.results9 ⟨rfl, trivial⟩ ?_
    have O231 : Only NoF w w229 := (Only.trans' O226 o230)
    exact ⟨rfl, O231⟩

theorem stells_v {w : World} (hG : Gr w) {v v2 : Value} {l : List NM} (f1 : NotesV w w v l) {m m2 : NM} (hk1 : (KNote w).ok m) (hk2 : (KNote w).ok m2) {t : Str} (ht : t.length ≤ maxLen) {h d : Int} (hh : I64 h) (hd : I64 d) {q : List RM} (f2 : RefsV w v2 q) : Calls Tryd.prog 9 #[v, .agg #[.int .i64 m.h, .int .i64 m.n, .int .i64 m.d, .slice m.A m.l.length m.c, strV m.s], .agg #[.int .i64 m2.h, .int .i64 m2.n, .int .i64 m2.d, .slice m2.A m2.l.length m2.c, strV m2.s], strV t, .int .i64 h, .int .i64 d, v2] w (Fix (.bool true) w) := by
  obtain ⟨A1, c1, rfl, _⟩ := SliceOf.shape f1
  obtain ⟨A2, c2, rfl, _⟩ := SliceOf.shape f2
  exact tells_v_ hG f1 hk1 hk2 ht hh hd f2 rfl rfl rfl
end Go.Proofs.YtgmnoianhonihaaDoor
