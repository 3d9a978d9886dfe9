/-
  The seal: a note's encoding is decoded; small, walked. No condition but the listed variables.
-/
import Derived.Test.YtgmnoianhonihaaDoorSW5
namespace Go.Proofs.YtgmnoianhonihaaDoor
set_option linter.unusedVariables false
set_option linter.unusedSimpArgs false
set_option linter.unusedSectionVars false
open Go.RowKit

theorem right_ok {m : NM} (h : right m = true) : (Wr.Ok m.h ∧ 0 ≤ m.h) ∧ (Wr.Ok m.n ∧ 0 ≤ m.n) ∧ (Wr.Ok m.d ∧ 0 ≤ m.d) := by
  unfold right headBad kn bel at h
  simp only [Bool.and_eq_true, Bool.not_eq_true', Bool.or_eq_false_iff, Bool.not_eq_false', decide_eq_true_eq] at h
  unfold Wr.Ok
  omega
theorem dec_enc {m : NM} (hr : right m = true) (hl : ∀ r ∈ m.l, Wr.Ok r.h ∧ Wr.Ok r.n) : decOk (encN m) = true ∧ decN (encN m) = ⟨m.h, m.n, m.d, none, m.l, 0, m.s⟩ := by
  obtain ⟨⟨a1, a2⟩, ⟨b1, b2⟩, ⟨c1, c2⟩⟩ := right_ok hr
  obtain ⟨l1, l2⟩ := right_len hr
  have e : encN m = Wr.numE m.h ++ (Wr.numE m.n ++ (Wr.numE m.d ++ (Wr.numsE (flat2 m.l) ++ (Wr.textE m.s ++ [])))) := by simp [encN, List.append_assoc]
  have h1 : d1 (encN m) = (m.h, ⟨Wr.numE m.n ++ (Wr.numE m.d ++ (Wr.numsE (flat2 m.l) ++ (Wr.textE m.s ++ []))), false⟩) := by
    show Wr.num ⟨encN m, false⟩ = _
    rw [e]; exact Wr.num_ok a1 a2 _ _
  have h2 : d2 (encN m) = (m.n, ⟨Wr.numE m.d ++ (Wr.numsE (flat2 m.l) ++ (Wr.textE m.s ++ [])), false⟩) := by
    show Wr.num (d1 (encN m)).2 = _
    rw [h1]; exact Wr.num_ok b1 b2 _ _
  have h3 : d3 (encN m) = (m.d, ⟨Wr.numsE (flat2 m.l) ++ (Wr.textE m.s ++ []), false⟩) := by
    show Wr.num (d2 (encN m)).2 = _
    rw [h2]; exact Wr.num_ok c1 c2 _ _
  have h4 : d4 (encN m) = (flat2 m.l, ⟨Wr.textE m.s ++ [], false⟩) := by
    show Wr.nums (d3 (encN m)).2 = _
    rw [h3]
    refine Wr.list_ok' (one := Wr.int) (oneE := Wr.intE) (by rw [flat2_len]; omega) (fun x hx r => Wr.int_ok ?_ r false) _
    unfold flat2 at hx
    obtain ⟨r, hr, hx⟩ := List.mem_flatMap.1 hx
    simp at hx
    rcases hx with rfl | rfl
    · exact (hl r hr).1
    · exact (hl r hr).2
  have h5 : d5 (encN m) = (m.s, ⟨[], false⟩) := by
    show Wr.text (d4 (encN m)).2 = _
    rw [h4]; exact Wr.text_ok (by omega) _
  have hp : pairs (flat2 m.l) = (m.l, []) := by
    have := pairs_flat m.l [] (by simp)
    rwa [List.append_nil] at this
  have hN : decN (encN m) = ⟨m.h, m.n, m.d, none, m.l, 0, m.s⟩ := by
    unfold decN
    rw [h1, h2, h3, h4, h5, hp]
  refine ⟨?_, hN⟩
  unfold decOk
  rw [hN, h5, h4, hp, show right ⟨m.h, m.n, m.d, none, m.l, 0, m.s⟩ = right m from rfl, hr]
  rfl
/-! ### the note of 'small' -/
theorem sm_it {n : Nat} (h : n < 10) : Lib.itoa (n : Int) = [UInt8.ofNat (48 + n)] := by
  unfold Lib.itoa
  rw [if_neg (by omega)]
  exact dec_small h
theorem sm_enc {A : Option Addr} {c : Nat} : encN ⟨2, 1, 4, A, [⟨1, 7⟩], c, [97]⟩ = [50, 59, 49, 59, 52, 59, 50, 91, 49, 59, 55, 59, 93, 49, 58, 97, 44] := by
  have i1 := sm_it (n := 1) (by decide)
  have i2 := sm_it (n := 2) (by decide)
  have i4 := sm_it (n := 4) (by decide)
  have i7 := sm_it (n := 7) (by decide)
  show Wr.numE 2 ++ Wr.numE 1 ++ Wr.numE 4 ++ Wr.numsE [1, 7] ++ Wr.textE [97] = _
  have e1 : Wr.numE 1 = [49, 59] := by show (if (1 : Int) < 0 then [] else Wr.intE 1) = _; rw [if_neg (by decide)]; unfold Wr.intE; rw [show (1 : Int) = ((1 : Nat) : Int) from rfl, i1]; rfl
  have e2 : Wr.numE 2 = [50, 59] := by show (if (2 : Int) < 0 then [] else Wr.intE 2) = _; rw [if_neg (by decide)]; unfold Wr.intE; rw [show (2 : Int) = ((2 : Nat) : Int) from rfl, i2]; rfl
  have e4 : Wr.numE 4 = [52, 59] := by show (if (4 : Int) < 0 then [] else Wr.intE 4) = _; rw [if_neg (by decide)]; unfold Wr.intE; rw [show (4 : Int) = ((4 : Nat) : Int) from rfl, i4]; rfl
  have e5 : Wr.numsE [1, 7] = [50, 91, 49, 59, 55, 59, 93] := by
    show Lib.itoa ((2 : Nat) : Int) ++ [91] ++ [(1 : Int), 7].flatMap Wr.intE ++ [93] = _
    rw [i2, show [(1 : Int), 7].flatMap Wr.intE = (Lib.itoa ((1 : Nat) : Int) ++ [59]) ++ (Lib.itoa ((7 : Nat) : Int) ++ [59]) by simp [Wr.intE], i1, i7]; rfl
  have e6 : Wr.textE [97] = [49, 58, 97, 44] := by
    show Lib.itoa ((1 : Nat) : Int) ++ [58] ++ [97] ++ [44] = _
    rw [i1]; rfl
  rw [e1, e2, e4, e5, e6]; rfl
theorem sm_enc_v {w : World} (hG : Gr w) {m : NM} {A : Option Addr} {c : Nat} (hm : m = ⟨2, 1, 4, A, [⟨1, 7⟩], c, [97]⟩) (hk : (KNote w).ok m) : Calls Tryd.prog 55 [noteV m].toArray w (Fix (.tuple #[strV [50, 59, 49, 59, 52, 59, 50, 91, 49, 59, 55, 59, 93, 49, 58, 97, 44], .bool true]) w) := by
  subst hm
  have := Encode_v hG hk
  rw [show right (⟨2, 1, 4, A, [⟨1, 7⟩], c, [97]⟩ : NM) = true from rfl, if_pos rfl, sm_enc] at this
  exact this
def NoteTo (x : Value) (w : World) (e : Ending) (w' : World) : Prop := ∃ A c, e = .returned (.tuple #[noteV ⟨2, 1, 4, A, [⟨1, 7⟩], c, [97]⟩, x]) ∧ Only NoF w w' ∧ (KNote w').ok ⟨2, 1, 4, A, [⟨1, 7⟩], c, [97]⟩ ∧ SliceOf (geB w.heap.size) 2 KRef.R w' (.slice A 1 c) [⟨1, 7⟩]
theorem sm_dec_v {w : World} (hG : Gr w) : Calls Tryd.prog 57 [strV [50, 59, 49, 59, 52, 59, 50, 91, 49, 59, 55, 59, 93, 49, 58, 97, 44]].toArray w (NoteTo (.bool true) w) := by
  have hd := dec_enc (m := ⟨2, 1, 4, none, [⟨1, 7⟩], 0, [97]⟩) rfl (by intro r hr; simp at hr; subst hr; exact ⟨⟨by decide, by decide⟩, ⟨by decide, by decide⟩⟩)
  rw [sm_enc] at hd
  refine (Decode_v hG (by decide)).mono ?_
  rintro e w' ⟨v, rfl, o, h | h⟩
  · rw [hd.1] at h; cases h.1
  · obtain ⟨_, ⟨mh, mn, md, A, ml, c, ms⟩, rfl, h1, h2, h3, h4, h5, ok, sg⟩ := h
    rw [hd.2] at h1 h2 h3 h4 h5
    simp only at h1 h2 h3 h4 h5
    subst h1 h2 h3 h4 h5
    exact ⟨A, c, by rw [hd.1], o, ok, sg⟩
theorem sm_next_v {w : World} {v v2 : Value} (f1 : NotesV w w v [⟨2, 0, 4, none, [], 0, []⟩]) (f2 : RefsV w v2 [⟨1, 7⟩]) : Calls Tryd.prog 53 [v, .int .i64 2, .int .i64 4, v2, strV [97]].toArray w (NoteTo (.int .i64 0) w) := by
  have hc : check [⟨2, 0, 4, none, [], 0, []⟩, ⟨2, 1, 4, none, [⟨1, 7⟩], 0, [97]⟩] = 0 := by decide
  refine (Next_v f1 f2 (h := 2) (d := 4) (t := [97]) (by unfold I64; omega) (by unfold I64; omega) (by unfold maxLen; decide) (by decide) (by decide)).mono ?_
  rintro e w' ⟨v, rfl, o, h | h⟩
  · exact absurd hc h.1
  · obtain ⟨h0, ⟨mh, mn, md, A, ml, c, ms⟩, rfl, h1, h2, h3, h4, h5, ok, sg⟩ := h
    simp only at h1 h2 h3 h4 h5
    subst h1 h2 h3 h4 h5
    exact ⟨A, c, by rw [h0]; rfl, o, ok, sg⟩
set_option maxRecDepth 20000 in
set_option maxHeartbeats 4000000 in
theorem small37_v {w : World} (hG : Gr w) : Calls Tryd.prog 50 ([] : List Value).toArray w (Fix (.bool true) w) := by
  refine calls_start Tryd.func50 rfl rfl ?_
  intro az Hz
  rw [Tryd.ntmps50] at Hz
  refine wp_seq_k fun K1 hK1 => ?_
  -- law.go:16
  refine wp_region_lit ?_
  refine L (r_as Hz rfl) Hz rfl ?_
  clear Hz az; intro az Hz
  refine hK1 _ _ ?_
  refine wp_seq_k fun K2 hK2 => ?_
  -- law.go:17
  refine wp_region_lit ?_
  refine LCV (v := .agg #[.int .i64 (2), .int .i64 (0), .int .i64 (4), .slice none (0) 0, strV ([])]) Hz rfl rfl Tryd.call82 (note_v _ 0 4 []) rfl fun w3 o4 => ?_
  clear Hz az; intro az Hz
  refine LCV (v := .agg #[.int .i64 (2), .int .i64 (1), .int .i64 (4), .slice none (0) 0, strV ([97])]) Hz rfl rfl Tryd.call82 (note_v _ 1 4 [97]) rfl fun w5 o6 => ?_
  clear Hz az; intro az Hz
  obtain ⟨A7, w8, hw, hA, r9, o10⟩ := Row.made (w := w5) (KNote w) (e := 54) ([(⟨2, 0, 4, none, [], 0, []⟩ : NM), (⟨2, 1, 4, none, [], 0, [97]⟩ : NM)] : List NM) (by simp only [List.length_cons, List.length_nil]; unfold maxLen; omega)
  refine L (r_bs (z := .agg #[.int .i64 (0), .int .i64 (0), .int .i64 (0), .slice none (0) 0, strV ([])]) (size := 5) (vs := [(0, .agg #[.int .i64 (2), .int .i64 (0), .int .i64 (4), .slice none (0) 0, strV ([])]), (1, .agg #[.int .i64 (2), .int .i64 (1), .int .i64 (4), .slice none (0) 0, strV ([97])])]) (cs := List.flatMap (KNote w).cells [(⟨2, 0, 4, none, [], 0, []⟩ : NM), (⟨2, 1, 4, none, [], 0, [97]⟩ : NM)]) Tryd.underlying51 Tryd.sizeOf54 Tryd.zeroValue54 rfl (Fr.evalps Hz rfl) (by kernel_rfl)) Hz rfl ?_
  rw [← hw, ← hA]; clear Hz az; intro az Hz
  clear hw hA
  have ok11 : ∀ zq ∈ ([(⟨2, 0, 4, none, [], 0, []⟩ : NM), (⟨2, 1, 4, none, [], 0, [97]⟩ : NM)] : List NM), (KNote w).ok zq := by intro zq hx; simp only [List.mem_cons, List.not_mem_nil, or_false] at hx; rcases hx with rfl | rfl <;> first | exact ⟨(by show I64 (2); unfold I64; omega), (by show I64 (0); unfold I64; omega), (by show I64 (4); unfold I64; omega), (SliceOf.nil_ _ _ _), (by show List.length ([] : Str) ≤ maxLen; unfold maxLen; decide)⟩ | exact ⟨(by show I64 (2); unfold I64; omega), (by show I64 (1); unfold I64; omega), (by show I64 (4); unfold I64; omega), (SliceOf.nil_ _ _ _), (by show List.length ([97] : Str) ≤ maxLen; unfold maxLen; decide)⟩
  have h12 := Row.own (KNote w) r9 ok11
  have h13 := SliceOf.pl h12
  have O14 : Only NoF w w8 := (Only.trans' (Only.trans' o4 o6) o10)
  refine LCV (v := .int .i64 (0)) Hz rfl rfl Tryd.call60 (fix_eq (congrArg (Value.int .i64) (by decide : check [(⟨2, 0, 4, none, [], 0, []⟩ : NM), (⟨2, 1, 4, none, [], 0, [97]⟩ : NM)] = 0)) (Check_v (notes_up h13 O14))) rfl fun w15 o16 => ?_
  clear Hz az; intro az Hz
  refine L (r_as Hz rfl) Hz rfl ?_
  clear Hz az; intro az Hz
  refine hK2 _ _ ?_
  refine wp_seq_k fun K17 hK17 => ?_
  -- law.go:18
  refine wp_region_lit ?_
  refine LCV (v := .agg #[.int .i64 (2), .int .i64 (0), .int .i64 (4), .slice none (0) 0, strV ([])]) Hz rfl rfl Tryd.call82 (note_v _ 0 4 []) rfl fun w18 o19 => ?_
  clear Hz az; intro az Hz
  refine LCV (v := .agg #[.int .i64 (2), .int .i64 (2), .int .i64 (4), .slice none (0) 0, strV ([97])]) Hz rfl rfl Tryd.call82 (note_v _ 2 4 [97]) rfl fun w20 o21 => ?_
  clear Hz az; intro az Hz
  obtain ⟨A22, w23, hw, hA, r24, o25⟩ := Row.made (w := w20) (KNote w) (e := 54) ([(⟨2, 0, 4, none, [], 0, []⟩ : NM), (⟨2, 2, 4, none, [], 0, [97]⟩ : NM)] : List NM) (by simp only [List.length_cons, List.length_nil]; unfold maxLen; omega)
  refine L (r_bs (z := .agg #[.int .i64 (0), .int .i64 (0), .int .i64 (0), .slice none (0) 0, strV ([])]) (size := 5) (vs := [(0, .agg #[.int .i64 (2), .int .i64 (0), .int .i64 (4), .slice none (0) 0, strV ([])]), (1, .agg #[.int .i64 (2), .int .i64 (2), .int .i64 (4), .slice none (0) 0, strV ([97])])]) (cs := List.flatMap (KNote w).cells [(⟨2, 0, 4, none, [], 0, []⟩ : NM), (⟨2, 2, 4, none, [], 0, [97]⟩ : NM)]) Tryd.underlying51 Tryd.sizeOf54 Tryd.zeroValue54 rfl (Fr.evalps Hz rfl) (by kernel_rfl)) Hz rfl ?_
  rw [← hw, ← hA]; clear Hz az; intro az Hz
  clear hw hA
  have ok26 : ∀ zq ∈ ([(⟨2, 0, 4, none, [], 0, []⟩ : NM), (⟨2, 2, 4, none, [], 0, [97]⟩ : NM)] : List NM), (KNote w).ok zq := by intro zq hx; simp only [List.mem_cons, List.not_mem_nil, or_false] at hx; rcases hx with rfl | rfl <;> first | exact ⟨(by show I64 (2); unfold I64; omega), (by show I64 (0); unfold I64; omega), (by show I64 (4); unfold I64; omega), (SliceOf.nil_ _ _ _), (by show List.length ([] : Str) ≤ maxLen; unfold maxLen; decide)⟩ | exact ⟨(by show I64 (2); unfold I64; omega), (by show I64 (2); unfold I64; omega), (by show I64 (4); unfold I64; omega), (SliceOf.nil_ _ _ _), (by show List.length ([97] : Str) ≤ maxLen; unfold maxLen; decide)⟩
  have h27 := Row.own (KNote w) r24 ok26
  have h28 := SliceOf.pl h27
  have O29 : Only NoF w w23 := (Only.trans' (Only.trans' (Only.trans' (Only.trans' O14 o16) o19) o21) o25)
  refine LCV (v := .int .i64 (21)) Hz rfl rfl Tryd.call60 (fix_eq (congrArg (Value.int .i64) (by decide : check [(⟨2, 0, 4, none, [], 0, []⟩ : NM), (⟨2, 2, 4, none, [], 0, [97]⟩ : NM)] = 21)) (Check_v (notes_up h28 O29))) rfl fun w30 o31 => ?_
  clear Hz az; intro az Hz
  refine L (r_as Hz rfl) Hz rfl ?_
  clear Hz az; intro az Hz
  refine hK17 _ _ ?_
  refine wp_seq_k fun K32 hK32 => ?_
  -- law.go:19
  refine wp_region_lit ?_
  refine LCV (v := .agg #[.int .i64 (2), .int .i64 (0), .int .i64 (4), .slice none (0) 0, strV ([])]) Hz rfl rfl Tryd.call82 (note_v _ 0 4 []) rfl fun w33 o34 => ?_
  clear Hz az; intro az Hz
  refine LCV (v := .agg #[.int .i64 (2), .int .i64 (0), .int .i64 (4), .slice none (0) 0, strV ([97])]) Hz rfl rfl Tryd.call82 (note_v _ 0 4 [97]) rfl fun w35 o36 => ?_
  clear Hz az; intro az Hz
  obtain ⟨A37, w38, hw, hA, r39, o40⟩ := Row.made (w := w35) (KNote w) (e := 54) ([(⟨2, 0, 4, none, [], 0, []⟩ : NM), (⟨2, 0, 4, none, [], 0, [97]⟩ : NM)] : List NM) (by simp only [List.length_cons, List.length_nil]; unfold maxLen; omega)
  refine L (r_bs (z := .agg #[.int .i64 (0), .int .i64 (0), .int .i64 (0), .slice none (0) 0, strV ([])]) (size := 5) (vs := [(0, .agg #[.int .i64 (2), .int .i64 (0), .int .i64 (4), .slice none (0) 0, strV ([])]), (1, .agg #[.int .i64 (2), .int .i64 (0), .int .i64 (4), .slice none (0) 0, strV ([97])])]) (cs := List.flatMap (KNote w).cells [(⟨2, 0, 4, none, [], 0, []⟩ : NM), (⟨2, 0, 4, none, [], 0, [97]⟩ : NM)]) Tryd.underlying51 Tryd.sizeOf54 Tryd.zeroValue54 rfl (Fr.evalps Hz rfl) (by kernel_rfl)) Hz rfl ?_
  rw [← hw, ← hA]; clear Hz az; intro az Hz
  clear hw hA
  have ok41 : ∀ zq ∈ ([(⟨2, 0, 4, none, [], 0, []⟩ : NM), (⟨2, 0, 4, none, [], 0, [97]⟩ : NM)] : List NM), (KNote w).ok zq := by intro zq hx; simp only [List.mem_cons, List.not_mem_nil, or_false] at hx; rcases hx with rfl | rfl <;> first | exact ⟨(by show I64 (2); unfold I64; omega), (by show I64 (0); unfold I64; omega), (by show I64 (4); unfold I64; omega), (SliceOf.nil_ _ _ _), (by show List.length ([] : Str) ≤ maxLen; unfold maxLen; decide)⟩ | exact ⟨(by show I64 (2); unfold I64; omega), (by show I64 (0); unfold I64; omega), (by show I64 (4); unfold I64; omega), (SliceOf.nil_ _ _ _), (by show List.length ([97] : Str) ≤ maxLen; unfold maxLen; decide)⟩
  have h42 := Row.own (KNote w) r39 ok41
  have h43 := SliceOf.pl h42
  have O44 : Only NoF w w38 := (Only.trans' (Only.trans' (Only.trans' (Only.trans' O29 o31) o34) o36) o40)
  refine LCV (v := .int .i64 (5)) Hz rfl rfl Tryd.call60 (fix_eq (congrArg (Value.int .i64) (by decide : check [(⟨2, 0, 4, none, [], 0, []⟩ : NM), (⟨2, 0, 4, none, [], 0, [97]⟩ : NM)] = 5)) (Check_v (notes_up h43 O44))) rfl fun w45 o46 => ?_
  clear Hz az; intro az Hz
  refine L (r_as Hz rfl) Hz rfl ?_
  clear Hz az; intro az Hz
  refine hK32 _ _ ?_
  refine wp_seq_k fun K47 hK47 => ?_
  -- law.go:20
  refine wp_region_lit ?_
  refine LCV (v := .agg #[.int .i64 (2), .int .i64 (1), .int .i64 (4), .slice none (0) 0, strV ([])]) Hz rfl rfl Tryd.call82 (note_v _ 1 4 []) rfl fun w48 o49 => ?_
  clear Hz az; intro az Hz
  obtain ⟨A50, w51, hw, hA, r52, o53⟩ := Row.made (w := w48) (KNote w) (e := 54) ([(⟨2, 1, 4, none, [], 0, []⟩ : NM)] : List NM) (by simp only [List.length_cons, List.length_nil]; unfold maxLen; omega)
  refine L (r_bs (z := .agg #[.int .i64 (0), .int .i64 (0), .int .i64 (0), .slice none (0) 0, strV ([])]) (size := 5) (vs := [(0, .agg #[.int .i64 (2), .int .i64 (1), .int .i64 (4), .slice none (0) 0, strV ([])])]) (cs := List.flatMap (KNote w).cells [(⟨2, 1, 4, none, [], 0, []⟩ : NM)]) Tryd.underlying51 Tryd.sizeOf54 Tryd.zeroValue54 rfl (Fr.evalps Hz rfl) (by kernel_rfl)) Hz rfl ?_
  rw [← hw, ← hA]; clear Hz az; intro az Hz
  clear hw hA
  have ok54 : ∀ zq ∈ ([(⟨2, 1, 4, none, [], 0, []⟩ : NM)] : List NM), (KNote w).ok zq := by intro zq hx; simp only [List.mem_cons, List.not_mem_nil, or_false] at hx; rcases hx with rfl <;> first | exact ⟨(by show I64 (2); unfold I64; omega), (by show I64 (1); unfold I64; omega), (by show I64 (4); unfold I64; omega), (SliceOf.nil_ _ _ _), (by show List.length ([] : Str) ≤ maxLen; unfold maxLen; decide)⟩
  have h55 := Row.own (KNote w) r52 ok54
  have h56 := SliceOf.pl h55
  have O57 : Only NoF w w51 := (Only.trans' (Only.trans' (Only.trans' O44 o46) o49) o53)
  refine LCV (v := .int .i64 (21)) Hz rfl rfl Tryd.call60 (fix_eq (congrArg (Value.int .i64) (by decide : check [(⟨2, 1, 4, none, [], 0, []⟩ : NM)] = 21)) (Check_v (notes_up h56 O57))) rfl fun w58 o59 => ?_
  clear Hz az; intro az Hz
  refine L (r_as Hz rfl) Hz rfl ?_
  clear Hz az; intro az Hz
  refine hK47 _ _ ?_
  refine wp_seq_k fun K60 hK60 => ?_
  -- law.go:21
  refine wp_region_lit ?_
  refine LCV (v := .agg #[.int .i64 (2), .int .i64 (0), .int .i64 (4), .slice none (0) 0, strV ([])]) Hz rfl rfl Tryd.call82 (note_v _ 0 4 []) rfl fun w61 o62 => ?_
  clear Hz az; intro az Hz
  refine LCV (v := .agg #[.int .i64 (2), .int .i64 (1), .int .i64 (3), .slice none (0) 0, strV ([])]) Hz rfl rfl Tryd.call82 (note_v _ 1 3 []) rfl fun w63 o64 => ?_
  clear Hz az; intro az Hz
  obtain ⟨A65, w66, hw, hA, r67, o68⟩ := Row.made (w := w63) (KNote w) (e := 54) ([(⟨2, 0, 4, none, [], 0, []⟩ : NM), (⟨2, 1, 3, none, [], 0, []⟩ : NM)] : List NM) (by simp only [List.length_cons, List.length_nil]; unfold maxLen; omega)
  refine L (r_bs (z := .agg #[.int .i64 (0), .int .i64 (0), .int .i64 (0), .slice none (0) 0, strV ([])]) (size := 5) (vs := [(0, .agg #[.int .i64 (2), .int .i64 (0), .int .i64 (4), .slice none (0) 0, strV ([])]), (1, .agg #[.int .i64 (2), .int .i64 (1), .int .i64 (3), .slice none (0) 0, strV ([])])]) (cs := List.flatMap (KNote w).cells [(⟨2, 0, 4, none, [], 0, []⟩ : NM), (⟨2, 1, 3, none, [], 0, []⟩ : NM)]) Tryd.underlying51 Tryd.sizeOf54 Tryd.zeroValue54 rfl (Fr.evalps Hz rfl) (by kernel_rfl)) Hz rfl ?_
  rw [← hw, ← hA]; clear Hz az; intro az Hz
  clear hw hA
  have ok69 : ∀ zq ∈ ([(⟨2, 0, 4, none, [], 0, []⟩ : NM), (⟨2, 1, 3, none, [], 0, []⟩ : NM)] : List NM), (KNote w).ok zq := by intro zq hx; simp only [List.mem_cons, List.not_mem_nil, or_false] at hx; rcases hx with rfl | rfl <;> first | exact ⟨(by show I64 (2); unfold I64; omega), (by show I64 (0); unfold I64; omega), (by show I64 (4); unfold I64; omega), (SliceOf.nil_ _ _ _), (by show List.length ([] : Str) ≤ maxLen; unfold maxLen; decide)⟩ | exact ⟨(by show I64 (2); unfold I64; omega), (by show I64 (1); unfold I64; omega), (by show I64 (3); unfold I64; omega), (SliceOf.nil_ _ _ _), (by show List.length ([] : Str) ≤ maxLen; unfold maxLen; decide)⟩
  have h70 := Row.own (KNote w) r67 ok69
  have h71 := SliceOf.pl h70
  have O72 : Only NoF w w66 := (Only.trans' (Only.trans' (Only.trans' (Only.trans' O57 o59) o62) o64) o68)
  refine LCV (v := .int .i64 (18)) Hz rfl rfl Tryd.call60 (fix_eq (congrArg (Value.int .i64) (by decide : check [(⟨2, 0, 4, none, [], 0, []⟩ : NM), (⟨2, 1, 3, none, [], 0, []⟩ : NM)] = 18)) (Check_v (notes_up h71 O72))) rfl fun w73 o74 => ?_
  clear Hz az; intro az Hz
  refine L (r_as Hz rfl) Hz rfl ?_
  clear Hz az; intro az Hz
  refine hK60 _ _ ?_
  refine wp_seq_k fun K75 hK75 => ?_
  refine wp_seq_k fun K76 hK76 => ?_
  -- law.go:22
  refine wp_region_lit ?_
  refine L (r_mv Hz rfl) Hz rfl ?_
  clear Hz az; intro az Hz
  refine L (r_neRI Hz rfl rfl) Hz rfl ?_
  clear Hz az; intro az Hz
  refine L (r_mv Hz rfl) Hz rfl ?_
  clear Hz az; intro az Hz
  refine LT Hz rfl rfl (r_mv Hz rfl) rfl ?_
  clear Hz az; intro az Hz
  refine LT Hz rfl rfl (r_neRI Hz rfl rfl) rfl ?_
  clear Hz az; intro az Hz
  refine L (r_pick Hz rfl rfl rfl) Hz rfl ?_
  clear Hz az; intro az Hz
  refine L (r_mv Hz rfl) Hz rfl ?_
  clear Hz az; intro az Hz
  refine LT Hz rfl rfl (r_mv Hz rfl) rfl ?_
  clear Hz az; intro az Hz
  refine LT Hz rfl rfl (r_neRI Hz rfl rfl) rfl ?_
  clear Hz az; intro az Hz
  refine L (r_pick Hz rfl rfl rfl) Hz rfl ?_
  clear Hz az; intro az Hz
  refine L (r_mv Hz rfl) Hz rfl ?_
  clear Hz az; intro az Hz
  refine LT Hz rfl rfl (r_mv Hz rfl) rfl ?_
  clear Hz az; intro az Hz
  refine LT Hz rfl rfl (r_neRI Hz rfl rfl) rfl ?_
  clear Hz az; intro az Hz
  refine L (r_pick Hz rfl rfl rfl) Hz rfl ?_
  clear Hz az; intro az Hz
  refine L (r_mv Hz rfl) Hz rfl ?_
  clear Hz az; intro az Hz
  refine LT Hz rfl rfl (r_mv Hz rfl) rfl ?_
  clear Hz az; intro az Hz
  refine LT Hz rfl rfl (r_neRI Hz rfl rfl) rfl ?_
  clear Hz az; intro az Hz
  refine L (r_pick Hz rfl rfl rfl) Hz rfl ?_
  clear Hz az; intro az Hz
  refine hK76 _ _ ?_
  refine br_false Hz rfl ?_
  refine wp_skip ?_
  refine hK75 _ _ ?_
  refine wp_seq_k fun K77 hK77 => ?_
  -- law.go:25
  refine wp_region_lit ?_
  refine LCV (v := .agg #[.int .i64 (2), .int .i64 (1), .int .i64 (4), .slice none (0) 0, strV ([97])]) Hz rfl rfl Tryd.call82 (note_v _ 1 4 [97]) rfl fun w78 o79 => ?_
  clear Hz az; intro az Hz
  refine LAl (v := .agg #[.int .i64 (0), .int .i64 (0), .int .i64 (0), .slice none (0) 0, strV ([])]) Tryd.zeroValue54 Hz rfl rfl ?_
  clear Hz az; intro g80 w81 hg84 hl85 o82 B83 az Hz
  refine LSt (cs' := [.int .i64 (2), .int .i64 (1), .int .i64 (4), .slice none (0) 0, strV ([97])]) Tryd.sizeOf54 Hz rfl rfl rfl rfl rfl ⟨rfl, rfl, rfl, rfl, rfl, trivial⟩ B83 rfl rfl fun w86 s87 B88 => ?_
  refine hK77 _ _ ?_
  refine wp_seq_k fun K89 hK89 => ?_
  -- law.go:26
  refine wp_region_lit ?_
  refine L (r_bd (v := .agg #[.int .i64 (1), .int .i64 (7)]) (build_Ref2 _ _) Hz rfl) Hz rfl ?_
  clear Hz az; intro az Hz
  obtain ⟨A90, w91, hw, hA, r92, o93⟩ := Row.made (w := w86) KRef (e := 71) ([(⟨1, 7⟩ : RM)] : List RM) (by simp only [List.length_cons, List.length_nil]; unfold maxLen; omega)
  refine L (r_bs (z := .agg #[.int .i64 (0), .int .i64 (0)]) (size := 2) (vs := [(0, .agg #[.int .i64 (1), .int .i64 (7)])]) (cs := List.flatMap KRef.cells [(⟨1, 7⟩ : RM)]) Tryd.underlying52 Tryd.sizeOf71 Tryd.zeroValue71 rfl (Fr.evalps Hz rfl) (by kernel_rfl)) Hz rfl ?_
  rw [← hw, ← hA]; clear Hz az; intro az Hz
  clear hw hA
  have ok94 : ∀ zq ∈ ([(⟨1, 7⟩ : RM)] : List RM), KRef.ok zq := by intro zq hx; simp only [List.mem_cons, List.not_mem_nil, or_false] at hx; rcases hx with rfl <;> first | exact ⟨(by show I64 (1); unfold I64; omega), (by show I64 (7); unfold I64; omega)⟩
  refine L (r_fa (m' := 3) Tryd.underlying54 rfl Tryd.sizeOf52 rfl Hz rfl rfl) Hz rfl ?_
  clear Hz az; intro az Hz
  have B95 := (Blk.k B88 o93)
  refine LSt (cs' := [.int .i64 (2), .int .i64 (1), .int .i64 (4), .slice A90 (1) 1, strV ([97])]) Tryd.sizeOf52 Hz rfl rfl rfl rfl rfl ⟨rfl, trivial⟩ B95 rfl rfl fun w96 s97 B98 => ?_
  refine hK89 _ _ ?_
  refine wp_seq_k fun K99 hK99 => ?_
  -- law.go:27
  refine wp_region_lit ?_
  refine LCV (v := .agg #[.int .i64 (2), .int .i64 (1), .int .i64 (4), .slice none (0) 0, strV ([])]) Hz rfl rfl Tryd.call82 (note_v _ 1 4 []) rfl fun w100 o101 => ?_
  clear Hz az; intro az Hz
  refine LAl (v := .agg #[.int .i64 (0), .int .i64 (0), .int .i64 (0), .slice none (0) 0, strV ([])]) Tryd.zeroValue54 Hz rfl rfl ?_
  clear Hz az; intro g102 w103 hg106 hl107 o104 B105 az Hz
  refine LSt (cs' := [.int .i64 (2), .int .i64 (1), .int .i64 (4), .slice none (0) 0, strV ([])]) Tryd.sizeOf54 Hz rfl rfl rfl rfl rfl ⟨rfl, rfl, rfl, rfl, rfl, trivial⟩ B105 rfl rfl fun w108 s109 B110 => ?_
  refine hK99 _ _ ?_
  refine wp_seq_k fun K111 hK111 => ?_
  -- law.go:28
  refine wp_region_lit ?_
  refine L (r_bd (v := .agg #[.int .i64 (2), .int .i64 (0)]) (build_Ref2 _ _) Hz rfl) Hz rfl ?_
  clear Hz az; intro az Hz
  obtain ⟨A112, w113, hw, hA, r114, o115⟩ := Row.made (w := w108) KRef (e := 71) ([(⟨2, 0⟩ : RM)] : List RM) (by simp only [List.length_cons, List.length_nil]; unfold maxLen; omega)
  refine L (r_bs (z := .agg #[.int .i64 (0), .int .i64 (0)]) (size := 2) (vs := [(0, .agg #[.int .i64 (2), .int .i64 (0)])]) (cs := List.flatMap KRef.cells [(⟨2, 0⟩ : RM)]) Tryd.underlying52 Tryd.sizeOf71 Tryd.zeroValue71 rfl (Fr.evalps Hz rfl) (by kernel_rfl)) Hz rfl ?_
  rw [← hw, ← hA]; clear Hz az; intro az Hz
  clear hw hA
  have ok116 : ∀ zq ∈ ([(⟨2, 0⟩ : RM)] : List RM), KRef.ok zq := by intro zq hx; simp only [List.mem_cons, List.not_mem_nil, or_false] at hx; rcases hx with rfl <;> first | exact ⟨(by show I64 (2); unfold I64; omega), (by show I64 (0); unfold I64; omega)⟩
  refine L (r_fa (m' := 3) Tryd.underlying54 rfl Tryd.sizeOf52 rfl Hz rfl rfl) Hz rfl ?_
  clear Hz az; intro az Hz
  have B117 := (Blk.k B110 o115)
  refine LSt (cs' := [.int .i64 (2), .int .i64 (1), .int .i64 (4), .slice A112 (1) 1, strV ([])]) Tryd.sizeOf52 Hz rfl rfl rfl rfl rfl ⟨rfl, trivial⟩ B117 rfl rfl fun w118 s119 B120 => ?_
  refine hK111 _ _ ?_
  refine wp_seq_k fun K121 hK121 => ?_
  -- law.go:29
  refine wp_region_lit ?_
  refine LCV (v := .agg #[.int .i64 (2), .int .i64 (1), .int .i64 (4), .slice none (0) 0, strV ([])]) Hz rfl rfl Tryd.call82 (note_v _ 1 4 []) rfl fun w122 o123 => ?_
  clear Hz az; intro az Hz
  refine LAl (v := .agg #[.int .i64 (0), .int .i64 (0), .int .i64 (0), .slice none (0) 0, strV ([])]) Tryd.zeroValue54 Hz rfl rfl ?_
  clear Hz az; intro g124 w125 hg128 hl129 o126 B127 az Hz
  refine LSt (cs' := [.int .i64 (2), .int .i64 (1), .int .i64 (4), .slice none (0) 0, strV ([])]) Tryd.sizeOf54 Hz rfl rfl rfl rfl rfl ⟨rfl, rfl, rfl, rfl, rfl, trivial⟩ B127 rfl rfl fun w130 s131 B132 => ?_
  refine hK121 _ _ ?_
  refine wp_seq_k fun K133 hK133 => ?_
  -- law.go:30
  refine wp_region_lit ?_
  refine L (r_bd (v := .agg #[.int .i64 (2), .int .i64 (1)]) (build_Ref2 _ _) Hz rfl) Hz rfl ?_
  clear Hz az; intro az Hz
  obtain ⟨A134, w135, hw, hA, r136, o137⟩ := Row.made (w := w130) KRef (e := 71) ([(⟨2, 1⟩ : RM)] : List RM) (by simp only [List.length_cons, List.length_nil]; unfold maxLen; omega)
  refine L (r_bs (z := .agg #[.int .i64 (0), .int .i64 (0)]) (size := 2) (vs := [(0, .agg #[.int .i64 (2), .int .i64 (1)])]) (cs := List.flatMap KRef.cells [(⟨2, 1⟩ : RM)]) Tryd.underlying52 Tryd.sizeOf71 Tryd.zeroValue71 rfl (Fr.evalps Hz rfl) (by kernel_rfl)) Hz rfl ?_
  rw [← hw, ← hA]; clear Hz az; intro az Hz
  clear hw hA
  have ok138 : ∀ zq ∈ ([(⟨2, 1⟩ : RM)] : List RM), KRef.ok zq := by intro zq hx; simp only [List.mem_cons, List.not_mem_nil, or_false] at hx; rcases hx with rfl <;> first | exact ⟨(by show I64 (2); unfold I64; omega), (by show I64 (1); unfold I64; omega)⟩
  refine L (r_fa (m' := 3) Tryd.underlying54 rfl Tryd.sizeOf52 rfl Hz rfl rfl) Hz rfl ?_
  clear Hz az; intro az Hz
  have B139 := (Blk.k B132 o137)
  refine LSt (cs' := [.int .i64 (2), .int .i64 (1), .int .i64 (4), .slice A134 (1) 1, strV ([])]) Tryd.sizeOf52 Hz rfl rfl rfl rfl rfl ⟨rfl, trivial⟩ B139 rfl rfl fun w140 s141 B142 => ?_
  refine hK133 _ _ ?_
  refine wp_seq_k fun K143 hK143 => ?_
  -- law.go:31
  refine wp_region_lit ?_
  have O145 := (Only.trans (Only.trans (Only.trans (Only.trans (Only.refl (fun _ => True) w81) s87 (fun _ _ => .inl trivial)) o93 (fun _ _ => .inl trivial)) s97 (fun _ _ => .inl trivial)) o101 (fun _ _ => .inl trivial))
  have ne144 : g80 ≠ g102 := (ne_of hl85 (Nat.le_trans (size_only O145) hg106))
  have O147 := (Only.trans (Only.trans (Only.trans (Only.trans (Only.trans (Only.trans (Only.trans (Only.trans (Only.trans (Only.refl (fun _ => True) w81) s87 (fun _ _ => .inl trivial)) o93 (fun _ _ => .inl trivial)) s97 (fun _ _ => .inl trivial)) o101 (fun _ _ => .inl trivial)) o104 (fun _ _ => .inl trivial)) s109 (fun _ _ => .inl trivial)) o115 (fun _ _ => .inl trivial)) s119 (fun _ _ => .inl trivial)) o123 (fun _ _ => .inl trivial))
  have ne146 : g80 ≠ g124 := (ne_of hl85 (Nat.le_trans (size_only O147) hg128))
  have B148 := (Blk.st (Blk.k (Blk.st (Blk.k (Blk.k (Blk.st (Blk.k (Blk.st (Blk.k (Blk.k B98 o101) o104) s109 ne144) o115) s119 ne144) o123) o126) s131 ne146) o137) s141 ne146)
  refine L (r_ldA Tryd.isAgg54 Tryd.sizeOf54 Hz rfl (Blk.ca B148) rfl) Hz rfl ?_
  clear Hz az; intro az Hz
  have O150 : Only NoF w w78 := (Only.trans' (Only.trans' O72 o74) o79)
  have O151 : Only NoF w w100 := (Only.trans' (o_sg (Only.trans' (o_sg (Only.trans' O150 o82) s87 (size_only O150) (oneF_ge hg84)) o93) s97 (size_only O150) (oneF_ge hg84)) o101)
  have O152 : Only NoF w w122 := (Only.trans' (o_sg (Only.trans' (o_sg (Only.trans' O151 o104) s109 (size_only O151) (oneF_ge hg106)) o115) s119 (size_only O151) (oneF_ge hg106)) o123)
  have O153 : Only NoF w w140 := (o_sg (Only.trans' (o_sg (Only.trans' (Only.trans' (o_sg (Only.trans' (o_sg (Only.trans' (Only.trans' (o_sg (Only.trans' (o_sg (Only.trans' (Only.trans' (Only.trans' O72 o74) o79) o82) s87 (size_only O150) (oneF_ge hg84)) o93) s97 (size_only O150) (oneF_ge hg84)) o101) o104) s109 (size_only O151) (oneF_ge hg106)) o115) s119 (size_only O151) (oneF_ge hg106)) o123) o126) s131 (size_only O152) (oneF_ge hg128)) o137) s141 (size_only O152) (oneF_ge hg128))
  have G149 := Gr.k hG O153
  have h154 := Row.own KRef r92 ok94
  have h155 := SliceOf.rg h154
  have O156 := (Only.trans (Only.refl (fun _ => True) w81) s87 (fun _ _ => .inl trivial))
  have O157 : Only NoF w96 w122 := (Only.trans' (o_sg (Only.trans' (o_sg (Only.trans' o101 o104) s109 (size_only o101) (oneF_ge hg106)) o115) s119 (size_only o101) (oneF_ge hg106)) o123)
  have O158 : Only NoF w96 w140 := (o_sg (Only.trans' (o_sg (Only.trans' (Only.trans' (o_sg (Only.trans' (o_sg (Only.trans' o101 o104) s109 (size_only o101) (oneF_ge hg106)) o115) s119 (size_only o101) (oneF_ge hg106)) o123) o126) s131 (size_only O157) (oneF_ge hg128)) o137) s141 (size_only O157) (oneF_ge hg128))
  have h159 := (SliceOf.kp (SliceOf.kp h155 s97 (fun k hk => ge_F (oneF_lt hl85) (size_only O156) k hk.1) (fun _ _ _ _ h => h)) O158 (fun _ _ h => h) (fun _ _ _ _ h => h))
  have h160 := SliceOf.pl h159
  refine LCV (v := .tuple #[strV ([50, 59, 49, 59, 52, 59, 50, 91, 49, 59, 55, 59, 93, 49, 58, 97, 44]), .bool (true)]) Hz rfl rfl Tryd.call55 (sm_enc_v G149 (m := (⟨2, 1, 4, A90, [(⟨1, 7⟩ : RM)], 1, [97]⟩ : NM)) rfl ⟨(by show I64 (2); unfold I64; omega), (by show I64 (1); unfold I64; omega), (by show I64 (4); unfold I64; omega), h160, (by show List.length ([97] : Str) ≤ maxLen; unfold maxLen; decide)⟩) rfl fun w161 o162 => ?_
  clear Hz az; intro az Hz
  refine L (r_mv Hz rfl) Hz rfl ?_
  clear Hz az; intro az Hz
  refine L (r_ex Hz rfl rfl) Hz rfl ?_
  clear Hz az; intro az Hz
  refine L (r_ex Hz rfl rfl) Hz rfl ?_
  clear Hz az; intro az Hz
  refine L (r_as Hz rfl) Hz rfl ?_
  clear Hz az; intro az Hz
  refine L (r_as Hz rfl) Hz rfl ?_
  clear Hz az; intro az Hz
  refine hK143 _ _ ?_
  refine wp_seq_k fun K163 hK163 => ?_
  -- law.go:32
  refine wp_region_lit ?_
  refine L (r_mv Hz rfl) Hz rfl ?_
  clear Hz az; intro az Hz
  have O171 : Only NoF w w161 := (Only.trans' O153 o162)
  have G170 := Gr.k hG O171
  refine LC Hz rfl rfl Tryd.call57 (sm_dec_v G170) rfl ?_
  rintro e w164 ⟨A165, c166, rfl, o167, ok168, sg169⟩; refine ⟨_, rfl, ?_⟩
  clear Hz az; intro az Hz
  refine L (r_mv Hz rfl) Hz rfl ?_
  clear Hz az; intro az Hz
  refine L (r_ex Hz rfl rfl) Hz rfl ?_
  clear Hz az; intro az Hz
  refine L (r_ex Hz rfl rfl) Hz rfl ?_
  clear Hz az; intro az Hz
  refine LAl (v := .agg #[.int .i64 (0), .int .i64 (0), .int .i64 (0), .slice none (0) 0, strV ([])]) Tryd.zeroValue54 Hz rfl rfl ?_
  clear Hz az; intro g172 w173 hg176 hl177 o174 B175 az Hz
  refine LSt (cs' := [.int .i64 (2), .int .i64 (1), .int .i64 (4), .slice A165 (1) c166, strV ([97])]) Tryd.sizeOf54 Hz rfl rfl rfl rfl rfl ⟨rfl, rfl, rfl, rfl, rfl, trivial⟩ B175 rfl rfl fun w178 s179 B180 => ?_
  refine L (r_as Hz rfl) Hz rfl ?_
  clear Hz az; intro az Hz
  refine hK163 _ _ ?_
  refine wp_seq_k fun K181 hK181 => ?_
  -- law.go:33
  refine reg_p NoF 4 [0, 1, 4, 8, 9] (.rd 2 (.rd 3 (.fork 0 (.fork 1 (.fork 4 (.rd 5 (.rd 6 (.rd 7 (.ex 8 (.ex 9 (.rd 10 .nil)))))) 8 (.ex 4 (.rd 5 (.rd 6 (.rd 7 (.ex 9 (.rd 10 .nil))))))) 8 (.ex 1 (.ex 4 (.rd 5 (.rd 6 (.rd 7 (.ex 9 (.rd 10 .nil)))))))) 8 (.ex 0 (.ex 1 (.ex 4 (.rd 5 (.rd 6 (.rd 7 (.ex 9 (.rd 10 .nil))))))))))) (by kernel_rfl) (by kernel_rfl) (fun _ _ _ _ _ h => h) fun w182 o183 => ?_
  have O185 := (Only.trans (Only.trans (Only.trans (Only.trans (Only.trans (Only.trans (Only.trans (Only.trans (Only.trans (Only.trans (Only.trans (Only.trans (Only.trans (Only.trans (Only.trans (Only.refl (fun _ => True) w81) s87 (fun _ _ => .inl trivial)) o93 (fun _ _ => .inl trivial)) s97 (fun _ _ => .inl trivial)) o101 (fun _ _ => .inl trivial)) o104 (fun _ _ => .inl trivial)) s109 (fun _ _ => .inl trivial)) o115 (fun _ _ => .inl trivial)) s119 (fun _ _ => .inl trivial)) o123 (fun _ _ => .inl trivial)) o126 (fun _ _ => .inl trivial)) s131 (fun _ _ => .inl trivial)) o137 (fun _ _ => .inl trivial)) s141 (fun _ _ => .inl trivial)) o162 (fun _ _ => .inl trivial)) o167 (fun _ _ => .inl trivial))
  have ne184 : g80 ≠ g172 := (ne_of hl85 (Nat.le_trans (size_only O185) hg176))
  have B186 := (Blk.k (Blk.st (Blk.k (Blk.k (Blk.k B148 o162) o167) o174) s179 ne184) o183)
  refine Pl.MSP (b := true) (by kernel_rfl) (fun W oW => r_fa (m' := 3) Tryd.underlying54 rfl Tryd.sizeOf52 rfl Hz rfl rfl) Hz rfl rfl ?_
  clear Hz az; intro az Hz
  refine Pl.MSP (b := true) (by kernel_rfl) (fun W oW => r_ld Tryd.isAgg52 Hz rfl ((Blk.ca (Blk.k B186 oW)) 3 _ rfl)) Hz rfl rfl ?_
  clear Hz az; intro az Hz
  refine wpPl_fork ?_ ?_
  · -- 0 first
    refine Pl.MSV (v := .agg #[.int .i64 (2), .int .i64 (0), .int .i64 (4), .slice none (0) 0, strV ([])]) Hz rfl rfl rfl Tryd.call82 (note_v _ 0 4 []) rfl (fun w' o' => ⟨fun _ => o', (Only.trans (Only.refl NoF w182) o' (fun _ h => h.elim))⟩) fun w187 o188 => ?_
    clear Hz az; intro az Hz
    refine wpPl_fork ?_ ?_
    · -- 1 first
      obtain ⟨A189, w190, hw, hA, r191, o192⟩ := Row.made (w := w187) (KNote w) (e := 54) ([(⟨2, 0, 4, none, [], 0, []⟩ : NM)] : List NM) (by simp only [List.length_cons, List.length_nil]; unfold maxLen; omega)
      refine Pl.MD (r_bs (z := .agg #[.int .i64 (0), .int .i64 (0), .int .i64 (0), .slice none (0) 0, strV ([])]) (size := 5) (vs := [(0, .agg #[.int .i64 (2), .int .i64 (0), .int .i64 (4), .slice none (0) 0, strV ([])])]) (cs := List.flatMap (KNote w).cells [(⟨2, 0, 4, none, [], 0, []⟩ : NM)]) Tryd.underlying51 Tryd.sizeOf54 Tryd.zeroValue54 rfl (Fr.evalps Hz rfl) (by kernel_rfl)) Hz rfl rfl ?_ ?_
      · rw [← hw]; exact ⟨fun _ => (Only.trans' o188 o192), (Only.trans (Only.trans (Only.refl NoF w182) o188 (fun _ h => h.elim)) o192 (fun _ h => h.elim))⟩
      rw [← hw, ← hA]; clear Hz az; intro az Hz
      clear hw hA
      have ok193 : ∀ zq ∈ ([(⟨2, 0, 4, none, [], 0, []⟩ : NM)] : List NM), (KNote w).ok zq := by intro zq hx; simp only [List.mem_cons, List.not_mem_nil, or_false] at hx; rcases hx with rfl <;> first | exact ⟨(by show I64 (2); unfold I64; omega), (by show I64 (0); unfold I64; omega), (by show I64 (4); unfold I64; omega), (SliceOf.nil_ _ _ _), (by show List.length ([] : Str) ≤ maxLen; unfold maxLen; decide)⟩
      refine wpPl_fork ?_ ?_
      · -- 4 first
        have h200 := Row.own (KNote w) r191 ok193
        have h201 := SliceOf.pl h200
        have O202 : Only NoF w w164 := (Only.trans' O171 o167)
        have O203 : Only NoF w w190 := (Only.trans' (Only.trans' (Only.trans' (o_sg (Only.trans' (Only.trans' O171 o167) o174) s179 (size_only O202) (oneF_ge hg176)) o183) o188) o192)
        have O204 : Only NoF w140 w164 := (Only.trans' o162 o167)
        have O205 : Only NoF w140 w190 := (Only.trans' (Only.trans' (Only.trans' (o_sg (Only.trans' (Only.trans' o162 o167) o174) s179 (size_only O204) (oneF_ge hg176)) o183) o188) o192)
        have h206 := (SliceOf.kp h159 O205 (fun _ _ h => h) (fun _ _ _ _ h => h))
        have h207 := SliceOf.pl h206
        refine Pl.MSC Hz rfl rfl rfl Tryd.call53 (sm_next_v (notes_up h201 O203) h207) rfl ?_
        rintro e w194 ⟨A195, c196, rfl, o197, ok198, sg199⟩
        refine ⟨_, rfl, ⟨fun _ => (Only.trans' (Only.trans' o188 o192) o197), (Only.trans (Only.trans (Only.trans (Only.refl NoF w182) o188 (fun _ h => h.elim)) o192 (fun _ h => h.elim)) o197 (fun _ h => h.elim))⟩, ?_⟩
        clear Hz az; intro az Hz
        refine Pl.MSP (b := true) (by kernel_rfl) (fun W oW => r_mv Hz rfl) Hz rfl rfl ?_
        clear Hz az; intro az Hz
        refine Pl.MSP (b := true) (by kernel_rfl) (fun W oW => r_ex Hz rfl rfl) Hz rfl rfl ?_
        clear Hz az; intro az Hz
        refine Pl.MSP (b := false) (by kernel_rfl) (fun W oW => r_ex Hz rfl rfl) Hz rfl rfl ?_
        clear Hz az; intro az Hz
        obtain ⟨g208, w209, hw, hA, hg212, hl213, o210, B211⟩ := newBlk (w := w194) (e := 54) (cs := [.int .i64 (0), .int .i64 (0), .int .i64 (0), .slice none (0) 0, strV ([])])
        refine Pl.MD (r_al (v := .agg #[.int .i64 (0), .int .i64 (0), .int .i64 (0), .slice none (0) 0, strV ([])]) Tryd.zeroValue54 rfl) Hz rfl rfl ?_ ?_
        · rw [← hw]; exact ⟨fun _ => (Only.trans' (Only.trans' (Only.trans' o188 o192) o197) o210), (Only.trans (Only.trans (Only.trans (Only.trans (Only.refl NoF w182) o188 (fun _ h => h.elim)) o192 (fun _ h => h.elim)) o197 (fun _ h => h.elim)) o210 (fun _ h => h.elim))⟩
        rw [← hw, ← hA]; clear Hz az; intro az Hz
        clear hw hA
        refine Pl.MSS (cs' := [.int .i64 (2), .int .i64 (1), .int .i64 (4), .slice A195 (1) c196, strV ([97])]) Tryd.sizeOf54 Hz rfl rfl rfl rfl rfl rfl ⟨rfl, rfl, rfl, rfl, rfl, trivial⟩ B211 rfl rfl fun w214 s215 B216 => ?_
        have O217 : Only NoF w182 w194 := (Only.trans' (Only.trans' o188 o192) o197)
        refine ⟨⟨fun h => absurd h (by decide), (Only.trans (Only.trans (Only.trans (Only.trans (Only.trans (Only.refl NoF w182) o188 (fun _ h => h.elim)) o192 (fun _ h => h.elim)) o197 (fun _ h => h.elim)) o210 (fun _ h => h.elim)) s215 (fun k h => .inr (Nat.le_trans (size_only O217) ((oneF_ge hg212) k h))))⟩, ?_⟩
        refine Pl.MSP (b := false) (by kernel_rfl) (fun W oW => r_as Hz rfl) Hz rfl rfl ?_
        clear Hz az; intro az Hz
        refine wpPl_nil ?_
        refine hK181 _ _ ?_
        refine wp_seq_k fun K218 hK218 => ?_
        -- law.go:34
        refine wp_region_lit ?_
        refine L (r_mv Hz rfl) Hz rfl ?_
        clear Hz az; intro az Hz
        refine L (r_mv Hz rfl) Hz rfl ?_
        clear Hz az; intro az Hz
        refine LT Hz rfl rfl (r_mv Hz rfl) rfl ?_
        clear Hz az; intro az Hz
        refine LT Hz rfl rfl (r_eqRS Hz rfl rfl) rfl ?_
        clear Hz az; intro az Hz
        refine L (r_pick Hz rfl rfl rfl) Hz rfl ?_
        clear Hz az; intro az Hz
        refine L (r_mv Hz rfl) Hz rfl ?_
        clear Hz az; intro az Hz
        refine LT Hz rfl rfl (r_mv Hz rfl) rfl ?_
        clear Hz az; intro az Hz
        refine L (r_pick Hz rfl rfl rfl) Hz rfl ?_
        clear Hz az; intro az Hz
        refine L (r_mv Hz rfl) Hz rfl ?_
        clear Hz az; intro az Hz
        have O220 := (Only.trans (Only.trans (Only.trans (Only.trans (Only.trans (Only.refl (fun _ => True) w173) s179 (fun _ _ => .inl trivial)) o183 (fun _ _ => .inl trivial)) o188 (fun _ _ => .inl trivial)) o192 (fun _ _ => .inl trivial)) o197 (fun _ _ => .inl trivial))
        have ne219 : g172 ≠ g208 := (ne_of hl177 (Nat.le_trans (size_only O220) hg212))
        have B221 := (Blk.st (Blk.k (Blk.k (Blk.k (Blk.k (Blk.k B180 o183) o188) o192) o197) o210) s215 ne219)
        refine LT Hz rfl rfl (r_ldA Tryd.isAgg54 Tryd.sizeOf54 Hz rfl (Blk.ca B221) rfl) rfl ?_
        clear Hz az; intro az Hz
        have O223 := (Only.trans (Only.trans (Only.trans (Only.trans (Only.trans (Only.trans (Only.trans (Only.trans (Only.trans (Only.trans (Only.trans (Only.trans (Only.trans (Only.trans (Only.trans (Only.trans (Only.trans (Only.trans (Only.trans (Only.trans (Only.trans (Only.refl (fun _ => True) w81) s87 (fun _ _ => .inl trivial)) o93 (fun _ _ => .inl trivial)) s97 (fun _ _ => .inl trivial)) o101 (fun _ _ => .inl trivial)) o104 (fun _ _ => .inl trivial)) s109 (fun _ _ => .inl trivial)) o115 (fun _ _ => .inl trivial)) s119 (fun _ _ => .inl trivial)) o123 (fun _ _ => .inl trivial)) o126 (fun _ _ => .inl trivial)) s131 (fun _ _ => .inl trivial)) o137 (fun _ _ => .inl trivial)) s141 (fun _ _ => .inl trivial)) o162 (fun _ _ => .inl trivial)) o167 (fun _ _ => .inl trivial)) o174 (fun _ _ => .inl trivial)) s179 (fun _ _ => .inl trivial)) o183 (fun _ _ => .inl trivial)) o188 (fun _ _ => .inl trivial)) o192 (fun _ _ => .inl trivial)) o197 (fun _ _ => .inl trivial))
        have ne222 : g80 ≠ g208 := (ne_of hl85 (Nat.le_trans (size_only O223) hg212))
        have B224 := (Blk.st (Blk.k (Blk.k (Blk.k (Blk.k B186 o188) o192) o197) o210) s215 ne222)
        refine LT Hz rfl rfl (r_ldA Tryd.isAgg54 Tryd.sizeOf54 Hz rfl (Blk.ca B224) rfl) rfl ?_
        clear Hz az; intro az Hz
        have O225 : Only NoF w164 w194 := (Only.trans' (Only.trans' (Only.trans' (Only.trans' (o_sg o174 s179 (Nat.le_refl _) (oneF_ge hg176)) o183) o188) o192) o197)
        have O226 : Only NoF w164 w214 := (o_sg (Only.trans' (Only.trans' (Only.trans' (Only.trans' (Only.trans' (o_sg o174 s179 (Nat.le_refl _) (oneF_ge hg176)) o183) o188) o192) o197) o210) s215 (size_only O225) (oneF_ge hg212))
        have h227 := (SliceOf.kp sg169 O226 (fun _ _ h => h) (fun _ _ _ _ h => h))
        have h228 := SliceOf.pl h227
        have O229 : Only NoF w140 w194 := (Only.trans' O205 o197)
        have O230 : Only NoF w140 w214 := (o_sg (Only.trans' (Only.trans' O205 o197) o210) s215 (size_only O229) (oneF_ge hg212))
        have h231 := (SliceOf.kp h159 O230 (fun _ _ h => h) (fun _ _ _ _ h => h))
        have h232 := SliceOf.pl h231
        refine LGV (v := .bool (true)) Hz rfl rfl gd_t rfl (fun hb => rfl) Tryd.call59 (fun hb => fix_eq (congrArg Value.bool (by unfold same; first | rfl | simp [same, right] : same (⟨2, 1, 4, A165, [⟨1, 7⟩], c166, [97]⟩ : NM) (⟨2, 1, 4, A90, [(⟨1, 7⟩ : RM)], 1, [97]⟩ : NM) = true)) (rSame_v (m := (⟨2, 1, 4, A165, [⟨1, 7⟩], c166, [97]⟩ : NM)) (m2 := (⟨2, 1, 4, A90, [(⟨1, 7⟩ : RM)], 1, [97]⟩ : NM)) h228 h232)) rfl fun w233 o234 => ?_
        clear Hz az; intro az Hz
        refine L (r_pick Hz rfl rfl rfl) Hz rfl ?_
        clear Hz az; intro az Hz
        refine L (r_mv Hz rfl) Hz rfl ?_
        clear Hz az; intro az Hz
        refine LT Hz rfl rfl (r_mv Hz rfl) rfl ?_
        clear Hz az; intro az Hz
        refine LT Hz rfl rfl (r_eqRI Hz rfl rfl) rfl ?_
        clear Hz az; intro az Hz
        refine L (r_pick Hz rfl rfl rfl) Hz rfl ?_
        clear Hz az; intro az Hz
        refine L (r_mv Hz rfl) Hz rfl ?_
        clear Hz az; intro az Hz
        have B235 := (Blk.k B221 o234)
        refine LT Hz rfl rfl (r_ldA Tryd.isAgg54 Tryd.sizeOf54 Hz rfl (Blk.ca B235) rfl) rfl ?_
        clear Hz az; intro az Hz
        have B236 := (Blk.k B216 o234)
        refine LT Hz rfl rfl (r_ldA Tryd.isAgg54 Tryd.sizeOf54 Hz rfl (Blk.ca B236) rfl) rfl ?_
        clear Hz az; intro az Hz
        have O237 : Only NoF w164 w233 := (Only.trans' O226 o234)
        have h238 := (SliceOf.kp sg169 O237 (fun _ _ h => h) (fun _ _ _ _ h => h))
        have h239 := SliceOf.pl h238
        have O240 : Only NoF w194 w233 := (Only.trans' (o_sg o210 s215 (Nat.le_refl _) (oneF_ge hg212)) o234)
        have h241 := (SliceOf.kp sg199 O240 (fun _ _ h => h) (fun _ _ _ _ h => h))
        have h242 := SliceOf.pl h241
        refine LGV (v := .bool (true)) Hz rfl rfl gd_t rfl (fun hb => rfl) Tryd.call59 (fun hb => fix_eq (congrArg Value.bool (by unfold same; first | rfl | simp [same, right] : same (⟨2, 1, 4, A165, [⟨1, 7⟩], c166, [97]⟩ : NM) (⟨2, 1, 4, A195, [⟨1, 7⟩], c196, [97]⟩ : NM) = true)) (rSame_v (m := (⟨2, 1, 4, A165, [⟨1, 7⟩], c166, [97]⟩ : NM)) (m2 := (⟨2, 1, 4, A195, [⟨1, 7⟩], c196, [97]⟩ : NM)) h239 h242)) rfl fun w243 o244 => ?_
        clear Hz az; intro az Hz
        refine L (r_pick Hz rfl rfl rfl) Hz rfl ?_
        clear Hz az; intro az Hz
        refine L (r_as Hz rfl) Hz rfl ?_
        clear Hz az; intro az Hz
        refine hK218 _ _ ?_
        refine wp_seq_k fun K245 hK245 => ?_
        -- law.go:35
        refine wp_region_lit ?_
        refine L (r_mv Hz rfl) Hz rfl ?_
        clear Hz az; intro az Hz
        refine L (r_mv Hz rfl) Hz rfl ?_
        clear Hz az; intro az Hz
        have O247 := (Only.trans (Only.trans (Only.trans (Only.trans (Only.refl (fun _ => True) w103) s109 (fun _ _ => .inl trivial)) o115 (fun _ _ => .inl trivial)) s119 (fun _ _ => .inl trivial)) o123 (fun _ _ => .inl trivial))
        have ne246 : g102 ≠ g124 := (ne_of hl107 (Nat.le_trans (size_only O247) hg128))
        have O249 := (Only.trans (Only.trans (Only.trans (Only.trans (Only.trans (Only.trans (Only.trans (Only.trans (Only.trans (Only.trans (Only.refl (fun _ => True) w103) s109 (fun _ _ => .inl trivial)) o115 (fun _ _ => .inl trivial)) s119 (fun _ _ => .inl trivial)) o123 (fun _ _ => .inl trivial)) o126 (fun _ _ => .inl trivial)) s131 (fun _ _ => .inl trivial)) o137 (fun _ _ => .inl trivial)) s141 (fun _ _ => .inl trivial)) o162 (fun _ _ => .inl trivial)) o167 (fun _ _ => .inl trivial))
        have ne248 : g102 ≠ g172 := (ne_of hl107 (Nat.le_trans (size_only O249) hg176))
        have O251 := (Only.trans (Only.trans (Only.trans (Only.trans (Only.trans (Only.trans (Only.trans (Only.trans (Only.trans (Only.trans (Only.trans (Only.trans (Only.trans (Only.trans (Only.trans (Only.trans (Only.refl (fun _ => True) w103) s109 (fun _ _ => .inl trivial)) o115 (fun _ _ => .inl trivial)) s119 (fun _ _ => .inl trivial)) o123 (fun _ _ => .inl trivial)) o126 (fun _ _ => .inl trivial)) s131 (fun _ _ => .inl trivial)) o137 (fun _ _ => .inl trivial)) s141 (fun _ _ => .inl trivial)) o162 (fun _ _ => .inl trivial)) o167 (fun _ _ => .inl trivial)) o174 (fun _ _ => .inl trivial)) s179 (fun _ _ => .inl trivial)) o183 (fun _ _ => .inl trivial)) o188 (fun _ _ => .inl trivial)) o192 (fun _ _ => .inl trivial)) o197 (fun _ _ => .inl trivial))
        have ne250 : g102 ≠ g208 := (ne_of hl107 (Nat.le_trans (size_only O251) hg212))
        have B252 := (Blk.k (Blk.k (Blk.st (Blk.k (Blk.k (Blk.k (Blk.k (Blk.k (Blk.st (Blk.k (Blk.k (Blk.k (Blk.st (Blk.k (Blk.st (Blk.k (Blk.k B120 o123) o126) s131 ne246) o137) s141 ne246) o162) o167) o174) s179 ne248) o183) o188) o192) o197) o210) s215 ne250) o234) o244)
        refine LT Hz rfl rfl (r_ldA Tryd.isAgg54 Tryd.sizeOf54 Hz rfl (Blk.ca B252) rfl) rfl ?_
        clear Hz az; intro az Hz
        have h253 := Row.own KRef r114 ok116
        have h254 := SliceOf.rg h253
        have O255 := (Only.trans (Only.refl (fun _ => True) w103) s109 (fun _ _ => .inl trivial))
        have O256 : Only NoF w118 w164 := (Only.trans' (Only.trans' (o_sg (Only.trans' (o_sg (Only.trans' o123 o126) s131 (size_only o123) (oneF_ge hg128)) o137) s141 (size_only o123) (oneF_ge hg128)) o162) o167)
        have O257 : Only NoF w118 w194 := (Only.trans' (Only.trans' (Only.trans' (Only.trans' (o_sg (Only.trans' O256 o174) s179 (size_only O256) (oneF_ge hg176)) o183) o188) o192) o197)
        have O258 : Only NoF w118 w243 := (Only.trans' (Only.trans' (o_sg (Only.trans' (Only.trans' (Only.trans' (Only.trans' (Only.trans' (o_sg (Only.trans' (Only.trans' (Only.trans' (o_sg (Only.trans' (o_sg (Only.trans' o123 o126) s131 (size_only o123) (oneF_ge hg128)) o137) s141 (size_only o123) (oneF_ge hg128)) o162) o167) o174) s179 (size_only O256) (oneF_ge hg176)) o183) o188) o192) o197) o210) s215 (size_only O257) (oneF_ge hg212)) o234) o244)
        have h259 := (SliceOf.kp (SliceOf.kp h254 s119 (fun k hk => ge_F (oneF_lt hl107) (size_only O255) k hk.1) (fun _ _ _ _ h => h)) O258 (fun _ _ h => h) (fun _ _ _ _ h => h))
        have h260 := SliceOf.pl h259
        refine LGV (v := .bool (true)) Hz rfl rfl gd_t rfl (fun hb => rfl) Tryd.call62 (fun hb => fix_eq (congrArg Value.bool (by rfl : right (⟨2, 1, 4, A112, [(⟨2, 0⟩ : RM)], 1, []⟩ : NM) = true)) (Right_v (m := (⟨2, 1, 4, A112, [(⟨2, 0⟩ : RM)], 1, []⟩ : NM)) h260)) rfl fun w261 o262 => ?_
        clear Hz az; intro az Hz
        refine L (r_pick Hz rfl rfl rfl) Hz rfl ?_
        clear Hz az; intro az Hz
        refine L (r_mv Hz rfl) Hz rfl ?_
        clear Hz az; intro az Hz
        have O264 := (Only.trans (Only.trans (Only.trans (Only.trans (Only.trans (Only.refl (fun _ => True) w125) s131 (fun _ _ => .inl trivial)) o137 (fun _ _ => .inl trivial)) s141 (fun _ _ => .inl trivial)) o162 (fun _ _ => .inl trivial)) o167 (fun _ _ => .inl trivial))
        have ne263 : g124 ≠ g172 := (ne_of hl129 (Nat.le_trans (size_only O264) hg176))
        have O266 := (Only.trans (Only.trans (Only.trans (Only.trans (Only.trans (Only.trans (Only.trans (Only.trans (Only.trans (Only.trans (Only.trans (Only.refl (fun _ => True) w125) s131 (fun _ _ => .inl trivial)) o137 (fun _ _ => .inl trivial)) s141 (fun _ _ => .inl trivial)) o162 (fun _ _ => .inl trivial)) o167 (fun _ _ => .inl trivial)) o174 (fun _ _ => .inl trivial)) s179 (fun _ _ => .inl trivial)) o183 (fun _ _ => .inl trivial)) o188 (fun _ _ => .inl trivial)) o192 (fun _ _ => .inl trivial)) o197 (fun _ _ => .inl trivial))
        have ne265 : g124 ≠ g208 := (ne_of hl129 (Nat.le_trans (size_only O266) hg212))
        have B267 := (Blk.k (Blk.k (Blk.k (Blk.st (Blk.k (Blk.k (Blk.k (Blk.k (Blk.k (Blk.st (Blk.k (Blk.k (Blk.k B142 o162) o167) o174) s179 ne263) o183) o188) o192) o197) o210) s215 ne265) o234) o244) o262)
        refine LT Hz rfl rfl (r_ldA Tryd.isAgg54 Tryd.sizeOf54 Hz rfl (Blk.ca B267) rfl) rfl ?_
        clear Hz az; intro az Hz
        have h268 := Row.own KRef r136 ok138
        have h269 := SliceOf.rg h268
        have O270 := (Only.trans (Only.refl (fun _ => True) w125) s131 (fun _ _ => .inl trivial))
        have O271 : Only NoF w140 w261 := (Only.trans' (Only.trans' (Only.trans' O230 o234) o244) o262)
        have h272 := (SliceOf.kp (SliceOf.kp h269 s141 (fun k hk => ge_F (oneF_lt hl129) (size_only O270) k hk.1) (fun _ _ _ _ h => h)) O271 (fun _ _ h => h) (fun _ _ _ _ h => h))
        have h273 := SliceOf.pl h272
        refine LGV (v := .bool (false)) Hz rfl rfl gd_t rfl (fun hb => rfl) Tryd.call62 (fun hb => fix_eq (congrArg Value.bool (by rfl : right (⟨2, 1, 4, A134, [(⟨2, 1⟩ : RM)], 1, []⟩ : NM) = false)) (Right_v (m := (⟨2, 1, 4, A134, [(⟨2, 1⟩ : RM)], 1, []⟩ : NM)) h273)) rfl fun w274 o275 => ?_
        clear Hz az; intro az Hz
        refine LT Hz rfl rfl (r_not Hz rfl) rfl ?_
        clear Hz az; intro az Hz
        refine L (r_pick Hz rfl rfl rfl) Hz rfl ?_
        clear Hz az; intro az Hz
        refine L (r_mv Hz rfl) Hz rfl ?_
        clear Hz az; intro az Hz
        refine LGV (v := .agg #[.int .i64 (2), .int .i64 (1), .int .i64 (4), .slice none (0) 0, strV ([97])]) Hz rfl rfl gd_t rfl (fun hb => rfl) Tryd.call82 (fun hb => note_v _ 1 4 [97]) rfl fun w276 o277 => ?_
        clear Hz az; intro az Hz
        refine LGV (v := .agg #[.int .i64 (2), .int .i64 (1), .int .i64 (4), .slice none (0) 0, strV ([98])]) Hz rfl rfl gd_t rfl (fun hb => rfl) Tryd.call82 (fun hb => note_v _ 1 4 [98]) rfl fun w278 o279 => ?_
        clear Hz az; intro az Hz
        refine LGV (v := .bool (true)) Hz rfl rfl gd_t rfl (fun hb => rfl) Tryd.call65 (fun hb => fix_eq (congrArg Value.bool (by unfold convicts; first | rfl | simp [same, right] : convicts (⟨2, 1, 4, none, [], 0, [97]⟩ : NM) (⟨2, 1, 4, none, [], 0, [98]⟩ : NM) = true)) (Convicts_v (m := (⟨2, 1, 4, none, [], 0, [97]⟩ : NM)) (m2 := (⟨2, 1, 4, none, [], 0, [98]⟩ : NM)) (SliceOf.nil_ _ _ _) (SliceOf.nil_ _ _ _))) rfl fun w280 o281 => ?_
        clear Hz az; intro az Hz
        refine L (r_pick Hz rfl rfl rfl) Hz rfl ?_
        clear Hz az; intro az Hz
        refine L (r_mv Hz rfl) Hz rfl ?_
        clear Hz az; intro az Hz
        have B282 := (Blk.k (Blk.k (Blk.k (Blk.k (Blk.k (Blk.k B235 o244) o262) o275) o277) o279) o281)
        refine LT Hz rfl rfl (r_ldA Tryd.isAgg54 Tryd.sizeOf54 Hz rfl (Blk.ca B282) rfl) rfl ?_
        clear Hz az; intro az Hz
        have B283 := (Blk.k (Blk.k (Blk.k (Blk.k (Blk.k (Blk.k B236 o244) o262) o275) o277) o279) o281)
        refine LT Hz rfl rfl (r_ldA Tryd.isAgg54 Tryd.sizeOf54 Hz rfl (Blk.ca B283) rfl) rfl ?_
        clear Hz az; intro az Hz
        have O284 : Only NoF w164 w280 := (Only.trans' (Only.trans' (Only.trans' (Only.trans' (Only.trans' (Only.trans' O237 o244) o262) o275) o277) o279) o281)
        have h285 := (SliceOf.kp sg169 O284 (fun _ _ h => h) (fun _ _ _ _ h => h))
        have h286 := SliceOf.pl h285
        have O287 : Only NoF w194 w280 := (Only.trans' (Only.trans' (Only.trans' (Only.trans' (Only.trans' (Only.trans' O240 o244) o262) o275) o277) o279) o281)
        have h288 := (SliceOf.kp sg199 O287 (fun _ _ h => h) (fun _ _ _ _ h => h))
        have h289 := SliceOf.pl h288
        refine LGV (v := .bool (false)) Hz rfl rfl gd_t rfl (fun hb => rfl) Tryd.call65 (fun hb => fix_eq (congrArg Value.bool (by unfold convicts; first | rfl | simp [same, right] : convicts (⟨2, 1, 4, A165, [⟨1, 7⟩], c166, [97]⟩ : NM) (⟨2, 1, 4, A195, [⟨1, 7⟩], c196, [97]⟩ : NM) = false)) (Convicts_v (m := (⟨2, 1, 4, A165, [⟨1, 7⟩], c166, [97]⟩ : NM)) (m2 := (⟨2, 1, 4, A195, [⟨1, 7⟩], c196, [97]⟩ : NM)) h286 h289)) rfl fun w290 o291 => ?_
        clear Hz az; intro az Hz
        refine LT Hz rfl rfl (r_not Hz rfl) rfl ?_
        clear Hz az; intro az Hz
        refine L (r_pick Hz rfl rfl rfl) Hz rfl ?_
        clear Hz az; intro az Hz
        refine L (r_mv Hz rfl) Hz rfl ?_
        clear Hz az; intro az Hz
        refine LGV (v := .agg #[.int .i64 (2), .int .i64 (1), .int .i64 (4), .slice none (0) 0, strV ([97])]) Hz rfl rfl gd_t rfl (fun hb => rfl) Tryd.call82 (fun hb => note_v _ 1 4 [97]) rfl fun w292 o293 => ?_
        clear Hz az; intro az Hz
        refine LGV (v := .agg #[.int .i64 (2), .int .i64 (2), .int .i64 (4), .slice none (0) 0, strV ([98])]) Hz rfl rfl gd_t rfl (fun hb => rfl) Tryd.call82 (fun hb => note_v _ 2 4 [98]) rfl fun w294 o295 => ?_
        clear Hz az; intro az Hz
        refine LGV (v := .bool (false)) Hz rfl rfl gd_t rfl (fun hb => rfl) Tryd.call65 (fun hb => fix_eq (congrArg Value.bool (by unfold convicts; first | rfl | simp [same, right] : convicts (⟨2, 1, 4, none, [], 0, [97]⟩ : NM) (⟨2, 2, 4, none, [], 0, [98]⟩ : NM) = false)) (Convicts_v (m := (⟨2, 1, 4, none, [], 0, [97]⟩ : NM)) (m2 := (⟨2, 2, 4, none, [], 0, [98]⟩ : NM)) (SliceOf.nil_ _ _ _) (SliceOf.nil_ _ _ _))) rfl fun w296 o297 => ?_
        clear Hz az; intro az Hz
        refine LT Hz rfl rfl (r_not Hz rfl) rfl ?_
        clear Hz az; intro az Hz
        refine L (r_pick Hz rfl rfl rfl) Hz rfl ?_
        clear Hz az; intro az Hz
        refine L (r_as Hz rfl) Hz rfl ?_
        clear Hz az; intro az Hz
        refine hK245 _ _ ?_
        refine wp_ret ?_
        show bodyPost _ _ _ .ret _ _
        refine ret_of (vs := [.bool (true)]) Hz Tryd.results50 ⟨rfl, trivial⟩ ?_
        have O298 : Only NoF w w194 := (Only.trans' O203 o197)
        have O299 : Only NoF w w296 := (Only.trans' (Only.trans' (Only.trans' (Only.trans' (Only.trans' (Only.trans' (Only.trans' (Only.trans' (Only.trans' (Only.trans' (Only.trans' (o_sg (Only.trans' (Only.trans' O203 o197) o210) s215 (size_only O298) (oneF_ge hg212)) o234) o244) o262) o275) o277) o279) o281) o291) o293) o295) o297)
        exact ⟨rfl, O299⟩
      · -- 8 first
        obtain ⟨g300, w301, hw, hA, hg304, hl305, o302, B303⟩ := newBlk (w := w190) (e := 54) (cs := [.int .i64 (0), .int .i64 (0), .int .i64 (0), .slice none (0) 0, strV ([])])
        refine Pl.MD (r_al (v := .agg #[.int .i64 (0), .int .i64 (0), .int .i64 (0), .slice none (0) 0, strV ([])]) Tryd.zeroValue54 rfl) Hz rfl rfl ?_ ?_
        · rw [← hw]; exact ⟨fun _ => (Only.trans' (Only.trans' o188 o192) o302), (Only.trans (Only.trans (Only.trans (Only.refl NoF w182) o188 (fun _ h => h.elim)) o192 (fun _ h => h.elim)) o302 (fun _ h => h.elim))⟩
        rw [← hw, ← hA]; clear Hz az; intro az Hz
        clear hw hA
        have h312 := Row.own (KNote w) r191 ok193
        have h313 := (SliceOf.kp h312 o302 (fun _ _ h => h) (fun _ _ _ _ h => h))
        have h314 := SliceOf.pl h313
        have O315 : Only NoF w w164 := (Only.trans' O171 o167)
        have O316 : Only NoF w w301 := (Only.trans' (Only.trans' (Only.trans' (Only.trans' (o_sg (Only.trans' (Only.trans' O171 o167) o174) s179 (size_only O315) (oneF_ge hg176)) o183) o188) o192) o302)
        have O317 : Only NoF w140 w164 := (Only.trans' o162 o167)
        have O318 : Only NoF w140 w301 := (Only.trans' (Only.trans' (Only.trans' (Only.trans' (o_sg (Only.trans' (Only.trans' o162 o167) o174) s179 (size_only O317) (oneF_ge hg176)) o183) o188) o192) o302)
        have h319 := (SliceOf.kp h159 O318 (fun _ _ h => h) (fun _ _ _ _ h => h))
        have h320 := SliceOf.pl h319
        refine Pl.MSC Hz rfl rfl rfl Tryd.call53 (sm_next_v (notes_up h314 O316) h320) rfl ?_
        rintro e w306 ⟨A307, c308, rfl, o309, ok310, sg311⟩
        refine ⟨_, rfl, ⟨fun _ => (Only.trans' (Only.trans' (Only.trans' o188 o192) o302) o309), (Only.trans (Only.trans (Only.trans (Only.trans (Only.refl NoF w182) o188 (fun _ h => h.elim)) o192 (fun _ h => h.elim)) o302 (fun _ h => h.elim)) o309 (fun _ h => h.elim))⟩, ?_⟩
        clear Hz az; intro az Hz
        refine Pl.MSP (b := true) (by kernel_rfl) (fun W oW => r_mv Hz rfl) Hz rfl rfl ?_
        clear Hz az; intro az Hz
        refine Pl.MSP (b := true) (by kernel_rfl) (fun W oW => r_ex Hz rfl rfl) Hz rfl rfl ?_
        clear Hz az; intro az Hz
        refine Pl.MSP (b := false) (by kernel_rfl) (fun W oW => r_ex Hz rfl rfl) Hz rfl rfl ?_
        clear Hz az; intro az Hz
        have B321 := (Blk.k B303 o309)
        refine Pl.MSS (cs' := [.int .i64 (2), .int .i64 (1), .int .i64 (4), .slice A307 (1) c308, strV ([97])]) Tryd.sizeOf54 Hz rfl rfl rfl rfl rfl rfl ⟨rfl, rfl, rfl, rfl, rfl, trivial⟩ B321 rfl rfl fun w322 s323 B324 => ?_
        have O325 : Only NoF w182 w190 := (Only.trans' o188 o192)
        refine ⟨⟨fun h => absurd h (by decide), (Only.trans (Only.trans (Only.trans (Only.trans (Only.trans (Only.refl NoF w182) o188 (fun _ h => h.elim)) o192 (fun _ h => h.elim)) o302 (fun _ h => h.elim)) o309 (fun _ h => h.elim)) s323 (fun k h => .inr (Nat.le_trans (size_only O325) ((oneF_ge hg304) k h))))⟩, ?_⟩
        refine Pl.MSP (b := false) (by kernel_rfl) (fun W oW => r_as Hz rfl) Hz rfl rfl ?_
        clear Hz az; intro az Hz
        refine wpPl_nil ?_
        refine hK181 _ _ ?_
        refine wp_seq_k fun K326 hK326 => ?_
        -- law.go:34
        refine wp_region_lit ?_
        refine L (r_mv Hz rfl) Hz rfl ?_
        clear Hz az; intro az Hz
        refine L (r_mv Hz rfl) Hz rfl ?_
        clear Hz az; intro az Hz
        refine LT Hz rfl rfl (r_mv Hz rfl) rfl ?_
        clear Hz az; intro az Hz
        refine LT Hz rfl rfl (r_eqRS Hz rfl rfl) rfl ?_
        clear Hz az; intro az Hz
        refine L (r_pick Hz rfl rfl rfl) Hz rfl ?_
        clear Hz az; intro az Hz
        refine L (r_mv Hz rfl) Hz rfl ?_
        clear Hz az; intro az Hz
        refine LT Hz rfl rfl (r_mv Hz rfl) rfl ?_
        clear Hz az; intro az Hz
        refine L (r_pick Hz rfl rfl rfl) Hz rfl ?_
        clear Hz az; intro az Hz
        refine L (r_mv Hz rfl) Hz rfl ?_
        clear Hz az; intro az Hz
        have O328 := (Only.trans (Only.trans (Only.trans (Only.trans (Only.refl (fun _ => True) w173) s179 (fun _ _ => .inl trivial)) o183 (fun _ _ => .inl trivial)) o188 (fun _ _ => .inl trivial)) o192 (fun _ _ => .inl trivial))
        have ne327 : g172 ≠ g300 := (ne_of hl177 (Nat.le_trans (size_only O328) hg304))
        have B329 := (Blk.st (Blk.k (Blk.k (Blk.k (Blk.k (Blk.k B180 o183) o188) o192) o302) o309) s323 ne327)
        refine LT Hz rfl rfl (r_ldA Tryd.isAgg54 Tryd.sizeOf54 Hz rfl (Blk.ca B329) rfl) rfl ?_
        clear Hz az; intro az Hz
        have O331 := (Only.trans (Only.trans (Only.trans (Only.trans (Only.trans (Only.trans (Only.trans (Only.trans (Only.trans (Only.trans (Only.trans (Only.trans (Only.trans (Only.trans (Only.trans (Only.trans (Only.trans (Only.trans (Only.trans (Only.trans (Only.refl (fun _ => True) w81) s87 (fun _ _ => .inl trivial)) o93 (fun _ _ => .inl trivial)) s97 (fun _ _ => .inl trivial)) o101 (fun _ _ => .inl trivial)) o104 (fun _ _ => .inl trivial)) s109 (fun _ _ => .inl trivial)) o115 (fun _ _ => .inl trivial)) s119 (fun _ _ => .inl trivial)) o123 (fun _ _ => .inl trivial)) o126 (fun _ _ => .inl trivial)) s131 (fun _ _ => .inl trivial)) o137 (fun _ _ => .inl trivial)) s141 (fun _ _ => .inl trivial)) o162 (fun _ _ => .inl trivial)) o167 (fun _ _ => .inl trivial)) o174 (fun _ _ => .inl trivial)) s179 (fun _ _ => .inl trivial)) o183 (fun _ _ => .inl trivial)) o188 (fun _ _ => .inl trivial)) o192 (fun _ _ => .inl trivial))
        have ne330 : g80 ≠ g300 := (ne_of hl85 (Nat.le_trans (size_only O331) hg304))
        have B332 := (Blk.st (Blk.k (Blk.k (Blk.k (Blk.k B186 o188) o192) o302) o309) s323 ne330)
        refine LT Hz rfl rfl (r_ldA Tryd.isAgg54 Tryd.sizeOf54 Hz rfl (Blk.ca B332) rfl) rfl ?_
        clear Hz az; intro az Hz
        have O333 : Only NoF w164 w190 := (Only.trans' (Only.trans' (Only.trans' (o_sg o174 s179 (Nat.le_refl _) (oneF_ge hg176)) o183) o188) o192)
        have O334 : Only NoF w164 w322 := (o_sg (Only.trans' (Only.trans' (Only.trans' (Only.trans' (Only.trans' (o_sg o174 s179 (Nat.le_refl _) (oneF_ge hg176)) o183) o188) o192) o302) o309) s323 (size_only O333) (oneF_ge hg304))
        have h335 := (SliceOf.kp sg169 O334 (fun _ _ h => h) (fun _ _ _ _ h => h))
        have h336 := SliceOf.pl h335
        have O337 : Only NoF w140 w190 := (Only.trans' (Only.trans' (Only.trans' (o_sg (Only.trans' O317 o174) s179 (size_only O317) (oneF_ge hg176)) o183) o188) o192)
        have O338 : Only NoF w140 w322 := (o_sg (Only.trans' O318 o309) s323 (size_only O337) (oneF_ge hg304))
        have h339 := (SliceOf.kp h159 O338 (fun _ _ h => h) (fun _ _ _ _ h => h))
        have h340 := SliceOf.pl h339
        refine LGV (v := .bool (true)) Hz rfl rfl gd_t rfl (fun hb => rfl) Tryd.call59 (fun hb => fix_eq (congrArg Value.bool (by unfold same; first | rfl | simp [same, right] : same (⟨2, 1, 4, A165, [⟨1, 7⟩], c166, [97]⟩ : NM) (⟨2, 1, 4, A90, [(⟨1, 7⟩ : RM)], 1, [97]⟩ : NM) = true)) (rSame_v (m := (⟨2, 1, 4, A165, [⟨1, 7⟩], c166, [97]⟩ : NM)) (m2 := (⟨2, 1, 4, A90, [(⟨1, 7⟩ : RM)], 1, [97]⟩ : NM)) h336 h340)) rfl fun w341 o342 => ?_
        clear Hz az; intro az Hz
        refine L (r_pick Hz rfl rfl rfl) Hz rfl ?_
        clear Hz az; intro az Hz
        refine L (r_mv Hz rfl) Hz rfl ?_
        clear Hz az; intro az Hz
        refine LT Hz rfl rfl (r_mv Hz rfl) rfl ?_
        clear Hz az; intro az Hz
        refine LT Hz rfl rfl (r_eqRI Hz rfl rfl) rfl ?_
        clear Hz az; intro az Hz
        refine L (r_pick Hz rfl rfl rfl) Hz rfl ?_
        clear Hz az; intro az Hz
        refine L (r_mv Hz rfl) Hz rfl ?_
        clear Hz az; intro az Hz
        have B343 := (Blk.k B329 o342)
        refine LT Hz rfl rfl (r_ldA Tryd.isAgg54 Tryd.sizeOf54 Hz rfl (Blk.ca B343) rfl) rfl ?_
        clear Hz az; intro az Hz
        have B344 := (Blk.k B324 o342)
        refine LT Hz rfl rfl (r_ldA Tryd.isAgg54 Tryd.sizeOf54 Hz rfl (Blk.ca B344) rfl) rfl ?_
        clear Hz az; intro az Hz
        have O345 : Only NoF w164 w341 := (Only.trans' O334 o342)
        have h346 := (SliceOf.kp sg169 O345 (fun _ _ h => h) (fun _ _ _ _ h => h))
        have h347 := SliceOf.pl h346
        have h348 := (SliceOf.kp (SliceOf.kp sg311 s323 (ge_F (oneF_lt hl305) (Nat.le_refl _)) (fun _ _ _ _ h => h)) o342 (fun _ _ h => h) (fun _ _ _ _ h => h))
        have h349 := SliceOf.pl h348
        refine LGV (v := .bool (true)) Hz rfl rfl gd_t rfl (fun hb => rfl) Tryd.call59 (fun hb => fix_eq (congrArg Value.bool (by unfold same; first | rfl | simp [same, right] : same (⟨2, 1, 4, A165, [⟨1, 7⟩], c166, [97]⟩ : NM) (⟨2, 1, 4, A307, [⟨1, 7⟩], c308, [97]⟩ : NM) = true)) (rSame_v (m := (⟨2, 1, 4, A165, [⟨1, 7⟩], c166, [97]⟩ : NM)) (m2 := (⟨2, 1, 4, A307, [⟨1, 7⟩], c308, [97]⟩ : NM)) h347 h349)) rfl fun w350 o351 => ?_
        clear Hz az; intro az Hz
        refine L (r_pick Hz rfl rfl rfl) Hz rfl ?_
        clear Hz az; intro az Hz
        refine L (r_as Hz rfl) Hz rfl ?_
        clear Hz az; intro az Hz
        refine hK326 _ _ ?_
        refine wp_seq_k fun K352 hK352 => ?_
        -- law.go:35
        refine wp_region_lit ?_
        refine L (r_mv Hz rfl) Hz rfl ?_
        clear Hz az; intro az Hz
        refine L (r_mv Hz rfl) Hz rfl ?_
        clear Hz az; intro az Hz
        have O354 := (Only.trans (Only.trans (Only.trans (Only.trans (Only.refl (fun _ => True) w103) s109 (fun _ _ => .inl trivial)) o115 (fun _ _ => .inl trivial)) s119 (fun _ _ => .inl trivial)) o123 (fun _ _ => .inl trivial))
        have ne353 : g102 ≠ g124 := (ne_of hl107 (Nat.le_trans (size_only O354) hg128))
        have O356 := (Only.trans (Only.trans (Only.trans (Only.trans (Only.trans (Only.trans (Only.trans (Only.trans (Only.trans (Only.trans (Only.refl (fun _ => True) w103) s109 (fun _ _ => .inl trivial)) o115 (fun _ _ => .inl trivial)) s119 (fun _ _ => .inl trivial)) o123 (fun _ _ => .inl trivial)) o126 (fun _ _ => .inl trivial)) s131 (fun _ _ => .inl trivial)) o137 (fun _ _ => .inl trivial)) s141 (fun _ _ => .inl trivial)) o162 (fun _ _ => .inl trivial)) o167 (fun _ _ => .inl trivial))
        have ne355 : g102 ≠ g172 := (ne_of hl107 (Nat.le_trans (size_only O356) hg176))
        have O358 := (Only.trans (Only.trans (Only.trans (Only.trans (Only.trans (Only.trans (Only.trans (Only.trans (Only.trans (Only.trans (Only.trans (Only.trans (Only.trans (Only.trans (Only.trans (Only.refl (fun _ => True) w103) s109 (fun _ _ => .inl trivial)) o115 (fun _ _ => .inl trivial)) s119 (fun _ _ => .inl trivial)) o123 (fun _ _ => .inl trivial)) o126 (fun _ _ => .inl trivial)) s131 (fun _ _ => .inl trivial)) o137 (fun _ _ => .inl trivial)) s141 (fun _ _ => .inl trivial)) o162 (fun _ _ => .inl trivial)) o167 (fun _ _ => .inl trivial)) o174 (fun _ _ => .inl trivial)) s179 (fun _ _ => .inl trivial)) o183 (fun _ _ => .inl trivial)) o188 (fun _ _ => .inl trivial)) o192 (fun _ _ => .inl trivial))
        have ne357 : g102 ≠ g300 := (ne_of hl107 (Nat.le_trans (size_only O358) hg304))
        have B359 := (Blk.k (Blk.k (Blk.st (Blk.k (Blk.k (Blk.k (Blk.k (Blk.k (Blk.st (Blk.k (Blk.k (Blk.k (Blk.st (Blk.k (Blk.st (Blk.k (Blk.k B120 o123) o126) s131 ne353) o137) s141 ne353) o162) o167) o174) s179 ne355) o183) o188) o192) o302) o309) s323 ne357) o342) o351)
        refine LT Hz rfl rfl (r_ldA Tryd.isAgg54 Tryd.sizeOf54 Hz rfl (Blk.ca B359) rfl) rfl ?_
        clear Hz az; intro az Hz
        have h360 := Row.own KRef r114 ok116
        have h361 := SliceOf.rg h360
        have O362 := (Only.trans (Only.refl (fun _ => True) w103) s109 (fun _ _ => .inl trivial))
        have O363 : Only NoF w118 w164 := (Only.trans' (Only.trans' (o_sg (Only.trans' (o_sg (Only.trans' o123 o126) s131 (size_only o123) (oneF_ge hg128)) o137) s141 (size_only o123) (oneF_ge hg128)) o162) o167)
        have O364 : Only NoF w118 w190 := (Only.trans' (Only.trans' (Only.trans' (o_sg (Only.trans' O363 o174) s179 (size_only O363) (oneF_ge hg176)) o183) o188) o192)
        have O365 : Only NoF w118 w350 := (Only.trans' (Only.trans' (o_sg (Only.trans' (Only.trans' (Only.trans' (Only.trans' (Only.trans' (o_sg (Only.trans' (Only.trans' (Only.trans' (o_sg (Only.trans' (o_sg (Only.trans' o123 o126) s131 (size_only o123) (oneF_ge hg128)) o137) s141 (size_only o123) (oneF_ge hg128)) o162) o167) o174) s179 (size_only O363) (oneF_ge hg176)) o183) o188) o192) o302) o309) s323 (size_only O364) (oneF_ge hg304)) o342) o351)
        have h366 := (SliceOf.kp (SliceOf.kp h361 s119 (fun k hk => ge_F (oneF_lt hl107) (size_only O362) k hk.1) (fun _ _ _ _ h => h)) O365 (fun _ _ h => h) (fun _ _ _ _ h => h))
        have h367 := SliceOf.pl h366
        refine LGV (v := .bool (true)) Hz rfl rfl gd_t rfl (fun hb => rfl) Tryd.call62 (fun hb => fix_eq (congrArg Value.bool (by rfl : right (⟨2, 1, 4, A112, [(⟨2, 0⟩ : RM)], 1, []⟩ : NM) = true)) (Right_v (m := (⟨2, 1, 4, A112, [(⟨2, 0⟩ : RM)], 1, []⟩ : NM)) h367)) rfl fun w368 o369 => ?_
        clear Hz az; intro az Hz
        refine L (r_pick Hz rfl rfl rfl) Hz rfl ?_
        clear Hz az; intro az Hz
        refine L (r_mv Hz rfl) Hz rfl ?_
        clear Hz az; intro az Hz
        have O371 := (Only.trans (Only.trans (Only.trans (Only.trans (Only.trans (Only.refl (fun _ => True) w125) s131 (fun _ _ => .inl trivial)) o137 (fun _ _ => .inl trivial)) s141 (fun _ _ => .inl trivial)) o162 (fun _ _ => .inl trivial)) o167 (fun _ _ => .inl trivial))
        have ne370 : g124 ≠ g172 := (ne_of hl129 (Nat.le_trans (size_only O371) hg176))
        have O373 := (Only.trans (Only.trans (Only.trans (Only.trans (Only.trans (Only.trans (Only.trans (Only.trans (Only.trans (Only.trans (Only.refl (fun _ => True) w125) s131 (fun _ _ => .inl trivial)) o137 (fun _ _ => .inl trivial)) s141 (fun _ _ => .inl trivial)) o162 (fun _ _ => .inl trivial)) o167 (fun _ _ => .inl trivial)) o174 (fun _ _ => .inl trivial)) s179 (fun _ _ => .inl trivial)) o183 (fun _ _ => .inl trivial)) o188 (fun _ _ => .inl trivial)) o192 (fun _ _ => .inl trivial))
        have ne372 : g124 ≠ g300 := (ne_of hl129 (Nat.le_trans (size_only O373) hg304))
        have B374 := (Blk.k (Blk.k (Blk.k (Blk.st (Blk.k (Blk.k (Blk.k (Blk.k (Blk.k (Blk.st (Blk.k (Blk.k (Blk.k B142 o162) o167) o174) s179 ne370) o183) o188) o192) o302) o309) s323 ne372) o342) o351) o369)
        refine LT Hz rfl rfl (r_ldA Tryd.isAgg54 Tryd.sizeOf54 Hz rfl (Blk.ca B374) rfl) rfl ?_
        clear Hz az; intro az Hz
        have h375 := Row.own KRef r136 ok138
        have h376 := SliceOf.rg h375
        have O377 := (Only.trans (Only.refl (fun _ => True) w125) s131 (fun _ _ => .inl trivial))
        have O378 : Only NoF w140 w368 := (Only.trans' (Only.trans' (Only.trans' O338 o342) o351) o369)
        have h379 := (SliceOf.kp (SliceOf.kp h376 s141 (fun k hk => ge_F (oneF_lt hl129) (size_only O377) k hk.1) (fun _ _ _ _ h => h)) O378 (fun _ _ h => h) (fun _ _ _ _ h => h))
        have h380 := SliceOf.pl h379
        refine LGV (v := .bool (false)) Hz rfl rfl gd_t rfl (fun hb => rfl) Tryd.call62 (fun hb => fix_eq (congrArg Value.bool (by rfl : right (⟨2, 1, 4, A134, [(⟨2, 1⟩ : RM)], 1, []⟩ : NM) = false)) (Right_v (m := (⟨2, 1, 4, A134, [(⟨2, 1⟩ : RM)], 1, []⟩ : NM)) h380)) rfl fun w381 o382 => ?_
        clear Hz az; intro az Hz
        refine LT Hz rfl rfl (r_not Hz rfl) rfl ?_
        clear Hz az; intro az Hz
        refine L (r_pick Hz rfl rfl rfl) Hz rfl ?_
        clear Hz az; intro az Hz
        refine L (r_mv Hz rfl) Hz rfl ?_
        clear Hz az; intro az Hz
        refine LGV (v := .agg #[.int .i64 (2), .int .i64 (1), .int .i64 (4), .slice none (0) 0, strV ([97])]) Hz rfl rfl gd_t rfl (fun hb => rfl) Tryd.call82 (fun hb => note_v _ 1 4 [97]) rfl fun w383 o384 => ?_
        clear Hz az; intro az Hz
        refine LGV (v := .agg #[.int .i64 (2), .int .i64 (1), .int .i64 (4), .slice none (0) 0, strV ([98])]) Hz rfl rfl gd_t rfl (fun hb => rfl) Tryd.call82 (fun hb => note_v _ 1 4 [98]) rfl fun w385 o386 => ?_
        clear Hz az; intro az Hz
        refine LGV (v := .bool (true)) Hz rfl rfl gd_t rfl (fun hb => rfl) Tryd.call65 (fun hb => fix_eq (congrArg Value.bool (by unfold convicts; first | rfl | simp [same, right] : convicts (⟨2, 1, 4, none, [], 0, [97]⟩ : NM) (⟨2, 1, 4, none, [], 0, [98]⟩ : NM) = true)) (Convicts_v (m := (⟨2, 1, 4, none, [], 0, [97]⟩ : NM)) (m2 := (⟨2, 1, 4, none, [], 0, [98]⟩ : NM)) (SliceOf.nil_ _ _ _) (SliceOf.nil_ _ _ _))) rfl fun w387 o388 => ?_
        clear Hz az; intro az Hz
        refine L (r_pick Hz rfl rfl rfl) Hz rfl ?_
        clear Hz az; intro az Hz
        refine L (r_mv Hz rfl) Hz rfl ?_
        clear Hz az; intro az Hz
        have B389 := (Blk.k (Blk.k (Blk.k (Blk.k (Blk.k (Blk.k B343 o351) o369) o382) o384) o386) o388)
        refine LT Hz rfl rfl (r_ldA Tryd.isAgg54 Tryd.sizeOf54 Hz rfl (Blk.ca B389) rfl) rfl ?_
        clear Hz az; intro az Hz
        have B390 := (Blk.k (Blk.k (Blk.k (Blk.k (Blk.k (Blk.k B344 o351) o369) o382) o384) o386) o388)
        refine LT Hz rfl rfl (r_ldA Tryd.isAgg54 Tryd.sizeOf54 Hz rfl (Blk.ca B390) rfl) rfl ?_
        clear Hz az; intro az Hz
        have O391 : Only NoF w164 w387 := (Only.trans' (Only.trans' (Only.trans' (Only.trans' (Only.trans' (Only.trans' O345 o351) o369) o382) o384) o386) o388)
        have h392 := (SliceOf.kp sg169 O391 (fun _ _ h => h) (fun _ _ _ _ h => h))
        have h393 := SliceOf.pl h392
        have O394 : Only NoF w341 w387 := (Only.trans' (Only.trans' (Only.trans' (Only.trans' (Only.trans' o351 o369) o382) o384) o386) o388)
        have h395 := (SliceOf.kp h348 O394 (fun _ _ h => h) (fun _ _ _ _ h => h))
        have h396 := SliceOf.pl h395
        refine LGV (v := .bool (false)) Hz rfl rfl gd_t rfl (fun hb => rfl) Tryd.call65 (fun hb => fix_eq (congrArg Value.bool (by unfold convicts; first | rfl | simp [same, right] : convicts (⟨2, 1, 4, A165, [⟨1, 7⟩], c166, [97]⟩ : NM) (⟨2, 1, 4, A307, [⟨1, 7⟩], c308, [97]⟩ : NM) = false)) (Convicts_v (m := (⟨2, 1, 4, A165, [⟨1, 7⟩], c166, [97]⟩ : NM)) (m2 := (⟨2, 1, 4, A307, [⟨1, 7⟩], c308, [97]⟩ : NM)) h393 h396)) rfl fun w397 o398 => ?_
        clear Hz az; intro az Hz
        refine LT Hz rfl rfl (r_not Hz rfl) rfl ?_
        clear Hz az; intro az Hz
        refine L (r_pick Hz rfl rfl rfl) Hz rfl ?_
        clear Hz az; intro az Hz
        refine L (r_mv Hz rfl) Hz rfl ?_
        clear Hz az; intro az Hz
        refine LGV (v := .agg #[.int .i64 (2), .int .i64 (1), .int .i64 (4), .slice none (0) 0, strV ([97])]) Hz rfl rfl gd_t rfl (fun hb => rfl) Tryd.call82 (fun hb => note_v _ 1 4 [97]) rfl fun w399 o400 => ?_
        clear Hz az; intro az Hz
        refine LGV (v := .agg #[.int .i64 (2), .int .i64 (2), .int .i64 (4), .slice none (0) 0, strV ([98])]) Hz rfl rfl gd_t rfl (fun hb => rfl) Tryd.call82 (fun hb => note_v _ 2 4 [98]) rfl fun w401 o402 => ?_
        clear Hz az; intro az Hz
        refine LGV (v := .bool (false)) Hz rfl rfl gd_t rfl (fun hb => rfl) Tryd.call65 (fun hb => fix_eq (congrArg Value.bool (by unfold convicts; first | rfl | simp [same, right] : convicts (⟨2, 1, 4, none, [], 0, [97]⟩ : NM) (⟨2, 2, 4, none, [], 0, [98]⟩ : NM) = false)) (Convicts_v (m := (⟨2, 1, 4, none, [], 0, [97]⟩ : NM)) (m2 := (⟨2, 2, 4, none, [], 0, [98]⟩ : NM)) (SliceOf.nil_ _ _ _) (SliceOf.nil_ _ _ _))) rfl fun w403 o404 => ?_
        clear Hz az; intro az Hz
        refine LT Hz rfl rfl (r_not Hz rfl) rfl ?_
        clear Hz az; intro az Hz
        refine L (r_pick Hz rfl rfl rfl) Hz rfl ?_
        clear Hz az; intro az Hz
        refine L (r_as Hz rfl) Hz rfl ?_
        clear Hz az; intro az Hz
        refine hK352 _ _ ?_
        refine wp_ret ?_
        show bodyPost _ _ _ .ret _ _
        refine ret_of (vs := [.bool (true)]) Hz Tryd.results50 ⟨rfl, trivial⟩ ?_
        have O405 : Only NoF w w190 := (Only.trans' (Only.trans' (Only.trans' (o_sg (Only.trans' O315 o174) s179 (size_only O315) (oneF_ge hg176)) o183) o188) o192)
        have O406 : Only NoF w w403 := (Only.trans' (Only.trans' (Only.trans' (Only.trans' (Only.trans' (Only.trans' (Only.trans' (Only.trans' (Only.trans' (Only.trans' (Only.trans' (o_sg (Only.trans' O316 o309) s323 (size_only O405) (oneF_ge hg304)) o342) o351) o369) o382) o384) o386) o388) o398) o400) o402) o404)
        exact ⟨rfl, O406⟩
    · -- 8 first
      obtain ⟨g407, w408, hw, hA, hg411, hl412, o409, B410⟩ := newBlk (w := w187) (e := 54) (cs := [.int .i64 (0), .int .i64 (0), .int .i64 (0), .slice none (0) 0, strV ([])])
      refine Pl.MD (r_al (v := .agg #[.int .i64 (0), .int .i64 (0), .int .i64 (0), .slice none (0) 0, strV ([])]) Tryd.zeroValue54 rfl) Hz rfl rfl ?_ ?_
      · rw [← hw]; exact ⟨fun _ => (Only.trans' o188 o409), (Only.trans (Only.trans (Only.refl NoF w182) o188 (fun _ h => h.elim)) o409 (fun _ h => h.elim))⟩
      rw [← hw, ← hA]; clear Hz az; intro az Hz
      clear hw hA
      obtain ⟨A413, w414, hw, hA, r415, o416⟩ := Row.made (w := w408) (KNote w) (e := 54) ([(⟨2, 0, 4, none, [], 0, []⟩ : NM)] : List NM) (by simp only [List.length_cons, List.length_nil]; unfold maxLen; omega)
      refine Pl.MD (r_bs (z := .agg #[.int .i64 (0), .int .i64 (0), .int .i64 (0), .slice none (0) 0, strV ([])]) (size := 5) (vs := [(0, .agg #[.int .i64 (2), .int .i64 (0), .int .i64 (4), .slice none (0) 0, strV ([])])]) (cs := List.flatMap (KNote w).cells [(⟨2, 0, 4, none, [], 0, []⟩ : NM)]) Tryd.underlying51 Tryd.sizeOf54 Tryd.zeroValue54 rfl (Fr.evalps Hz rfl) (by kernel_rfl)) Hz rfl rfl ?_ ?_
      · rw [← hw]; exact ⟨fun _ => (Only.trans' (Only.trans' o188 o409) o416), (Only.trans (Only.trans (Only.trans (Only.refl NoF w182) o188 (fun _ h => h.elim)) o409 (fun _ h => h.elim)) o416 (fun _ h => h.elim))⟩
      rw [← hw, ← hA]; clear Hz az; intro az Hz
      clear hw hA
      have ok417 : ∀ zq ∈ ([(⟨2, 0, 4, none, [], 0, []⟩ : NM)] : List NM), (KNote w).ok zq := by intro zq hx; simp only [List.mem_cons, List.not_mem_nil, or_false] at hx; rcases hx with rfl <;> first | exact ⟨(by show I64 (2); unfold I64; omega), (by show I64 (0); unfold I64; omega), (by show I64 (4); unfold I64; omega), (SliceOf.nil_ _ _ _), (by show List.length ([] : Str) ≤ maxLen; unfold maxLen; decide)⟩
      have h424 := Row.own (KNote w) r415 ok417
      have h425 := SliceOf.pl h424
      have O426 : Only NoF w w164 := (Only.trans' O171 o167)
      have O427 : Only NoF w w414 := (Only.trans' (Only.trans' (Only.trans' (Only.trans' (o_sg (Only.trans' (Only.trans' O171 o167) o174) s179 (size_only O426) (oneF_ge hg176)) o183) o188) o409) o416)
      have O428 : Only NoF w140 w164 := (Only.trans' o162 o167)
      have O429 : Only NoF w140 w414 := (Only.trans' (Only.trans' (Only.trans' (Only.trans' (o_sg (Only.trans' (Only.trans' o162 o167) o174) s179 (size_only O428) (oneF_ge hg176)) o183) o188) o409) o416)
      have h430 := (SliceOf.kp h159 O429 (fun _ _ h => h) (fun _ _ _ _ h => h))
      have h431 := SliceOf.pl h430
      refine Pl.MSC Hz rfl rfl rfl Tryd.call53 (sm_next_v (notes_up h425 O427) h431) rfl ?_
      rintro e w418 ⟨A419, c420, rfl, o421, ok422, sg423⟩
      refine ⟨_, rfl, ⟨fun _ => (Only.trans' (Only.trans' (Only.trans' o188 o409) o416) o421), (Only.trans (Only.trans (Only.trans (Only.trans (Only.refl NoF w182) o188 (fun _ h => h.elim)) o409 (fun _ h => h.elim)) o416 (fun _ h => h.elim)) o421 (fun _ h => h.elim))⟩, ?_⟩
      clear Hz az; intro az Hz
      refine Pl.MSP (b := true) (by kernel_rfl) (fun W oW => r_mv Hz rfl) Hz rfl rfl ?_
      clear Hz az; intro az Hz
      refine Pl.MSP (b := true) (by kernel_rfl) (fun W oW => r_ex Hz rfl rfl) Hz rfl rfl ?_
      clear Hz az; intro az Hz
      refine Pl.MSP (b := false) (by kernel_rfl) (fun W oW => r_ex Hz rfl rfl) Hz rfl rfl ?_
      clear Hz az; intro az Hz
      have B432 := (Blk.k (Blk.k B410 o416) o421)
      refine Pl.MSS (cs' := [.int .i64 (2), .int .i64 (1), .int .i64 (4), .slice A419 (1) c420, strV ([97])]) Tryd.sizeOf54 Hz rfl rfl rfl rfl rfl rfl ⟨rfl, rfl, rfl, rfl, rfl, trivial⟩ B432 rfl rfl fun w433 s434 B435 => ?_
      refine ⟨⟨fun h => absurd h (by decide), (Only.trans (Only.trans (Only.trans (Only.trans (Only.trans (Only.refl NoF w182) o188 (fun _ h => h.elim)) o409 (fun _ h => h.elim)) o416 (fun _ h => h.elim)) o421 (fun _ h => h.elim)) s434 (fun k h => .inr (Nat.le_trans (size_only o188) ((oneF_ge hg411) k h))))⟩, ?_⟩
      refine Pl.MSP (b := false) (by kernel_rfl) (fun W oW => r_as Hz rfl) Hz rfl rfl ?_
      clear Hz az; intro az Hz
      refine wpPl_nil ?_
      refine hK181 _ _ ?_
      refine wp_seq_k fun K436 hK436 => ?_
      -- law.go:34
      refine wp_region_lit ?_
      refine L (r_mv Hz rfl) Hz rfl ?_
      clear Hz az; intro az Hz
      refine L (r_mv Hz rfl) Hz rfl ?_
      clear Hz az; intro az Hz
      refine LT Hz rfl rfl (r_mv Hz rfl) rfl ?_
      clear Hz az; intro az Hz
      refine LT Hz rfl rfl (r_eqRS Hz rfl rfl) rfl ?_
      clear Hz az; intro az Hz
      refine L (r_pick Hz rfl rfl rfl) Hz rfl ?_
      clear Hz az; intro az Hz
      refine L (r_mv Hz rfl) Hz rfl ?_
      clear Hz az; intro az Hz
      refine LT Hz rfl rfl (r_mv Hz rfl) rfl ?_
      clear Hz az; intro az Hz
      refine L (r_pick Hz rfl rfl rfl) Hz rfl ?_
      clear Hz az; intro az Hz
      refine L (r_mv Hz rfl) Hz rfl ?_
      clear Hz az; intro az Hz
      have O438 := (Only.trans (Only.trans (Only.trans (Only.refl (fun _ => True) w173) s179 (fun _ _ => .inl trivial)) o183 (fun _ _ => .inl trivial)) o188 (fun _ _ => .inl trivial))
      have ne437 : g172 ≠ g407 := (ne_of hl177 (Nat.le_trans (size_only O438) hg411))
      have B439 := (Blk.st (Blk.k (Blk.k (Blk.k (Blk.k (Blk.k B180 o183) o188) o409) o416) o421) s434 ne437)
      refine LT Hz rfl rfl (r_ldA Tryd.isAgg54 Tryd.sizeOf54 Hz rfl (Blk.ca B439) rfl) rfl ?_
      clear Hz az; intro az Hz
      have O441 := (Only.trans (Only.trans (Only.trans (Only.trans (Only.trans (Only.trans (Only.trans (Only.trans (Only.trans (Only.trans (Only.trans (Only.trans (Only.trans (Only.trans (Only.trans (Only.trans (Only.trans (Only.trans (Only.trans (Only.refl (fun _ => True) w81) s87 (fun _ _ => .inl trivial)) o93 (fun _ _ => .inl trivial)) s97 (fun _ _ => .inl trivial)) o101 (fun _ _ => .inl trivial)) o104 (fun _ _ => .inl trivial)) s109 (fun _ _ => .inl trivial)) o115 (fun _ _ => .inl trivial)) s119 (fun _ _ => .inl trivial)) o123 (fun _ _ => .inl trivial)) o126 (fun _ _ => .inl trivial)) s131 (fun _ _ => .inl trivial)) o137 (fun _ _ => .inl trivial)) s141 (fun _ _ => .inl trivial)) o162 (fun _ _ => .inl trivial)) o167 (fun _ _ => .inl trivial)) o174 (fun _ _ => .inl trivial)) s179 (fun _ _ => .inl trivial)) o183 (fun _ _ => .inl trivial)) o188 (fun _ _ => .inl trivial))
      have ne440 : g80 ≠ g407 := (ne_of hl85 (Nat.le_trans (size_only O441) hg411))
      have B442 := (Blk.st (Blk.k (Blk.k (Blk.k (Blk.k B186 o188) o409) o416) o421) s434 ne440)
      refine LT Hz rfl rfl (r_ldA Tryd.isAgg54 Tryd.sizeOf54 Hz rfl (Blk.ca B442) rfl) rfl ?_
      clear Hz az; intro az Hz
      have O443 : Only NoF w164 w187 := (Only.trans' (Only.trans' (o_sg o174 s179 (Nat.le_refl _) (oneF_ge hg176)) o183) o188)
      have O444 : Only NoF w164 w433 := (o_sg (Only.trans' (Only.trans' (Only.trans' (Only.trans' (Only.trans' (o_sg o174 s179 (Nat.le_refl _) (oneF_ge hg176)) o183) o188) o409) o416) o421) s434 (size_only O443) (oneF_ge hg411))
      have h445 := (SliceOf.kp sg169 O444 (fun _ _ h => h) (fun _ _ _ _ h => h))
      have h446 := SliceOf.pl h445
      have O447 : Only NoF w140 w187 := (Only.trans' (Only.trans' (o_sg (Only.trans' O428 o174) s179 (size_only O428) (oneF_ge hg176)) o183) o188)
      have O448 : Only NoF w140 w433 := (o_sg (Only.trans' O429 o421) s434 (size_only O447) (oneF_ge hg411))
      have h449 := (SliceOf.kp h159 O448 (fun _ _ h => h) (fun _ _ _ _ h => h))
      have h450 := SliceOf.pl h449
      refine LGV (v := .bool (true)) Hz rfl rfl gd_t rfl (fun hb => rfl) Tryd.call59 (fun hb => fix_eq (congrArg Value.bool (by unfold same; first | rfl | simp [same, right] : same (⟨2, 1, 4, A165, [⟨1, 7⟩], c166, [97]⟩ : NM) (⟨2, 1, 4, A90, [(⟨1, 7⟩ : RM)], 1, [97]⟩ : NM) = true)) (rSame_v (m := (⟨2, 1, 4, A165, [⟨1, 7⟩], c166, [97]⟩ : NM)) (m2 := (⟨2, 1, 4, A90, [(⟨1, 7⟩ : RM)], 1, [97]⟩ : NM)) h446 h450)) rfl fun w451 o452 => ?_
      clear Hz az; intro az Hz
      refine L (r_pick Hz rfl rfl rfl) Hz rfl ?_
      clear Hz az; intro az Hz
      refine L (r_mv Hz rfl) Hz rfl ?_
      clear Hz az; intro az Hz
      refine LT Hz rfl rfl (r_mv Hz rfl) rfl ?_
      clear Hz az; intro az Hz
      refine LT Hz rfl rfl (r_eqRI Hz rfl rfl) rfl ?_
      clear Hz az; intro az Hz
      refine L (r_pick Hz rfl rfl rfl) Hz rfl ?_
      clear Hz az; intro az Hz
      refine L (r_mv Hz rfl) Hz rfl ?_
      clear Hz az; intro az Hz
      have B453 := (Blk.k B439 o452)
      refine LT Hz rfl rfl (r_ldA Tryd.isAgg54 Tryd.sizeOf54 Hz rfl (Blk.ca B453) rfl) rfl ?_
      clear Hz az; intro az Hz
      have B454 := (Blk.k B435 o452)
      refine LT Hz rfl rfl (r_ldA Tryd.isAgg54 Tryd.sizeOf54 Hz rfl (Blk.ca B454) rfl) rfl ?_
      clear Hz az; intro az Hz
      have O455 : Only NoF w164 w451 := (Only.trans' O444 o452)
      have h456 := (SliceOf.kp sg169 O455 (fun _ _ h => h) (fun _ _ _ _ h => h))
      have h457 := SliceOf.pl h456
      have h458 := (SliceOf.kp (SliceOf.kp sg423 s434 (ge_F (oneF_lt hl412) (size_only o416)) (fun _ _ _ _ h => h)) o452 (fun _ _ h => h) (fun _ _ _ _ h => h))
      have h459 := SliceOf.pl h458
      refine LGV (v := .bool (true)) Hz rfl rfl gd_t rfl (fun hb => rfl) Tryd.call59 (fun hb => fix_eq (congrArg Value.bool (by unfold same; first | rfl | simp [same, right] : same (⟨2, 1, 4, A165, [⟨1, 7⟩], c166, [97]⟩ : NM) (⟨2, 1, 4, A419, [⟨1, 7⟩], c420, [97]⟩ : NM) = true)) (rSame_v (m := (⟨2, 1, 4, A165, [⟨1, 7⟩], c166, [97]⟩ : NM)) (m2 := (⟨2, 1, 4, A419, [⟨1, 7⟩], c420, [97]⟩ : NM)) h457 h459)) rfl fun w460 o461 => ?_
      clear Hz az; intro az Hz
      refine L (r_pick Hz rfl rfl rfl) Hz rfl ?_
      clear Hz az; intro az Hz
      refine L (r_as Hz rfl) Hz rfl ?_
      clear Hz az; intro az Hz
      refine hK436 _ _ ?_
      refine wp_seq_k fun K462 hK462 => ?_
      -- law.go:35
      refine wp_region_lit ?_
      refine L (r_mv Hz rfl) Hz rfl ?_
      clear Hz az; intro az Hz
      refine L (r_mv Hz rfl) Hz rfl ?_
      clear Hz az; intro az Hz
      have O464 := (Only.trans (Only.trans (Only.trans (Only.trans (Only.refl (fun _ => True) w103) s109 (fun _ _ => .inl trivial)) o115 (fun _ _ => .inl trivial)) s119 (fun _ _ => .inl trivial)) o123 (fun _ _ => .inl trivial))
      have ne463 : g102 ≠ g124 := (ne_of hl107 (Nat.le_trans (size_only O464) hg128))
      have O466 := (Only.trans (Only.trans (Only.trans (Only.trans (Only.trans (Only.trans (Only.trans (Only.trans (Only.trans (Only.trans (Only.refl (fun _ => True) w103) s109 (fun _ _ => .inl trivial)) o115 (fun _ _ => .inl trivial)) s119 (fun _ _ => .inl trivial)) o123 (fun _ _ => .inl trivial)) o126 (fun _ _ => .inl trivial)) s131 (fun _ _ => .inl trivial)) o137 (fun _ _ => .inl trivial)) s141 (fun _ _ => .inl trivial)) o162 (fun _ _ => .inl trivial)) o167 (fun _ _ => .inl trivial))
      have ne465 : g102 ≠ g172 := (ne_of hl107 (Nat.le_trans (size_only O466) hg176))
      have O468 := (Only.trans (Only.trans (Only.trans (Only.trans (Only.trans (Only.trans (Only.trans (Only.trans (Only.trans (Only.trans (Only.trans (Only.trans (Only.trans (Only.trans (Only.refl (fun _ => True) w103) s109 (fun _ _ => .inl trivial)) o115 (fun _ _ => .inl trivial)) s119 (fun _ _ => .inl trivial)) o123 (fun _ _ => .inl trivial)) o126 (fun _ _ => .inl trivial)) s131 (fun _ _ => .inl trivial)) o137 (fun _ _ => .inl trivial)) s141 (fun _ _ => .inl trivial)) o162 (fun _ _ => .inl trivial)) o167 (fun _ _ => .inl trivial)) o174 (fun _ _ => .inl trivial)) s179 (fun _ _ => .inl trivial)) o183 (fun _ _ => .inl trivial)) o188 (fun _ _ => .inl trivial))
      have ne467 : g102 ≠ g407 := (ne_of hl107 (Nat.le_trans (size_only O468) hg411))
      have B469 := (Blk.k (Blk.k (Blk.st (Blk.k (Blk.k (Blk.k (Blk.k (Blk.k (Blk.st (Blk.k (Blk.k (Blk.k (Blk.st (Blk.k (Blk.st (Blk.k (Blk.k B120 o123) o126) s131 ne463) o137) s141 ne463) o162) o167) o174) s179 ne465) o183) o188) o409) o416) o421) s434 ne467) o452) o461)
      refine LT Hz rfl rfl (r_ldA Tryd.isAgg54 Tryd.sizeOf54 Hz rfl (Blk.ca B469) rfl) rfl ?_
      clear Hz az; intro az Hz
      have h470 := Row.own KRef r114 ok116
      have h471 := SliceOf.rg h470
      have O472 := (Only.trans (Only.refl (fun _ => True) w103) s109 (fun _ _ => .inl trivial))
      have O473 : Only NoF w118 w164 := (Only.trans' (Only.trans' (o_sg (Only.trans' (o_sg (Only.trans' o123 o126) s131 (size_only o123) (oneF_ge hg128)) o137) s141 (size_only o123) (oneF_ge hg128)) o162) o167)
      have O474 : Only NoF w118 w187 := (Only.trans' (Only.trans' (o_sg (Only.trans' O473 o174) s179 (size_only O473) (oneF_ge hg176)) o183) o188)
      have O475 : Only NoF w118 w460 := (Only.trans' (Only.trans' (o_sg (Only.trans' (Only.trans' (Only.trans' (Only.trans' (Only.trans' (o_sg (Only.trans' (Only.trans' (Only.trans' (o_sg (Only.trans' (o_sg (Only.trans' o123 o126) s131 (size_only o123) (oneF_ge hg128)) o137) s141 (size_only o123) (oneF_ge hg128)) o162) o167) o174) s179 (size_only O473) (oneF_ge hg176)) o183) o188) o409) o416) o421) s434 (size_only O474) (oneF_ge hg411)) o452) o461)
      have h476 := (SliceOf.kp (SliceOf.kp h471 s119 (fun k hk => ge_F (oneF_lt hl107) (size_only O472) k hk.1) (fun _ _ _ _ h => h)) O475 (fun _ _ h => h) (fun _ _ _ _ h => h))
      have h477 := SliceOf.pl h476
      refine LGV (v := .bool (true)) Hz rfl rfl gd_t rfl (fun hb => rfl) Tryd.call62 (fun hb => fix_eq (congrArg Value.bool (by rfl : right (⟨2, 1, 4, A112, [(⟨2, 0⟩ : RM)], 1, []⟩ : NM) = true)) (Right_v (m := (⟨2, 1, 4, A112, [(⟨2, 0⟩ : RM)], 1, []⟩ : NM)) h477)) rfl fun w478 o479 => ?_
      clear Hz az; intro az Hz
      refine L (r_pick Hz rfl rfl rfl) Hz rfl ?_
      clear Hz az; intro az Hz
      refine L (r_mv Hz rfl) Hz rfl ?_
      clear Hz az; intro az Hz
      have O481 := (Only.trans (Only.trans (Only.trans (Only.trans (Only.trans (Only.refl (fun _ => True) w125) s131 (fun _ _ => .inl trivial)) o137 (fun _ _ => .inl trivial)) s141 (fun _ _ => .inl trivial)) o162 (fun _ _ => .inl trivial)) o167 (fun _ _ => .inl trivial))
      have ne480 : g124 ≠ g172 := (ne_of hl129 (Nat.le_trans (size_only O481) hg176))
      have O483 := (Only.trans (Only.trans (Only.trans (Only.trans (Only.trans (Only.trans (Only.trans (Only.trans (Only.trans (Only.refl (fun _ => True) w125) s131 (fun _ _ => .inl trivial)) o137 (fun _ _ => .inl trivial)) s141 (fun _ _ => .inl trivial)) o162 (fun _ _ => .inl trivial)) o167 (fun _ _ => .inl trivial)) o174 (fun _ _ => .inl trivial)) s179 (fun _ _ => .inl trivial)) o183 (fun _ _ => .inl trivial)) o188 (fun _ _ => .inl trivial))
      have ne482 : g124 ≠ g407 := (ne_of hl129 (Nat.le_trans (size_only O483) hg411))
      have B484 := (Blk.k (Blk.k (Blk.k (Blk.st (Blk.k (Blk.k (Blk.k (Blk.k (Blk.k (Blk.st (Blk.k (Blk.k (Blk.k B142 o162) o167) o174) s179 ne480) o183) o188) o409) o416) o421) s434 ne482) o452) o461) o479)
      refine LT Hz rfl rfl (r_ldA Tryd.isAgg54 Tryd.sizeOf54 Hz rfl (Blk.ca B484) rfl) rfl ?_
      clear Hz az; intro az Hz
      have h485 := Row.own KRef r136 ok138
      have h486 := SliceOf.rg h485
      have O487 := (Only.trans (Only.refl (fun _ => True) w125) s131 (fun _ _ => .inl trivial))
      have O488 : Only NoF w140 w478 := (Only.trans' (Only.trans' (Only.trans' O448 o452) o461) o479)
      have h489 := (SliceOf.kp (SliceOf.kp h486 s141 (fun k hk => ge_F (oneF_lt hl129) (size_only O487) k hk.1) (fun _ _ _ _ h => h)) O488 (fun _ _ h => h) (fun _ _ _ _ h => h))
      have h490 := SliceOf.pl h489
      refine LGV (v := .bool (false)) Hz rfl rfl gd_t rfl (fun hb => rfl) Tryd.call62 (fun hb => fix_eq (congrArg Value.bool (by rfl : right (⟨2, 1, 4, A134, [(⟨2, 1⟩ : RM)], 1, []⟩ : NM) = false)) (Right_v (m := (⟨2, 1, 4, A134, [(⟨2, 1⟩ : RM)], 1, []⟩ : NM)) h490)) rfl fun w491 o492 => ?_
      clear Hz az; intro az Hz
      refine LT Hz rfl rfl (r_not Hz rfl) rfl ?_
      clear Hz az; intro az Hz
      refine L (r_pick Hz rfl rfl rfl) Hz rfl ?_
      clear Hz az; intro az Hz
      refine L (r_mv Hz rfl) Hz rfl ?_
      clear Hz az; intro az Hz
      refine LGV (v := .agg #[.int .i64 (2), .int .i64 (1), .int .i64 (4), .slice none (0) 0, strV ([97])]) Hz rfl rfl gd_t rfl (fun hb => rfl) Tryd.call82 (fun hb => note_v _ 1 4 [97]) rfl fun w493 o494 => ?_
      clear Hz az; intro az Hz
      refine LGV (v := .agg #[.int .i64 (2), .int .i64 (1), .int .i64 (4), .slice none (0) 0, strV ([98])]) Hz rfl rfl gd_t rfl (fun hb => rfl) Tryd.call82 (fun hb => note_v _ 1 4 [98]) rfl fun w495 o496 => ?_
      clear Hz az; intro az Hz
      refine LGV (v := .bool (true)) Hz rfl rfl gd_t rfl (fun hb => rfl) Tryd.call65 (fun hb => fix_eq (congrArg Value.bool (by unfold convicts; first | rfl | simp [same, right] : convicts (⟨2, 1, 4, none, [], 0, [97]⟩ : NM) (⟨2, 1, 4, none, [], 0, [98]⟩ : NM) = true)) (Convicts_v (m := (⟨2, 1, 4, none, [], 0, [97]⟩ : NM)) (m2 := (⟨2, 1, 4, none, [], 0, [98]⟩ : NM)) (SliceOf.nil_ _ _ _) (SliceOf.nil_ _ _ _))) rfl fun w497 o498 => ?_
      clear Hz az; intro az Hz
      refine L (r_pick Hz rfl rfl rfl) Hz rfl ?_
      clear Hz az; intro az Hz
      refine L (r_mv Hz rfl) Hz rfl ?_
      clear Hz az; intro az Hz
      have B499 := (Blk.k (Blk.k (Blk.k (Blk.k (Blk.k (Blk.k B453 o461) o479) o492) o494) o496) o498)
      refine LT Hz rfl rfl (r_ldA Tryd.isAgg54 Tryd.sizeOf54 Hz rfl (Blk.ca B499) rfl) rfl ?_
      clear Hz az; intro az Hz
      have B500 := (Blk.k (Blk.k (Blk.k (Blk.k (Blk.k (Blk.k B454 o461) o479) o492) o494) o496) o498)
      refine LT Hz rfl rfl (r_ldA Tryd.isAgg54 Tryd.sizeOf54 Hz rfl (Blk.ca B500) rfl) rfl ?_
      clear Hz az; intro az Hz
      have O501 : Only NoF w164 w497 := (Only.trans' (Only.trans' (Only.trans' (Only.trans' (Only.trans' (Only.trans' O455 o461) o479) o492) o494) o496) o498)
      have h502 := (SliceOf.kp sg169 O501 (fun _ _ h => h) (fun _ _ _ _ h => h))
      have h503 := SliceOf.pl h502
      have O504 : Only NoF w451 w497 := (Only.trans' (Only.trans' (Only.trans' (Only.trans' (Only.trans' o461 o479) o492) o494) o496) o498)
      have h505 := (SliceOf.kp h458 O504 (fun _ _ h => h) (fun _ _ _ _ h => h))
      have h506 := SliceOf.pl h505
      refine LGV (v := .bool (false)) Hz rfl rfl gd_t rfl (fun hb => rfl) Tryd.call65 (fun hb => fix_eq (congrArg Value.bool (by unfold convicts; first | rfl | simp [same, right] : convicts (⟨2, 1, 4, A165, [⟨1, 7⟩], c166, [97]⟩ : NM) (⟨2, 1, 4, A419, [⟨1, 7⟩], c420, [97]⟩ : NM) = false)) (Convicts_v (m := (⟨2, 1, 4, A165, [⟨1, 7⟩], c166, [97]⟩ : NM)) (m2 := (⟨2, 1, 4, A419, [⟨1, 7⟩], c420, [97]⟩ : NM)) h503 h506)) rfl fun w507 o508 => ?_
      clear Hz az; intro az Hz
      refine LT Hz rfl rfl (r_not Hz rfl) rfl ?_
      clear Hz az; intro az Hz
      refine L (r_pick Hz rfl rfl rfl) Hz rfl ?_
      clear Hz az; intro az Hz
      refine L (r_mv Hz rfl) Hz rfl ?_
      clear Hz az; intro az Hz
      refine LGV (v := .agg #[.int .i64 (2), .int .i64 (1), .int .i64 (4), .slice none (0) 0, strV ([97])]) Hz rfl rfl gd_t rfl (fun hb => rfl) Tryd.call82 (fun hb => note_v _ 1 4 [97]) rfl fun w509 o510 => ?_
      clear Hz az; intro az Hz
      refine LGV (v := .agg #[.int .i64 (2), .int .i64 (2), .int .i64 (4), .slice none (0) 0, strV ([98])]) Hz rfl rfl gd_t rfl (fun hb => rfl) Tryd.call82 (fun hb => note_v _ 2 4 [98]) rfl fun w511 o512 => ?_
      clear Hz az; intro az Hz
      refine LGV (v := .bool (false)) Hz rfl rfl gd_t rfl (fun hb => rfl) Tryd.call65 (fun hb => fix_eq (congrArg Value.bool (by unfold convicts; first | rfl | simp [same, right] : convicts (⟨2, 1, 4, none, [], 0, [97]⟩ : NM) (⟨2, 2, 4, none, [], 0, [98]⟩ : NM) = false)) (Convicts_v (m := (⟨2, 1, 4, none, [], 0, [97]⟩ : NM)) (m2 := (⟨2, 2, 4, none, [], 0, [98]⟩ : NM)) (SliceOf.nil_ _ _ _) (SliceOf.nil_ _ _ _))) rfl fun w513 o514 => ?_
      clear Hz az; intro az Hz
      refine LT Hz rfl rfl (r_not Hz rfl) rfl ?_
      clear Hz az; intro az Hz
      refine L (r_pick Hz rfl rfl rfl) Hz rfl ?_
      clear Hz az; intro az Hz
      refine L (r_as Hz rfl) Hz rfl ?_
      clear Hz az; intro az Hz
      refine hK462 _ _ ?_
      refine wp_ret ?_
      show bodyPost _ _ _ .ret _ _
      refine ret_of (vs := [.bool (true)]) Hz Tryd.results50 ⟨rfl, trivial⟩ ?_
      have O515 : Only NoF w w187 := (Only.trans' (Only.trans' (o_sg (Only.trans' O426 o174) s179 (size_only O426) (oneF_ge hg176)) o183) o188)
      have O516 : Only NoF w w513 := (Only.trans' (Only.trans' (Only.trans' (Only.trans' (Only.trans' (Only.trans' (Only.trans' (Only.trans' (Only.trans' (Only.trans' (Only.trans' (o_sg (Only.trans' O427 o421) s434 (size_only O515) (oneF_ge hg411)) o452) o461) o479) o492) o494) o496) o498) o508) o510) o512) o514)
      exact ⟨rfl, O516⟩
  · -- 8 first
    obtain ⟨g517, w518, hw, hA, hg521, hl522, o519, B520⟩ := newBlk (w := w182) (e := 54) (cs := [.int .i64 (0), .int .i64 (0), .int .i64 (0), .slice none (0) 0, strV ([])])
    refine Pl.MD (r_al (v := .agg #[.int .i64 (0), .int .i64 (0), .int .i64 (0), .slice none (0) 0, strV ([])]) Tryd.zeroValue54 rfl) Hz rfl rfl ?_ ?_
    · rw [← hw]; exact ⟨fun _ => o519, (Only.trans (Only.refl NoF w182) o519 (fun _ h => h.elim))⟩
    rw [← hw, ← hA]; clear Hz az; intro az Hz
    clear hw hA
    refine Pl.MSV (v := .agg #[.int .i64 (2), .int .i64 (0), .int .i64 (4), .slice none (0) 0, strV ([])]) Hz rfl rfl rfl Tryd.call82 (note_v _ 0 4 []) rfl (fun w' o' => ⟨fun _ => (Only.trans' o519 o'), (Only.trans (Only.trans (Only.refl NoF w182) o519 (fun _ h => h.elim)) o' (fun _ h => h.elim))⟩) fun w523 o524 => ?_
    clear Hz az; intro az Hz
    obtain ⟨A525, w526, hw, hA, r527, o528⟩ := Row.made (w := w523) (KNote w) (e := 54) ([(⟨2, 0, 4, none, [], 0, []⟩ : NM)] : List NM) (by simp only [List.length_cons, List.length_nil]; unfold maxLen; omega)
    refine Pl.MD (r_bs (z := .agg #[.int .i64 (0), .int .i64 (0), .int .i64 (0), .slice none (0) 0, strV ([])]) (size := 5) (vs := [(0, .agg #[.int .i64 (2), .int .i64 (0), .int .i64 (4), .slice none (0) 0, strV ([])])]) (cs := List.flatMap (KNote w).cells [(⟨2, 0, 4, none, [], 0, []⟩ : NM)]) Tryd.underlying51 Tryd.sizeOf54 Tryd.zeroValue54 rfl (Fr.evalps Hz rfl) (by kernel_rfl)) Hz rfl rfl ?_ ?_
    · rw [← hw]; exact ⟨fun _ => (Only.trans' (Only.trans' o519 o524) o528), (Only.trans (Only.trans (Only.trans (Only.refl NoF w182) o519 (fun _ h => h.elim)) o524 (fun _ h => h.elim)) o528 (fun _ h => h.elim))⟩
    rw [← hw, ← hA]; clear Hz az; intro az Hz
    clear hw hA
    have ok529 : ∀ zq ∈ ([(⟨2, 0, 4, none, [], 0, []⟩ : NM)] : List NM), (KNote w).ok zq := by intro zq hx; simp only [List.mem_cons, List.not_mem_nil, or_false] at hx; rcases hx with rfl <;> first | exact ⟨(by show I64 (2); unfold I64; omega), (by show I64 (0); unfold I64; omega), (by show I64 (4); unfold I64; omega), (SliceOf.nil_ _ _ _), (by show List.length ([] : Str) ≤ maxLen; unfold maxLen; decide)⟩
    have h536 := Row.own (KNote w) r527 ok529
    have h537 := SliceOf.pl h536
    have O538 : Only NoF w w164 := (Only.trans' O171 o167)
    have O539 : Only NoF w w526 := (Only.trans' (Only.trans' (Only.trans' (Only.trans' (o_sg (Only.trans' (Only.trans' O171 o167) o174) s179 (size_only O538) (oneF_ge hg176)) o183) o519) o524) o528)
    have O540 : Only NoF w140 w164 := (Only.trans' o162 o167)
    have O541 : Only NoF w140 w526 := (Only.trans' (Only.trans' (Only.trans' (Only.trans' (o_sg (Only.trans' (Only.trans' o162 o167) o174) s179 (size_only O540) (oneF_ge hg176)) o183) o519) o524) o528)
    have h542 := (SliceOf.kp h159 O541 (fun _ _ h => h) (fun _ _ _ _ h => h))
    have h543 := SliceOf.pl h542
    refine Pl.MSC Hz rfl rfl rfl Tryd.call53 (sm_next_v (notes_up h537 O539) h543) rfl ?_
    rintro e w530 ⟨A531, c532, rfl, o533, ok534, sg535⟩
    refine ⟨_, rfl, ⟨fun _ => (Only.trans' (Only.trans' (Only.trans' o519 o524) o528) o533), (Only.trans (Only.trans (Only.trans (Only.trans (Only.refl NoF w182) o519 (fun _ h => h.elim)) o524 (fun _ h => h.elim)) o528 (fun _ h => h.elim)) o533 (fun _ h => h.elim))⟩, ?_⟩
    clear Hz az; intro az Hz
    refine Pl.MSP (b := true) (by kernel_rfl) (fun W oW => r_mv Hz rfl) Hz rfl rfl ?_
    clear Hz az; intro az Hz
    refine Pl.MSP (b := true) (by kernel_rfl) (fun W oW => r_ex Hz rfl rfl) Hz rfl rfl ?_
    clear Hz az; intro az Hz
    refine Pl.MSP (b := false) (by kernel_rfl) (fun W oW => r_ex Hz rfl rfl) Hz rfl rfl ?_
    clear Hz az; intro az Hz
    have B544 := (Blk.k (Blk.k (Blk.k B520 o524) o528) o533)
    refine Pl.MSS (cs' := [.int .i64 (2), .int .i64 (1), .int .i64 (4), .slice A531 (1) c532, strV ([97])]) Tryd.sizeOf54 Hz rfl rfl rfl rfl rfl rfl ⟨rfl, rfl, rfl, rfl, rfl, trivial⟩ B544 rfl rfl fun w545 s546 B547 => ?_
    refine ⟨⟨fun h => absurd h (by decide), (Only.trans (Only.trans (Only.trans (Only.trans (Only.trans (Only.refl NoF w182) o519 (fun _ h => h.elim)) o524 (fun _ h => h.elim)) o528 (fun _ h => h.elim)) o533 (fun _ h => h.elim)) s546 (fun k h => .inr (Nat.le_trans (Nat.le_refl _) ((oneF_ge hg521) k h))))⟩, ?_⟩
    refine Pl.MSP (b := false) (by kernel_rfl) (fun W oW => r_as Hz rfl) Hz rfl rfl ?_
    clear Hz az; intro az Hz
    refine wpPl_nil ?_
    refine hK181 _ _ ?_
    refine wp_seq_k fun K548 hK548 => ?_
    -- law.go:34
    refine wp_region_lit ?_
    refine L (r_mv Hz rfl) Hz rfl ?_
    clear Hz az; intro az Hz
    refine L (r_mv Hz rfl) Hz rfl ?_
    clear Hz az; intro az Hz
    refine LT Hz rfl rfl (r_mv Hz rfl) rfl ?_
    clear Hz az; intro az Hz
    refine LT Hz rfl rfl (r_eqRS Hz rfl rfl) rfl ?_
    clear Hz az; intro az Hz
    refine L (r_pick Hz rfl rfl rfl) Hz rfl ?_
    clear Hz az; intro az Hz
    refine L (r_mv Hz rfl) Hz rfl ?_
    clear Hz az; intro az Hz
    refine LT Hz rfl rfl (r_mv Hz rfl) rfl ?_
    clear Hz az; intro az Hz
    refine L (r_pick Hz rfl rfl rfl) Hz rfl ?_
    clear Hz az; intro az Hz
    refine L (r_mv Hz rfl) Hz rfl ?_
    clear Hz az; intro az Hz
    have O550 := (Only.trans (Only.trans (Only.refl (fun _ => True) w173) s179 (fun _ _ => .inl trivial)) o183 (fun _ _ => .inl trivial))
    have ne549 : g172 ≠ g517 := (ne_of hl177 (Nat.le_trans (size_only O550) hg521))
    have B551 := (Blk.st (Blk.k (Blk.k (Blk.k (Blk.k (Blk.k B180 o183) o519) o524) o528) o533) s546 ne549)
    refine LT Hz rfl rfl (r_ldA Tryd.isAgg54 Tryd.sizeOf54 Hz rfl (Blk.ca B551) rfl) rfl ?_
    clear Hz az; intro az Hz
    have O553 := (Only.trans (Only.trans (Only.trans (Only.trans (Only.trans (Only.trans (Only.trans (Only.trans (Only.trans (Only.trans (Only.trans (Only.trans (Only.trans (Only.trans (Only.trans (Only.trans (Only.trans (Only.trans (Only.refl (fun _ => True) w81) s87 (fun _ _ => .inl trivial)) o93 (fun _ _ => .inl trivial)) s97 (fun _ _ => .inl trivial)) o101 (fun _ _ => .inl trivial)) o104 (fun _ _ => .inl trivial)) s109 (fun _ _ => .inl trivial)) o115 (fun _ _ => .inl trivial)) s119 (fun _ _ => .inl trivial)) o123 (fun _ _ => .inl trivial)) o126 (fun _ _ => .inl trivial)) s131 (fun _ _ => .inl trivial)) o137 (fun _ _ => .inl trivial)) s141 (fun _ _ => .inl trivial)) o162 (fun _ _ => .inl trivial)) o167 (fun _ _ => .inl trivial)) o174 (fun _ _ => .inl trivial)) s179 (fun _ _ => .inl trivial)) o183 (fun _ _ => .inl trivial))
    have ne552 : g80 ≠ g517 := (ne_of hl85 (Nat.le_trans (size_only O553) hg521))
    have B554 := (Blk.st (Blk.k (Blk.k (Blk.k (Blk.k B186 o519) o524) o528) o533) s546 ne552)
    refine LT Hz rfl rfl (r_ldA Tryd.isAgg54 Tryd.sizeOf54 Hz rfl (Blk.ca B554) rfl) rfl ?_
    clear Hz az; intro az Hz
    have O555 : Only NoF w164 w182 := (Only.trans' (o_sg o174 s179 (Nat.le_refl _) (oneF_ge hg176)) o183)
    have O556 : Only NoF w164 w545 := (o_sg (Only.trans' (Only.trans' (Only.trans' (Only.trans' (Only.trans' (o_sg o174 s179 (Nat.le_refl _) (oneF_ge hg176)) o183) o519) o524) o528) o533) s546 (size_only O555) (oneF_ge hg521))
    have h557 := (SliceOf.kp sg169 O556 (fun _ _ h => h) (fun _ _ _ _ h => h))
    have h558 := SliceOf.pl h557
    have O559 : Only NoF w140 w182 := (Only.trans' (o_sg (Only.trans' O540 o174) s179 (size_only O540) (oneF_ge hg176)) o183)
    have O560 : Only NoF w140 w545 := (o_sg (Only.trans' O541 o533) s546 (size_only O559) (oneF_ge hg521))
    have h561 := (SliceOf.kp h159 O560 (fun _ _ h => h) (fun _ _ _ _ h => h))
    have h562 := SliceOf.pl h561
    refine LGV (v := .bool (true)) Hz rfl rfl gd_t rfl (fun hb => rfl) Tryd.call59 (fun hb => fix_eq (congrArg Value.bool (by unfold same; first | rfl | simp [same, right] : same (⟨2, 1, 4, A165, [⟨1, 7⟩], c166, [97]⟩ : NM) (⟨2, 1, 4, A90, [(⟨1, 7⟩ : RM)], 1, [97]⟩ : NM) = true)) (rSame_v (m := (⟨2, 1, 4, A165, [⟨1, 7⟩], c166, [97]⟩ : NM)) (m2 := (⟨2, 1, 4, A90, [(⟨1, 7⟩ : RM)], 1, [97]⟩ : NM)) h558 h562)) rfl fun w563 o564 => ?_
    clear Hz az; intro az Hz
    refine L (r_pick Hz rfl rfl rfl) Hz rfl ?_
    clear Hz az; intro az Hz
    refine L (r_mv Hz rfl) Hz rfl ?_
    clear Hz az; intro az Hz
    refine LT Hz rfl rfl (r_mv Hz rfl) rfl ?_
    clear Hz az; intro az Hz
    refine LT Hz rfl rfl (r_eqRI Hz rfl rfl) rfl ?_
    clear Hz az; intro az Hz
    refine L (r_pick Hz rfl rfl rfl) Hz rfl ?_
    clear Hz az; intro az Hz
    refine L (r_mv Hz rfl) Hz rfl ?_
    clear Hz az; intro az Hz
    have B565 := (Blk.k B551 o564)
    refine LT Hz rfl rfl (r_ldA Tryd.isAgg54 Tryd.sizeOf54 Hz rfl (Blk.ca B565) rfl) rfl ?_
    clear Hz az; intro az Hz
    have B566 := (Blk.k B547 o564)
    refine LT Hz rfl rfl (r_ldA Tryd.isAgg54 Tryd.sizeOf54 Hz rfl (Blk.ca B566) rfl) rfl ?_
    clear Hz az; intro az Hz
    have O567 : Only NoF w164 w563 := (Only.trans' O556 o564)
    have h568 := (SliceOf.kp sg169 O567 (fun _ _ h => h) (fun _ _ _ _ h => h))
    have h569 := SliceOf.pl h568
    have O570 : Only NoF w518 w526 := (Only.trans' o524 o528)
    have h571 := (SliceOf.kp (SliceOf.kp sg535 s546 (ge_F (oneF_lt hl522) (size_only O570)) (fun _ _ _ _ h => h)) o564 (fun _ _ h => h) (fun _ _ _ _ h => h))
    have h572 := SliceOf.pl h571
    refine LGV (v := .bool (true)) Hz rfl rfl gd_t rfl (fun hb => rfl) Tryd.call59 (fun hb => fix_eq (congrArg Value.bool (by unfold same; first | rfl | simp [same, right] : same (⟨2, 1, 4, A165, [⟨1, 7⟩], c166, [97]⟩ : NM) (⟨2, 1, 4, A531, [⟨1, 7⟩], c532, [97]⟩ : NM) = true)) (rSame_v (m := (⟨2, 1, 4, A165, [⟨1, 7⟩], c166, [97]⟩ : NM)) (m2 := (⟨2, 1, 4, A531, [⟨1, 7⟩], c532, [97]⟩ : NM)) h569 h572)) rfl fun w573 o574 => ?_
    clear Hz az; intro az Hz
    refine L (r_pick Hz rfl rfl rfl) Hz rfl ?_
    clear Hz az; intro az Hz
    refine L (r_as Hz rfl) Hz rfl ?_
    clear Hz az; intro az Hz
    refine hK548 _ _ ?_
    refine wp_seq_k fun K575 hK575 => ?_
    -- law.go:35
    refine wp_region_lit ?_
    refine L (r_mv Hz rfl) Hz rfl ?_
    clear Hz az; intro az Hz
    refine L (r_mv Hz rfl) Hz rfl ?_
    clear Hz az; intro az Hz
    have O577 := (Only.trans (Only.trans (Only.trans (Only.trans (Only.refl (fun _ => True) w103) s109 (fun _ _ => .inl trivial)) o115 (fun _ _ => .inl trivial)) s119 (fun _ _ => .inl trivial)) o123 (fun _ _ => .inl trivial))
    have ne576 : g102 ≠ g124 := (ne_of hl107 (Nat.le_trans (size_only O577) hg128))
    have O579 := (Only.trans (Only.trans (Only.trans (Only.trans (Only.trans (Only.trans (Only.trans (Only.trans (Only.trans (Only.trans (Only.refl (fun _ => True) w103) s109 (fun _ _ => .inl trivial)) o115 (fun _ _ => .inl trivial)) s119 (fun _ _ => .inl trivial)) o123 (fun _ _ => .inl trivial)) o126 (fun _ _ => .inl trivial)) s131 (fun _ _ => .inl trivial)) o137 (fun _ _ => .inl trivial)) s141 (fun _ _ => .inl trivial)) o162 (fun _ _ => .inl trivial)) o167 (fun _ _ => .inl trivial))
    have ne578 : g102 ≠ g172 := (ne_of hl107 (Nat.le_trans (size_only O579) hg176))
    have O581 := (Only.trans (Only.trans (Only.trans (Only.trans (Only.trans (Only.trans (Only.trans (Only.trans (Only.trans (Only.trans (Only.trans (Only.trans (Only.trans (Only.refl (fun _ => True) w103) s109 (fun _ _ => .inl trivial)) o115 (fun _ _ => .inl trivial)) s119 (fun _ _ => .inl trivial)) o123 (fun _ _ => .inl trivial)) o126 (fun _ _ => .inl trivial)) s131 (fun _ _ => .inl trivial)) o137 (fun _ _ => .inl trivial)) s141 (fun _ _ => .inl trivial)) o162 (fun _ _ => .inl trivial)) o167 (fun _ _ => .inl trivial)) o174 (fun _ _ => .inl trivial)) s179 (fun _ _ => .inl trivial)) o183 (fun _ _ => .inl trivial))
    have ne580 : g102 ≠ g517 := (ne_of hl107 (Nat.le_trans (size_only O581) hg521))
    have B582 := (Blk.k (Blk.k (Blk.st (Blk.k (Blk.k (Blk.k (Blk.k (Blk.k (Blk.st (Blk.k (Blk.k (Blk.k (Blk.st (Blk.k (Blk.st (Blk.k (Blk.k B120 o123) o126) s131 ne576) o137) s141 ne576) o162) o167) o174) s179 ne578) o183) o519) o524) o528) o533) s546 ne580) o564) o574)
    refine LT Hz rfl rfl (r_ldA Tryd.isAgg54 Tryd.sizeOf54 Hz rfl (Blk.ca B582) rfl) rfl ?_
    clear Hz az; intro az Hz
    have h583 := Row.own KRef r114 ok116
    have h584 := SliceOf.rg h583
    have O585 := (Only.trans (Only.refl (fun _ => True) w103) s109 (fun _ _ => .inl trivial))
    have O586 : Only NoF w118 w164 := (Only.trans' (Only.trans' (o_sg (Only.trans' (o_sg (Only.trans' o123 o126) s131 (size_only o123) (oneF_ge hg128)) o137) s141 (size_only o123) (oneF_ge hg128)) o162) o167)
    have O587 : Only NoF w118 w182 := (Only.trans' (o_sg (Only.trans' O586 o174) s179 (size_only O586) (oneF_ge hg176)) o183)
    have O588 : Only NoF w118 w573 := (Only.trans' (Only.trans' (o_sg (Only.trans' (Only.trans' (Only.trans' (Only.trans' (Only.trans' (o_sg (Only.trans' (Only.trans' (Only.trans' (o_sg (Only.trans' (o_sg (Only.trans' o123 o126) s131 (size_only o123) (oneF_ge hg128)) o137) s141 (size_only o123) (oneF_ge hg128)) o162) o167) o174) s179 (size_only O586) (oneF_ge hg176)) o183) o519) o524) o528) o533) s546 (size_only O587) (oneF_ge hg521)) o564) o574)
    have h589 := (SliceOf.kp (SliceOf.kp h584 s119 (fun k hk => ge_F (oneF_lt hl107) (size_only O585) k hk.1) (fun _ _ _ _ h => h)) O588 (fun _ _ h => h) (fun _ _ _ _ h => h))
    have h590 := SliceOf.pl h589
    refine LGV (v := .bool (true)) Hz rfl rfl gd_t rfl (fun hb => rfl) Tryd.call62 (fun hb => fix_eq (congrArg Value.bool (by rfl : right (⟨2, 1, 4, A112, [(⟨2, 0⟩ : RM)], 1, []⟩ : NM) = true)) (Right_v (m := (⟨2, 1, 4, A112, [(⟨2, 0⟩ : RM)], 1, []⟩ : NM)) h590)) rfl fun w591 o592 => ?_
    clear Hz az; intro az Hz
    refine L (r_pick Hz rfl rfl rfl) Hz rfl ?_
    clear Hz az; intro az Hz
    refine L (r_mv Hz rfl) Hz rfl ?_
    clear Hz az; intro az Hz
    have O594 := (Only.trans (Only.trans (Only.trans (Only.trans (Only.trans (Only.refl (fun _ => True) w125) s131 (fun _ _ => .inl trivial)) o137 (fun _ _ => .inl trivial)) s141 (fun _ _ => .inl trivial)) o162 (fun _ _ => .inl trivial)) o167 (fun _ _ => .inl trivial))
    have ne593 : g124 ≠ g172 := (ne_of hl129 (Nat.le_trans (size_only O594) hg176))
    have O596 := (Only.trans (Only.trans (Only.trans (Only.trans (Only.trans (Only.trans (Only.trans (Only.trans (Only.refl (fun _ => True) w125) s131 (fun _ _ => .inl trivial)) o137 (fun _ _ => .inl trivial)) s141 (fun _ _ => .inl trivial)) o162 (fun _ _ => .inl trivial)) o167 (fun _ _ => .inl trivial)) o174 (fun _ _ => .inl trivial)) s179 (fun _ _ => .inl trivial)) o183 (fun _ _ => .inl trivial))
    have ne595 : g124 ≠ g517 := (ne_of hl129 (Nat.le_trans (size_only O596) hg521))
    have B597 := (Blk.k (Blk.k (Blk.k (Blk.st (Blk.k (Blk.k (Blk.k (Blk.k (Blk.k (Blk.st (Blk.k (Blk.k (Blk.k B142 o162) o167) o174) s179 ne593) o183) o519) o524) o528) o533) s546 ne595) o564) o574) o592)
    refine LT Hz rfl rfl (r_ldA Tryd.isAgg54 Tryd.sizeOf54 Hz rfl (Blk.ca B597) rfl) rfl ?_
    clear Hz az; intro az Hz
    have h598 := Row.own KRef r136 ok138
    have h599 := SliceOf.rg h598
    have O600 := (Only.trans (Only.refl (fun _ => True) w125) s131 (fun _ _ => .inl trivial))
    have O601 : Only NoF w140 w591 := (Only.trans' (Only.trans' (Only.trans' O560 o564) o574) o592)
    have h602 := (SliceOf.kp (SliceOf.kp h599 s141 (fun k hk => ge_F (oneF_lt hl129) (size_only O600) k hk.1) (fun _ _ _ _ h => h)) O601 (fun _ _ h => h) (fun _ _ _ _ h => h))
    have h603 := SliceOf.pl h602
    refine LGV (v := .bool (false)) Hz rfl rfl gd_t rfl (fun hb => rfl) Tryd.call62 (fun hb => fix_eq (congrArg Value.bool (by rfl : right (⟨2, 1, 4, A134, [(⟨2, 1⟩ : RM)], 1, []⟩ : NM) = false)) (Right_v (m := (⟨2, 1, 4, A134, [(⟨2, 1⟩ : RM)], 1, []⟩ : NM)) h603)) rfl fun w604 o605 => ?_
    clear Hz az; intro az Hz
    refine LT Hz rfl rfl (r_not Hz rfl) rfl ?_
    clear Hz az; intro az Hz
    refine L (r_pick Hz rfl rfl rfl) Hz rfl ?_
    clear Hz az; intro az Hz
    refine L (r_mv Hz rfl) Hz rfl ?_
    clear Hz az; intro az Hz
    refine LGV (v := .agg #[.int .i64 (2), .int .i64 (1), .int .i64 (4), .slice none (0) 0, strV ([97])]) Hz rfl rfl gd_t rfl (fun hb => rfl) Tryd.call82 (fun hb => note_v _ 1 4 [97]) rfl fun w606 o607 => ?_
    clear Hz az; intro az Hz
    refine LGV (v := .agg #[.int .i64 (2), .int .i64 (1), .int .i64 (4), .slice none (0) 0, strV ([98])]) Hz rfl rfl gd_t rfl (fun hb => rfl) Tryd.call82 (fun hb => note_v _ 1 4 [98]) rfl fun w608 o609 => ?_
    clear Hz az; intro az Hz
    refine LGV (v := .bool (true)) Hz rfl rfl gd_t rfl (fun hb => rfl) Tryd.call65 (fun hb => fix_eq (congrArg Value.bool (by unfold convicts; first | rfl | simp [same, right] : convicts (⟨2, 1, 4, none, [], 0, [97]⟩ : NM) (⟨2, 1, 4, none, [], 0, [98]⟩ : NM) = true)) (Convicts_v (m := (⟨2, 1, 4, none, [], 0, [97]⟩ : NM)) (m2 := (⟨2, 1, 4, none, [], 0, [98]⟩ : NM)) (SliceOf.nil_ _ _ _) (SliceOf.nil_ _ _ _))) rfl fun w610 o611 => ?_
    clear Hz az; intro az Hz
    refine L (r_pick Hz rfl rfl rfl) Hz rfl ?_
    clear Hz az; intro az Hz
    refine L (r_mv Hz rfl) Hz rfl ?_
    clear Hz az; intro az Hz
    have B612 := (Blk.k (Blk.k (Blk.k (Blk.k (Blk.k (Blk.k B565 o574) o592) o605) o607) o609) o611)
    refine LT Hz rfl rfl (r_ldA Tryd.isAgg54 Tryd.sizeOf54 Hz rfl (Blk.ca B612) rfl) rfl ?_
    clear Hz az; intro az Hz
    have B613 := (Blk.k (Blk.k (Blk.k (Blk.k (Blk.k (Blk.k B566 o574) o592) o605) o607) o609) o611)
    refine LT Hz rfl rfl (r_ldA Tryd.isAgg54 Tryd.sizeOf54 Hz rfl (Blk.ca B613) rfl) rfl ?_
    clear Hz az; intro az Hz
    have O614 : Only NoF w164 w610 := (Only.trans' (Only.trans' (Only.trans' (Only.trans' (Only.trans' (Only.trans' O567 o574) o592) o605) o607) o609) o611)
    have h615 := (SliceOf.kp sg169 O614 (fun _ _ h => h) (fun _ _ _ _ h => h))
    have h616 := SliceOf.pl h615
    have O617 : Only NoF w563 w610 := (Only.trans' (Only.trans' (Only.trans' (Only.trans' (Only.trans' o574 o592) o605) o607) o609) o611)
    have h618 := (SliceOf.kp h571 O617 (fun _ _ h => h) (fun _ _ _ _ h => h))
    have h619 := SliceOf.pl h618
    refine LGV (v := .bool (false)) Hz rfl rfl gd_t rfl (fun hb => rfl) Tryd.call65 (fun hb => fix_eq (congrArg Value.bool (by unfold convicts; first | rfl | simp [same, right] : convicts (⟨2, 1, 4, A165, [⟨1, 7⟩], c166, [97]⟩ : NM) (⟨2, 1, 4, A531, [⟨1, 7⟩], c532, [97]⟩ : NM) = false)) (Convicts_v (m := (⟨2, 1, 4, A165, [⟨1, 7⟩], c166, [97]⟩ : NM)) (m2 := (⟨2, 1, 4, A531, [⟨1, 7⟩], c532, [97]⟩ : NM)) h616 h619)) rfl fun w620 o621 => ?_
    clear Hz az; intro az Hz
    refine LT Hz rfl rfl (r_not Hz rfl) rfl ?_
    clear Hz az; intro az Hz
    refine L (r_pick Hz rfl rfl rfl) Hz rfl ?_
    clear Hz az; intro az Hz
    refine L (r_mv Hz rfl) Hz rfl ?_
    clear Hz az; intro az Hz
    refine LGV (v := .agg #[.int .i64 (2), .int .i64 (1), .int .i64 (4), .slice none (0) 0, strV ([97])]) Hz rfl rfl gd_t rfl (fun hb => rfl) Tryd.call82 (fun hb => note_v _ 1 4 [97]) rfl fun w622 o623 => ?_
    clear Hz az; intro az Hz
    refine LGV (v := .agg #[.int .i64 (2), .int .i64 (2), .int .i64 (4), .slice none (0) 0, strV ([98])]) Hz rfl rfl gd_t rfl (fun hb => rfl) Tryd.call82 (fun hb => note_v _ 2 4 [98]) rfl fun w624 o625 => ?_
    clear Hz az; intro az Hz
    refine LGV (v := .bool (false)) Hz rfl rfl gd_t rfl (fun hb => rfl) Tryd.call65 (fun hb => fix_eq (congrArg Value.bool (by unfold convicts; first | rfl | simp [same, right] : convicts (⟨2, 1, 4, none, [], 0, [97]⟩ : NM) (⟨2, 2, 4, none, [], 0, [98]⟩ : NM) = false)) (Convicts_v (m := (⟨2, 1, 4, none, [], 0, [97]⟩ : NM)) (m2 := (⟨2, 2, 4, none, [], 0, [98]⟩ : NM)) (SliceOf.nil_ _ _ _) (SliceOf.nil_ _ _ _))) rfl fun w626 o627 => ?_
    clear Hz az; intro az Hz
    refine LT Hz rfl rfl (r_not Hz rfl) rfl ?_
    clear Hz az; intro az Hz
    refine L (r_pick Hz rfl rfl rfl) Hz rfl ?_
    clear Hz az; intro az Hz
    refine L (r_as Hz rfl) Hz rfl ?_
    clear Hz az; intro az Hz
    refine hK575 _ _ ?_
    refine wp_ret ?_
    show bodyPost _ _ _ .ret _ _
    refine ret_of (vs := [.bool (true)]) Hz Tryd.results50 ⟨rfl, trivial⟩ ?_
    have O628 : Only NoF w w182 := (Only.trans' (o_sg (Only.trans' O538 o174) s179 (size_only O538) (oneF_ge hg176)) o183)
    have O629 : Only NoF w w626 := (Only.trans' (Only.trans' (Only.trans' (Only.trans' (Only.trans' (Only.trans' (Only.trans' (Only.trans' (Only.trans' (Only.trans' (Only.trans' (o_sg (Only.trans' O539 o533) s546 (size_only O628) (oneF_ge hg521)) o564) o574) o592) o605) o607) o609) o611) o621) o623) o625) o627)
    exact ⟨rfl, O629⟩
end Go.Proofs.YtgmnoianhonihaaDoor
