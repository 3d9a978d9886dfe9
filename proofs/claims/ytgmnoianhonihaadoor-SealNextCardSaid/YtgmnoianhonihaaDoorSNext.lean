/-
  SealNext, walked: it returns true. No condition but the listed variables.
-/
import Derived.Test.YtgmnoianhonihaaDoorSBack
import Derived.Test.YtgmnoianhonihaaDoorSLess
namespace Go.Proofs.YtgmnoianhonihaaDoor
set_option linter.unusedVariables false
set_option linter.unusedSimpArgs false
set_option linter.unusedSectionVars false
open Go.RowKit

theorem r_neB {P : Program} {w : World} {n : Nat} {l : List (Nat × Value)} {a : Act} {dst : Option Tmp} {ty : TypeId} {pos : String} {aft : Array Edge} {g : Option (Nat × Bool)} {x y : Operand} {t yt : TypeId} {b c : Bool} (hu : P.underlying t = some .bool) (H : Fr n l a) (hx : ev l x = some (.bool b)) (hy : ev l y = some (.bool c)) : (execOp a.eval ⟨dst, .binOp .neq t x y yt, ty, pos, aft, g⟩).run P w = .ok (.value (.bool (!decide (b = c)))) w := by
  have h : (binOp .neq t (.bool b) (.bool c)).run P w = .ok (.bool (!decide (b = c))) w := by
    have := eq_bool (P := P) (w := w) (t := t) (b := b) (c := c) hu
    simp only [binOp, Sem.run_bind, this, Result.andThen_ok]
    simp
    cases b <;> cases c <;> rfl
  simp [execOp, H.eval hx, H.eval hy, eqGuard, h]
theorem next_n {w : World} {v v2 : Value} {l : List NM} (f1 : NotesV w w v l) {q : List RM} (f2 : RefsV w v2 q) {h d : Int} (hh : I64 h) (hd : I64 d) {t : Str} (ht : t.length ≤ maxLen) (hl : l.length ≤ 1000) (hq : q.length ≤ 1000) {E : Int} (hE : check (l ++ [(⟨h, ((l.length : Nat) : Int), d, none, q, 0, t⟩ : NM)]) = E) (hz : E ≠ 0) : Calls Tryd.prog 53 [v, .int .i64 h, .int .i64 d, v2, strV t].toArray w (Fix (.tuple #[.agg #[.int .i64 0, .int .i64 0, .int .i64 0, .slice none 0 0, strV []], .int .i64 E]) w) := by
  refine (Next_v f1 f2 hh hd ht hl hq).mono ?_
  rintro e w' ⟨v, rfl, o, h | h⟩
  · obtain ⟨_, rfl⟩ := h
    exact ⟨by rw [hE], o⟩
  · exact absurd (hE.symm.trans h.1) hz
theorem next_y {w : World} {v v2 : Value} {l : List NM} (f1 : NotesV w w v l) {q : List RM} (f2 : RefsV w v2 q) {h d : Int} (hh : I64 h) (hd : I64 d) {t : Str} (ht : t.length ≤ maxLen) (hl : l.length ≤ 1000) (hq : q.length ≤ 1000) (hz : check (l ++ [(⟨h, ((l.length : Nat) : Int), d, none, q, 0, t⟩ : NM)]) = 0) : Calls Tryd.prog 53 [v, .int .i64 h, .int .i64 d, v2, strV t].toArray w (NoteT ⟨h, ((l.length : Nat) : Int), d, none, q, 0, t⟩ (.int .i64 0) w) := by
  refine (Next_v f1 f2 hh hd ht hl hq).mono ?_
  rintro e w' ⟨v, rfl, o, h | h⟩
  · exact absurd hz h.1
  · obtain ⟨_, ⟨mh, mn, md, A, ml, c, ms⟩, rfl, h1, h2, h3, h4, h5, ok, sg⟩ := h
    simp only at h1 h2 h3 h4 h5
    subst h1 h2 h3 h4 h5
    exact ⟨A, c, by rw [hz], o, ok, sg⟩
/-! ### the law: a chain and one note more -/
def lastD : Int → List NM → Int
  | d, [] => d
  | _, m :: l => lastD m.d l
theorem chk_app1 {h0 : Int} {x : NM} : ∀ (l : List NM) (i : Nat) (d : Int), chk h0 i d (l ++ [x]) = 0 ↔ chk h0 i d l = 0 ∧ right x = true ∧ x.h = h0 ∧ x.n = ((i + l.length : Nat) : Int) ∧ lastD d l ≤ x.d
  | [], i, d => by
    show (if right x = false then 1 else if x.h ≠ h0 then 19 else if (i : Int) < x.n then 21 else if x.n < (i : Int) then 5 else if x.d < d then 18 else (0 : Int)) = 0 ↔ (0 : Int) = 0 ∧ _
    simp only [lastD, List.length_nil, Nat.add_zero]
    by_cases h1 : right x = false
    · simp [h1]
    rw [if_neg h1]
    by_cases h2 : x.h ≠ h0
    · rw [if_pos h2]; simp [h2]
    rw [if_neg h2]
    have h1' : right x = true := by simpa using h1
    have h2' : x.h = h0 := by simpa using h2
    by_cases h3 : (i : Int) < x.n
    · rw [if_pos h3]; constructor
      · intro h; cases h
      · intro h; omega
    rw [if_neg h3]
    by_cases h4 : x.n < (i : Int)
    · rw [if_pos h4]; constructor
      · intro h; cases h
      · intro h; omega
    rw [if_neg h4]
    by_cases h5 : x.d < d
    · rw [if_pos h5]; constructor
      · intro h; cases h
      · intro h; omega
    rw [if_neg h5]
    exact ⟨fun _ => ⟨by trivial, h1', h2', by omega, by omega⟩, fun _ => rfl⟩
  | m :: l, i, d => by
    show (if right m = false then 1 else if m.h ≠ h0 then 19 else if (i : Int) < m.n then 21 else if m.n < (i : Int) then 5 else if m.d < d then 18 else chk h0 (i + 1) m.d (l ++ [x])) = 0 ↔ (if right m = false then 1 else if m.h ≠ h0 then 19 else if (i : Int) < m.n then 21 else if m.n < (i : Int) then 5 else if m.d < d then 18 else chk h0 (i + 1) m.d l) = 0 ∧ right x = true ∧ x.h = h0 ∧ x.n = ((i + (l.length + 1) : Nat) : Int) ∧ lastD m.d l ≤ x.d
    rw [show i + (l.length + 1) = i + 1 + l.length by omega]
    have hi := chk_app1 (h0 := h0) (x := x) l (i + 1) m.d
    by_cases h1 : right m = false
    · simp [h1]
    rw [if_neg h1, if_neg h1]
    by_cases h2 : m.h ≠ h0
    · rw [if_pos h2, if_pos h2]; constructor
      · intro h; cases h
      · intro h; cases h.1
    rw [if_neg h2, if_neg h2]
    by_cases h3 : (i : Int) < m.n
    · rw [if_pos h3, if_pos h3]; constructor
      · intro h; cases h
      · intro h; cases h.1
    rw [if_neg h3, if_neg h3]
    by_cases h4 : m.n < (i : Int)
    · rw [if_pos h4, if_pos h4]; constructor
      · intro h; cases h
      · intro h; cases h.1
    rw [if_neg h4, if_neg h4]
    by_cases h5 : m.d < d
    · rw [if_pos h5, if_pos h5]; constructor
      · intro h; cases h
      · intro h; cases h.1
    rw [if_neg h5, if_neg h5]
    exact hi
theorem lastD_get : ∀ (l : List NM) (d : Int) (p : NM), l[l.length - 1]? = some p → lastD d l = p.d
  | [], d, p, h => by simp at h
  | [m], d, p, h => by simp at h; subst h; rfl
  | m :: m2 :: l, d, p, h => by
    have := lastD_get (m2 :: l) m.d p (by simpa using h)
    exact this
section
variable {l : List NM} {h d : Int} {q : List RM} {t : Str}
theorem right_ok' {m : NM} (h : right m = true) : m.n < 400 ∧ 0 ≤ m.d := by
  unfold right headBad kn bel at h
  simp only [Bool.and_eq_true, Bool.not_eq_true', Bool.or_eq_false_iff, Bool.not_eq_false', decide_eq_true_eq] at h
  omega
theorem next_cons (hl : 0 < l.length) : check (l ++ [(⟨h, ((l.length : Nat) : Int), d, none, q, 0, t⟩ : NM)]) = 0 ↔ check l = 0 ∧ right (⟨h, ((l.length : Nat) : Int), d, none, q, 0, t⟩ : NM) = true ∧ (∀ p, l[l.length - 1]? = some p → p.h = h ∧ p.d ≤ d) := by
  obtain ⟨p, hp⟩ : ∃ p, l[l.length - 1]? = some p := ⟨_, List.getElem?_eq_getElem (by omega)⟩
  have e : hdH (l ++ [(⟨h, ((l.length : Nat) : Int), d, none, q, 0, t⟩ : NM)]) = hdH l := by
    cases l with
    | nil => simp at hl
    | cons m l => rfl
  have hc : chk (hdH l) 0 0 (l ++ [(⟨h, ((l.length : Nat) : Int), d, none, q, 0, t⟩ : NM)]) = 0 ↔ _ := chk_app1 (h0 := hdH l) (x := (⟨h, ((l.length : Nat) : Int), d, none, q, 0, t⟩ : NM)) l 0 0
  rw [lastD_get l 0 p hp] at hc
  have hb : right (⟨h, ((l.length : Nat) : Int), d, none, q, 0, t⟩ : NM) = true → l.length < 400 := by
    intro hr
    have := (right_ok' hr).1
    simp only at this; omega
  constructor
  · intro hz
    have hle : (l ++ [(⟨h, ((l.length : Nat) : Int), d, none, q, 0, t⟩ : NM)]).length ≤ 400 := by
      rcases Nat.lt_or_ge 400 (l ++ [(⟨h, ((l.length : Nat) : Int), d, none, q, 0, t⟩ : NM)]).length with h | h
      · unfold check at hz; rw [if_pos h] at hz; cases hz
      · exact h
    rw [check_le hle, e, hc] at hz
    obtain ⟨z1, z2, z3, _, z5⟩ := hz
    have hll : l.length ≤ 400 := by rw [List.length_append] at hle; omega
    have hcl : check l = 0 := by rw [check_le hll]; exact z1
    refine ⟨hcl, z2, fun p' hp' => ?_⟩
    obtain rfl : p = p' := Option.some.inj (hp.symm.trans hp')
    exact ⟨((check_zero hcl _ _ hp).2.1).trans z3.symm, z5⟩
  · rintro ⟨hcl, hr, hpp⟩
    have h4 := hb hr
    rw [check_le (by rw [List.length_append]; simp; omega), e, hc]
    obtain ⟨p1, p2⟩ := hpp p hp
    exact ⟨check_chk hcl, hr, p1.symm.trans (check_zero hcl _ _ hp).2.1, by show ((l.length : Nat) : Int) = _; omega, p2⟩
theorem next_nil (hl : l.length = 0) : check (l ++ [(⟨h, ((l.length : Nat) : Int), d, none, q, 0, t⟩ : NM)]) = 0 ↔ check l = 0 ∧ right (⟨h, ((l.length : Nat) : Int), d, none, q, 0, t⟩ : NM) = true := by
  obtain rfl : l = [] := List.eq_nil_of_length_eq_zero hl
  show check [(⟨h, 0, d, none, q, 0, t⟩ : NM)] = 0 ↔ check [] = 0 ∧ right (⟨h, 0, d, none, q, 0, t⟩ : NM) = true
  have hc : chk (hdH [(⟨h, 0, d, none, q, 0, t⟩ : NM)]) 0 0 ([] ++ [(⟨h, 0, d, none, q, 0, t⟩ : NM)]) = 0 ↔ _ := chk_app1 (h0 := hdH [(⟨h, 0, d, none, q, 0, t⟩ : NM)]) (x := (⟨h, 0, d, none, q, 0, t⟩ : NM)) [] 0 0
  rw [check_le (by simp)]
  rw [List.nil_append] at hc
  rw [hc]
  constructor
  · intro z; exact ⟨rfl, z.2.1⟩
  · intro z
    have := (right_ok' z.2).2
    exact ⟨rfl, z.2, rfl, rfl, this⟩
theorem next_y1 (hz : check (l ++ [(⟨h, ((l.length : Nat) : Int), d, none, q, 0, t⟩ : NM)]) = 0) {p : NM} (h1 : ((decide ((check l) = 0) && right (⟨h, ((l.length : Nat) : Int), d, none, q, 0, t⟩ : NM)) && decide (0 < ((l.length : Nat) : Int))) = true) (hp : l[l.length - 1]? = some p) : ¬ (!decide (true = (decide (p.h = h) && decide (p.d ≤ d)))) = true := by
  simp only [Bool.and_eq_true, decide_eq_true_eq] at h1
  obtain ⟨e1, e2⟩ := ((next_cons (by omega)).1 hz).2.2 p hp
  simp [e1, e2]
theorem next_y0 (hz : check (l ++ [(⟨h, ((l.length : Nat) : Int), d, none, q, 0, t⟩ : NM)]) = 0) (h1 : ((decide ((check l) = 0) && right (⟨h, ((l.length : Nat) : Int), d, none, q, 0, t⟩ : NM)) && decide (0 < ((l.length : Nat) : Int))) = false) : ¬ (!decide (true = (decide ((check l) = 0) && right (⟨h, ((l.length : Nat) : Int), d, none, q, 0, t⟩ : NM)))) = true := by
  rcases Nat.eq_zero_or_pos l.length with h | h
  · obtain ⟨e1, e2⟩ := (next_nil h).1 hz
    simp [e1, e2]
  · obtain ⟨e1, e2, _⟩ := (next_cons h).1 hz
    simp [e1, e2]
theorem next_n1 {E : Int} (hE : check (l ++ [(⟨h, ((l.length : Nat) : Int), d, none, q, 0, t⟩ : NM)]) = E) (hz : E ≠ 0) {p : NM} (h1 : ((decide ((check l) = 0) && right (⟨h, ((l.length : Nat) : Int), d, none, q, 0, t⟩ : NM)) && decide (0 < ((l.length : Nat) : Int))) = true) (hp : l[l.length - 1]? = some p) : ¬ (!decide (decide (E = 0) = (decide (p.h = h) && decide (p.d ≤ d)))) = true := by
  simp only [Bool.and_eq_true, decide_eq_true_eq] at h1
  intro hn
  have e0 : decide (E = 0) = false := decide_eq_false hz
  rw [e0] at hn
  have : p.h = h ∧ p.d ≤ d := by
    rcases tf (decide (p.h = h) && decide (p.d ≤ d)) with e | e
    · rw [e] at hn; simp at hn
    · simpa using e
  refine hz (hE.symm.trans ((next_cons (by omega)).2 ⟨h1.1.1, h1.1.2, fun p' hp' => ?_⟩))
  obtain rfl : p = p' := Option.some.inj (hp.symm.trans hp')
  exact this
theorem next_n0 {E : Int} (hE : check (l ++ [(⟨h, ((l.length : Nat) : Int), d, none, q, 0, t⟩ : NM)]) = E) (hz : E ≠ 0) (h1 : ((decide ((check l) = 0) && right (⟨h, ((l.length : Nat) : Int), d, none, q, 0, t⟩ : NM)) && decide (0 < ((l.length : Nat) : Int))) = false) : ¬ (!decide (decide (E = 0) = (decide ((check l) = 0) && right (⟨h, ((l.length : Nat) : Int), d, none, q, 0, t⟩ : NM)))) = true := by
  intro hn
  have e0 : decide (E = 0) = false := decide_eq_false hz
  rw [e0] at hn
  rcases tf (decide ((check l) = 0) && right (⟨h, ((l.length : Nat) : Int), d, none, q, 0, t⟩ : NM)) with e | e
  · rw [e] at hn; simp at hn
  · rw [e] at h1
    have hl : l.length = 0 := by simpa using h1
    exact hz (hE.symm.trans ((next_nil hl).2 (by simpa using e)))
end
set_option maxRecDepth 20000 in
set_option maxHeartbeats 4000000 in
theorem next_t_ {w : World} (hG : Gr w) {l : List NM} {A1 : Option Addr} {c1 : Nat} (f1 : NotesV w w (.slice A1 l.length c1) l) {q : List RM} {A2 : Option Addr} {c2 : Nat} (f2 : RefsV w (.slice A2 q.length c2) q) {h d : Int} (hh : I64 h) (hd : I64 d) {t : Str} (ht : t.length ≤ maxLen) (hz : check (l ++ [(⟨h, ((l.length : Nat) : Int), d, none, q, 0, t⟩ : NM)]) = 0) : Calls Tryd.prog 14 [.slice A1 l.length c1, .int .i64 h, .int .i64 d, .slice A2 q.length c2, strV t].toArray w (Fix (.bool true) w) := by
  refine calls_start Tryd.func14 rfl rfl ?_
  intro az Hz
  rw [Tryd.ntmps14] at Hz
  refine wp_seq_k fun K1 hK1 => ?_
  -- law.go:137
  refine wp_region_lit ?_
  refine L (r_as Hz rfl) Hz rfl ?_
  clear Hz az; intro az Hz
  refine hK1 _ _ ?_
  refine wp_seq_k fun K2 hK2 => ?_
  -- law.go:138
  refine wp_region_lit ?_
  have G3 := Gr.k hG (Only.refl NoF w)
  refine LCV (v := .bool (true)) Hz rfl rfl Tryd.call50 (small37_v G3) rfl fun w4 o5 => ?_
  clear Hz az; intro az Hz
  refine L (r_as Hz rfl) Hz rfl ?_
  clear Hz az; intro az Hz
  refine hK2 _ _ ?_
  refine wp_seq_k fun K6 hK6 => ?_
  refine wp_seq_k fun K7 hK7 => ?_
  -- law.go:139
  refine wp_region_lit ?_
  refine L (r_mv Hz rfl) Hz rfl ?_
  clear Hz az; intro az Hz
  have h8 := (SliceOf.kp f1 o5 (fun _ _ h => h) (fun _ _ _ _ h => h))
  refine LCE Hz rfl rfl Tryd.call51 (rFew_v_ (notes_up h8 o5) (by omega)) rfl fun b11 w9 hs12 o10 => ?_
  clear Hz az; intro az Hz
  refine L (r_not Hz rfl) Hz rfl ?_
  clear Hz az; intro az Hz
  refine L (r_mv Hz rfl) Hz rfl ?_
  clear Hz az; intro az Hz
  refine LG Hz rfl rfl gd_f (fun hb => r_mv Hz rfl) rfl ?_
  clear Hz az; intro az Hz
  refine LG Hz rfl rfl gd_f (fun hb => r_lenL Tryd.underlying52 Hz (evg hb rfl)) rfl ?_
  clear Hz az; intro az Hz
  refine LG Hz rfl rfl gd_f (fun hb => r_gtI Hz (evg hb rfl) rfl) rfl ?_
  clear Hz az; intro az Hz
  refine L (r_or Hz rfl rfl rfl) Hz rfl ?_
  clear Hz az; intro az Hz
  refine L (r_mv Hz rfl) Hz rfl ?_
  clear Hz az; intro az Hz
  refine LG Hz rfl rfl gd_f (fun hb => r_mv Hz rfl) rfl ?_
  clear Hz az; intro az Hz
  refine LG Hz rfl rfl gd_f (fun hb => r_lenS Tryd.underlying9 Hz (evg hb rfl)) rfl ?_
  clear Hz az; intro az Hz
  refine LG Hz rfl rfl gd_f (fun hb => r_gtI Hz (evg hb rfl) rfl) rfl ?_
  clear Hz az; intro az Hz
  refine L (r_or Hz rfl rfl rfl) Hz rfl ?_
  clear Hz az; intro az Hz
  refine hK7 _ _ ?_
  refine br Hz rfl (fun hc13 => ?_) (fun hc13 => ?_)
  · -- if0
    have d14 := hc13
    refine wp_seq_k fun K15 hK15 => ?_
    -- law.go:140
    refine wp_region_lit ?_
    refine L (r_mv Hz rfl) Hz rfl ?_
    clear Hz az; intro az Hz
    refine L (r_as Hz rfl) Hz rfl ?_
    clear Hz az; intro az Hz
    refine hK15 _ _ ?_
    refine wp_ret ?_
    show bodyPost _ _ _ .ret _ _
    refine ret_of (vs := [.bool (true)]) Hz Tryd.results14 ⟨rfl, trivial⟩ ?_
    have O16 : Only NoF w w9 := (Only.trans' o5 o10)
    exact ⟨rfl, O16⟩
  · -- else0
    have q17 : b11 = true := (nt_f (or_f (or_f hc13).1).1)
    have S18 := hs12 q17
    have p19 := of_decide_eq_false (or_f (or_f hc13).1).2
    have p20 := of_decide_eq_false (or_f hc13).2
    have hflen := (S18).1
    refine wp_skip ?_
    refine hK6 _ _ ?_
    refine wp_seq_k fun K21 hK21 => ?_
    -- law.go:142
    refine wp_region_lit ?_
    refine L (r_mv Hz rfl) Hz rfl ?_
    clear Hz az; intro az Hz
    refine L (r_mv Hz rfl) Hz rfl ?_
    clear Hz az; intro az Hz
    refine L (r_mv Hz rfl) Hz rfl ?_
    clear Hz az; intro az Hz
    refine L (r_mv Hz rfl) Hz rfl ?_
    clear Hz az; intro az Hz
    refine L (r_mv Hz rfl) Hz rfl ?_
    clear Hz az; intro az Hz
    have O22 : Only NoF w w9 := (Only.trans' o5 o10)
    have h23 := (SliceOf.kp f1 O22 (fun _ _ h => h) (fun _ _ _ _ h => h))
    have h24 := (SliceOf.kp f2 O22 (fun _ _ h => h) (fun _ _ _ _ h => h))
    refine LC Hz rfl rfl Tryd.call53 (next_y (notes_up h23 O22) h24 hh hd ht (by omega) (by omega) hz) rfl ?_
    rintro e w25 ⟨A26, c27, rfl, o28, ok29, sg30⟩; refine ⟨_, rfl, ?_⟩
    clear Hz az; intro az Hz
    refine L (r_mv Hz rfl) Hz rfl ?_
    clear Hz az; intro az Hz
    refine L (r_ex Hz rfl rfl) Hz rfl ?_
    clear Hz az; intro az Hz
    refine L (r_ex Hz rfl rfl) Hz rfl ?_
    clear Hz az; intro az Hz
    refine LAl (v := .agg #[.int .i64 (0), .int .i64 (0), .int .i64 (0), .slice none (0) 0, strV ([])]) Tryd.zeroValue54 Hz rfl rfl ?_
    clear Hz az; intro g31 w32 hg35 hl36 o33 B34 az Hz
    refine LSt (cs' := [.int .i64 (h), .int .i64 (((l.length : Nat) : Int)), .int .i64 (d), .slice A26 (q.length) c27, strV (t)]) Tryd.sizeOf54 Hz rfl rfl rfl rfl rfl ⟨rfl, rfl, rfl, rfl, rfl, trivial⟩ B34 rfl rfl fun w37 s38 B39 => ?_
    refine L (r_as Hz rfl) Hz rfl ?_
    clear Hz az; intro az Hz
    refine hK21 _ _ ?_
    refine wp_seq_k fun K40 hK40 => ?_
    -- law.go:143
    refine wp_region_lit ?_
    refine L (r_mv Hz rfl) Hz rfl ?_
    clear Hz az; intro az Hz
    refine L (r_mv Hz rfl) Hz rfl ?_
    clear Hz az; intro az Hz
    refine L (r_lenL Tryd.underlying51 Hz rfl) Hz rfl ?_
    clear Hz az; intro az Hz
    refine L (r_mv Hz rfl) Hz rfl ?_
    clear Hz az; intro az Hz
    refine L (r_mv Hz rfl) Hz rfl ?_
    clear Hz az; intro az Hz
    refine L (r_mv Hz rfl) Hz rfl ?_
    clear Hz az; intro az Hz
    refine L (r_bd (v := .agg #[.int .i64 (h), .int .i64 (((l.length : Nat) : Int)), .int .i64 (d), .slice A2 (q.length) c2, strV (t)]) (build_Note5 _ _ _ _ _ _ _) Hz rfl) Hz rfl ?_
    clear Hz az; intro az Hz
    refine LAl (v := .agg #[.int .i64 (0), .int .i64 (0), .int .i64 (0), .slice none (0) 0, strV ([])]) Tryd.zeroValue54 Hz rfl rfl ?_
    clear Hz az; intro g41 w42 hg45 hl46 o43 B44 az Hz
    refine LSt (cs' := [.int .i64 (h), .int .i64 (((l.length : Nat) : Int)), .int .i64 (d), .slice A2 (q.length) c2, strV (t)]) Tryd.sizeOf54 Hz rfl rfl rfl rfl rfl ⟨rfl, rfl, rfl, rfl, rfl, trivial⟩ B44 rfl rfl fun w47 s48 B49 => ?_
    refine hK40 _ _ ?_
    refine wp_seq_k fun K50 hK50 => ?_
    -- law.go:144
    refine wp_region_lit ?_
    refine L (r_mv Hz rfl) Hz rfl ?_
    clear Hz az; intro az Hz
    have O51 : Only NoF w w25 := (Only.trans' O22 o28)
    have O52 : Only NoF w w37 := (o_sg (Only.trans' O51 o33) s38 (size_only O51) (oneF_ge hg35))
    have O53 : Only NoF w w47 := (o_sg (Only.trans' (o_sg (Only.trans' (Only.trans' O22 o28) o33) s38 (size_only O51) (oneF_ge hg35)) o43) s48 (size_only O52) (oneF_ge hg45))
    have h54 := (SliceOf.kp f1 O53 (fun _ _ h => h) (fun _ _ _ _ h => h))
    refine LCV (v := .int .i64 ((check l))) Hz rfl rfl Tryd.call60 (Check_v (notes_up h54 O53)) rfl fun w55 o56 => ?_
    clear Hz az; intro az Hz
    refine L (r_eqI Hz rfl rfl) Hz rfl ?_
    clear Hz az; intro az Hz
    refine L (r_mv Hz rfl) Hz rfl ?_
    clear Hz az; intro az Hz
    have B57 := (Blk.k B49 o56)
    refine LG Hz rfl rfl gd_t (fun hb => r_ldA Tryd.isAgg54 Tryd.sizeOf54 Hz rfl (Blk.ca B57) rfl) rfl ?_
    clear Hz az; intro az Hz
    have O58 : Only NoF w w55 := (Only.trans' O53 o56)
    have h59 := (SliceOf.kp f2 O58 (fun _ _ h => h) (fun _ _ _ _ h => h))
    refine LGV (v := .bool (right (⟨h, ((l.length : Nat) : Int), d, none, q, 0, t⟩ : NM))) Hz rfl rfl gd_t rfl (fun hb => (evs_c (evg hb rfl) rfl)) Tryd.call62 (fun hb => fix_eq (congrArg Value.bool (by rfl : right (⟨h, ((l.length : Nat) : Int), d, A2, q, c2, t⟩ : NM) = right (⟨h, ((l.length : Nat) : Int), d, none, q, 0, t⟩ : NM))) (Right_v (m := (⟨h, ((l.length : Nat) : Int), d, A2, q, c2, t⟩ : NM)) h59)) rfl fun w60 o61 => ?_
    clear Hz az; intro az Hz
    refine L (r_and Hz rfl rfl rfl) Hz rfl ?_
    clear Hz az; intro az Hz
    refine L (r_as Hz rfl) Hz rfl ?_
    clear Hz az; intro az Hz
    refine hK50 _ _ ?_
    refine wp_seq_k fun K62 hK62 => ?_
    refine wp_seq_k fun K63 hK63 => ?_
    -- law.go:145
    refine wp_region_lit ?_
    refine L (r_mv Hz rfl) Hz rfl ?_
    clear Hz az; intro az Hz
    refine L (r_mv Hz rfl) Hz rfl ?_
    clear Hz az; intro az Hz
    refine LG Hz rfl rfl gd_t (fun hb => r_mv Hz rfl) rfl ?_
    clear Hz az; intro az Hz
    refine LG Hz rfl rfl gd_t (fun hb => r_lenL Tryd.underlying51 Hz (evg hb rfl)) rfl ?_
    clear Hz az; intro az Hz
    refine LG Hz rfl rfl gd_t (fun hb => r_gtI Hz (evg hb rfl) rfl) rfl ?_
    clear Hz az; intro az Hz
    refine L (r_and Hz rfl rfl rfl) Hz rfl ?_
    clear Hz az; intro az Hz
    refine hK63 _ _ ?_
    refine br Hz rfl (fun hc64 => ?_) (fun hc64 => ?_)
    · -- if1
      have p65 := of_decide_eq_true (and_t (and_t hc64).1).1
      have q66 : right (⟨h, ((l.length : Nat) : Int), d, none, q, 0, t⟩ : NM) = true := (and_t (and_t hc64).1).2
      have p67 := of_decide_eq_true (and_t hc64).2
      refine wp_seq_k fun K68 hK68 => ?_
      -- law.go:146
      refine wp_region_lit ?_
      refine L (r_mv Hz rfl) Hz rfl ?_
      clear Hz az; intro az Hz
      refine L (r_mv Hz rfl) Hz rfl ?_
      clear Hz az; intro az Hz
      refine L (r_lenL Tryd.underlying51 Hz rfl) Hz rfl ?_
      clear Hz az; intro az Hz
      have i69 : I64 ((((l.length : Nat) : Int) - 1)) := by unfold I64; omega
      refine L (r_subI (r := (((l.length : Nat) : Int) - 1)) Hz rfl rfl rfl i69) Hz rfl ?_
      clear Hz az; intro az Hz
      have z70 : (((l.length : Nat) : Int) - 1) = ((l.length - 1 : Nat) : Int) := by omega
      have hk71 : (l.length - 1) < (l).length := by omega
      have O77 : Only NoF w w60 := (Only.trans' O58 o61)
      have h78 := (SliceOf.kp f1 O77 (fun _ _ h => h) (fun _ _ _ _ h => h))
      obtain ⟨m72, hm73, ok74, hA75⟩ := Row.el (KNote w) h78 hk71
      have E76 : ∀ W, Only NoF w60 W → CA W (eA A1 5 ((l.length - 1))) [.int .i64 (m72.h), .int .i64 (m72.n), .int .i64 (m72.d), .slice m72.A (m72.l.length) m72.c, strV (m72.s)] := Row.ce (KNote w) h78 hm73 rfl
      refine L (r_ia (k := (l.length - 1)) (size := 5) Tryd.underlying51 Tryd.sizeOf54 Hz rfl rfl z70 hk71 hA75) Hz rfl ?_
      clear Hz az; intro az Hz
      refine L (r_ldA Tryd.isAgg54 Tryd.sizeOf54 Hz rfl (E76 _ (Only.refl NoF w60)) rfl) Hz rfl ?_
      clear Hz az; intro az Hz
      refine LAl (v := .agg #[.int .i64 (0), .int .i64 (0), .int .i64 (0), .slice none (0) 0, strV ([])]) Tryd.zeroValue54 Hz rfl rfl ?_
      clear Hz az; intro g79 w80 hg83 hl84 o81 B82 az Hz
      refine LSt (cs' := [.int .i64 (m72.h), .int .i64 (m72.n), .int .i64 (m72.d), .slice m72.A (m72.l.length) m72.c, strV (m72.s)]) Tryd.sizeOf54 Hz rfl rfl rfl rfl rfl ⟨rfl, rfl, rfl, rfl, rfl, trivial⟩ B82 rfl rfl fun w85 s86 B87 => ?_
      refine hK68 _ _ ?_
      -- law.go:147
      refine wp_region_lit ?_
      refine L (r_fa (m' := 0) Tryd.underlying54 rfl Tryd.sizeOf3 rfl Hz rfl rfl) Hz rfl ?_
      clear Hz az; intro az Hz
      refine L (r_ld Tryd.isAgg3 Hz rfl ((Blk.ca B87) 0 _ rfl)) Hz rfl ?_
      clear Hz az; intro az Hz
      refine L (r_mv Hz rfl) Hz rfl ?_
      clear Hz az; intro az Hz
      refine L (r_eqI Hz rfl rfl) Hz rfl ?_
      clear Hz az; intro az Hz
      refine L (r_mv Hz rfl) Hz rfl ?_
      clear Hz az; intro az Hz
      refine LG Hz rfl rfl gd_t (fun hb => r_fa (m' := 2) Tryd.underlying54 rfl Tryd.sizeOf3 rfl Hz rfl rfl) rfl ?_
      clear Hz az; intro az Hz
      refine LG Hz rfl rfl gd_t (fun hb => r_ld Tryd.isAgg3 Hz (evg hb rfl) ((Blk.ca B87) 2 _ rfl)) rfl ?_
      clear Hz az; intro az Hz
      refine LG Hz rfl rfl gd_t (fun hb => r_mv Hz rfl) rfl ?_
      clear Hz az; intro az Hz
      refine LG Hz rfl rfl gd_t (fun hb => r_leI Hz (evg hb rfl) (evg hb rfl)) rfl ?_
      clear Hz az; intro az Hz
      refine L (r_and Hz rfl rfl rfl) Hz rfl ?_
      clear Hz az; intro az Hz
      refine L (r_as Hz rfl) Hz rfl ?_
      clear Hz az; intro az Hz
      refine hK62 _ _ ?_
      refine wp_seq_k fun K88 hK88 => ?_
      refine wp_seq_k fun K89 hK89 => ?_
      -- law.go:149
      refine wp_region_lit ?_
      refine L (r_mv Hz rfl) Hz rfl ?_
      clear Hz az; intro az Hz
      refine L (r_eqRI Hz rfl rfl) Hz rfl ?_
      clear Hz az; intro az Hz
      refine L (r_mv Hz rfl) Hz rfl ?_
      clear Hz az; intro az Hz
      refine L (r_neB Tryd.underlying4 Hz rfl rfl) Hz rfl ?_
      clear Hz az; intro az Hz
      refine hK89 _ _ ?_
      refine br Hz rfl (fun hc90 => ?_) (fun hc90 => ?_)
      · -- if2
        have p91 := of_decide_eq_false (nt_t hc90)
        refine wp_seq_k fun K92 hK92 => ?_
        -- law.go:150
        refine wp_region_lit ?_
        refine L (r_as Hz rfl) Hz rfl ?_
        clear Hz az; intro az Hz
        refine hK92 _ _ ?_
        refine wp_ret ?_
        show bodyPost _ _ _ .ret _ _
        refine ret_of (vs := [.bool (false)]) Hz Tryd.results14 ⟨rfl, trivial⟩ ?_
        have O93 : Only NoF w w85 := (o_sg (Only.trans' O77 o81) s86 (size_only O77) (oneF_ge hg83))
        exact absurd hc90 (next_y1 hz hc64 hm73)
      · -- else2
        have p94 := of_decide_eq_true (nt_f hc90)
        refine wp_skip ?_
        refine hK88 _ _ ?_
        refine wp_seq_k fun K95 hK95 => ?_
        refine wp_seq_k fun K96 hK96 => ?_
        -- law.go:152
        refine wp_region_lit ?_
        refine L (r_mv Hz rfl) Hz rfl ?_
        clear Hz az; intro az Hz
        refine L (r_neRI Hz rfl rfl) Hz rfl ?_
        clear Hz az; intro az Hz
        refine hK96 _ _ ?_
        refine br_false Hz rfl ?_
        refine wp_skip ?_
        refine hK95 _ _ ?_
        refine wp_seq_k fun K97 hK97 => ?_
        have O99 : Only NoF w w85 := (o_sg (Only.trans' O77 o81) s86 (size_only O77) (oneF_ge hg83))
        have h100 := (SliceOf.kp f1 O99 (fun _ _ h => h) (fun _ _ _ _ h => h))
        have f98 := notes_up h100 O99
        have O102 : Only NoF w25 w37 := (o_sg o33 s38 (Nat.le_refl _) (oneF_ge hg35))
        have O103 : Only NoF w25 w60 := (Only.trans' (Only.trans' (o_sg (Only.trans' O102 o43) s48 (size_only O102) (oneF_ge hg45)) o56) o61)
        have O104 : Only NoF w25 w85 := (o_sg (Only.trans' (Only.trans' (Only.trans' (o_sg (Only.trans' (o_sg o33 s38 (Nat.le_refl _) (oneF_ge hg35)) o43) s48 (size_only O102) (oneF_ge hg45)) o56) o61) o81) s86 (size_only O103) (oneF_ge hg83))
        have okx101 := note_up ok29 O104
        -- law.go:155
        refine reg_p NoF 2 [4, 7, 9, 11, 12, 13] (.rd 0 (.rd 1 (.rd 2 (.rd 3 (.ex 4 (.rd 5 (.rd 6 (.rd 8 (.rd 10 (.fork 7 (.fork 9 (.ex 11 (.ex 12 (.ex 13 (.rd 14 (.rd 15 (.rd 16 .nil)))))) 11 (.ex 9 (.ex 12 (.ex 13 (.rd 14 (.rd 15 (.rd 16 .nil))))))) 11 (.ex 7 (.ex 9 (.ex 12 (.ex 13 (.rd 14 (.rd 15 (.rd 16 .nil))))))))))))))))) (by kernel_rfl) (by kernel_rfl) (fun _ _ _ _ _ h => h) fun w105 o106 => ?_
        have O108 := (Only.trans (Only.refl (fun _ => True) w32) s38 (fun _ _ => .inl trivial))
        have ne107 : g31 ≠ g41 := (ne_of hl36 (Nat.le_trans (size_only O108) hg45))
        have O110 := (Only.trans (Only.trans (Only.trans (Only.trans (Only.trans (Only.refl (fun _ => True) w32) s38 (fun _ _ => .inl trivial)) o43 (fun _ _ => .inl trivial)) s48 (fun _ _ => .inl trivial)) o56 (fun _ _ => .inl trivial)) o61 (fun _ _ => .inl trivial))
        have ne109 : g31 ≠ g79 := (ne_of hl36 (Nat.le_trans (size_only O110) hg83))
        have B111 := (Blk.k (Blk.st (Blk.k (Blk.k (Blk.k (Blk.st (Blk.k B39 o43) s48 ne107) o56) o61) o81) s86 ne109) o106)
        have O113 := (Only.trans (Only.trans (Only.trans (Only.refl (fun _ => True) w42) s48 (fun _ _ => .inl trivial)) o56 (fun _ _ => .inl trivial)) o61 (fun _ _ => .inl trivial))
        have ne112 : g41 ≠ g79 := (ne_of hl46 (Nat.le_trans (size_only O113) hg83))
        have B114 := (Blk.k (Blk.st (Blk.k (Blk.k B57 o61) o81) s86 ne112) o106)
        refine Pl.MSP (b := false) (by kernel_rfl) (fun W oW => r_mv Hz rfl) Hz rfl rfl ?_
        clear Hz az; intro az Hz
        refine Pl.MSP (b := false) (by kernel_rfl) (fun W oW => r_mv Hz rfl) Hz rfl rfl ?_
        clear Hz az; intro az Hz
        refine Pl.MSPT (b := false) (by kernel_rfl) Hz rfl rfl (fun W oW => r_ldA Tryd.isAgg54 Tryd.sizeOf54 Hz rfl (Blk.ca (Blk.k B111 oW)) rfl) rfl rfl ?_
        clear Hz az; intro az Hz
        refine Pl.MSPT (b := false) (by kernel_rfl) Hz rfl rfl (fun W oW => r_ldA Tryd.isAgg54 Tryd.sizeOf54 Hz rfl (Blk.ca (Blk.k B114 oW)) rfl) rfl rfl ?_
        clear Hz az; intro az Hz
        have O115 : Only NoF w25 w105 := (Only.trans' O104 o106)
        have h116 := (SliceOf.kp sg30 O115 (fun _ _ h => h) (fun _ _ _ _ h => h))
        have h117 := SliceOf.pl h116
        have O118 : Only NoF w w105 := (Only.trans' O99 o106)
        have h119 := (SliceOf.kp f2 O118 (fun _ _ h => h) (fun _ _ _ _ h => h))
        refine Pl.MSGV (v := .bool (true)) Hz rfl rfl gd_t rfl rfl (fun hb => rfl) Tryd.call59 (fun hb => fix_eq (congrArg Value.bool (by simp [same] : same (⟨h, ((l.length : Nat) : Int), d, A26, q, c27, t⟩ : NM) (⟨h, ((l.length : Nat) : Int), d, A2, q, c2, t⟩ : NM) = true)) (rSame_v (m := (⟨h, ((l.length : Nat) : Int), d, A26, q, c27, t⟩ : NM)) (m2 := (⟨h, ((l.length : Nat) : Int), d, A2, q, c2, t⟩ : NM)) h117 h119)) rfl (fun w' o' => ⟨fun _ => o', (Only.trans (Only.refl NoF w105) o' (fun _ h => h.elim))⟩) fun w120 o121 => ?_
        clear Hz az; intro az Hz
        refine Pl.MSP (b := false) (by kernel_rfl) (fun W oW => r_pick Hz rfl rfl rfl) Hz rfl rfl ?_
        clear Hz az; intro az Hz
        refine Pl.MSP (b := true) (by kernel_rfl) (fun W oW => r_mv Hz rfl) Hz rfl rfl ?_
        clear Hz az; intro az Hz
        refine Pl.MSPT (b := false) (by kernel_rfl) Hz rfl rfl (fun W oW => r_mv Hz rfl) rfl rfl ?_
        clear Hz az; intro az Hz
        refine Pl.MSPT (b := false) (by kernel_rfl) Hz rfl rfl (fun W oW => r_ldA Tryd.isAgg54 Tryd.sizeOf54 Hz rfl (Blk.ca (Blk.k B111 oW)) rfl) rfl rfl ?_
        clear Hz az; intro az Hz
        refine wpPl_fork ?_ ?_
        · -- 7 first
          obtain ⟨A122, w123, hw, hA, r124, o125⟩ := made0 (w := w120) (e := 54) (size := 5)
          refine Pl.MDT Hz rfl rfl (r_bs0 Tryd.underlying51 Tryd.sizeOf54) rfl rfl ?_ ?_
          · rw [← hw]; exact ⟨fun _ => (Only.trans' o121 o125), (Only.trans (Only.trans (Only.refl NoF w105) o121 (fun _ h => h.elim)) o125 (fun _ h => h.elim))⟩
          rw [← hw, ← hA]; clear Hz az; intro az Hz
          clear hw hA
          refine wpPl_fork ?_ ?_
          · -- 9 first
            have O126 : Only NoF w85 w123 := (Only.trans' (Only.trans' o106 o121) o125)
            have h127 := (SliceOf.kp f98 O126 (fun _ _ h => h) (fun _ _ _ _ h => h))
            have hb135 : (List.length (([] : List NM)) + List.length (l)) * 64 ≤ 140737488355328 := by (simp only [List.length_append, List.length_cons, List.length_nil]; omega)
            obtain ⟨A128, c129, w130, hr131, r132, o133, al134⟩ := Row.app (P := Tryd.prog) (l := ([] : List NM)) (l2 := l) (KNote w85) elemNote r124 h127 hb135 (by unfold maxLen; omega) (size_only o125)
            simp only [List.nil_append, List.append_nil] at hr131 r132 al134
            refine Pl.MDT Hz rfl rfl (r_app hr131 Hz rfl rfl) rfl rfl ?_ ?_
            · exact ⟨fun h => absurd h (by decide), (Only.trans (Only.trans (Only.trans (Only.refl NoF w105) o121 (fun _ h => h.elim)) o125 (fun _ h => h.elim)) o133 (fun k h => .inr (Nat.le_trans (size_only o121) ((ownF_ge r124) k h))))⟩
            clear Hz az; intro az Hz
            have ok136 : ∀ zq ∈ l, (KNote w85).ok zq := (Row.oks (KNote w85) h127)
            have h137 := Row.own (KNote w85) r132 ok136
            obtain ⟨A138, w139, hw, hA, r140, o141⟩ := Row.made (w := w130) (KNote w85) (e := 54) ([(⟨h, ((l.length : Nat) : Int), d, A26, q, c27, t⟩ : NM)] : List NM) (by simp only [List.length_cons, List.length_nil]; unfold maxLen; omega)
            refine Pl.MDT Hz rfl rfl (r_bs (z := .agg #[.int .i64 (0), .int .i64 (0), .int .i64 (0), .slice none (0) 0, strV ([])]) (size := 5) (vs := [(0, .agg #[.int .i64 (h), .int .i64 (((l.length : Nat) : Int)), .int .i64 (d), .slice A26 (q.length) c27, strV (t)])]) (cs := List.flatMap (KNote w85).cells [(⟨h, ((l.length : Nat) : Int), d, A26, q, c27, t⟩ : NM)]) Tryd.underlying51 Tryd.sizeOf54 Tryd.zeroValue54 rfl (Fr.evalps Hz rfl) (by kernel_rfl)) rfl rfl ?_ ?_
            · rw [← hw]; exact ⟨fun h => absurd h (by decide), (Only.trans (Only.trans (Only.trans (Only.trans (Only.refl NoF w105) o121 (fun _ h => h.elim)) o125 (fun _ h => h.elim)) o133 (fun k h => .inr (Nat.le_trans (size_only o121) ((ownF_ge r124) k h)))) o141 (fun _ h => h.elim))⟩
            rw [← hw, ← hA]; clear Hz az; intro az Hz
            clear hw hA
            have ok142 : ∀ zq ∈ ([(⟨h, ((l.length : Nat) : Int), d, A26, q, c27, t⟩ : NM)] : List NM), (KNote w85).ok zq := by intro zq hx; simp only [List.mem_cons, List.not_mem_nil, or_false] at hx; rcases hx with rfl <;> first | exact okx101
            have r143 := (ow_k r132 o141)
            have h144 := Row.own (KNote w85) r140 ok142
            have h145 := SliceOf.pl h144
            have hb153 : (List.length (l) + List.length ([(⟨h, ((l.length : Nat) : Int), d, A26, q, c27, t⟩ : NM)])) * 64 ≤ 140737488355328 := by (simp only [List.length_append, List.length_cons, List.length_nil]; omega)
            have O154 : Only NoF w120 w139 := (Only.trans' (o_sg o125 o133 (Nat.le_refl _) (ownF_ge r124)) o141)
            obtain ⟨A146, c147, w148, hr149, r150, o151, al152⟩ := Row.app (P := Tryd.prog) (l := l) (l2 := [(⟨h, ((l.length : Nat) : Int), d, A26, q, c27, t⟩ : NM)]) (KNote w85) elemNote r143 h145 hb153 (by unfold maxLen; omega) (size_only O154)
            refine Pl.MDT Hz rfl rfl (r_app hr149 Hz rfl rfl) rfl rfl ?_ ?_
            · exact ⟨fun h => absurd h (by decide), (Only.trans (Only.trans (Only.trans (Only.trans (Only.trans (Only.refl NoF w105) o121 (fun _ h => h.elim)) o125 (fun _ h => h.elim)) o133 (fun k h => .inr (Nat.le_trans (size_only o121) ((ownF_ge r124) k h)))) o141 (fun _ h => h.elim)) o151 (fun k h => .inr (Nat.le_trans (size_only o121) ((ownF_ge r132) k h))))⟩
            clear Hz az; intro az Hz
            have ok155 : ∀ zq ∈ (l ++ [(⟨h, ((l.length : Nat) : Int), d, A26, q, c27, t⟩ : NM)]), (KNote w85).ok zq := (fun x hx => (List.mem_append.1 hx).elim (ok136 x) ((Row.oks (KNote w85) h145) x))
            have h156 := Row.own (KNote w85) r150 ok155
            have h157 := SliceOf.pl h156
            have O158 : Only NoF w85 w120 := (Only.trans' o106 o121)
            have O159 : Only NoF w85 w148 := (o_sg (Only.trans' (o_sg O126 o133 (size_only O158) (ownF_ge r124)) o141) o151 (size_only O158) (ownF_ge r132))
            refine Pl.MSGV (v := .int .i64 (0)) Hz rfl rfl gd_t rfl rfl (fun hb => rfl) Tryd.call60 (fun hb => fix_eq (congrArg (Value.int .i64) (check_last.trans hz)) (Check_v (notes_up h157 O159))) rfl (fun w' o' => ⟨fun h => absurd h (by decide), (Only.trans (Only.trans (Only.trans (Only.trans (Only.trans (Only.trans (Only.refl NoF w105) o121 (fun _ h => h.elim)) o125 (fun _ h => h.elim)) o133 (fun k h => .inr (Nat.le_trans (size_only o121) ((ownF_ge r124) k h)))) o141 (fun _ h => h.elim)) o151 (fun k h => .inr (Nat.le_trans (size_only o121) ((ownF_ge r132) k h)))) o' (fun _ h => h.elim))⟩) fun w160 o161 => ?_
            clear Hz az; intro az Hz
            refine Pl.MSPT (b := false) (by kernel_rfl) Hz rfl rfl (fun W oW => r_eqRI Hz rfl rfl) rfl rfl ?_
            clear Hz az; intro az Hz
            refine Pl.MSP (b := false) (by kernel_rfl) (fun W oW => r_pick Hz rfl rfl rfl) Hz rfl rfl ?_
            clear Hz az; intro az Hz
            refine Pl.MSP (b := false) (by kernel_rfl) (fun W oW => r_as Hz rfl) Hz rfl rfl ?_
            clear Hz az; intro az Hz
            refine wpPl_nil ?_
            refine hK97 _ _ ?_
            refine wp_ret ?_
            show bodyPost _ _ _ .ret _ _
            refine ret_of (vs := [.bool (true)]) Hz Tryd.results14 ⟨rfl, trivial⟩ ?_
            have O162 : Only NoF w w120 := (Only.trans' O118 o121)
            have O163 : Only NoF w w160 := (Only.trans' (o_sg (Only.trans' (o_sg (Only.trans' (Only.trans' O118 o121) o125) o133 (size_only O162) (ownF_ge r124)) o141) o151 (size_only O162) (ownF_ge r132)) o161)
            exact ⟨rfl, O163⟩
          · -- 11 first
            obtain ⟨A164, w165, hw, hA, r166, o167⟩ := Row.made (w := w123) (KNote w85) (e := 54) ([(⟨h, ((l.length : Nat) : Int), d, A26, q, c27, t⟩ : NM)] : List NM) (by simp only [List.length_cons, List.length_nil]; unfold maxLen; omega)
            refine Pl.MDT Hz rfl rfl (r_bs (z := .agg #[.int .i64 (0), .int .i64 (0), .int .i64 (0), .slice none (0) 0, strV ([])]) (size := 5) (vs := [(0, .agg #[.int .i64 (h), .int .i64 (((l.length : Nat) : Int)), .int .i64 (d), .slice A26 (q.length) c27, strV (t)])]) (cs := List.flatMap (KNote w85).cells [(⟨h, ((l.length : Nat) : Int), d, A26, q, c27, t⟩ : NM)]) Tryd.underlying51 Tryd.sizeOf54 Tryd.zeroValue54 rfl (Fr.evalps Hz rfl) (by kernel_rfl)) rfl rfl ?_ ?_
            · rw [← hw]; exact ⟨fun h => absurd h (by decide), (Only.trans (Only.trans (Only.trans (Only.refl NoF w105) o121 (fun _ h => h.elim)) o125 (fun _ h => h.elim)) o167 (fun _ h => h.elim))⟩
            rw [← hw, ← hA]; clear Hz az; intro az Hz
            clear hw hA
            have ok168 : ∀ zq ∈ ([(⟨h, ((l.length : Nat) : Int), d, A26, q, c27, t⟩ : NM)] : List NM), (KNote w85).ok zq := by intro zq hx; simp only [List.mem_cons, List.not_mem_nil, or_false] at hx; rcases hx with rfl <;> first | exact okx101
            have r169 := (ow_k r124 o167)
            have O170 : Only NoF w85 w165 := (Only.trans' (Only.trans' (Only.trans' o106 o121) o125) o167)
            have h171 := (SliceOf.kp f98 O170 (fun _ _ h => h) (fun _ _ _ _ h => h))
            have hb179 : (List.length (([] : List NM)) + List.length (l)) * 64 ≤ 140737488355328 := by (simp only [List.length_append, List.length_cons, List.length_nil]; omega)
            have O180 : Only NoF w120 w165 := (Only.trans' o125 o167)
            obtain ⟨A172, c173, w174, hr175, r176, o177, al178⟩ := Row.app (P := Tryd.prog) (l := ([] : List NM)) (l2 := l) (KNote w85) elemNote r169 h171 hb179 (by unfold maxLen; omega) (size_only O180)
            simp only [List.nil_append, List.append_nil] at hr175 r176 al178
            refine Pl.MDT Hz rfl rfl (r_app hr175 Hz rfl rfl) rfl rfl ?_ ?_
            · exact ⟨fun h => absurd h (by decide), (Only.trans (Only.trans (Only.trans (Only.trans (Only.refl NoF w105) o121 (fun _ h => h.elim)) o125 (fun _ h => h.elim)) o167 (fun _ h => h.elim)) o177 (fun k h => .inr (Nat.le_trans (size_only o121) ((ownF_ge r124) k h))))⟩
            clear Hz az; intro az Hz
            have ok181 : ∀ zq ∈ l, (KNote w85).ok zq := (Row.oks (KNote w85) h171)
            have h182 := Row.own (KNote w85) r176 ok181
            have h183 := Row.own (KNote w85) r166 ok168
            have h184 := (SliceOf.kp h183 o177 (ge_F (ownF_lt r124) (Nat.le_refl _)) (fun _ _ _ _ h => h))
            have h185 := SliceOf.pl h184
            have hb193 : (List.length (l) + List.length ([(⟨h, ((l.length : Nat) : Int), d, A26, q, c27, t⟩ : NM)])) * 64 ≤ 140737488355328 := by (simp only [List.length_append, List.length_cons, List.length_nil]; omega)
            have O194 : Only NoF w120 w174 := (o_sg O180 o177 (Nat.le_refl _) (ownF_ge r124))
            obtain ⟨A186, c187, w188, hr189, r190, o191, al192⟩ := Row.app (P := Tryd.prog) (l := l) (l2 := [(⟨h, ((l.length : Nat) : Int), d, A26, q, c27, t⟩ : NM)]) (KNote w85) elemNote r176 h185 hb193 (by unfold maxLen; omega) (size_only O194)
            refine Pl.MDT Hz rfl rfl (r_app hr189 Hz rfl rfl) rfl rfl ?_ ?_
            · exact ⟨fun h => absurd h (by decide), (Only.trans (Only.trans (Only.trans (Only.trans (Only.trans (Only.refl NoF w105) o121 (fun _ h => h.elim)) o125 (fun _ h => h.elim)) o167 (fun _ h => h.elim)) o177 (fun k h => .inr (Nat.le_trans (size_only o121) ((ownF_ge r124) k h)))) o191 (fun k h => .inr (Nat.le_trans (size_only o121) ((ownF_ge r176) k h))))⟩
            clear Hz az; intro az Hz
            have ok195 : ∀ zq ∈ (l ++ [(⟨h, ((l.length : Nat) : Int), d, A26, q, c27, t⟩ : NM)]), (KNote w85).ok zq := (fun x hx => (List.mem_append.1 hx).elim (ok181 x) ((Row.oks (KNote w85) h185) x))
            have h196 := Row.own (KNote w85) r190 ok195
            have h197 := SliceOf.pl h196
            have O198 : Only NoF w85 w120 := (Only.trans' o106 o121)
            have O199 : Only NoF w85 w188 := (o_sg (o_sg O170 o177 (size_only O198) (ownF_ge r124)) o191 (size_only O198) (ownF_ge r176))
            refine Pl.MSGV (v := .int .i64 (0)) Hz rfl rfl gd_t rfl rfl (fun hb => rfl) Tryd.call60 (fun hb => fix_eq (congrArg (Value.int .i64) (check_last.trans hz)) (Check_v (notes_up h197 O199))) rfl (fun w' o' => ⟨fun h => absurd h (by decide), (Only.trans (Only.trans (Only.trans (Only.trans (Only.trans (Only.trans (Only.refl NoF w105) o121 (fun _ h => h.elim)) o125 (fun _ h => h.elim)) o167 (fun _ h => h.elim)) o177 (fun k h => .inr (Nat.le_trans (size_only o121) ((ownF_ge r124) k h)))) o191 (fun k h => .inr (Nat.le_trans (size_only o121) ((ownF_ge r176) k h)))) o' (fun _ h => h.elim))⟩) fun w200 o201 => ?_
            clear Hz az; intro az Hz
            refine Pl.MSPT (b := false) (by kernel_rfl) Hz rfl rfl (fun W oW => r_eqRI Hz rfl rfl) rfl rfl ?_
            clear Hz az; intro az Hz
            refine Pl.MSP (b := false) (by kernel_rfl) (fun W oW => r_pick Hz rfl rfl rfl) Hz rfl rfl ?_
            clear Hz az; intro az Hz
            refine Pl.MSP (b := false) (by kernel_rfl) (fun W oW => r_as Hz rfl) Hz rfl rfl ?_
            clear Hz az; intro az Hz
            refine wpPl_nil ?_
            refine hK97 _ _ ?_
            refine wp_ret ?_
            show bodyPost _ _ _ .ret _ _
            refine ret_of (vs := [.bool (true)]) Hz Tryd.results14 ⟨rfl, trivial⟩ ?_
            have O202 : Only NoF w w120 := (Only.trans' O118 o121)
            have O203 : Only NoF w w200 := (Only.trans' (o_sg (o_sg (Only.trans' (Only.trans' (Only.trans' O118 o121) o125) o167) o177 (size_only O202) (ownF_ge r124)) o191 (size_only O202) (ownF_ge r176)) o201)
            exact ⟨rfl, O203⟩
        · -- 11 first
          obtain ⟨A204, w205, hw, hA, r206, o207⟩ := Row.made (w := w120) (KNote w85) (e := 54) ([(⟨h, ((l.length : Nat) : Int), d, A26, q, c27, t⟩ : NM)] : List NM) (by simp only [List.length_cons, List.length_nil]; unfold maxLen; omega)
          refine Pl.MDT Hz rfl rfl (r_bs (z := .agg #[.int .i64 (0), .int .i64 (0), .int .i64 (0), .slice none (0) 0, strV ([])]) (size := 5) (vs := [(0, .agg #[.int .i64 (h), .int .i64 (((l.length : Nat) : Int)), .int .i64 (d), .slice A26 (q.length) c27, strV (t)])]) (cs := List.flatMap (KNote w85).cells [(⟨h, ((l.length : Nat) : Int), d, A26, q, c27, t⟩ : NM)]) Tryd.underlying51 Tryd.sizeOf54 Tryd.zeroValue54 rfl (Fr.evalps Hz rfl) (by kernel_rfl)) rfl rfl ?_ ?_
          · rw [← hw]; exact ⟨fun _ => (Only.trans' o121 o207), (Only.trans (Only.trans (Only.refl NoF w105) o121 (fun _ h => h.elim)) o207 (fun _ h => h.elim))⟩
          rw [← hw, ← hA]; clear Hz az; intro az Hz
          clear hw hA
          have ok208 : ∀ zq ∈ ([(⟨h, ((l.length : Nat) : Int), d, A26, q, c27, t⟩ : NM)] : List NM), (KNote w85).ok zq := by intro zq hx; simp only [List.mem_cons, List.not_mem_nil, or_false] at hx; rcases hx with rfl <;> first | exact okx101
          obtain ⟨A209, w210, hw, hA, r211, o212⟩ := made0 (w := w205) (e := 54) (size := 5)
          refine Pl.MDT Hz rfl rfl (r_bs0 Tryd.underlying51 Tryd.sizeOf54) rfl rfl ?_ ?_
          · rw [← hw]; exact ⟨fun h => absurd h (by decide), (Only.trans (Only.trans (Only.trans (Only.refl NoF w105) o121 (fun _ h => h.elim)) o207 (fun _ h => h.elim)) o212 (fun _ h => h.elim))⟩
          rw [← hw, ← hA]; clear Hz az; intro az Hz
          clear hw hA
          have O213 : Only NoF w85 w210 := (Only.trans' (Only.trans' (Only.trans' o106 o121) o207) o212)
          have h214 := (SliceOf.kp f98 O213 (fun _ _ h => h) (fun _ _ _ _ h => h))
          have hb222 : (List.length (([] : List NM)) + List.length (l)) * 64 ≤ 140737488355328 := by (simp only [List.length_append, List.length_cons, List.length_nil]; omega)
          obtain ⟨A215, c216, w217, hr218, r219, o220, al221⟩ := Row.app (P := Tryd.prog) (l := ([] : List NM)) (l2 := l) (KNote w85) elemNote r211 h214 hb222 (by unfold maxLen; omega) (size_only o212)
          simp only [List.nil_append, List.append_nil] at hr218 r219 al221
          have O223 : Only NoF w105 w205 := (Only.trans' o121 o207)
          refine Pl.MDT Hz rfl rfl (r_app hr218 Hz rfl rfl) rfl rfl ?_ ?_
          · exact ⟨fun h => absurd h (by decide), (Only.trans (Only.trans (Only.trans (Only.trans (Only.refl NoF w105) o121 (fun _ h => h.elim)) o207 (fun _ h => h.elim)) o212 (fun _ h => h.elim)) o220 (fun k h => .inr (Nat.le_trans (size_only O223) ((ownF_ge r211) k h))))⟩
          clear Hz az; intro az Hz
          have ok224 : ∀ zq ∈ l, (KNote w85).ok zq := (Row.oks (KNote w85) h214)
          have h225 := Row.own (KNote w85) r219 ok224
          have h226 := Row.own (KNote w85) r206 ok208
          have O227 : Only NoF w205 w217 := (o_sg o212 o220 (Nat.le_refl _) (ownF_ge r211))
          have h228 := (SliceOf.kp h226 O227 (fun _ _ h => h) (fun _ _ _ _ h => h))
          have h229 := SliceOf.pl h228
          have hb237 : (List.length (l) + List.length ([(⟨h, ((l.length : Nat) : Int), d, A26, q, c27, t⟩ : NM)])) * 64 ≤ 140737488355328 := by (simp only [List.length_append, List.length_cons, List.length_nil]; omega)
          obtain ⟨A230, c231, w232, hr233, r234, o235, al236⟩ := Row.app (P := Tryd.prog) (l := l) (l2 := [(⟨h, ((l.length : Nat) : Int), d, A26, q, c27, t⟩ : NM)]) (KNote w85) elemNote r219 h229 hb237 (by unfold maxLen; omega) (size_only O227)
          refine Pl.MDT Hz rfl rfl (r_app hr233 Hz rfl rfl) rfl rfl ?_ ?_
          · exact ⟨fun h => absurd h (by decide), (Only.trans (Only.trans (Only.trans (Only.trans (Only.trans (Only.refl NoF w105) o121 (fun _ h => h.elim)) o207 (fun _ h => h.elim)) o212 (fun _ h => h.elim)) o220 (fun k h => .inr (Nat.le_trans (size_only O223) ((ownF_ge r211) k h)))) o235 (fun k h => .inr (Nat.le_trans (size_only O223) ((ownF_ge r219) k h))))⟩
          clear Hz az; intro az Hz
          have ok238 : ∀ zq ∈ (l ++ [(⟨h, ((l.length : Nat) : Int), d, A26, q, c27, t⟩ : NM)]), (KNote w85).ok zq := (fun x hx => (List.mem_append.1 hx).elim (ok224 x) ((Row.oks (KNote w85) h229) x))
          have h239 := Row.own (KNote w85) r234 ok238
          have h240 := SliceOf.pl h239
          have O241 : Only NoF w85 w205 := (Only.trans' (Only.trans' o106 o121) o207)
          have O242 : Only NoF w85 w232 := (o_sg (o_sg O213 o220 (size_only O241) (ownF_ge r211)) o235 (size_only O241) (ownF_ge r219))
          refine Pl.MSGV (v := .int .i64 (0)) Hz rfl rfl gd_t rfl rfl (fun hb => rfl) Tryd.call60 (fun hb => fix_eq (congrArg (Value.int .i64) (check_last.trans hz)) (Check_v (notes_up h240 O242))) rfl (fun w' o' => ⟨fun h => absurd h (by decide), (Only.trans (Only.trans (Only.trans (Only.trans (Only.trans (Only.trans (Only.refl NoF w105) o121 (fun _ h => h.elim)) o207 (fun _ h => h.elim)) o212 (fun _ h => h.elim)) o220 (fun k h => .inr (Nat.le_trans (size_only O223) ((ownF_ge r211) k h)))) o235 (fun k h => .inr (Nat.le_trans (size_only O223) ((ownF_ge r219) k h)))) o' (fun _ h => h.elim))⟩) fun w243 o244 => ?_
          clear Hz az; intro az Hz
          refine Pl.MSPT (b := false) (by kernel_rfl) Hz rfl rfl (fun W oW => r_eqRI Hz rfl rfl) rfl rfl ?_
          clear Hz az; intro az Hz
          refine Pl.MSP (b := false) (by kernel_rfl) (fun W oW => r_pick Hz rfl rfl rfl) Hz rfl rfl ?_
          clear Hz az; intro az Hz
          refine Pl.MSP (b := false) (by kernel_rfl) (fun W oW => r_as Hz rfl) Hz rfl rfl ?_
          clear Hz az; intro az Hz
          refine wpPl_nil ?_
          refine hK97 _ _ ?_
          refine wp_ret ?_
          show bodyPost _ _ _ .ret _ _
          refine ret_of (vs := [.bool (true)]) Hz Tryd.results14 ⟨rfl, trivial⟩ ?_
          have O245 : Only NoF w w205 := (Only.trans' (Only.trans' O118 o121) o207)
          have O246 : Only NoF w w243 := (Only.trans' (o_sg (o_sg (Only.trans' (Only.trans' (Only.trans' O118 o121) o207) o212) o220 (size_only O245) (ownF_ge r211)) o235 (size_only O245) (ownF_ge r219)) o244)
          exact ⟨rfl, O246⟩
    · -- else1
      have d247 := hc64
      refine wp_skip ?_
      refine hK62 _ _ ?_
      refine wp_seq_k fun K248 hK248 => ?_
      refine wp_seq_k fun K249 hK249 => ?_
      -- law.go:149
      refine wp_region_lit ?_
      refine L (r_mv Hz rfl) Hz rfl ?_
      clear Hz az; intro az Hz
      refine L (r_eqRI Hz rfl rfl) Hz rfl ?_
      clear Hz az; intro az Hz
      refine L (r_mv Hz rfl) Hz rfl ?_
      clear Hz az; intro az Hz
      refine L (r_neB Tryd.underlying4 Hz rfl rfl) Hz rfl ?_
      clear Hz az; intro az Hz
      refine hK249 _ _ ?_
      refine br Hz rfl (fun hc250 => ?_) (fun hc250 => ?_)
      · -- if2
        have p251 := of_decide_eq_false (nt_t hc250)
        refine wp_seq_k fun K252 hK252 => ?_
        -- law.go:150
        refine wp_region_lit ?_
        refine L (r_as Hz rfl) Hz rfl ?_
        clear Hz az; intro az Hz
        refine hK252 _ _ ?_
        refine wp_ret ?_
        show bodyPost _ _ _ .ret _ _
        refine ret_of (vs := [.bool (false)]) Hz Tryd.results14 ⟨rfl, trivial⟩ ?_
        have O253 : Only NoF w w60 := (Only.trans' O58 o61)
        exact absurd hc250 (next_y0 hz hc64)
      · -- else2
        have p254 := of_decide_eq_true (nt_f hc250)
        refine wp_skip ?_
        refine hK248 _ _ ?_
        refine wp_seq_k fun K255 hK255 => ?_
        refine wp_seq_k fun K256 hK256 => ?_
        -- law.go:152
        refine wp_region_lit ?_
        refine L (r_mv Hz rfl) Hz rfl ?_
        clear Hz az; intro az Hz
        refine L (r_neRI Hz rfl rfl) Hz rfl ?_
        clear Hz az; intro az Hz
        refine hK256 _ _ ?_
        refine br_false Hz rfl ?_
        refine wp_skip ?_
        refine hK255 _ _ ?_
        refine wp_seq_k fun K257 hK257 => ?_
        have O259 : Only NoF w w60 := (Only.trans' O58 o61)
        have h260 := (SliceOf.kp f1 O259 (fun _ _ h => h) (fun _ _ _ _ h => h))
        have f258 := notes_up h260 O259
        have O262 : Only NoF w25 w37 := (o_sg o33 s38 (Nat.le_refl _) (oneF_ge hg35))
        have O263 : Only NoF w25 w60 := (Only.trans' (Only.trans' (o_sg (Only.trans' (o_sg o33 s38 (Nat.le_refl _) (oneF_ge hg35)) o43) s48 (size_only O262) (oneF_ge hg45)) o56) o61)
        have okx261 := note_up ok29 O263
        -- law.go:155
        refine reg_p NoF 2 [4, 7, 9, 11, 12, 13] (.rd 0 (.rd 1 (.rd 2 (.rd 3 (.ex 4 (.rd 5 (.rd 6 (.rd 8 (.rd 10 (.fork 7 (.fork 9 (.ex 11 (.ex 12 (.ex 13 (.rd 14 (.rd 15 (.rd 16 .nil)))))) 11 (.ex 9 (.ex 12 (.ex 13 (.rd 14 (.rd 15 (.rd 16 .nil))))))) 11 (.ex 7 (.ex 9 (.ex 12 (.ex 13 (.rd 14 (.rd 15 (.rd 16 .nil))))))))))))))))) (by kernel_rfl) (by kernel_rfl) (fun _ _ _ _ _ h => h) fun w264 o265 => ?_
        have O267 := (Only.trans (Only.refl (fun _ => True) w32) s38 (fun _ _ => .inl trivial))
        have ne266 : g31 ≠ g41 := (ne_of hl36 (Nat.le_trans (size_only O267) hg45))
        have B268 := (Blk.k (Blk.k (Blk.k (Blk.st (Blk.k B39 o43) s48 ne266) o56) o61) o265)
        have B269 := (Blk.k (Blk.k B57 o61) o265)
        refine Pl.MSP (b := false) (by kernel_rfl) (fun W oW => r_mv Hz rfl) Hz rfl rfl ?_
        clear Hz az; intro az Hz
        refine Pl.MSP (b := false) (by kernel_rfl) (fun W oW => r_mv Hz rfl) Hz rfl rfl ?_
        clear Hz az; intro az Hz
        refine Pl.MSPT (b := false) (by kernel_rfl) Hz rfl rfl (fun W oW => r_ldA Tryd.isAgg54 Tryd.sizeOf54 Hz rfl (Blk.ca (Blk.k B268 oW)) rfl) rfl rfl ?_
        clear Hz az; intro az Hz
        refine Pl.MSPT (b := false) (by kernel_rfl) Hz rfl rfl (fun W oW => r_ldA Tryd.isAgg54 Tryd.sizeOf54 Hz rfl (Blk.ca (Blk.k B269 oW)) rfl) rfl rfl ?_
        clear Hz az; intro az Hz
        have O270 : Only NoF w25 w264 := (Only.trans' O263 o265)
        have h271 := (SliceOf.kp sg30 O270 (fun _ _ h => h) (fun _ _ _ _ h => h))
        have h272 := SliceOf.pl h271
        have O273 : Only NoF w w264 := (Only.trans' O259 o265)
        have h274 := (SliceOf.kp f2 O273 (fun _ _ h => h) (fun _ _ _ _ h => h))
        refine Pl.MSGV (v := .bool (true)) Hz rfl rfl gd_t rfl rfl (fun hb => rfl) Tryd.call59 (fun hb => fix_eq (congrArg Value.bool (by simp [same] : same (⟨h, ((l.length : Nat) : Int), d, A26, q, c27, t⟩ : NM) (⟨h, ((l.length : Nat) : Int), d, A2, q, c2, t⟩ : NM) = true)) (rSame_v (m := (⟨h, ((l.length : Nat) : Int), d, A26, q, c27, t⟩ : NM)) (m2 := (⟨h, ((l.length : Nat) : Int), d, A2, q, c2, t⟩ : NM)) h272 h274)) rfl (fun w' o' => ⟨fun _ => o', (Only.trans (Only.refl NoF w264) o' (fun _ h => h.elim))⟩) fun w275 o276 => ?_
        clear Hz az; intro az Hz
        refine Pl.MSP (b := false) (by kernel_rfl) (fun W oW => r_pick Hz rfl rfl rfl) Hz rfl rfl ?_
        clear Hz az; intro az Hz
        refine Pl.MSP (b := true) (by kernel_rfl) (fun W oW => r_mv Hz rfl) Hz rfl rfl ?_
        clear Hz az; intro az Hz
        refine Pl.MSPT (b := false) (by kernel_rfl) Hz rfl rfl (fun W oW => r_mv Hz rfl) rfl rfl ?_
        clear Hz az; intro az Hz
        refine Pl.MSPT (b := false) (by kernel_rfl) Hz rfl rfl (fun W oW => r_ldA Tryd.isAgg54 Tryd.sizeOf54 Hz rfl (Blk.ca (Blk.k B268 oW)) rfl) rfl rfl ?_
        clear Hz az; intro az Hz
        refine wpPl_fork ?_ ?_
        · -- 7 first
          obtain ⟨A277, w278, hw, hA, r279, o280⟩ := made0 (w := w275) (e := 54) (size := 5)
          refine Pl.MDT Hz rfl rfl (r_bs0 Tryd.underlying51 Tryd.sizeOf54) rfl rfl ?_ ?_
          · rw [← hw]; exact ⟨fun _ => (Only.trans' o276 o280), (Only.trans (Only.trans (Only.refl NoF w264) o276 (fun _ h => h.elim)) o280 (fun _ h => h.elim))⟩
          rw [← hw, ← hA]; clear Hz az; intro az Hz
          clear hw hA
          refine wpPl_fork ?_ ?_
          · -- 9 first
            have O281 : Only NoF w60 w278 := (Only.trans' (Only.trans' o265 o276) o280)
            have h282 := (SliceOf.kp f258 O281 (fun _ _ h => h) (fun _ _ _ _ h => h))
            have hb290 : (List.length (([] : List NM)) + List.length (l)) * 64 ≤ 140737488355328 := by (simp only [List.length_append, List.length_cons, List.length_nil]; omega)
            obtain ⟨A283, c284, w285, hr286, r287, o288, al289⟩ := Row.app (P := Tryd.prog) (l := ([] : List NM)) (l2 := l) (KNote w60) elemNote r279 h282 hb290 (by unfold maxLen; omega) (size_only o280)
            simp only [List.nil_append, List.append_nil] at hr286 r287 al289
            refine Pl.MDT Hz rfl rfl (r_app hr286 Hz rfl rfl) rfl rfl ?_ ?_
            · exact ⟨fun h => absurd h (by decide), (Only.trans (Only.trans (Only.trans (Only.refl NoF w264) o276 (fun _ h => h.elim)) o280 (fun _ h => h.elim)) o288 (fun k h => .inr (Nat.le_trans (size_only o276) ((ownF_ge r279) k h))))⟩
            clear Hz az; intro az Hz
            have ok291 : ∀ zq ∈ l, (KNote w60).ok zq := (Row.oks (KNote w60) h282)
            have h292 := Row.own (KNote w60) r287 ok291
            obtain ⟨A293, w294, hw, hA, r295, o296⟩ := Row.made (w := w285) (KNote w60) (e := 54) ([(⟨h, ((l.length : Nat) : Int), d, A26, q, c27, t⟩ : NM)] : List NM) (by simp only [List.length_cons, List.length_nil]; unfold maxLen; omega)
            refine Pl.MDT Hz rfl rfl (r_bs (z := .agg #[.int .i64 (0), .int .i64 (0), .int .i64 (0), .slice none (0) 0, strV ([])]) (size := 5) (vs := [(0, .agg #[.int .i64 (h), .int .i64 (((l.length : Nat) : Int)), .int .i64 (d), .slice A26 (q.length) c27, strV (t)])]) (cs := List.flatMap (KNote w60).cells [(⟨h, ((l.length : Nat) : Int), d, A26, q, c27, t⟩ : NM)]) Tryd.underlying51 Tryd.sizeOf54 Tryd.zeroValue54 rfl (Fr.evalps Hz rfl) (by kernel_rfl)) rfl rfl ?_ ?_
            · rw [← hw]; exact ⟨fun h => absurd h (by decide), (Only.trans (Only.trans (Only.trans (Only.trans (Only.refl NoF w264) o276 (fun _ h => h.elim)) o280 (fun _ h => h.elim)) o288 (fun k h => .inr (Nat.le_trans (size_only o276) ((ownF_ge r279) k h)))) o296 (fun _ h => h.elim))⟩
            rw [← hw, ← hA]; clear Hz az; intro az Hz
            clear hw hA
            have ok297 : ∀ zq ∈ ([(⟨h, ((l.length : Nat) : Int), d, A26, q, c27, t⟩ : NM)] : List NM), (KNote w60).ok zq := by intro zq hx; simp only [List.mem_cons, List.not_mem_nil, or_false] at hx; rcases hx with rfl <;> first | exact okx261
            have r298 := (ow_k r287 o296)
            have h299 := Row.own (KNote w60) r295 ok297
            have h300 := SliceOf.pl h299
            have hb308 : (List.length (l) + List.length ([(⟨h, ((l.length : Nat) : Int), d, A26, q, c27, t⟩ : NM)])) * 64 ≤ 140737488355328 := by (simp only [List.length_append, List.length_cons, List.length_nil]; omega)
            have O309 : Only NoF w275 w294 := (Only.trans' (o_sg o280 o288 (Nat.le_refl _) (ownF_ge r279)) o296)
            obtain ⟨A301, c302, w303, hr304, r305, o306, al307⟩ := Row.app (P := Tryd.prog) (l := l) (l2 := [(⟨h, ((l.length : Nat) : Int), d, A26, q, c27, t⟩ : NM)]) (KNote w60) elemNote r298 h300 hb308 (by unfold maxLen; omega) (size_only O309)
            refine Pl.MDT Hz rfl rfl (r_app hr304 Hz rfl rfl) rfl rfl ?_ ?_
            · exact ⟨fun h => absurd h (by decide), (Only.trans (Only.trans (Only.trans (Only.trans (Only.trans (Only.refl NoF w264) o276 (fun _ h => h.elim)) o280 (fun _ h => h.elim)) o288 (fun k h => .inr (Nat.le_trans (size_only o276) ((ownF_ge r279) k h)))) o296 (fun _ h => h.elim)) o306 (fun k h => .inr (Nat.le_trans (size_only o276) ((ownF_ge r287) k h))))⟩
            clear Hz az; intro az Hz
            have ok310 : ∀ zq ∈ (l ++ [(⟨h, ((l.length : Nat) : Int), d, A26, q, c27, t⟩ : NM)]), (KNote w60).ok zq := (fun x hx => (List.mem_append.1 hx).elim (ok291 x) ((Row.oks (KNote w60) h300) x))
            have h311 := Row.own (KNote w60) r305 ok310
            have h312 := SliceOf.pl h311
            have O313 : Only NoF w60 w275 := (Only.trans' o265 o276)
            have O314 : Only NoF w60 w303 := (o_sg (Only.trans' (o_sg O281 o288 (size_only O313) (ownF_ge r279)) o296) o306 (size_only O313) (ownF_ge r287))
            refine Pl.MSGV (v := .int .i64 (0)) Hz rfl rfl gd_t rfl rfl (fun hb => rfl) Tryd.call60 (fun hb => fix_eq (congrArg (Value.int .i64) (check_last.trans hz)) (Check_v (notes_up h312 O314))) rfl (fun w' o' => ⟨fun h => absurd h (by decide), (Only.trans (Only.trans (Only.trans (Only.trans (Only.trans (Only.trans (Only.refl NoF w264) o276 (fun _ h => h.elim)) o280 (fun _ h => h.elim)) o288 (fun k h => .inr (Nat.le_trans (size_only o276) ((ownF_ge r279) k h)))) o296 (fun _ h => h.elim)) o306 (fun k h => .inr (Nat.le_trans (size_only o276) ((ownF_ge r287) k h)))) o' (fun _ h => h.elim))⟩) fun w315 o316 => ?_
            clear Hz az; intro az Hz
            refine Pl.MSPT (b := false) (by kernel_rfl) Hz rfl rfl (fun W oW => r_eqRI Hz rfl rfl) rfl rfl ?_
            clear Hz az; intro az Hz
            refine Pl.MSP (b := false) (by kernel_rfl) (fun W oW => r_pick Hz rfl rfl rfl) Hz rfl rfl ?_
            clear Hz az; intro az Hz
            refine Pl.MSP (b := false) (by kernel_rfl) (fun W oW => r_as Hz rfl) Hz rfl rfl ?_
            clear Hz az; intro az Hz
            refine wpPl_nil ?_
            refine hK257 _ _ ?_
            refine wp_ret ?_
            show bodyPost _ _ _ .ret _ _
            refine ret_of (vs := [.bool (true)]) Hz Tryd.results14 ⟨rfl, trivial⟩ ?_
            have O317 : Only NoF w w275 := (Only.trans' O273 o276)
            have O318 : Only NoF w w315 := (Only.trans' (o_sg (Only.trans' (o_sg (Only.trans' (Only.trans' O273 o276) o280) o288 (size_only O317) (ownF_ge r279)) o296) o306 (size_only O317) (ownF_ge r287)) o316)
            exact ⟨rfl, O318⟩
          · -- 11 first
            obtain ⟨A319, w320, hw, hA, r321, o322⟩ := Row.made (w := w278) (KNote w60) (e := 54) ([(⟨h, ((l.length : Nat) : Int), d, A26, q, c27, t⟩ : NM)] : List NM) (by simp only [List.length_cons, List.length_nil]; unfold maxLen; omega)
            refine Pl.MDT Hz rfl rfl (r_bs (z := .agg #[.int .i64 (0), .int .i64 (0), .int .i64 (0), .slice none (0) 0, strV ([])]) (size := 5) (vs := [(0, .agg #[.int .i64 (h), .int .i64 (((l.length : Nat) : Int)), .int .i64 (d), .slice A26 (q.length) c27, strV (t)])]) (cs := List.flatMap (KNote w60).cells [(⟨h, ((l.length : Nat) : Int), d, A26, q, c27, t⟩ : NM)]) Tryd.underlying51 Tryd.sizeOf54 Tryd.zeroValue54 rfl (Fr.evalps Hz rfl) (by kernel_rfl)) rfl rfl ?_ ?_
            · rw [← hw]; exact ⟨fun h => absurd h (by decide), (Only.trans (Only.trans (Only.trans (Only.refl NoF w264) o276 (fun _ h => h.elim)) o280 (fun _ h => h.elim)) o322 (fun _ h => h.elim))⟩
            rw [← hw, ← hA]; clear Hz az; intro az Hz
            clear hw hA
            have ok323 : ∀ zq ∈ ([(⟨h, ((l.length : Nat) : Int), d, A26, q, c27, t⟩ : NM)] : List NM), (KNote w60).ok zq := by intro zq hx; simp only [List.mem_cons, List.not_mem_nil, or_false] at hx; rcases hx with rfl <;> first | exact okx261
            have r324 := (ow_k r279 o322)
            have O325 : Only NoF w60 w320 := (Only.trans' (Only.trans' (Only.trans' o265 o276) o280) o322)
            have h326 := (SliceOf.kp f258 O325 (fun _ _ h => h) (fun _ _ _ _ h => h))
            have hb334 : (List.length (([] : List NM)) + List.length (l)) * 64 ≤ 140737488355328 := by (simp only [List.length_append, List.length_cons, List.length_nil]; omega)
            have O335 : Only NoF w275 w320 := (Only.trans' o280 o322)
            obtain ⟨A327, c328, w329, hr330, r331, o332, al333⟩ := Row.app (P := Tryd.prog) (l := ([] : List NM)) (l2 := l) (KNote w60) elemNote r324 h326 hb334 (by unfold maxLen; omega) (size_only O335)
            simp only [List.nil_append, List.append_nil] at hr330 r331 al333
            refine Pl.MDT Hz rfl rfl (r_app hr330 Hz rfl rfl) rfl rfl ?_ ?_
            · exact ⟨fun h => absurd h (by decide), (Only.trans (Only.trans (Only.trans (Only.trans (Only.refl NoF w264) o276 (fun _ h => h.elim)) o280 (fun _ h => h.elim)) o322 (fun _ h => h.elim)) o332 (fun k h => .inr (Nat.le_trans (size_only o276) ((ownF_ge r279) k h))))⟩
            clear Hz az; intro az Hz
            have ok336 : ∀ zq ∈ l, (KNote w60).ok zq := (Row.oks (KNote w60) h326)
            have h337 := Row.own (KNote w60) r331 ok336
            have h338 := Row.own (KNote w60) r321 ok323
            have h339 := (SliceOf.kp h338 o332 (ge_F (ownF_lt r279) (Nat.le_refl _)) (fun _ _ _ _ h => h))
            have h340 := SliceOf.pl h339
            have hb348 : (List.length (l) + List.length ([(⟨h, ((l.length : Nat) : Int), d, A26, q, c27, t⟩ : NM)])) * 64 ≤ 140737488355328 := by (simp only [List.length_append, List.length_cons, List.length_nil]; omega)
            have O349 : Only NoF w275 w329 := (o_sg O335 o332 (Nat.le_refl _) (ownF_ge r279))
            obtain ⟨A341, c342, w343, hr344, r345, o346, al347⟩ := Row.app (P := Tryd.prog) (l := l) (l2 := [(⟨h, ((l.length : Nat) : Int), d, A26, q, c27, t⟩ : NM)]) (KNote w60) elemNote r331 h340 hb348 (by unfold maxLen; omega) (size_only O349)
            refine Pl.MDT Hz rfl rfl (r_app hr344 Hz rfl rfl) rfl rfl ?_ ?_
            · exact ⟨fun h => absurd h (by decide), (Only.trans (Only.trans (Only.trans (Only.trans (Only.trans (Only.refl NoF w264) o276 (fun _ h => h.elim)) o280 (fun _ h => h.elim)) o322 (fun _ h => h.elim)) o332 (fun k h => .inr (Nat.le_trans (size_only o276) ((ownF_ge r279) k h)))) o346 (fun k h => .inr (Nat.le_trans (size_only o276) ((ownF_ge r331) k h))))⟩
            clear Hz az; intro az Hz
            have ok350 : ∀ zq ∈ (l ++ [(⟨h, ((l.length : Nat) : Int), d, A26, q, c27, t⟩ : NM)]), (KNote w60).ok zq := (fun x hx => (List.mem_append.1 hx).elim (ok336 x) ((Row.oks (KNote w60) h340) x))
            have h351 := Row.own (KNote w60) r345 ok350
            have h352 := SliceOf.pl h351
            have O353 : Only NoF w60 w275 := (Only.trans' o265 o276)
            have O354 : Only NoF w60 w343 := (o_sg (o_sg O325 o332 (size_only O353) (ownF_ge r279)) o346 (size_only O353) (ownF_ge r331))
            refine Pl.MSGV (v := .int .i64 (0)) Hz rfl rfl gd_t rfl rfl (fun hb => rfl) Tryd.call60 (fun hb => fix_eq (congrArg (Value.int .i64) (check_last.trans hz)) (Check_v (notes_up h352 O354))) rfl (fun w' o' => ⟨fun h => absurd h (by decide), (Only.trans (Only.trans (Only.trans (Only.trans (Only.trans (Only.trans (Only.refl NoF w264) o276 (fun _ h => h.elim)) o280 (fun _ h => h.elim)) o322 (fun _ h => h.elim)) o332 (fun k h => .inr (Nat.le_trans (size_only o276) ((ownF_ge r279) k h)))) o346 (fun k h => .inr (Nat.le_trans (size_only o276) ((ownF_ge r331) k h)))) o' (fun _ h => h.elim))⟩) fun w355 o356 => ?_
            clear Hz az; intro az Hz
            refine Pl.MSPT (b := false) (by kernel_rfl) Hz rfl rfl (fun W oW => r_eqRI Hz rfl rfl) rfl rfl ?_
            clear Hz az; intro az Hz
            refine Pl.MSP (b := false) (by kernel_rfl) (fun W oW => r_pick Hz rfl rfl rfl) Hz rfl rfl ?_
            clear Hz az; intro az Hz
            refine Pl.MSP (b := false) (by kernel_rfl) (fun W oW => r_as Hz rfl) Hz rfl rfl ?_
            clear Hz az; intro az Hz
            refine wpPl_nil ?_
            refine hK257 _ _ ?_
            refine wp_ret ?_
            show bodyPost _ _ _ .ret _ _
            refine ret_of (vs := [.bool (true)]) Hz Tryd.results14 ⟨rfl, trivial⟩ ?_
            have O357 : Only NoF w w275 := (Only.trans' O273 o276)
            have O358 : Only NoF w w355 := (Only.trans' (o_sg (o_sg (Only.trans' (Only.trans' (Only.trans' O273 o276) o280) o322) o332 (size_only O357) (ownF_ge r279)) o346 (size_only O357) (ownF_ge r331)) o356)
            exact ⟨rfl, O358⟩
        · -- 11 first
          obtain ⟨A359, w360, hw, hA, r361, o362⟩ := Row.made (w := w275) (KNote w60) (e := 54) ([(⟨h, ((l.length : Nat) : Int), d, A26, q, c27, t⟩ : NM)] : List NM) (by simp only [List.length_cons, List.length_nil]; unfold maxLen; omega)
          refine Pl.MDT Hz rfl rfl (r_bs (z := .agg #[.int .i64 (0), .int .i64 (0), .int .i64 (0), .slice none (0) 0, strV ([])]) (size := 5) (vs := [(0, .agg #[.int .i64 (h), .int .i64 (((l.length : Nat) : Int)), .int .i64 (d), .slice A26 (q.length) c27, strV (t)])]) (cs := List.flatMap (KNote w60).cells [(⟨h, ((l.length : Nat) : Int), d, A26, q, c27, t⟩ : NM)]) Tryd.underlying51 Tryd.sizeOf54 Tryd.zeroValue54 rfl (Fr.evalps Hz rfl) (by kernel_rfl)) rfl rfl ?_ ?_
          · rw [← hw]; exact ⟨fun _ => (Only.trans' o276 o362), (Only.trans (Only.trans (Only.refl NoF w264) o276 (fun _ h => h.elim)) o362 (fun _ h => h.elim))⟩
          rw [← hw, ← hA]; clear Hz az; intro az Hz
          clear hw hA
          have ok363 : ∀ zq ∈ ([(⟨h, ((l.length : Nat) : Int), d, A26, q, c27, t⟩ : NM)] : List NM), (KNote w60).ok zq := by intro zq hx; simp only [List.mem_cons, List.not_mem_nil, or_false] at hx; rcases hx with rfl <;> first | exact okx261
          obtain ⟨A364, w365, hw, hA, r366, o367⟩ := made0 (w := w360) (e := 54) (size := 5)
          refine Pl.MDT Hz rfl rfl (r_bs0 Tryd.underlying51 Tryd.sizeOf54) rfl rfl ?_ ?_
          · rw [← hw]; exact ⟨fun h => absurd h (by decide), (Only.trans (Only.trans (Only.trans (Only.refl NoF w264) o276 (fun _ h => h.elim)) o362 (fun _ h => h.elim)) o367 (fun _ h => h.elim))⟩
          rw [← hw, ← hA]; clear Hz az; intro az Hz
          clear hw hA
          have O368 : Only NoF w60 w365 := (Only.trans' (Only.trans' (Only.trans' o265 o276) o362) o367)
          have h369 := (SliceOf.kp f258 O368 (fun _ _ h => h) (fun _ _ _ _ h => h))
          have hb377 : (List.length (([] : List NM)) + List.length (l)) * 64 ≤ 140737488355328 := by (simp only [List.length_append, List.length_cons, List.length_nil]; omega)
          obtain ⟨A370, c371, w372, hr373, r374, o375, al376⟩ := Row.app (P := Tryd.prog) (l := ([] : List NM)) (l2 := l) (KNote w60) elemNote r366 h369 hb377 (by unfold maxLen; omega) (size_only o367)
          simp only [List.nil_append, List.append_nil] at hr373 r374 al376
          have O378 : Only NoF w264 w360 := (Only.trans' o276 o362)
          refine Pl.MDT Hz rfl rfl (r_app hr373 Hz rfl rfl) rfl rfl ?_ ?_
          · exact ⟨fun h => absurd h (by decide), (Only.trans (Only.trans (Only.trans (Only.trans (Only.refl NoF w264) o276 (fun _ h => h.elim)) o362 (fun _ h => h.elim)) o367 (fun _ h => h.elim)) o375 (fun k h => .inr (Nat.le_trans (size_only O378) ((ownF_ge r366) k h))))⟩
          clear Hz az; intro az Hz
          have ok379 : ∀ zq ∈ l, (KNote w60).ok zq := (Row.oks (KNote w60) h369)
          have h380 := Row.own (KNote w60) r374 ok379
          have h381 := Row.own (KNote w60) r361 ok363
          have O382 : Only NoF w360 w372 := (o_sg o367 o375 (Nat.le_refl _) (ownF_ge r366))
          have h383 := (SliceOf.kp h381 O382 (fun _ _ h => h) (fun _ _ _ _ h => h))
          have h384 := SliceOf.pl h383
          have hb392 : (List.length (l) + List.length ([(⟨h, ((l.length : Nat) : Int), d, A26, q, c27, t⟩ : NM)])) * 64 ≤ 140737488355328 := by (simp only [List.length_append, List.length_cons, List.length_nil]; omega)
          obtain ⟨A385, c386, w387, hr388, r389, o390, al391⟩ := Row.app (P := Tryd.prog) (l := l) (l2 := [(⟨h, ((l.length : Nat) : Int), d, A26, q, c27, t⟩ : NM)]) (KNote w60) elemNote r374 h384 hb392 (by unfold maxLen; omega) (size_only O382)
          refine Pl.MDT Hz rfl rfl (r_app hr388 Hz rfl rfl) rfl rfl ?_ ?_
          · exact ⟨fun h => absurd h (by decide), (Only.trans (Only.trans (Only.trans (Only.trans (Only.trans (Only.refl NoF w264) o276 (fun _ h => h.elim)) o362 (fun _ h => h.elim)) o367 (fun _ h => h.elim)) o375 (fun k h => .inr (Nat.le_trans (size_only O378) ((ownF_ge r366) k h)))) o390 (fun k h => .inr (Nat.le_trans (size_only O378) ((ownF_ge r374) k h))))⟩
          clear Hz az; intro az Hz
          have ok393 : ∀ zq ∈ (l ++ [(⟨h, ((l.length : Nat) : Int), d, A26, q, c27, t⟩ : NM)]), (KNote w60).ok zq := (fun x hx => (List.mem_append.1 hx).elim (ok379 x) ((Row.oks (KNote w60) h384) x))
          have h394 := Row.own (KNote w60) r389 ok393
          have h395 := SliceOf.pl h394
          have O396 : Only NoF w60 w360 := (Only.trans' (Only.trans' o265 o276) o362)
          have O397 : Only NoF w60 w387 := (o_sg (o_sg O368 o375 (size_only O396) (ownF_ge r366)) o390 (size_only O396) (ownF_ge r374))
          refine Pl.MSGV (v := .int .i64 (0)) Hz rfl rfl gd_t rfl rfl (fun hb => rfl) Tryd.call60 (fun hb => fix_eq (congrArg (Value.int .i64) (check_last.trans hz)) (Check_v (notes_up h395 O397))) rfl (fun w' o' => ⟨fun h => absurd h (by decide), (Only.trans (Only.trans (Only.trans (Only.trans (Only.trans (Only.trans (Only.refl NoF w264) o276 (fun _ h => h.elim)) o362 (fun _ h => h.elim)) o367 (fun _ h => h.elim)) o375 (fun k h => .inr (Nat.le_trans (size_only O378) ((ownF_ge r366) k h)))) o390 (fun k h => .inr (Nat.le_trans (size_only O378) ((ownF_ge r374) k h)))) o' (fun _ h => h.elim))⟩) fun w398 o399 => ?_
          clear Hz az; intro az Hz
          refine Pl.MSPT (b := false) (by kernel_rfl) Hz rfl rfl (fun W oW => r_eqRI Hz rfl rfl) rfl rfl ?_
          clear Hz az; intro az Hz
          refine Pl.MSP (b := false) (by kernel_rfl) (fun W oW => r_pick Hz rfl rfl rfl) Hz rfl rfl ?_
          clear Hz az; intro az Hz
          refine Pl.MSP (b := false) (by kernel_rfl) (fun W oW => r_as Hz rfl) Hz rfl rfl ?_
          clear Hz az; intro az Hz
          refine wpPl_nil ?_
          refine hK257 _ _ ?_
          refine wp_ret ?_
          show bodyPost _ _ _ .ret _ _
          refine ret_of (vs := [.bool (true)]) Hz Tryd.results14 ⟨rfl, trivial⟩ ?_
          have O400 : Only NoF w w360 := (Only.trans' (Only.trans' O273 o276) o362)
          have O401 : Only NoF w w398 := (Only.trans' (o_sg (o_sg (Only.trans' (Only.trans' (Only.trans' O273 o276) o362) o367) o375 (size_only O400) (ownF_ge r366)) o390 (size_only O400) (ownF_ge r374)) o399)
          exact ⟨rfl, O401⟩

set_option maxRecDepth 20000 in
set_option maxHeartbeats 4000000 in
theorem next_f_ {w : World} (hG : Gr w) {l : List NM} {A1 : Option Addr} {c1 : Nat} (f1 : NotesV w w (.slice A1 l.length c1) l) {q : List RM} {A2 : Option Addr} {c2 : Nat} (f2 : RefsV w (.slice A2 q.length c2) q) {h d : Int} (hh : I64 h) (hd : I64 d) {t : Str} (ht : t.length ≤ maxLen) {E : Int} (hE : check (l ++ [(⟨h, ((l.length : Nat) : Int), d, none, q, 0, t⟩ : NM)]) = E) (hz : E ≠ 0) : Calls Tryd.prog 14 [.slice A1 l.length c1, .int .i64 h, .int .i64 d, .slice A2 q.length c2, strV t].toArray w (Fix (.bool true) w) := by
  refine calls_start Tryd.func14 rfl rfl ?_
  intro az Hz
  rw [Tryd.ntmps14] at Hz
  refine wp_seq_k fun K1 hK1 => ?_
  -- law.go:137
  refine wp_region_lit ?_
  refine L (r_as Hz rfl) Hz rfl ?_
  clear Hz az; intro az Hz
  refine hK1 _ _ ?_
  refine wp_seq_k fun K2 hK2 => ?_
  -- law.go:138
  refine wp_region_lit ?_
  have G3 := Gr.k hG (Only.refl NoF w)
  refine LCV (v := .bool (true)) Hz rfl rfl Tryd.call50 (small37_v G3) rfl fun w4 o5 => ?_
  clear Hz az; intro az Hz
  refine L (r_as Hz rfl) Hz rfl ?_
  clear Hz az; intro az Hz
  refine hK2 _ _ ?_
  refine wp_seq_k fun K6 hK6 => ?_
  refine wp_seq_k fun K7 hK7 => ?_
  -- law.go:139
  refine wp_region_lit ?_
  refine L (r_mv Hz rfl) Hz rfl ?_
  clear Hz az; intro az Hz
  have h8 := (SliceOf.kp f1 o5 (fun _ _ h => h) (fun _ _ _ _ h => h))
  refine LCE Hz rfl rfl Tryd.call51 (rFew_v_ (notes_up h8 o5) (by omega)) rfl fun b11 w9 hs12 o10 => ?_
  clear Hz az; intro az Hz
  refine L (r_not Hz rfl) Hz rfl ?_
  clear Hz az; intro az Hz
  refine L (r_mv Hz rfl) Hz rfl ?_
  clear Hz az; intro az Hz
  refine LG Hz rfl rfl gd_f (fun hb => r_mv Hz rfl) rfl ?_
  clear Hz az; intro az Hz
  refine LG Hz rfl rfl gd_f (fun hb => r_lenL Tryd.underlying52 Hz (evg hb rfl)) rfl ?_
  clear Hz az; intro az Hz
  refine LG Hz rfl rfl gd_f (fun hb => r_gtI Hz (evg hb rfl) rfl) rfl ?_
  clear Hz az; intro az Hz
  refine L (r_or Hz rfl rfl rfl) Hz rfl ?_
  clear Hz az; intro az Hz
  refine L (r_mv Hz rfl) Hz rfl ?_
  clear Hz az; intro az Hz
  refine LG Hz rfl rfl gd_f (fun hb => r_mv Hz rfl) rfl ?_
  clear Hz az; intro az Hz
  refine LG Hz rfl rfl gd_f (fun hb => r_lenS Tryd.underlying9 Hz (evg hb rfl)) rfl ?_
  clear Hz az; intro az Hz
  refine LG Hz rfl rfl gd_f (fun hb => r_gtI Hz (evg hb rfl) rfl) rfl ?_
  clear Hz az; intro az Hz
  refine L (r_or Hz rfl rfl rfl) Hz rfl ?_
  clear Hz az; intro az Hz
  refine hK7 _ _ ?_
  refine br Hz rfl (fun hc13 => ?_) (fun hc13 => ?_)
  · -- if0
    have d14 := hc13
    refine wp_seq_k fun K15 hK15 => ?_
    -- law.go:140
    refine wp_region_lit ?_
    refine L (r_mv Hz rfl) Hz rfl ?_
    clear Hz az; intro az Hz
    refine L (r_as Hz rfl) Hz rfl ?_
    clear Hz az; intro az Hz
    refine hK15 _ _ ?_
    refine wp_ret ?_
    show bodyPost _ _ _ .ret _ _
    refine ret_of (vs := [.bool (true)]) Hz Tryd.results14 ⟨rfl, trivial⟩ ?_
    have O16 : Only NoF w w9 := (Only.trans' o5 o10)
    exact ⟨rfl, O16⟩
  · -- else0
    have q17 : b11 = true := (nt_f (or_f (or_f hc13).1).1)
    have S18 := hs12 q17
    have p19 := of_decide_eq_false (or_f (or_f hc13).1).2
    have p20 := of_decide_eq_false (or_f hc13).2
    have hflen := (S18).1
    refine wp_skip ?_
    refine hK6 _ _ ?_
    refine wp_seq_k fun K21 hK21 => ?_
    -- law.go:142
    refine wp_region_lit ?_
    refine L (r_mv Hz rfl) Hz rfl ?_
    clear Hz az; intro az Hz
    refine L (r_mv Hz rfl) Hz rfl ?_
    clear Hz az; intro az Hz
    refine L (r_mv Hz rfl) Hz rfl ?_
    clear Hz az; intro az Hz
    refine L (r_mv Hz rfl) Hz rfl ?_
    clear Hz az; intro az Hz
    refine L (r_mv Hz rfl) Hz rfl ?_
    clear Hz az; intro az Hz
    have O22 : Only NoF w w9 := (Only.trans' o5 o10)
    have h23 := (SliceOf.kp f1 O22 (fun _ _ h => h) (fun _ _ _ _ h => h))
    have h24 := (SliceOf.kp f2 O22 (fun _ _ h => h) (fun _ _ _ _ h => h))
    refine LCV (v := .tuple #[.agg #[.int .i64 (0), .int .i64 (0), .int .i64 (0), .slice none (0) 0, strV ([])], .int .i64 (E)]) Hz rfl rfl Tryd.call53 (next_n (notes_up h23 O22) h24 hh hd ht (by omega) (by omega) hE hz) rfl fun w25 o26 => ?_
    clear Hz az; intro az Hz
    refine L (r_mv Hz rfl) Hz rfl ?_
    clear Hz az; intro az Hz
    refine L (r_ex Hz rfl rfl) Hz rfl ?_
    clear Hz az; intro az Hz
    refine L (r_ex Hz rfl rfl) Hz rfl ?_
    clear Hz az; intro az Hz
    refine LAl (v := .agg #[.int .i64 (0), .int .i64 (0), .int .i64 (0), .slice none (0) 0, strV ([])]) Tryd.zeroValue54 Hz rfl rfl ?_
    clear Hz az; intro g27 w28 hg31 hl32 o29 B30 az Hz
    refine LSt (cs' := [.int .i64 (0), .int .i64 (0), .int .i64 (0), .slice none (0) 0, strV ([])]) Tryd.sizeOf54 Hz rfl rfl rfl rfl rfl ⟨rfl, rfl, rfl, rfl, rfl, trivial⟩ B30 rfl rfl fun w33 s34 B35 => ?_
    refine L (r_as Hz rfl) Hz rfl ?_
    clear Hz az; intro az Hz
    refine hK21 _ _ ?_
    refine wp_seq_k fun K36 hK36 => ?_
    -- law.go:143
    refine wp_region_lit ?_
    refine L (r_mv Hz rfl) Hz rfl ?_
    clear Hz az; intro az Hz
    refine L (r_mv Hz rfl) Hz rfl ?_
    clear Hz az; intro az Hz
    refine L (r_lenL Tryd.underlying51 Hz rfl) Hz rfl ?_
    clear Hz az; intro az Hz
    refine L (r_mv Hz rfl) Hz rfl ?_
    clear Hz az; intro az Hz
    refine L (r_mv Hz rfl) Hz rfl ?_
    clear Hz az; intro az Hz
    refine L (r_mv Hz rfl) Hz rfl ?_
    clear Hz az; intro az Hz
    refine L (r_bd (v := .agg #[.int .i64 (h), .int .i64 (((l.length : Nat) : Int)), .int .i64 (d), .slice A2 (q.length) c2, strV (t)]) (build_Note5 _ _ _ _ _ _ _) Hz rfl) Hz rfl ?_
    clear Hz az; intro az Hz
    refine LAl (v := .agg #[.int .i64 (0), .int .i64 (0), .int .i64 (0), .slice none (0) 0, strV ([])]) Tryd.zeroValue54 Hz rfl rfl ?_
    clear Hz az; intro g37 w38 hg41 hl42 o39 B40 az Hz
    refine LSt (cs' := [.int .i64 (h), .int .i64 (((l.length : Nat) : Int)), .int .i64 (d), .slice A2 (q.length) c2, strV (t)]) Tryd.sizeOf54 Hz rfl rfl rfl rfl rfl ⟨rfl, rfl, rfl, rfl, rfl, trivial⟩ B40 rfl rfl fun w43 s44 B45 => ?_
    refine hK36 _ _ ?_
    refine wp_seq_k fun K46 hK46 => ?_
    -- law.go:144
    refine wp_region_lit ?_
    refine L (r_mv Hz rfl) Hz rfl ?_
    clear Hz az; intro az Hz
    have O47 : Only NoF w w25 := (Only.trans' O22 o26)
    have O48 : Only NoF w w33 := (o_sg (Only.trans' O47 o29) s34 (size_only O47) (oneF_ge hg31))
    have O49 : Only NoF w w43 := (o_sg (Only.trans' (o_sg (Only.trans' (Only.trans' O22 o26) o29) s34 (size_only O47) (oneF_ge hg31)) o39) s44 (size_only O48) (oneF_ge hg41))
    have h50 := (SliceOf.kp f1 O49 (fun _ _ h => h) (fun _ _ _ _ h => h))
    refine LCV (v := .int .i64 ((check l))) Hz rfl rfl Tryd.call60 (Check_v (notes_up h50 O49)) rfl fun w51 o52 => ?_
    clear Hz az; intro az Hz
    refine L (r_eqI Hz rfl rfl) Hz rfl ?_
    clear Hz az; intro az Hz
    refine L (r_mv Hz rfl) Hz rfl ?_
    clear Hz az; intro az Hz
    have B53 := (Blk.k B45 o52)
    refine LG Hz rfl rfl gd_t (fun hb => r_ldA Tryd.isAgg54 Tryd.sizeOf54 Hz rfl (Blk.ca B53) rfl) rfl ?_
    clear Hz az; intro az Hz
    have O54 : Only NoF w w51 := (Only.trans' O49 o52)
    have h55 := (SliceOf.kp f2 O54 (fun _ _ h => h) (fun _ _ _ _ h => h))
    refine LGV (v := .bool (right (⟨h, ((l.length : Nat) : Int), d, none, q, 0, t⟩ : NM))) Hz rfl rfl gd_t rfl (fun hb => (evs_c (evg hb rfl) rfl)) Tryd.call62 (fun hb => fix_eq (congrArg Value.bool (by rfl : right (⟨h, ((l.length : Nat) : Int), d, A2, q, c2, t⟩ : NM) = right (⟨h, ((l.length : Nat) : Int), d, none, q, 0, t⟩ : NM))) (Right_v (m := (⟨h, ((l.length : Nat) : Int), d, A2, q, c2, t⟩ : NM)) h55)) rfl fun w56 o57 => ?_
    clear Hz az; intro az Hz
    refine L (r_and Hz rfl rfl rfl) Hz rfl ?_
    clear Hz az; intro az Hz
    refine L (r_as Hz rfl) Hz rfl ?_
    clear Hz az; intro az Hz
    refine hK46 _ _ ?_
    refine wp_seq_k fun K58 hK58 => ?_
    refine wp_seq_k fun K59 hK59 => ?_
    -- law.go:145
    refine wp_region_lit ?_
    refine L (r_mv Hz rfl) Hz rfl ?_
    clear Hz az; intro az Hz
    refine L (r_mv Hz rfl) Hz rfl ?_
    clear Hz az; intro az Hz
    refine LG Hz rfl rfl gd_t (fun hb => r_mv Hz rfl) rfl ?_
    clear Hz az; intro az Hz
    refine LG Hz rfl rfl gd_t (fun hb => r_lenL Tryd.underlying51 Hz (evg hb rfl)) rfl ?_
    clear Hz az; intro az Hz
    refine LG Hz rfl rfl gd_t (fun hb => r_gtI Hz (evg hb rfl) rfl) rfl ?_
    clear Hz az; intro az Hz
    refine L (r_and Hz rfl rfl rfl) Hz rfl ?_
    clear Hz az; intro az Hz
    refine hK59 _ _ ?_
    refine br Hz rfl (fun hc60 => ?_) (fun hc60 => ?_)
    · -- if1
      have p61 := of_decide_eq_true (and_t (and_t hc60).1).1
      have q62 : right (⟨h, ((l.length : Nat) : Int), d, none, q, 0, t⟩ : NM) = true := (and_t (and_t hc60).1).2
      have p63 := of_decide_eq_true (and_t hc60).2
      refine wp_seq_k fun K64 hK64 => ?_
      -- law.go:146
      refine wp_region_lit ?_
      refine L (r_mv Hz rfl) Hz rfl ?_
      clear Hz az; intro az Hz
      refine L (r_mv Hz rfl) Hz rfl ?_
      clear Hz az; intro az Hz
      refine L (r_lenL Tryd.underlying51 Hz rfl) Hz rfl ?_
      clear Hz az; intro az Hz
      have i65 : I64 ((((l.length : Nat) : Int) - 1)) := by unfold I64; omega
      refine L (r_subI (r := (((l.length : Nat) : Int) - 1)) Hz rfl rfl rfl i65) Hz rfl ?_
      clear Hz az; intro az Hz
      have z66 : (((l.length : Nat) : Int) - 1) = ((l.length - 1 : Nat) : Int) := by omega
      have hk67 : (l.length - 1) < (l).length := by omega
      have O73 : Only NoF w w56 := (Only.trans' O54 o57)
      have h74 := (SliceOf.kp f1 O73 (fun _ _ h => h) (fun _ _ _ _ h => h))
      obtain ⟨m68, hm69, ok70, hA71⟩ := Row.el (KNote w) h74 hk67
      have E72 : ∀ W, Only NoF w56 W → CA W (eA A1 5 ((l.length - 1))) [.int .i64 (m68.h), .int .i64 (m68.n), .int .i64 (m68.d), .slice m68.A (m68.l.length) m68.c, strV (m68.s)] := Row.ce (KNote w) h74 hm69 rfl
      refine L (r_ia (k := (l.length - 1)) (size := 5) Tryd.underlying51 Tryd.sizeOf54 Hz rfl rfl z66 hk67 hA71) Hz rfl ?_
      clear Hz az; intro az Hz
      refine L (r_ldA Tryd.isAgg54 Tryd.sizeOf54 Hz rfl (E72 _ (Only.refl NoF w56)) rfl) Hz rfl ?_
      clear Hz az; intro az Hz
      refine LAl (v := .agg #[.int .i64 (0), .int .i64 (0), .int .i64 (0), .slice none (0) 0, strV ([])]) Tryd.zeroValue54 Hz rfl rfl ?_
      clear Hz az; intro g75 w76 hg79 hl80 o77 B78 az Hz
      refine LSt (cs' := [.int .i64 (m68.h), .int .i64 (m68.n), .int .i64 (m68.d), .slice m68.A (m68.l.length) m68.c, strV (m68.s)]) Tryd.sizeOf54 Hz rfl rfl rfl rfl rfl ⟨rfl, rfl, rfl, rfl, rfl, trivial⟩ B78 rfl rfl fun w81 s82 B83 => ?_
      refine hK64 _ _ ?_
      -- law.go:147
      refine wp_region_lit ?_
      refine L (r_fa (m' := 0) Tryd.underlying54 rfl Tryd.sizeOf3 rfl Hz rfl rfl) Hz rfl ?_
      clear Hz az; intro az Hz
      refine L (r_ld Tryd.isAgg3 Hz rfl ((Blk.ca B83) 0 _ rfl)) Hz rfl ?_
      clear Hz az; intro az Hz
      refine L (r_mv Hz rfl) Hz rfl ?_
      clear Hz az; intro az Hz
      refine L (r_eqI Hz rfl rfl) Hz rfl ?_
      clear Hz az; intro az Hz
      refine L (r_mv Hz rfl) Hz rfl ?_
      clear Hz az; intro az Hz
      refine LG Hz rfl rfl gd_t (fun hb => r_fa (m' := 2) Tryd.underlying54 rfl Tryd.sizeOf3 rfl Hz rfl rfl) rfl ?_
      clear Hz az; intro az Hz
      refine LG Hz rfl rfl gd_t (fun hb => r_ld Tryd.isAgg3 Hz (evg hb rfl) ((Blk.ca B83) 2 _ rfl)) rfl ?_
      clear Hz az; intro az Hz
      refine LG Hz rfl rfl gd_t (fun hb => r_mv Hz rfl) rfl ?_
      clear Hz az; intro az Hz
      refine LG Hz rfl rfl gd_t (fun hb => r_leI Hz (evg hb rfl) (evg hb rfl)) rfl ?_
      clear Hz az; intro az Hz
      refine L (r_and Hz rfl rfl rfl) Hz rfl ?_
      clear Hz az; intro az Hz
      refine L (r_as Hz rfl) Hz rfl ?_
      clear Hz az; intro az Hz
      refine hK58 _ _ ?_
      refine wp_seq_k fun K84 hK84 => ?_
      refine wp_seq_k fun K85 hK85 => ?_
      -- law.go:149
      refine wp_region_lit ?_
      refine L (r_mv Hz rfl) Hz rfl ?_
      clear Hz az; intro az Hz
      refine L (r_eqI Hz rfl rfl) Hz rfl ?_
      clear Hz az; intro az Hz
      refine L (r_mv Hz rfl) Hz rfl ?_
      clear Hz az; intro az Hz
      refine L (r_neB Tryd.underlying4 Hz rfl rfl) Hz rfl ?_
      clear Hz az; intro az Hz
      refine hK85 _ _ ?_
      refine br Hz rfl (fun hc86 => ?_) (fun hc86 => ?_)
      · -- if2
        have p87 := of_decide_eq_false (nt_t hc86)
        refine wp_seq_k fun K88 hK88 => ?_
        -- law.go:150
        refine wp_region_lit ?_
        refine L (r_as Hz rfl) Hz rfl ?_
        clear Hz az; intro az Hz
        refine hK88 _ _ ?_
        refine wp_ret ?_
        show bodyPost _ _ _ .ret _ _
        refine ret_of (vs := [.bool (false)]) Hz Tryd.results14 ⟨rfl, trivial⟩ ?_
        have O89 : Only NoF w w81 := (o_sg (Only.trans' O73 o77) s82 (size_only O73) (oneF_ge hg79))
        exact absurd hc86 (next_n1 hE hz hc60 hm69)
      · -- else2
        have p90 := of_decide_eq_true (nt_f hc86)
        refine wp_skip ?_
        refine hK84 _ _ ?_
        refine wp_seq_k fun K91 hK91 => ?_
        refine wp_seq_k fun K92 hK92 => ?_
        -- law.go:152
        refine wp_region_lit ?_
        refine L (r_mv Hz rfl) Hz rfl ?_
        clear Hz az; intro az Hz
        refine L (r_neI Hz rfl rfl) Hz rfl ?_
        clear Hz az; intro az Hz
        refine hK92 _ _ ?_
        refine br Hz rfl (fun hc93 => ?_) (fun hc93 => ?_)
        · -- if3
          have p94 := of_decide_eq_false (nt_t hc93)
          refine wp_seq_k fun K95 hK95 => ?_
          -- law.go:153
          refine wp_region_lit ?_
          refine L (r_mv Hz rfl) Hz rfl ?_
          clear Hz az; intro az Hz
          refine L (r_mv Hz rfl) Hz rfl ?_
          clear Hz az; intro az Hz
          have O97 := (Only.trans (Only.refl (fun _ => True) w28) s34 (fun _ _ => .inl trivial))
          have ne96 : g27 ≠ g37 := (ne_of hl32 (Nat.le_trans (size_only O97) hg41))
          have O99 := (Only.trans (Only.trans (Only.trans (Only.trans (Only.trans (Only.refl (fun _ => True) w28) s34 (fun _ _ => .inl trivial)) o39 (fun _ _ => .inl trivial)) s44 (fun _ _ => .inl trivial)) o52 (fun _ _ => .inl trivial)) o57 (fun _ _ => .inl trivial))
          have ne98 : g27 ≠ g75 := (ne_of hl32 (Nat.le_trans (size_only O99) hg79))
          have B100 := (Blk.st (Blk.k (Blk.k (Blk.k (Blk.st (Blk.k B35 o39) s44 ne96) o52) o57) o77) s82 ne98)
          refine LT Hz rfl rfl (r_ldA Tryd.isAgg54 Tryd.sizeOf54 Hz rfl (Blk.ca B100) rfl) rfl ?_
          clear Hz az; intro az Hz
          refine LT Hz rfl rfl (r_bd (v := .agg #[.int .i64 (0), .int .i64 (0), .int .i64 (0), .slice none (0) 0, strV ([])]) (build_Note0) Hz rfl) rfl ?_
          clear Hz az; intro az Hz
          refine LGV (v := .bool (true)) Hz rfl rfl gd_t rfl (fun hb => rfl) Tryd.call59 (fun hb => fix_eq (congrArg Value.bool (by simp [same] : same (⟨0, 0, 0, none, [], 0, []⟩ : NM) (⟨0, 0, 0, none, [], 0, []⟩ : NM) = true)) (rSame_v (m := (⟨0, 0, 0, none, [], 0, []⟩ : NM)) (m2 := (⟨0, 0, 0, none, [], 0, []⟩ : NM)) (SliceOf.nil_ _ _ _) (SliceOf.nil_ _ _ _))) rfl fun w101 o102 => ?_
          clear Hz az; intro az Hz
          refine L (r_pick Hz rfl rfl rfl) Hz rfl ?_
          clear Hz az; intro az Hz
          refine L (r_as Hz rfl) Hz rfl ?_
          clear Hz az; intro az Hz
          refine hK95 _ _ ?_
          refine wp_ret ?_
          show bodyPost _ _ _ .ret _ _
          refine ret_of (vs := [.bool (true)]) Hz Tryd.results14 ⟨rfl, trivial⟩ ?_
          have O103 : Only NoF w w101 := (Only.trans' (o_sg (Only.trans' O73 o77) s82 (size_only O73) (oneF_ge hg79)) o102)
          exact ⟨rfl, O103⟩
        · -- else3
          have p104 := of_decide_eq_true (nt_f hc93)
          exact absurd (of_decide_eq_true (nt_f hc93)) hz
    · -- else1
      have d105 := hc60
      refine wp_skip ?_
      refine hK58 _ _ ?_
      refine wp_seq_k fun K106 hK106 => ?_
      refine wp_seq_k fun K107 hK107 => ?_
      -- law.go:149
      refine wp_region_lit ?_
      refine L (r_mv Hz rfl) Hz rfl ?_
      clear Hz az; intro az Hz
      refine L (r_eqI Hz rfl rfl) Hz rfl ?_
      clear Hz az; intro az Hz
      refine L (r_mv Hz rfl) Hz rfl ?_
      clear Hz az; intro az Hz
      refine L (r_neB Tryd.underlying4 Hz rfl rfl) Hz rfl ?_
      clear Hz az; intro az Hz
      refine hK107 _ _ ?_
      refine br Hz rfl (fun hc108 => ?_) (fun hc108 => ?_)
      · -- if2
        have p109 := of_decide_eq_false (nt_t hc108)
        refine wp_seq_k fun K110 hK110 => ?_
        -- law.go:150
        refine wp_region_lit ?_
        refine L (r_as Hz rfl) Hz rfl ?_
        clear Hz az; intro az Hz
        refine hK110 _ _ ?_
        refine wp_ret ?_
        show bodyPost _ _ _ .ret _ _
        refine ret_of (vs := [.bool (false)]) Hz Tryd.results14 ⟨rfl, trivial⟩ ?_
        have O111 : Only NoF w w56 := (Only.trans' O54 o57)
        exact absurd hc108 (next_n0 hE hz hc60)
      · -- else2
        have p112 := of_decide_eq_true (nt_f hc108)
        refine wp_skip ?_
        refine hK106 _ _ ?_
        refine wp_seq_k fun K113 hK113 => ?_
        refine wp_seq_k fun K114 hK114 => ?_
        -- law.go:152
        refine wp_region_lit ?_
        refine L (r_mv Hz rfl) Hz rfl ?_
        clear Hz az; intro az Hz
        refine L (r_neI Hz rfl rfl) Hz rfl ?_
        clear Hz az; intro az Hz
        refine hK114 _ _ ?_
        refine br Hz rfl (fun hc115 => ?_) (fun hc115 => ?_)
        · -- if3
          have p116 := of_decide_eq_false (nt_t hc115)
          refine wp_seq_k fun K117 hK117 => ?_
          -- law.go:153
          refine wp_region_lit ?_
          refine L (r_mv Hz rfl) Hz rfl ?_
          clear Hz az; intro az Hz
          refine L (r_mv Hz rfl) Hz rfl ?_
          clear Hz az; intro az Hz
          have O119 := (Only.trans (Only.refl (fun _ => True) w28) s34 (fun _ _ => .inl trivial))
          have ne118 : g27 ≠ g37 := (ne_of hl32 (Nat.le_trans (size_only O119) hg41))
          have B120 := (Blk.k (Blk.k (Blk.st (Blk.k B35 o39) s44 ne118) o52) o57)
          refine LT Hz rfl rfl (r_ldA Tryd.isAgg54 Tryd.sizeOf54 Hz rfl (Blk.ca B120) rfl) rfl ?_
          clear Hz az; intro az Hz
          refine LT Hz rfl rfl (r_bd (v := .agg #[.int .i64 (0), .int .i64 (0), .int .i64 (0), .slice none (0) 0, strV ([])]) (build_Note0) Hz rfl) rfl ?_
          clear Hz az; intro az Hz
          refine LGV (v := .bool (true)) Hz rfl rfl gd_t rfl (fun hb => rfl) Tryd.call59 (fun hb => fix_eq (congrArg Value.bool (by simp [same] : same (⟨0, 0, 0, none, [], 0, []⟩ : NM) (⟨0, 0, 0, none, [], 0, []⟩ : NM) = true)) (rSame_v (m := (⟨0, 0, 0, none, [], 0, []⟩ : NM)) (m2 := (⟨0, 0, 0, none, [], 0, []⟩ : NM)) (SliceOf.nil_ _ _ _) (SliceOf.nil_ _ _ _))) rfl fun w121 o122 => ?_
          clear Hz az; intro az Hz
          refine L (r_pick Hz rfl rfl rfl) Hz rfl ?_
          clear Hz az; intro az Hz
          refine L (r_as Hz rfl) Hz rfl ?_
          clear Hz az; intro az Hz
          refine hK117 _ _ ?_
          refine wp_ret ?_
          show bodyPost _ _ _ .ret _ _
          refine ret_of (vs := [.bool (true)]) Hz Tryd.results14 ⟨rfl, trivial⟩ ?_
          have O123 : Only NoF w w121 := (Only.trans' (Only.trans' O54 o57) o122)
          exact ⟨rfl, O123⟩
        · -- else3
          have p124 := of_decide_eq_true (nt_f hc115)
          exact absurd (of_decide_eq_true (nt_f hc115)) hz

theorem snext_v {w : World} (hG : Gr w) {v v2 : Value} {l : List NM} (f1 : NotesV w w v l) {h d : Int} (hh : I64 h) (hd : I64 d) {q : List RM} (f2 : RefsV w v2 q) {t : Str} (ht : t.length ≤ maxLen) : Calls Tryd.prog 14 #[v, .int .i64 h, .int .i64 d, v2, strV t] w (Fix (.bool true) w) := by
  obtain ⟨A1, c1, rfl, _⟩ := SliceOf.shape f1
  obtain ⟨A2, c2, rfl, _⟩ := SliceOf.shape f2
  by_cases hz : check (l ++ [(⟨h, ((l.length : Nat) : Int), d, none, q, 0, t⟩ : NM)]) = 0
  · exact next_t_ hG f1 f2 hh hd ht hz
  · exact next_f_ hG f1 f2 hh hd ht rfl hz
end Go.Proofs.YtgmnoianhonihaaDoor
