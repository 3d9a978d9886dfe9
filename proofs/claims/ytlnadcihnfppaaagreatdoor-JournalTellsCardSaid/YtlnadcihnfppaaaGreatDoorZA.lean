/-
  The journal's reference in memory. No condition.
  The journal's reference: Sum, Form, Forms, Records, walked. Condition: strings of at most 16,777,216 bytes.
  The journal's reference: Open, Append, Sync, walked. Condition for Append: a record of at most 900,000 bytes.
  The journal and its reference side by side, as JournalTells calls them. No condition beyond those that each names.
  JournalTells, walked: it returns true. No condition but the listed variables.
-/
import Derived.Test.YtlnadcihnfppaaaGreatDoorJA
import Derived.Test.YtlnadcihnfppaaaGreatDoorRF
import Derived.Test.YtlnadcihnfppaaaGreatDoorJB
import Derived.Test.YtlnadcihnfppaaaGreatDoorWR
import Derived.Test.YtlnadcihnfppaaaGreatDoorJC
namespace Go.Proofs.YtlnadcihnfppaaaGreatDoor
set_option linter.unusedVariables false
set_option linter.unusedSimpArgs false
set_option linter.unusedSectionVars false
section
open Go.RowKit

abbrev RefT (b : Nat) (D : Dsk) : Thing := fun w F => IsRef w b D F
theorem refT_good (b : Nat) (D : Dsk) : Good (RefT b D) := ⟨fun h ho hG => IsRef.only h ho hG, fun h => by obtain ⟨x, i, rfl⟩ := h; exact i.foot_lt⟩
abbrev kjCells (b : Nat) (J : Jn) (A : Option Addr) (c : Nat) : Array Value := #[.pointer (some ⟨b, 0, none⟩), .int .i64 J.f, .slice A J.l.length c, .bool J.bad]
def KB (b g : Nat) (J : Jn) : Thing := fun w F => ∃ A c, Blk w g 49 (kjCells b J A c) ∧ w.ownsRow 0 9 1 (.slice A J.l.length c) J.l.length (J.l.flatMap KStr.cells) ∧ (∀ z ∈ J.l, KStr.ok z) ∧ F = ⟨fun k => k = g ∨ ownF (.slice A J.l.length c) k, fun _ => False⟩
theorem kb_good (b g : Nat) (J : Jn) : Good (KB b g J) where
  only := by
    rintro w w' F G ⟨A, c, h1, h2, h3, rfl⟩ ho hG
    exact ⟨A, c, h1.only ho (hG g (.inl (.inl rfl))), ow_only h2 ho fun k hk => hG k (.inl (.inr hk)), h3, rfl⟩
  lt := by
    rintro w F ⟨A, c, h1, h2, h3, rfl⟩ k ((rfl | hk) | hk)
    · exact Blk.lt h1
    · exact ownF_lt h2 k hk
    · exact hk.elim
abbrev KT (b g : Nat) (D : Dsk) (J : Jn) : Thing := BothT (KB b g J) (RefT b D)
theorem kt_good (b g : Nat) (D : Dsk) (J : Jn) : Good (KT b g D J) := BothT.good (kb_good b g J) (refT_good b D)
section
variable {w : World} {b g : Nat} {D : Dsk} {J : Jn} {F : Foot}
theorem KT.make {A : Option Addr} {c base : Nat} (h1 : Blk w g 49 (kjCells b J A c)) (h2 : w.ownsRow base 9 1 (.slice A J.l.length c) J.l.length (J.l.flatMap KStr.cells)) (h3 : ∀ z ∈ J.l, KStr.ok z) (h4 : IsRef w b D F) (s1 : ¬ F.all g) (s2 : ∀ k, ownF (.slice A J.l.length c) k → ¬ F.all k) :
    KT b g D J w ⟨fun k => (k = g ∨ ownF (.slice A J.l.length c) k) ∨ F.m k, fun k => False ∨ F.r k⟩ :=
  ⟨⟨fun k => k = g ∨ ownF (.slice A J.l.length c) k, fun _ => False⟩, F, ⟨A, c, h1, ow_low h2 (Nat.zero_le _), h3, rfl⟩, h4, fun k hk => hk.elim (fun e => by subst e; exact s1) (s2 k), fun k hk h => h.elim (fun h => h.elim (fun e => by subst e; exact s1 (.inl hk)) (fun h => s2 k h (.inl hk))) (fun h => h.elim), rfl⟩
theorem KT.disk (h : KT b g D J w F) : ∃ F2, IsRef w b D F2 ∧ (∀ k, F2.m k → F.m k) ∧ ∀ k, F2.r k → F.r k := by
  obtain ⟨G1, G2, _, h2, _, _, rfl⟩ := h
  exact ⟨G2, h2, fun k hk => .inr hk, fun k hk => .inr hk⟩
end
/-- opening's outcome -/
def OpenKTo (b : Nat) (r : Dsk × Int × Option Jn) (w : World) (F : Foot) (e : Ending) (w' : World) : Prop :=
  (r.2.2 = none ∧ e = .returned (.tuple #[.pointer none, .int .i64 r.2.1]) ∧ ThingTo (RefT b r.1) w F w') ∨
  ∃ J g, r.2.2 = some J ∧ e = .returned (.tuple #[.pointer (some ⟨g, 0, none⟩), .int .i64 r.2.1]) ∧ ThingTo (KT b g r.1 J) w F w'
theorem refok {w : World} {b : Nat} {D : Dsk} {F : Foot} (h : IsRef w b D F) : D.Ok := by
  obtain ⟨x, i, rfl⟩ := h
  exact i.ok
theorem kread_le {w : World} {b : Nat} {D : Dsk} {F : Foot} (h : IsRef w b D F) (f a n : Int) : (D.read f a n).1.length ≤ 16777216 := by
  have := ((refok h).lens f).1
  unfold Dsk.read Dsk.readS
  split
  · simp
  · split
    · simp
    · rw [List.length_take, List.length_drop]; omega
theorem ksize_le {w : World} {b : Nat} {D : Dsk} {F : Foot} (h : IsRef w b D F) (f : Int) : D.size f ≤ 16777216 := ((refok h).lens f).1
theorem fix_b {P : Program} {w : World} {f : FuncId} {args : Array Value} {v : Value} (h : Calls P f args w fun e w' => e = .returned v ∧ Below w.heap.size w w') : Calls P f args w (Fix v w) :=
  h.mono fun _ _ ⟨he, hw⟩ => ⟨he, only_of_below hw⟩
end
section
open Go.RowKit

theorem forms_le {l : List Str} {k : Nat} {t : Str} (h : l[k]? = some t) : (forms (l.take k)).length + (form t).length ≤ (forms l).length := by
  obtain ⟨hk, rfl⟩ := List.getElem?_eq_some_iff.1 h
  have e : l = l.take k ++ (l[k] :: l.drop (k + 1)) := by rw [← List.drop_eq_getElem_cons hk, List.take_append_drop]
  have := congrArg (fun l => (forms l).length) e
  simp only [forms_app, forms_cons, List.length_append] at this
  omega
theorem rdz_bad {s : Wr.Rd} (hf : Wr.Fine s) (h : s.b = true) : s = ⟨[], true⟩ := by
  have := hf h
  cases s
  simp only at h this
  rw [h, this]
theorem numz_bad : (Wr.num ⟨[], true⟩).2.b = true := by decide +kernel
section
variable {t : Str} {k : Nat}
theorem rec_yes (h : (((Wr.num (Wr.text ⟨List.drop k t, false⟩).2).2.b || decide ((20000 : Int) < ((List.length ((Wr.text ⟨List.drop k t, false⟩).1) : Nat) : Int))) || (!decide ((Wr.num (Wr.text ⟨List.drop k t, false⟩).2).1 = (jsum (Wr.text ⟨List.drop k t, false⟩).1)))) = false) : one (t.drop k) = some (Wr.text ⟨List.drop k t, false⟩).1 ∧ List.length (Wr.text ⟨List.drop k t, false⟩).1 ≤ 20000 := by
  simp only [Bool.or_eq_false_iff, decide_eq_false_iff_not, Bool.not_eq_false', decide_eq_true_eq] at h
  obtain ⟨⟨hb, hl⟩, hn⟩ := h
  have b1 : (Wr.text ⟨List.drop k t, false⟩).2.b = false := by
    cases hh : (Wr.text ⟨List.drop k t, false⟩).2.b
    · rfl
    · rw [rdz_bad (Wr.text_fine (fun h => by cases h)) hh, numz_bad] at hb; cases hb
  have e1 := Wr.text_was ⟨List.drop k t, false⟩ b1
  have e2 := Wr.num_was (Wr.text ⟨List.drop k t, false⟩).2 hb
  rw [e2, hn] at e1
  have e3 : List.drop k t = form (Wr.text ⟨List.drop k t, false⟩).1 ++ (Wr.num (Wr.text ⟨List.drop k t, false⟩).2).2.r := by
    unfold form
    rw [List.append_assoc]; exact e1
  refine ⟨?_, by omega⟩
  have := one_form (t := (Wr.text ⟨List.drop k t, false⟩).1) (r := (Wr.num (Wr.text ⟨List.drop k t, false⟩).2).2.r) (by omega)
  rwa [← e3] at this
theorem rec_no (h : (((Wr.num (Wr.text ⟨List.drop k t, false⟩).2).2.b || decide ((20000 : Int) < ((List.length ((Wr.text ⟨List.drop k t, false⟩).1) : Nat) : Int))) || (!decide ((Wr.num (Wr.text ⟨List.drop k t, false⟩).2).1 = (jsum (Wr.text ⟨List.drop k t, false⟩).1)))) = true) : one (t.drop k) = none := by
  cases e : one (t.drop k) with
  | none => rfl
  | some a =>
    exfalso
    have hx := one_next e
    obtain ⟨ea, hl, hn, _, _⟩ := one_some e
    rw [ea] at hl hn
    rw [hx] at h
    simp only [Bool.false_or, Bool.or_eq_true, decide_eq_true_eq, Bool.not_eq_true', decide_eq_false_iff_not] at h
    rcases h with h | h
    · omega
    · exact h hn
theorem rec_end (h : decide ((0 : Int) < ((List.length ((⟨List.drop k t, false⟩ : Wr.Rd).r) : Nat) : Int)) = false) : List.drop k t = [] := by
  have := of_decide_eq_false h
  exact List.eq_nil_of_length_eq_zero (by show (List.drop k t).length = 0; have e : List.length ((⟨List.drop k t, false⟩ : Wr.Rd).r) = (List.drop k t).length := rfl; omega)
theorem rec_blk {W : World} {g : Nat} (h : one (t.drop k) = some (Wr.text ⟨List.drop k t, false⟩).1) (hB : Blk W g 94 [strV (Wr.num (Wr.text ⟨List.drop k t, false⟩).2).2.r, .bool (Wr.num (Wr.text ⟨List.drop k t, false⟩).2).2.b].toArray) : Blk W g 94 [strV (List.drop (k + List.length (form (Wr.text ⟨List.drop k t, false⟩).1)) t), .bool false].toArray := by
  rw [one_next h] at hB
  rw [← List.drop_drop]
  exact hB
end
set_option maxRecDepth 20000 in
set_option maxHeartbeats 4000000 in
theorem kSum_v (w : World) (t : Str) (ht : t.length ≤ 16777216) : Calls Tryz.prog 11 [strV t].toArray w (Fix (.int .i64 (jsum t)) w) := by
  refine calls_start Tryz.func11 rfl rfl ?_
  intro az Hz
  rw [Tryz.ntmps11] at Hz
  refine wp_seq_k fun K1 hK1 => ?_
  -- ref.go:19
  refine wp_region_lit ?_
  refine L (r_as Hz rfl) Hz rfl ?_
  clear Hz az; intro az Hz
  refine hK1 _ _ ?_
  refine wp_seq_k fun K2 hK2 => ?_
  -- ref.go:20
  refine wp_region_lit ?_
  refine L (r_as Hz rfl) Hz rfl ?_
  clear Hz az; intro az Hz
  refine hK2 _ _ ?_
  refine wp_seq_k fun K3 hK3 => ?_
  refine wp_seq_k fun K4 hK4 => ?_
  -- ref.go:21
  refine wp_region_lit ?_
  refine L (r_as Hz rfl) Hz rfl ?_
  clear Hz az; intro az Hz
  refine hK4 _ _ ?_
  refine wp_block ?_
  refine wp_loop_m (fun mz az W => ∃ k : Nat, ∃ n : Int, mz = t.length - k ∧ Fr 21 [(0, strV (t)), (4, .int .i64 ((k : Int))), (3, .int .i64 (n))] az ∧ (k ≤ t.length) ∧ (jsum t = n + sumA k (t.drop k)) ∧ (0 ≤ n ∧ n ≤ 4278190335 * (k : Int)) ∧ Only NoF w W) ?_ ?_
  · -- start
    exact ⟨_, 0, 0, rfl, Hz.cut ⟨rfl, rfl, rfl, trivial⟩, Nat.zero_le _, (by unfold jsum; rw [List.drop_zero]; omega), (by omega), (Only.refl NoF w)⟩
  clear Hz az
  rintro mz az w5 ⟨k, n, hm7, Hz, hk, hs, hn, o6⟩
  refine wp_seq_k fun K8 hK8 => ?_
  refine wp_seq_k fun K9 hK9 => ?_
  -- ref.go:21
  refine wp_region_lit ?_
  refine L (r_mv Hz rfl) Hz rfl ?_
  clear Hz az; intro az Hz
  refine L (r_mv Hz rfl) Hz rfl ?_
  clear Hz az; intro az Hz
  refine L (r_lenS Tryz.underlying9 Hz rfl) Hz rfl ?_
  clear Hz az; intro az Hz
  refine L (r_ltI Hz rfl rfl) Hz rfl ?_
  clear Hz az; intro az Hz
  refine hK9 _ _ ?_
  refine br Hz rfl (fun hc10 => ?_) (fun hc10 => ?_)
  · -- if0
    have p11 := of_decide_eq_true hc10
    refine wp_skip ?_
    refine hK8 _ _ ?_
    refine wp_seq_k fun K12 hK12 => ?_
    refine wp_block ?_
    -- ref.go:22
    refine wp_region_lit ?_
    refine L (r_mv Hz rfl) Hz rfl ?_
    clear Hz az; intro az Hz
    refine L (r_mv Hz rfl) Hz rfl ?_
    clear Hz az; intro az Hz
    refine L (r_mv Hz rfl) Hz rfl ?_
    clear Hz az; intro az Hz
    obtain ⟨b13, hb14⟩ : ∃ b, (t)[k]? = some b := ⟨_, List.getElem?_eq_getElem (by omega)⟩
    have hbm := byte_mul b13 k (by omega)
    refine L (r_ix (k := k) Tryz.underlying9 Hz rfl rfl rfl hb14) Hz rfl ?_
    clear Hz az; intro az Hz
    refine L (r_cvJ Tryz.underlying5 Tryz.underlying3 Hz rfl (by have := UInt8.toNat_lt b13; omega)) Hz rfl ?_
    clear Hz az; intro az Hz
    refine L (r_mv Hz rfl) Hz rfl ?_
    clear Hz az; intro az Hz
    have i15 : I64 (((k : Int) + 1)) := by unfold I64; omega
    refine L (r_addI (r := ((k : Int) + 1)) Hz rfl rfl rfl i15) Hz rfl ?_
    clear Hz az; intro az Hz
    have i16 : I64 ((((b13.toNat : Nat) : Int) * ((k : Int) + 1))) := by unfold I64; omega
    refine L (r_mulI (r := (((b13.toNat : Nat) : Int) * ((k : Int) + 1))) Hz rfl rfl rfl i16) Hz rfl ?_
    clear Hz az; intro az Hz
    have i17 : I64 ((n + (((b13.toNat : Nat) : Int) * ((k : Int) + 1)))) := by unfold I64; omega
    refine L (r_addI (r := (n + (((b13.toNat : Nat) : Int) * ((k : Int) + 1)))) Hz rfl rfl rfl i17) Hz rfl ?_
    clear Hz az; intro az Hz
    refine L (r_as Hz rfl) Hz rfl ?_
    clear Hz az; intro az Hz
    refine hK12 _ _ ?_
    -- ref.go:21
    refine wp_region_lit ?_
    refine L (r_mv Hz rfl) Hz rfl ?_
    clear Hz az; intro az Hz
    have i18 : I64 (((k : Int) + 1)) := by unfold I64; omega
    refine L (r_addI (r := ((k : Int) + 1)) Hz rfl rfl rfl i18) Hz rfl ?_
    clear Hz az; intro az Hz
    refine L (r_as Hz rfl) Hz rfl ?_
    clear Hz az; intro az Hz
    exact ⟨_, (by omega), k + 1, _, rfl, Hz.cut ⟨rfl, rfl, rfl, trivial⟩, (by omega), (by rw [hs, sumA_step hb14]; omega), (by omega), o6⟩
  · -- else0
    have p19 := of_decide_eq_false hc10
    refine wp_exit ?_
    refine th_exit ?_
    refine th_exit ?_
    refine ib_hit ?_
    refine hK3 _ _ ?_
    refine wp_seq_k fun K20 hK20 => ?_
    -- ref.go:24
    refine wp_region_lit ?_
    refine L (r_mv Hz rfl) Hz rfl ?_
    clear Hz az; intro az Hz
    refine L (r_as Hz rfl) Hz rfl ?_
    clear Hz az; intro az Hz
    refine hK20 _ _ ?_
    refine wp_ret ?_
    show bodyPost _ _ _ .ret _ _
    refine ret_of (vs := [.int .i64 (n)]) Hz Tryz.results11 ⟨rfl, trivial⟩ ?_
    rw [List.drop_of_length_le (by omega)] at hs; rw [hs, show ∀ i, sumA i [] = 0 from fun _ => rfl, Int.add_zero]; exact ⟨rfl, o6⟩

set_option maxRecDepth 20000 in
set_option maxHeartbeats 4000000 in
theorem kForm_v (w : World) (t : Str) (ht : t.length ≤ 16777216) : Calls Tryz.prog 41 [strV t].toArray w (Fix (strV (form t)) w) := by
  refine calls_start Tryz.func41 rfl rfl ?_
  intro az Hz
  rw [Tryz.ntmps41] at Hz
  refine wp_seq_k fun K1 hK1 => ?_
  -- ref.go:28
  refine wp_region_lit ?_
  refine L (r_as Hz rfl) Hz rfl ?_
  clear Hz az; intro az Hz
  refine hK1 _ _ ?_
  refine wp_seq_k fun K2 hK2 => ?_
  -- ref.go:28
  refine wp_region_lit ?_
  refine L (r_mv Hz rfl) Hz rfl ?_
  clear Hz az; intro az Hz
  refine LCV (v := strV (Wr.textE t)) Hz rfl rfl Tryz.call63 (vText_v _ t (by omega)) rfl fun w3 o4 => ?_
  clear Hz az; intro az Hz
  refine L (r_mv Hz rfl) Hz rfl ?_
  clear Hz az; intro az Hz
  refine LCV (v := .int .i64 ((jsum t))) Hz rfl rfl Tryz.call11 (kSum_v _ t (by omega)) rfl fun w5 o6 => ?_
  clear Hz az; intro az Hz
  refine LCV (v := strV (Wr.numE (jsum t))) Hz rfl rfl Tryz.call64 (vNum_v _ (jsum t) (jsum_ok ht).1) rfl fun w7 o8 => ?_
  clear Hz az; intro az Hz
  refine L (r_addS Hz rfl rfl (by have e1 := text_size2 (s := t) (by omega); have e2 := numE_len (jsum_ok ht).1; omega)) Hz rfl ?_
  clear Hz az; intro az Hz
  refine L (r_as Hz rfl) Hz rfl ?_
  clear Hz az; intro az Hz
  refine hK2 _ _ ?_
  refine wp_ret ?_
  show bodyPost _ _ _ .ret _ _
  refine ret_of (vs := [strV (Wr.textE t ++ Wr.numE (jsum t))]) Hz Tryz.results41 ⟨rfl, trivial⟩ ?_
  have O9 : Only NoF w w7 := (Only.trans' (Only.trans' o4 o6) o8)
  exact ⟨rfl, O9⟩

set_option maxRecDepth 20000 in
set_option maxHeartbeats 4000000 in
theorem kForms_v_ {w : World} {l : List Str} {A1 : Option Addr} {c1 : Nat} (f1 : StrsV w (.slice A1 l.length c1) l) (hl : (forms l).length ≤ 100000000) (hs : ∀ t ∈ l, t.length ≤ 16777216) : Calls Tryz.prog 38 [.slice A1 l.length c1].toArray w (Fix (strV (forms l)) w) := by
  have hbd1 := Nat.le_trans (SliceOf.cap_ f1) (SliceOf.lens f1).2
  refine calls_start Tryz.func38 rfl rfl ?_
  intro az Hz
  rw [Tryz.ntmps38] at Hz
  refine wp_seq_k fun K1 hK1 => ?_
  -- ref.go:31
  refine wp_region_lit ?_
  refine L (r_as Hz rfl) Hz rfl ?_
  clear Hz az; intro az Hz
  refine hK1 _ _ ?_
  refine wp_seq_k fun K2 hK2 => ?_
  -- ref.go:32
  refine wp_region_lit ?_
  refine L (r_as Hz rfl) Hz rfl ?_
  clear Hz az; intro az Hz
  refine hK2 _ _ ?_
  refine wp_seq_k fun K3 hK3 => ?_
  refine wp_seq_k fun K4 hK4 => ?_
  -- ref.go:33
  refine wp_region_lit ?_
  refine L (r_as Hz rfl) Hz rfl ?_
  clear Hz az; intro az Hz
  refine hK4 _ _ ?_
  refine wp_block ?_
  refine wp_loop_m (fun mz az W => ∃ k : Nat, ∃ x : Str, mz = l.length - k ∧ Fr 19 [(0, .slice A1 (l.length) c1), (4, .int .i64 ((k : Int))), (3, strV (x))] az ∧ (k ≤ l.length) ∧ (x = forms (l.take k)) ∧ Only NoF w W) ?_ ?_
  · -- start
    exact ⟨_, 0, [], rfl, Hz.cut ⟨rfl, rfl, rfl, trivial⟩, Nat.zero_le _, rfl, (Only.refl NoF w)⟩
  clear Hz az
  rintro mz az w5 ⟨k, x, hm7, Hz, hk, hx, o6⟩
  have hxl := congrArg List.length hx
  refine wp_seq_k fun K8 hK8 => ?_
  refine wp_seq_k fun K9 hK9 => ?_
  -- ref.go:33
  refine wp_region_lit ?_
  refine L (r_mv Hz rfl) Hz rfl ?_
  clear Hz az; intro az Hz
  refine L (r_mv Hz rfl) Hz rfl ?_
  clear Hz az; intro az Hz
  refine L (r_lenL Tryz.underlying46 Hz rfl) Hz rfl ?_
  clear Hz az; intro az Hz
  refine L (r_ltI Hz rfl rfl) Hz rfl ?_
  clear Hz az; intro az Hz
  refine hK9 _ _ ?_
  refine br Hz rfl (fun hc10 => ?_) (fun hc10 => ?_)
  · -- if0
    have p11 := of_decide_eq_true hc10
    refine wp_skip ?_
    refine hK8 _ _ ?_
    refine wp_seq_k fun K12 hK12 => ?_
    refine wp_block ?_
    -- ref.go:34
    refine wp_region_lit ?_
    refine L (r_mv Hz rfl) Hz rfl ?_
    clear Hz az; intro az Hz
    refine L (r_mv Hz rfl) Hz rfl ?_
    clear Hz az; intro az Hz
    refine L (r_mv Hz rfl) Hz rfl ?_
    clear Hz az; intro az Hz
    have hk13 : k < (l).length := by omega
    have h19 := (SliceOf.kp f1 o6 (fun _ _ h => h) (fun _ _ _ _ h => h))
    obtain ⟨m14, hm15, ok16, hA17⟩ := Row.el KStr h19 hk13
    have E18 : ∀ W, Only NoF w5 W → CA W (eA A1 1 (k)) [strV (m14)] := Row.ce KStr h19 hm15 rfl
    refine L (r_ia (k := k) (size := 1) Tryz.underlying46 Tryz.sizeOf9 Hz rfl rfl rfl hk13 hA17) Hz rfl ?_
    clear Hz az; intro az Hz
    refine L (r_ld Tryz.isAgg9 Hz rfl (CA.first (E18 _ (Only.refl NoF w5)))) Hz rfl ?_
    clear Hz az; intro az Hz
    refine LCV (v := strV (form m14)) Hz rfl rfl Tryz.call41 (kForm_v _ m14 (hs m14 (List.mem_of_getElem? hm15))) rfl fun w20 o21 => ?_
    clear Hz az; intro az Hz
    refine L (r_addS Hz rfl rfl (by have := forms_le hm15; omega)) Hz rfl ?_
    clear Hz az; intro az Hz
    refine L (r_as Hz rfl) Hz rfl ?_
    clear Hz az; intro az Hz
    refine hK12 _ _ ?_
    -- ref.go:33
    refine wp_region_lit ?_
    refine L (r_mv Hz rfl) Hz rfl ?_
    clear Hz az; intro az Hz
    have i22 : I64 (((k : Int) + 1)) := by unfold I64; omega
    refine L (r_addI (r := ((k : Int) + 1)) Hz rfl rfl rfl i22) Hz rfl ?_
    clear Hz az; intro az Hz
    refine L (r_as Hz rfl) Hz rfl ?_
    clear Hz az; intro az Hz
    have O23 : Only NoF w w20 := (Only.trans' o6 o21)
    exact ⟨_, (by omega), k + 1, _, rfl, Hz.cut ⟨rfl, rfl, rfl, trivial⟩, (by omega), (by rw [hx, take_succ_get hm15, forms_app, forms_one]), O23⟩
  · -- else0
    have p24 := of_decide_eq_false hc10
    refine wp_exit ?_
    refine th_exit ?_
    refine th_exit ?_
    refine ib_hit ?_
    refine hK3 _ _ ?_
    refine wp_seq_k fun K25 hK25 => ?_
    -- ref.go:36
    refine wp_region_lit ?_
    refine L (r_mv Hz rfl) Hz rfl ?_
    clear Hz az; intro az Hz
    refine L (r_as Hz rfl) Hz rfl ?_
    clear Hz az; intro az Hz
    refine hK25 _ _ ?_
    refine wp_ret ?_
    show bodyPost _ _ _ .ret _ _
    refine ret_of (vs := [strV (x)]) Hz Tryz.results38 ⟨rfl, trivial⟩ ?_
    rw [List.take_of_length_le (by omega)] at hx; rw [hx]; exact ⟨rfl, o6⟩

set_option maxRecDepth 20000 in
set_option maxHeartbeats 4000000 in
theorem kRecords_v (w : World) (t : Str) (ht : t.length ≤ 16777216) : Calls Tryz.prog 37 [strV t].toArray w (AllTo (recs t) w) := by
  refine calls_start Tryz.func37 rfl rfl ?_
  intro az Hz
  rw [Tryz.ntmps37] at Hz
  refine wp_seq_k fun K1 hK1 => ?_
  -- ref.go:40
  refine wp_region_lit ?_
  refine L (r_as Hz rfl) Hz rfl ?_
  clear Hz az; intro az Hz
  refine hK1 _ _ ?_
  refine wp_seq_k fun K2 hK2 => ?_
  -- ref.go:41
  refine wp_region_lit ?_
  refine L (r_as Hz rfl) Hz rfl ?_
  clear Hz az; intro az Hz
  refine hK2 _ _ ?_
  refine wp_seq_k fun K3 hK3 => ?_
  -- ref.go:42
  refine wp_region_lit ?_
  refine L (r_mv Hz rfl) Hz rfl ?_
  clear Hz az; intro az Hz
  refine LC Hz rfl rfl Tryz.call57 (vOpen_v _ t) rfl ?_
  rintro e w5 ⟨g4, rfl, hg6, B7, o8⟩; refine ⟨_, rfl, ?_⟩
  clear Hz az; intro az Hz
  refine L (r_as Hz rfl) Hz rfl ?_
  clear Hz az; intro az Hz
  refine hK3 _ _ ?_
  refine wp_seq_k fun K9 hK9 => ?_
  refine wp_block ?_
  refine wp_loop_m (fun mz az W => ∃ k : Nat, ∃ O : List Str, ∃ Ao : Option Addr, ∃ co : Nat, mz = t.length - k ∧ Fr 37 [(4, .pointer (some ((⟨g4, 0, none⟩ : Addr)))), (3, .slice Ao (O.length) co)] az ∧ (k ≤ t.length) ∧ (recs t = O ++ recs (t.drop k)) ∧ (k = (forms O).length) ∧ (∀ z ∈ O, KStr.ok z) ∧ Only (oneF g4) w5 W ∧ Blk W g4 94 [strV (List.drop k t), .bool (false)].toArray ∧ W.ownsRow w5.heap.size 9 1 (.slice Ao O.length co) O.length (List.flatMap KStr.cells O)) ?_ ?_
  · -- start
    exact ⟨_, 0, [], none, 0, rfl, Hz.cut ⟨rfl, rfl, trivial⟩, Nat.zero_le _, rfl, rfl, (fun z hz => by cases hz), (Only.refl (oneF g4) w5), B7, (World.ownsRow_nil _ _ _ _)⟩
  clear Hz az
  rintro mz az w10 ⟨k, O, Ao, co, hm12, Hz, hk, hO, hkn, okO, o11, B13, rO⟩
  have hOl : O.length ≤ k := by rw [hkn]; exact forms_count O
  refine wp_seq_k fun K14 hK14 => ?_
  refine wp_seq_k fun K15 hK15 => ?_
  -- ref.go:43
  refine wp_region_lit ?_
  refine L (r_mv Hz rfl) Hz rfl ?_
  clear Hz az; intro az Hz
  refine LCV (v := .int .i64 (((List.length ((⟨List.drop k t, false⟩ : Wr.Rd).r) : Nat) : Int))) Hz rfl rfl Tryz.call58 (vrLeft_v (s := (⟨List.drop k t, false⟩ : Wr.Rd)) B13) rfl fun w16 o17 => ?_
  clear Hz az; intro az Hz
  refine L (r_gtI Hz rfl rfl) Hz rfl ?_
  clear Hz az; intro az Hz
  refine hK15 _ _ ?_
  refine br Hz rfl (fun hc18 => ?_) (fun hc18 => ?_)
  · -- if0
    have p19 := of_decide_eq_true hc18
    refine wp_skip ?_
    refine hK14 _ _ ?_
    refine wp_block ?_
    refine wp_seq_k fun K20 hK20 => ?_
    -- ref.go:44
    refine wp_region_lit ?_
    refine L (r_mv Hz rfl) Hz rfl ?_
    clear Hz az; intro az Hz
    have B21 := (Blk.k B13 o17)
    refine LC Hz rfl rfl Tryz.call59 (vrText_v (s := (⟨List.drop k t, false⟩ : Wr.Rd)) B21 (fun h => by cases h)) rfl ?_
    rintro e w22 ⟨rfl, B23, o24⟩; refine ⟨_, rfl, ?_⟩
    clear Hz az; intro az Hz
    refine L (r_as Hz rfl) Hz rfl ?_
    clear Hz az; intro az Hz
    refine hK20 _ _ ?_
    refine wp_seq_k fun K25 hK25 => ?_
    -- ref.go:45
    refine wp_region_lit ?_
    refine L (r_mv Hz rfl) Hz rfl ?_
    clear Hz az; intro az Hz
    refine LC Hz rfl rfl Tryz.call60 (vrNum_v (s := (Wr.text (⟨List.drop k t, false⟩ : Wr.Rd)).2) B23) rfl ?_
    rintro e w26 ⟨rfl, B27, o28⟩; refine ⟨_, rfl, ?_⟩
    clear Hz az; intro az Hz
    refine L (r_as Hz rfl) Hz rfl ?_
    clear Hz az; intro az Hz
    refine hK25 _ _ ?_
    refine wp_seq_k fun K29 hK29 => ?_
    refine wp_seq_k fun K30 hK30 => ?_
    -- ref.go:46
    refine wp_region_lit ?_
    refine L (r_mv Hz rfl) Hz rfl ?_
    clear Hz az; intro az Hz
    refine L (r_nilP Hz rfl) Hz rfl ?_
    clear Hz az; intro az Hz
    refine L (r_fa (m' := 1) Tryz.underlying94 rfl Tryz.sizeOf4 rfl Hz rfl rfl) Hz rfl ?_
    clear Hz az; intro az Hz
    refine L (r_ld Tryz.isAgg4 Hz rfl ((Blk.ca B27) 1 _ rfl)) Hz rfl ?_
    clear Hz az; intro az Hz
    refine L (r_mv Hz rfl) Hz rfl ?_
    clear Hz az; intro az Hz
    refine LG Hz rfl rfl gd_f (fun hb => r_mv Hz rfl) rfl ?_
    clear Hz az; intro az Hz
    refine LG Hz rfl rfl gd_f (fun hb => r_lenS Tryz.underlying9 Hz (evg hb rfl)) rfl ?_
    clear Hz az; intro az Hz
    refine LG Hz rfl rfl gd_f (fun hb => r_gtI Hz (evg hb rfl) rfl) rfl ?_
    clear Hz az; intro az Hz
    refine L (r_or Hz rfl rfl rfl) Hz rfl ?_
    clear Hz az; intro az Hz
    refine L (r_mv Hz rfl) Hz rfl ?_
    clear Hz az; intro az Hz
    refine LG Hz rfl rfl gd_f (fun hb => r_mv Hz rfl) rfl ?_
    clear Hz az; intro az Hz
    refine LG Hz rfl rfl gd_f (fun hb => r_mv Hz rfl) rfl ?_
    clear Hz az; intro az Hz
    refine LGV (v := .int .i64 ((jsum ((Wr.text (⟨List.drop k t, false⟩ : Wr.Rd)).1)))) Hz rfl rfl gd_f rfl (fun hb => (evs_c (evg hb rfl) rfl)) Tryz.call11 (fun hb => kSum_v _ ((Wr.text (⟨List.drop k t, false⟩ : Wr.Rd)).1) (Nat.le_trans (Wr.text_val_len _) (by show (List.drop k t).length ≤ _; rw [List.length_drop]; omega))) rfl fun w31 o32 => ?_
    clear Hz az; intro az Hz
    refine LG Hz rfl rfl gd_f (fun hb => r_neI Hz (evg hb rfl) (evg hb rfl)) rfl ?_
    clear Hz az; intro az Hz
    refine L (r_or Hz rfl rfl rfl) Hz rfl ?_
    clear Hz az; intro az Hz
    refine hK30 _ _ ?_
    refine br Hz rfl (fun hc33 => ?_) (fun hc33 => ?_)
    · -- if1
      have d34 := hc33
      refine wp_seq_k fun K35 hK35 => ?_
      -- ref.go:47
      refine wp_region_lit ?_
      refine L (r_mv Hz rfl) Hz rfl ?_
      clear Hz az; intro az Hz
      refine L (r_as Hz rfl) Hz rfl ?_
      clear Hz az; intro az Hz
      refine hK35 _ _ ?_
      refine wp_ret ?_
      show bodyPost _ _ _ .ret _ _
      refine ret_of (vs := [.slice Ao (O.length) co]) Hz Tryz.results37 ⟨rfl, trivial⟩ ?_
      have O36 : Only NoF w w31 := (Only.trans' (o_sg (o_sg (Only.trans' (o_sg o8 o11 (Nat.le_refl _) (oneF_ge hg6)) o17) o24 (Nat.le_refl _) (oneF_ge hg6)) o28 (Nat.le_refl _) (oneF_ge hg6)) o32)
      have hst := recs_none (rec_no hc33)
      rw [hst, List.append_nil] at hO
      have r37 := (ow_k (ow_only (ow_only (ow_k rO o17) o24 (fun k hk => ge_F (oneF_lt (Blk.lt B7)) (Nat.le_refl _) k (ownF_ge (ow_k rO o17) k hk))) o28 (fun k hk => ge_F (oneF_lt (Blk.lt B7)) (Nat.le_refl _) k (ownF_ge (ow_only (ow_k rO o17) o24 (fun k hk => ge_F (oneF_lt (Blk.lt B7)) (Nat.le_refl _) k (ownF_ge (ow_k rO o17) k hk))) k hk))) o32)
      refine ⟨Ao, co, ?_, ?_, O36⟩
      · rw [hO]; rfl
      · rw [hO]; exact (ow_low r37 (size_only o8))
    · -- else1
      have q38 : (Wr.num ((Wr.text (⟨List.drop k t, false⟩ : Wr.Rd)).2)).2.b = false := (or_f (or_f hc33).1).1
      have p39 := of_decide_eq_false (or_f (or_f hc33).1).2
      have p40 := of_decide_eq_true (nt_f (or_f hc33).2)
      refine wp_skip ?_
      refine hK29 _ _ ?_
      -- ref.go:49
      refine wp_region_lit ?_
      refine L (r_mv Hz rfl) Hz rfl ?_
      clear Hz az; intro az Hz
      refine L (r_mv Hz rfl) Hz rfl ?_
      clear Hz az; intro az Hz
      obtain ⟨A41, w42, hw, hA, r43, o44⟩ := Row.made (w := w31) KStr (e := 9) ([(Wr.text (⟨List.drop k t, false⟩ : Wr.Rd)).1] : List Str) (by simp only [List.length_cons, List.length_nil]; unfold maxLen; omega)
      refine L (r_bs (z := strV ([])) (size := 1) (vs := [(0, strV ((Wr.text (⟨List.drop k t, false⟩ : Wr.Rd)).1))]) (cs := List.flatMap KStr.cells [(Wr.text (⟨List.drop k t, false⟩ : Wr.Rd)).1]) Tryz.underlying46 Tryz.sizeOf9 Tryz.zeroValue9 rfl (Fr.evalps Hz rfl) (by kernel_rfl)) Hz rfl ?_
      rw [← hw, ← hA]; clear Hz az; intro az Hz
      clear hw hA
      have ok45 : ∀ zq ∈ ([(Wr.text (⟨List.drop k t, false⟩ : Wr.Rd)).1] : List Str), KStr.ok zq := by intro zq hx; simp only [List.mem_cons, List.not_mem_nil, or_false] at hx; rcases hx with rfl <;> first | exact (by show List.length ((Wr.text (⟨List.drop k t, false⟩ : Wr.Rd)).1) ≤ maxLen; have := (rec_yes hc33).2; unfold maxLen; omega)
      have r46 := (ow_k (ow_k (ow_only (ow_only (ow_k rO o17) o24 (fun k hk => ge_F (oneF_lt (Blk.lt B7)) (Nat.le_refl _) k (ownF_ge (ow_k rO o17) k hk))) o28 (fun k hk => ge_F (oneF_lt (Blk.lt B7)) (Nat.le_refl _) k (ownF_ge (ow_only (ow_k rO o17) o24 (fun k hk => ge_F (oneF_lt (Blk.lt B7)) (Nat.le_refl _) k (ownF_ge (ow_k rO o17) k hk))) k hk))) o32) o44)
      have h47 := Row.own KStr r43 ok45
      have h48 := SliceOf.pl h47
      have hb56 : (List.length (O) + List.length ([(Wr.text (⟨List.drop k t, false⟩ : Wr.Rd)).1])) * 16 ≤ 140737488355328 := by (simp only [List.length_cons, List.length_nil]; omega)
      have O57 := (Only.trans (Only.trans (Only.trans (Only.trans (Only.trans (Only.trans (Only.refl (fun _ => True) w5) o11 (fun _ _ => .inl trivial)) o17 (fun _ _ => .inl trivial)) o24 (fun _ _ => .inl trivial)) o28 (fun _ _ => .inl trivial)) o32 (fun _ _ => .inl trivial)) o44 (fun _ _ => .inl trivial))
      obtain ⟨A49, c50, w51, hr52, r53, o54, al55⟩ := Row.app (P := Tryz.prog) (l := O) (l2 := [(Wr.text (⟨List.drop k t, false⟩ : Wr.Rd)).1]) KStr elemStr r46 h48 hb56 (by unfold maxLen; omega) (size_only O57)
      refine L (r_app hr52 Hz rfl rfl) Hz rfl ?_
      clear Hz az; intro az Hz
      have ok58 : ∀ zq ∈ (O ++ [(Wr.text (⟨List.drop k t, false⟩ : Wr.Rd)).1]), KStr.ok zq := (fun x hx => (List.mem_append.1 hx).elim (okO x) ((Row.oks KStr h48) x))
      have h59 := Row.own KStr r53 ok58
      refine L (r_as Hz rfl) Hz rfl ?_
      clear Hz az; intro az Hz
      have hone := (rec_yes hc33).1
      obtain ⟨_, _, _, hfl, _⟩ := one_some hone
      have hfp := form_pos (Wr.text ⟨List.drop k t, false⟩).1
      rw [List.length_drop] at hfl
      have B60 := (Blk.only (Blk.k (Blk.k B27 o32) o44) o54 (ow_nb r46 (Blk.k (Blk.k B27 o32) o44) (by decide)))
      exact ⟨_, (by omega), k + List.length (form (Wr.text ⟨List.drop k t, false⟩).1), _, A49, c50, rfl, Hz.cut ⟨rfl, rfl, trivial⟩, (by omega), (by rw [hO, recs_some hone, List.drop_drop, List.append_assoc]; rfl), (by rw [forms_app, forms_one, List.length_append, ← hkn]), ok58, (Only.trans (Only.trans (Only.trans (Only.trans (Only.trans (Only.trans (Only.trans (Only.refl (oneF g4) w5) o11 (fun _ h => .inl h)) o17 (fun _ h => h.elim)) o24 (fun _ h => .inl h)) o28 (fun _ h => .inl h)) o32 (fun _ h => h.elim)) o44 (fun _ h => h.elim)) o54 (fun k h => .inr (Nat.le_trans (Nat.le_refl _) ((ownF_ge rO) k h)))), (rec_blk hone B60), (ow_low r53 (Nat.le_refl _))⟩
  · -- else0
    have p61 := of_decide_eq_false hc18
    refine wp_exit ?_
    refine th_exit ?_
    refine th_exit ?_
    refine ib_hit ?_
    refine hK9 _ _ ?_
    refine wp_seq_k fun K62 hK62 => ?_
    -- ref.go:51
    refine wp_region_lit ?_
    refine L (r_mv Hz rfl) Hz rfl ?_
    clear Hz az; intro az Hz
    refine L (r_as Hz rfl) Hz rfl ?_
    clear Hz az; intro az Hz
    refine hK62 _ _ ?_
    refine wp_ret ?_
    show bodyPost _ _ _ .ret _ _
    refine ret_of (vs := [.slice Ao (O.length) co]) Hz Tryz.results37 ⟨rfl, trivial⟩ ?_
    have O63 : Only NoF w w16 := (Only.trans' (o_sg o8 o11 (Nat.le_refl _) (oneF_ge hg6)) o17)
    have hst : recs (t.drop k) = [] := by rw [rec_end hc18]; exact recs_nil
    rw [hst, List.append_nil] at hO
    have r64 := (ow_k rO o17)
    refine ⟨Ao, co, ?_, ?_, O63⟩
    · rw [hO]; rfl
    · rw [hO]; exact (ow_low r64 (size_only o8))
end
section
open Go.RowKit

theorem build_KJ (p : Option Addr) (f : Int) (A : Option Addr) (k c : Nat) (w : World) : (Instr.build 49 #[(0, .pointer p), (1, .int .i64 f), (2, .slice A k c)]).run Tryz.prog w = .ok (.agg #[.pointer p, .int .i64 f, .slice A k c, .bool false]) w := by kernel_rfl
set_option maxRecDepth 20000 in
set_option maxHeartbeats 4000000 in
theorem kOpen_v_ {w : World} {b : Nat} {D : Dsk} {F : Foot} (hd : RefT b D w F) {f : Int} : Calls Tryz.prog 9 [.pointer (some ⟨b, 0, none⟩), .int .i64 f].toArray w (OpenKTo b (openJ D f) w F) := by
  refine calls_start Tryz.func9 rfl rfl ?_
  intro az Hz
  rw [Tryz.ntmps9] at Hz
  refine wp_seq_k fun K1 hK1 => ?_
  -- ref.go:55
  refine wp_region_lit ?_
  refine L (r_as Hz rfl) Hz rfl ?_
  clear Hz az; intro az Hz
  refine L (r_as Hz rfl) Hz rfl ?_
  clear Hz az; intro az Hz
  refine hK1 _ _ ?_
  refine wp_seq_k fun K2 hK2 => ?_
  refine wp_seq_k fun K3 hK3 => ?_
  -- ref.go:56
  refine wp_region_lit ?_
  refine L (r_mv Hz rfl) Hz rfl ?_
  clear Hz az; intro az Hz
  refine L (r_ltI Hz rfl rfl) Hz rfl ?_
  clear Hz az; intro az Hz
  refine L (r_mv Hz rfl) Hz rfl ?_
  clear Hz az; intro az Hz
  refine LG Hz rfl rfl gd_f (fun hb => r_mv Hz rfl) rfl ?_
  clear Hz az; intro az Hz
  refine LG Hz rfl rfl gd_f (fun hb => r_gtI Hz (evg hb rfl) rfl) rfl ?_
  clear Hz az; intro az Hz
  refine L (r_or Hz rfl rfl rfl) Hz rfl ?_
  clear Hz az; intro az Hz
  refine hK3 _ _ ?_
  refine br Hz rfl (fun hc4 => ?_) (fun hc4 => ?_)
  · -- if0
    have d5 := hc4
    refine wp_seq_k fun K6 hK6 => ?_
    -- ref.go:57
    refine wp_region_lit ?_
    refine L (r_as Hz rfl) Hz rfl ?_
    clear Hz az; intro az Hz
    refine L (r_as Hz rfl) Hz rfl ?_
    clear Hz az; intro az Hz
    refine hK6 _ _ ?_
    refine wp_ret ?_
    show bodyPost _ _ _ .ret _ _
    refine ret_of (vs := [.pointer none, .int .i64 (1)]) Hz Tryz.results9 ⟨rfl, rfl, trivial⟩ ?_
    rw [open_0t hc4]
    exact .inl ⟨rfl, rfl, ⟨_, hd, (Only.refl _ w), (fun k hk => (.inl hk)), (fun k hk => (.inl hk))⟩⟩
  · -- else0
    have p7 := of_decide_eq_false (or_f hc4).1
    have p8 := of_decide_eq_false (or_f hc4).2
    refine wp_skip ?_
    refine hK2 _ _ ?_
    refine wp_seq_k fun K9 hK9 => ?_
    -- ref.go:59
    refine wp_region_lit ?_
    refine L (r_mv Hz rfl) Hz rfl ?_
    clear Hz az; intro az Hz
    refine L (r_mv Hz rfl) Hz rfl ?_
    clear Hz az; intro az Hz
    refine LC Hz rfl rfl Tryz.call36 (rSync_c hd f) rfl ?_
    rintro e w10 ⟨rfl, F11, h12, o13, fm14, fr15⟩; refine ⟨_, rfl, ?_⟩
    clear Hz az; intro az Hz
    refine L (r_as Hz rfl) Hz rfl ?_
    clear Hz az; intro az Hz
    refine hK9 _ _ ?_
    refine wp_seq_k fun K16 hK16 => ?_
    refine wp_seq_k fun K17 hK17 => ?_
    -- ref.go:60
    refine wp_region_lit ?_
    refine L (r_mv Hz rfl) Hz rfl ?_
    clear Hz az; intro az Hz
    refine L (r_neI Hz rfl rfl) Hz rfl ?_
    clear Hz az; intro az Hz
    refine hK17 _ _ ?_
    refine br Hz rfl (fun hc18 => ?_) (fun hc18 => ?_)
    · -- if1
      have p19 := of_decide_eq_false (nt_t hc18)
      refine wp_seq_k fun K20 hK20 => ?_
      -- ref.go:61
      refine wp_region_lit ?_
      refine L (r_mv Hz rfl) Hz rfl ?_
      clear Hz az; intro az Hz
      refine L (r_as Hz rfl) Hz rfl ?_
      clear Hz az; intro az Hz
      refine L (r_as Hz rfl) Hz rfl ?_
      clear Hz az; intro az Hz
      refine hK20 _ _ ?_
      refine wp_ret ?_
      show bodyPost _ _ _ .ret _ _
      refine ret_of (vs := [.pointer none, .int .i64 ((D.sync f).2)]) Hz Tryz.results9 ⟨rfl, rfl, trivial⟩ ?_
      rw [open_0f1t hc4 hc18]
      exact .inl ⟨rfl, rfl, ⟨_, h12, (Only.trans (Only.refl _ w) o13 (fun k h => (.inl h))), (fun k hk => ((fm14 _ hk).elim (fun h => (.inl h)) (fun h => .inr (Nat.le_trans (Nat.le_refl _) h)))), (fun k hk => ((fr15 _ hk).elim (fun h => (.inl h)) (fun h => .inr (Nat.le_trans (Nat.le_refl _) h))))⟩⟩
    · -- else1
      have p21 := of_decide_eq_true (nt_f hc18)
      refine wp_skip ?_
      refine hK16 _ _ ?_
      refine wp_seq_k fun K22 hK22 => ?_
      -- ref.go:63
      refine wp_region_lit ?_
      refine L (r_mv Hz rfl) Hz rfl ?_
      clear Hz az; intro az Hz
      refine L (r_mv Hz rfl) Hz rfl ?_
      clear Hz az; intro az Hz
      refine L (r_mv Hz rfl) Hz rfl ?_
      clear Hz az; intro az Hz
      refine L (r_mv Hz rfl) Hz rfl ?_
      clear Hz az; intro az Hz
      refine LCV (v := .int .i64 ((((D.sync f).1.size f : Nat) : Int))) Hz rfl rfl Tryz.call29 (fix_b (rSize_c h12 f)) rfl fun w23 o24 => ?_
      clear Hz az; intro az Hz
      have T25 : (RefT b (D.sync f).1) w23 F11 := ((refT_good b (D.sync f).1).only h12 o24 (fun _ _ h => h))
      refine LCV (v := .tuple #[strV (((D.sync f).1.read f 0 (((D.sync f).1.size f : Nat) : Int)).1), .int .i64 (((D.sync f).1.read f 0 (((D.sync f).1.size f : Nat) : Int)).2)]) Hz rfl rfl Tryz.call28 (rRead_c T25 f 0 _ (by unfold I64; omega) (by have := ksize_le T25 f; unfold I64; omega)) rfl fun w26 o27 => ?_
      clear Hz az; intro az Hz
      refine L (r_mv Hz rfl) Hz rfl ?_
      clear Hz az; intro az Hz
      refine L (r_ex Hz rfl rfl) Hz rfl ?_
      clear Hz az; intro az Hz
      refine L (r_ex Hz rfl rfl) Hz rfl ?_
      clear Hz az; intro az Hz
      refine L (r_as Hz rfl) Hz rfl ?_
      clear Hz az; intro az Hz
      refine L (r_as Hz rfl) Hz rfl ?_
      clear Hz az; intro az Hz
      refine hK22 _ _ ?_
      refine wp_seq_k fun K28 hK28 => ?_
      refine wp_seq_k fun K29 hK29 => ?_
      -- ref.go:64
      refine wp_region_lit ?_
      refine L (r_mv Hz rfl) Hz rfl ?_
      clear Hz az; intro az Hz
      refine L (r_neI Hz rfl rfl) Hz rfl ?_
      clear Hz az; intro az Hz
      refine hK29 _ _ ?_
      refine br Hz rfl (fun hc30 => ?_) (fun hc30 => ?_)
      · -- if2
        have p31 := of_decide_eq_false (nt_t hc30)
        refine wp_seq_k fun K32 hK32 => ?_
        -- ref.go:65
        refine wp_region_lit ?_
        refine L (r_mv Hz rfl) Hz rfl ?_
        clear Hz az; intro az Hz
        refine L (r_as Hz rfl) Hz rfl ?_
        clear Hz az; intro az Hz
        refine L (r_as Hz rfl) Hz rfl ?_
        clear Hz az; intro az Hz
        refine hK32 _ _ ?_
        refine wp_ret ?_
        show bodyPost _ _ _ .ret _ _
        refine ret_of (vs := [.pointer none, .int .i64 (((D.sync f).1.read f 0 (((D.sync f).1.size f : Nat) : Int)).2)]) Hz Tryz.results9 ⟨rfl, rfl, trivial⟩ ?_
        have T33 : (RefT b (D.sync f).1) w26 F11 := ((refT_good b (D.sync f).1).only T25 o27 (fun _ _ h => h))
        rw [open_0f1f2t hc4 hc18 hc30]
        exact .inl ⟨rfl, rfl, ⟨_, T33, (Only.trans (Only.trans (Only.trans (Only.refl _ w) o13 (fun k h => (.inl h))) o24 (fun _ h => h.elim)) o27 (fun _ h => h.elim)), (fun k hk => ((fm14 _ hk).elim (fun h => (.inl h)) (fun h => .inr (Nat.le_trans (Nat.le_refl _) h)))), (fun k hk => ((fr15 _ hk).elim (fun h => (.inl h)) (fun h => .inr (Nat.le_trans (Nat.le_refl _) h))))⟩⟩
      · -- else2
        have p34 := of_decide_eq_true (nt_f hc30)
        refine wp_skip ?_
        refine hK28 _ _ ?_
        refine wp_seq_k fun K35 hK35 => ?_
        -- ref.go:67
        refine wp_region_lit ?_
        refine L (r_mv Hz rfl) Hz rfl ?_
        clear Hz az; intro az Hz
        refine L (r_mv Hz rfl) Hz rfl ?_
        clear Hz az; intro az Hz
        refine L (r_mv Hz rfl) Hz rfl ?_
        clear Hz az; intro az Hz
        have T41 : (RefT b (D.sync f).1) w26 F11 := ((refT_good b (D.sync f).1).only T25 o27 (fun _ _ h => h))
        have hrl := kread_le T41 f 0 (((D.sync f).1.size f : Nat) : Int)
        refine LC Hz rfl rfl Tryz.call37 (kRecords_v _ (((D.sync f).1.read f 0 (((D.sync f).1.size f : Nat) : Int)).1) hrl) rfl ?_
        rintro e w36 ⟨A37, c38, rfl, r39, o40⟩; refine ⟨_, rfl, ?_⟩
        clear Hz az; intro az Hz
        refine L (r_bd (v := .agg #[.pointer (some ⟨b, 0, none⟩), .int .i64 (f), .slice A37 ((recs ((D.sync f).1.read f 0 (((D.sync f).1.size f : Nat) : Int)).1).length) c38, .bool (false)]) (build_KJ _ _ _ _ _) Hz rfl) Hz rfl ?_
        clear Hz az; intro az Hz
        refine LBox Hz rfl rfl rfl ?_
        clear Hz az; intro g42 w43 hg46 hl47 o44 B45 az Hz
        refine L (r_as Hz rfl) Hz rfl ?_
        clear Hz az; intro az Hz
        refine hK35 _ _ ?_
        refine wp_seq_k fun K48 hK48 => ?_
        -- ref.go:68
        refine wp_region_lit ?_
        refine L (r_mv Hz rfl) Hz rfl ?_
        clear Hz az; intro az Hz
        refine L (r_nilP Hz rfl) Hz rfl ?_
        clear Hz az; intro az Hz
        refine L (r_fa (m' := 2) Tryz.underlying49 rfl Tryz.sizeOf46 rfl Hz rfl rfl) Hz rfl ?_
        clear Hz az; intro az Hz
        refine L (r_ld Tryz.isAgg46 Hz rfl ((Blk.ca B45) 2 _ rfl)) Hz rfl ?_
        clear Hz az; intro az Hz
        have r50 := (ow_k r39 o44)
        have h49 := SliceOf.pl (Row.own KStr r50 (recs_okS _))
        refine LCV (v := strV (forms (recs ((D.sync f).1.read f 0 (((D.sync f).1.size f : Nat) : Int)).1))) Hz rfl rfl Tryz.call38 (kForms_v_ h49 (by have := recs_le ((D.sync f).1.read f 0 (((D.sync f).1.size f : Nat) : Int)).1; omega) (fun t ht => by have := recs_short ht; omega)) rfl fun w51 o52 => ?_
        clear Hz az; intro az Hz
        refine L (r_lenS Tryz.underlying9 Hz rfl) Hz rfl ?_
        clear Hz az; intro az Hz
        refine L (r_as Hz rfl) Hz rfl ?_
        clear Hz az; intro az Hz
        refine hK48 _ _ ?_
        refine wp_seq_k fun K53 hK53 => ?_
        refine wp_seq_k fun K54 hK54 => ?_
        -- ref.go:69
        refine wp_region_lit ?_
        refine L (r_mv Hz rfl) Hz rfl ?_
        clear Hz az; intro az Hz
        refine L (r_mv Hz rfl) Hz rfl ?_
        clear Hz az; intro az Hz
        refine L (r_lenS Tryz.underlying9 Hz rfl) Hz rfl ?_
        clear Hz az; intro az Hz
        refine L (r_ltI Hz rfl rfl) Hz rfl ?_
        clear Hz az; intro az Hz
        refine hK54 _ _ ?_
        refine br Hz rfl (fun hc55 => ?_) (fun hc55 => ?_)
        · -- if3
          have p56 := of_decide_eq_true hc55
          -- ref.go:70
          refine wp_region_lit ?_
          refine L (r_mv Hz rfl) Hz rfl ?_
          clear Hz az; intro az Hz
          refine L (r_mv Hz rfl) Hz rfl ?_
          clear Hz az; intro az Hz
          refine L (r_mv Hz rfl) Hz rfl ?_
          clear Hz az; intro az Hz
          have O57 : Only NoF w26 w51 := (Only.trans' (Only.trans' o40 o44) o52)
          have T58 : (RefT b (D.sync f).1) w51 F11 := ((refT_good b (D.sync f).1).only T41 O57 (fun _ _ h => h))
          refine LC Hz rfl rfl Tryz.call39 (rTruncate_c T58 f _ (by have := recs_le ((D.sync f).1.read f 0 (((D.sync f).1.size f : Nat) : Int)).1; unfold I64; omega)) rfl ?_
          rintro e w59 ⟨rfl, F60, h61, o62, fm63, fr64⟩; refine ⟨_, rfl, ?_⟩
          clear Hz az; intro az Hz
          refine L (r_as Hz rfl) Hz rfl ?_
          clear Hz az; intro az Hz
          refine hK53 _ _ ?_
          refine wp_seq_k fun K65 hK65 => ?_
          refine wp_seq_k fun K66 hK66 => ?_
          -- ref.go:72
          refine wp_region_lit ?_
          refine L (r_mv Hz rfl) Hz rfl ?_
          clear Hz az; intro az Hz
          refine L (r_neI Hz rfl rfl) Hz rfl ?_
          clear Hz az; intro az Hz
          refine hK66 _ _ ?_
          refine br Hz rfl (fun hc67 => ?_) (fun hc67 => ?_)
          · -- if4
            have p68 := of_decide_eq_false (nt_t hc67)
            refine wp_seq_k fun K69 hK69 => ?_
            -- ref.go:73
            refine wp_region_lit ?_
            refine L (r_mv Hz rfl) Hz rfl ?_
            clear Hz az; intro az Hz
            refine L (r_as Hz rfl) Hz rfl ?_
            clear Hz az; intro az Hz
            refine L (r_as Hz rfl) Hz rfl ?_
            clear Hz az; intro az Hz
            refine hK69 _ _ ?_
            refine wp_ret ?_
            show bodyPost _ _ _ .ret _ _
            refine ret_of (vs := [.pointer none, .int .i64 (((D.sync f).1.truncate f (((forms (recs ((D.sync f).1.read f 0 (((D.sync f).1.size f : Nat) : Int)).1)).length : Nat) : Int)).2)]) Hz Tryz.results9 ⟨rfl, rfl, trivial⟩ ?_
            rw [open_0f1f2f3t4t hc4 hc18 hc30 hc55 hc67]
            have O70 := (Only.trans (Only.trans (Only.trans (Only.trans (Only.trans (Only.trans (Only.refl (fun _ => True) w) o13 (fun _ _ => .inl trivial)) o24 (fun _ _ => .inl trivial)) o27 (fun _ _ => .inl trivial)) o40 (fun _ _ => .inl trivial)) o44 (fun _ _ => .inl trivial)) o52 (fun _ _ => .inl trivial))
            exact .inl ⟨rfl, rfl, ⟨_, h61, (Only.trans (Only.trans (Only.trans (Only.trans (Only.trans (Only.trans (Only.trans (Only.refl _ w) o13 (fun k h => (.inl h))) o24 (fun _ h => h.elim)) o27 (fun _ h => h.elim)) o40 (fun _ h => h.elim)) o44 (fun _ h => h.elim)) o52 (fun _ h => h.elim)) o62 (fun k h => ((fm14 _ h).elim (fun h => (.inl h)) (fun h => .inr (Nat.le_trans (Nat.le_refl _) h))))), (fun k hk => ((fm63 _ hk).elim (fun h => ((fm14 _ h).elim (fun h => (.inl h)) (fun h => .inr (Nat.le_trans (Nat.le_refl _) h)))) (fun h => .inr (Nat.le_trans (size_only O70) h)))), (fun k hk => ((fr64 _ hk).elim (fun h => ((fr15 _ h).elim (fun h => (.inl h)) (fun h => .inr (Nat.le_trans (Nat.le_refl _) h)))) (fun h => .inr (Nat.le_trans (size_only O70) h))))⟩⟩
          · -- else4
            have p71 := of_decide_eq_true (nt_f hc67)
            refine wp_skip ?_
            refine hK65 _ _ ?_
            refine wp_seq_k fun K72 hK72 => ?_
            -- ref.go:75
            refine wp_region_lit ?_
            refine L (r_mv Hz rfl) Hz rfl ?_
            clear Hz az; intro az Hz
            refine L (r_as Hz rfl) Hz rfl ?_
            clear Hz az; intro az Hz
            refine L (r_as Hz rfl) Hz rfl ?_
            clear Hz az; intro az Hz
            refine hK72 _ _ ?_
            refine wp_ret ?_
            show bodyPost _ _ _ .ret _ _
            refine ret_of (vs := [.pointer (some ((⟨g42, 0, none⟩ : Addr))), .int .i64 (0)]) Hz Tryz.results9 ⟨rfl, rfl, trivial⟩ ?_
            rw [open_0f1f2f3t4f hc4 hc18 hc30 hc55 hc67]
            have O73 : Only NoF w10 w36 := (Only.trans' (Only.trans' o24 o27) o40)
            have B74 := (Blk.only (Blk.k B45 o52) o62 (fun h => (fun h => absurd ((refT_good b (D.sync f).1).lt h12 _ h) (Nat.not_lt.2 (Nat.le_trans (size_only O73) hg46))) (.inl h)))
            have O75 : Only NoF w10 w26 := (Only.trans' o24 o27)
            have r76 := (ow_only (ow_k r50 o52) o62 (fun k hk hF => (fun k hk h => absurd ((refT_good b (D.sync f).1).lt h12 _ h) (Nat.not_lt.2 (Nat.le_trans (size_only O75) (ownF_ge r39 k hk)))) k hk (.inl hF)))
            have sp77 : ¬ Foot.all F60 g42 := sep_next (fun h => absurd ((refT_good b (D.sync f).1).lt h12 _ h) (Nat.not_lt.2 (Nat.le_trans (size_only O73) hg46))) (Nat.lt_of_lt_of_le hl47 (size_only o52)) fm63 fr64
            have O79 : Only NoF w36 w51 := (Only.trans' o44 o52)
            have sp78 : ∀ k, ownF (.slice A37 ((recs ((D.sync f).1.read f 0 (((D.sync f).1.size f : Nat) : Int)).1).length) c38) k → ¬ Foot.all F60 k := sep_nexto (fun k hk h => absurd ((refT_good b (D.sync f).1).lt h12 _ h) (Nat.not_lt.2 (Nat.le_trans (size_only O75) (ownF_ge r39 k hk)))) (fun k hk => Nat.lt_of_lt_of_le (ownF_lt r39 k hk) (size_only O79)) fm63 fr64
            have O80 := (Only.trans (Only.trans (Only.trans (Only.trans (Only.refl (fun _ => True) w) o13 (fun _ _ => .inl trivial)) o24 (fun _ _ => .inl trivial)) o27 (fun _ _ => .inl trivial)) o40 (fun _ _ => .inl trivial))
            have O81 := (Only.trans (Only.trans (Only.trans (Only.refl (fun _ => True) w) o13 (fun _ _ => .inl trivial)) o24 (fun _ _ => .inl trivial)) o27 (fun _ _ => .inl trivial))
            have O82 := (Only.trans (Only.trans (Only.trans (Only.trans (Only.trans (Only.trans (Only.refl (fun _ => True) w) o13 (fun _ _ => .inl trivial)) o24 (fun _ _ => .inl trivial)) o27 (fun _ _ => .inl trivial)) o40 (fun _ _ => .inl trivial)) o44 (fun _ _ => .inl trivial)) o52 (fun _ _ => .inl trivial))
            refine .inr ⟨_, g42, rfl, rfl, ?_⟩
            refine ⟨_, KT.make (J := ⟨f, recs ((D.sync f).1.read f 0 (((D.sync f).1.size f : Nat) : Int)).1, (forms (recs ((D.sync f).1.read f 0 (((D.sync f).1.size f : Nat) : Int)).1)).length, false⟩) B74 r76 (recs_okS _) h61 sp77 sp78, ?_, ?_, ?_⟩
            · exact (Only.trans (Only.trans (Only.trans (Only.trans (Only.trans (Only.trans (Only.trans (Only.refl _ w) o13 (fun k h => (.inl h))) o24 (fun _ h => h.elim)) o27 (fun _ h => h.elim)) o40 (fun _ h => h.elim)) o44 (fun _ h => h.elim)) o52 (fun _ h => h.elim)) o62 (fun k h => ((fm14 _ h).elim (fun h => (.inl h)) (fun h => .inr (Nat.le_trans (Nat.le_refl _) h)))))
            · intro k hk; rcases hk with (hk | hk) | hk
              · exact .inr (by rw [hk]; exact Nat.le_trans (size_only O80) hg46)
              · exact .inr (Nat.le_trans (size_only O81) (ownF_ge r76 k hk))
              · exact ((fm63 _ hk).elim (fun h => ((fm14 _ h).elim (fun h => (.inl h)) (fun h => .inr (Nat.le_trans (Nat.le_refl _) h)))) (fun h => .inr (Nat.le_trans (size_only O82) h)))
            · intro k hk; rcases hk with hk | hk
              · exact hk.elim
              · exact ((fr64 _ hk).elim (fun h => ((fr15 _ h).elim (fun h => (.inl h)) (fun h => .inr (Nat.le_trans (Nat.le_refl _) h)))) (fun h => .inr (Nat.le_trans (size_only O82) h)))
        · -- else3
          have p83 := of_decide_eq_false hc55
          refine wp_skip ?_
          refine hK53 _ _ ?_
          refine wp_seq_k fun K84 hK84 => ?_
          refine wp_seq_k fun K85 hK85 => ?_
          -- ref.go:72
          refine wp_region_lit ?_
          refine L (r_mv Hz rfl) Hz rfl ?_
          clear Hz az; intro az Hz
          refine L (r_neI Hz rfl rfl) Hz rfl ?_
          clear Hz az; intro az Hz
          refine hK85 _ _ ?_
          refine br Hz rfl (fun hc86 => ?_) (fun hc86 => ?_)
          · -- if4
            have p87 := of_decide_eq_false (nt_t hc86)
            refine wp_seq_k fun K88 hK88 => ?_
            -- ref.go:73
            refine wp_region_lit ?_
            refine L (r_mv Hz rfl) Hz rfl ?_
            clear Hz az; intro az Hz
            refine L (r_as Hz rfl) Hz rfl ?_
            clear Hz az; intro az Hz
            refine L (r_as Hz rfl) Hz rfl ?_
            clear Hz az; intro az Hz
            refine hK88 _ _ ?_
            refine wp_ret ?_
            show bodyPost _ _ _ .ret _ _
            refine ret_of (vs := [.pointer none, .int .i64 (((D.sync f).1.read f 0 (((D.sync f).1.size f : Nat) : Int)).2)]) Hz Tryz.results9 ⟨rfl, rfl, trivial⟩ ?_
            have O89 : Only NoF w26 w51 := (Only.trans' (Only.trans' o40 o44) o52)
            have T90 : (RefT b (D.sync f).1) w51 F11 := ((refT_good b (D.sync f).1).only T41 O89 (fun _ _ h => h))
            rw [hc30] at hc86; cases hc86
          · -- else4
            have p91 := of_decide_eq_true (nt_f hc86)
            refine wp_skip ?_
            refine hK84 _ _ ?_
            refine wp_seq_k fun K92 hK92 => ?_
            -- ref.go:75
            refine wp_region_lit ?_
            refine L (r_mv Hz rfl) Hz rfl ?_
            clear Hz az; intro az Hz
            refine L (r_as Hz rfl) Hz rfl ?_
            clear Hz az; intro az Hz
            refine L (r_as Hz rfl) Hz rfl ?_
            clear Hz az; intro az Hz
            refine hK92 _ _ ?_
            refine wp_ret ?_
            show bodyPost _ _ _ .ret _ _
            refine ret_of (vs := [.pointer (some ((⟨g42, 0, none⟩ : Addr))), .int .i64 (0)]) Hz Tryz.results9 ⟨rfl, rfl, trivial⟩ ?_
            have O93 : Only NoF w26 w51 := (Only.trans' (Only.trans' o40 o44) o52)
            have T94 : (RefT b (D.sync f).1) w51 F11 := ((refT_good b (D.sync f).1).only T41 O93 (fun _ _ h => h))
            rw [open_0f1f2f3f hc4 hc18 hc30 hc55]
            have B95 := (Blk.k B45 o52)
            have r96 := (ow_k r50 o52)
            have O97 : Only NoF w10 w36 := (Only.trans' (Only.trans' o24 o27) o40)
            have O98 : Only NoF w10 w26 := (Only.trans' o24 o27)
            have O99 := (Only.trans (Only.trans (Only.trans (Only.trans (Only.refl (fun _ => True) w) o13 (fun _ _ => .inl trivial)) o24 (fun _ _ => .inl trivial)) o27 (fun _ _ => .inl trivial)) o40 (fun _ _ => .inl trivial))
            have O100 := (Only.trans (Only.trans (Only.trans (Only.refl (fun _ => True) w) o13 (fun _ _ => .inl trivial)) o24 (fun _ _ => .inl trivial)) o27 (fun _ _ => .inl trivial))
            refine .inr ⟨_, g42, rfl, rfl, ?_⟩
            refine ⟨_, KT.make (J := ⟨f, recs ((D.sync f).1.read f 0 (((D.sync f).1.size f : Nat) : Int)).1, (forms (recs ((D.sync f).1.read f 0 (((D.sync f).1.size f : Nat) : Int)).1)).length, false⟩) B95 r96 (recs_okS _) T94 (fun h => absurd ((refT_good b (D.sync f).1).lt h12 _ h) (Nat.not_lt.2 (Nat.le_trans (size_only O97) hg46))) (fun k hk h => absurd ((refT_good b (D.sync f).1).lt h12 _ h) (Nat.not_lt.2 (Nat.le_trans (size_only O98) (ownF_ge r39 k hk)))), ?_, ?_, ?_⟩
            · exact (Only.trans (Only.trans (Only.trans (Only.trans (Only.trans (Only.trans (Only.refl _ w) o13 (fun k h => (.inl h))) o24 (fun _ h => h.elim)) o27 (fun _ h => h.elim)) o40 (fun _ h => h.elim)) o44 (fun _ h => h.elim)) o52 (fun _ h => h.elim))
            · intro k hk; rcases hk with (hk | hk) | hk
              · exact .inr (by rw [hk]; exact Nat.le_trans (size_only O99) hg46)
              · exact .inr (Nat.le_trans (size_only O100) (ownF_ge r96 k hk))
              · exact ((fm14 _ hk).elim (fun h => (.inl h)) (fun h => .inr (Nat.le_trans (Nat.le_refl _) h)))
            · intro k hk; rcases hk with hk | hk
              · exact hk.elim
              · exact ((fr15 _ hk).elim (fun h => (.inl h)) (fun h => .inr (Nat.le_trans (Nat.le_refl _) h)))

set_option maxRecDepth 20000 in
set_option maxHeartbeats 4000000 in
theorem kAppend_v_ {w : World} {b g : Nat} {D : Dsk} {J : Jn} {A : Option Addr} {c : Nat} {F : Foot} (hB : Blk w g 49 (kjCells b J A c)) (rO : w.ownsRow 0 9 1 (.slice A J.l.length c) J.l.length (J.l.flatMap KStr.cells)) (okO : ∀ z ∈ J.l, KStr.ok z) (hd : RefT b D w F) (s1 : ¬ F.all g) (s2 : ∀ k, ownF (.slice A J.l.length c) k → ¬ F.all k) {t : Str} (ht : t.length ≤ 900000) (hn : J.n = (forms J.l).length) (hn2 : J.n ≤ 100000000) (hll : J.l.length ≤ 100000000) (hsm : ∀ t ∈ J.l, t.length ≤ 20000) : Calls Tryz.prog 13 [.pointer (some ⟨g, 0, none⟩), strV t].toArray w (TurnTo (.int .i64 (J.append D t).2.2) (KT b g (J.append D t).1 (J.append D t).2.1) w (⟨fun k => (k = g ∨ ownF (.slice A J.l.length c) k) ∨ F.m k, fun k => False ∨ F.r k⟩ : Foot)) := by
  have htk : KStr.ok t := by show t.length ≤ maxLen; unfold maxLen; omega
  have hfl := form_len (t := t) (by omega)
  refine calls_start Tryz.func13 rfl rfl ?_
  intro az Hz
  rw [Tryz.ntmps13] at Hz
  refine wp_seq_k fun K1 hK1 => ?_
  -- ref.go:79
  refine wp_region_lit ?_
  refine L (r_as Hz rfl) Hz rfl ?_
  clear Hz az; intro az Hz
  refine hK1 _ _ ?_
  refine wp_seq_k fun K2 hK2 => ?_
  refine wp_seq_k fun K3 hK3 => ?_
  -- ref.go:80
  refine wp_region_lit ?_
  refine L (r_mv Hz rfl) Hz rfl ?_
  clear Hz az; intro az Hz
  refine L (r_nilP Hz rfl) Hz rfl ?_
  clear Hz az; intro az Hz
  refine L (r_fa (m' := 3) Tryz.underlying49 rfl Tryz.sizeOf4 rfl Hz rfl rfl) Hz rfl ?_
  clear Hz az; intro az Hz
  refine L (r_ld Tryz.isAgg4 Hz rfl ((Blk.ca hB) 3 _ rfl)) Hz rfl ?_
  clear Hz az; intro az Hz
  refine hK3 _ _ ?_
  refine br Hz rfl (fun hc4 => ?_) (fun hc4 => ?_)
  · -- if0
    have q5 : J.bad = true := hc4
    refine wp_seq_k fun K6 hK6 => ?_
    -- ref.go:81
    refine wp_region_lit ?_
    refine L (r_as Hz rfl) Hz rfl ?_
    clear Hz az; intro az Hz
    refine hK6 _ _ ?_
    refine wp_ret ?_
    show bodyPost _ _ _ .ret _ _
    refine ret_of (vs := [.int .i64 (7)]) Hz Tryz.results13 ⟨rfl, trivial⟩ ?_
    rw [app_0t hc4]; refine ⟨by first | rfl | (rw [hn]; rfl) | rw [hn], ?_⟩
    try rw [hn]
    refine ⟨_, KT.make (J := J) hB rO okO hd s1 s2, ?_, ?_, ?_⟩
    · exact (Only.refl _ w)
    · intro k hk; rcases hk with (hk | hk) | hk
      · exact .inl (.inl (.inl hk))
      · exact .inl (.inl (.inr hk))
      · exact ((.inl hk) : F.m k ∨ w.heap.size ≤ k).imp .inr id
    · intro k hk; rcases hk with hk | hk
      · exact hk.elim
      · exact ((.inl hk) : F.r k ∨ w.heap.size ≤ k).imp .inr id
  · -- else0
    have q7 : J.bad = false := hc4
    refine wp_skip ?_
    refine hK2 _ _ ?_
    refine wp_seq_k fun K8 hK8 => ?_
    refine wp_seq_k fun K9 hK9 => ?_
    -- ref.go:83
    refine wp_region_lit ?_
    refine L (r_mv Hz rfl) Hz rfl ?_
    clear Hz az; intro az Hz
    refine L (r_lenS Tryz.underlying9 Hz rfl) Hz rfl ?_
    clear Hz az; intro az Hz
    refine L (r_gtI Hz rfl rfl) Hz rfl ?_
    clear Hz az; intro az Hz
    refine hK9 _ _ ?_
    refine br Hz rfl (fun hc10 => ?_) (fun hc10 => ?_)
    · -- if1
      have p11 := of_decide_eq_true hc10
      refine wp_seq_k fun K12 hK12 => ?_
      -- ref.go:84
      refine wp_region_lit ?_
      refine L (r_as Hz rfl) Hz rfl ?_
      clear Hz az; intro az Hz
      refine hK12 _ _ ?_
      refine wp_ret ?_
      show bodyPost _ _ _ .ret _ _
      refine ret_of (vs := [.int .i64 (3)]) Hz Tryz.results13 ⟨rfl, trivial⟩ ?_
      rw [app_0f1t hc4 hc10]; refine ⟨by first | rfl | (rw [hn]; rfl) | rw [hn], ?_⟩
      try rw [hn]
      refine ⟨_, KT.make (J := J) hB rO okO hd s1 s2, ?_, ?_, ?_⟩
      · exact (Only.refl _ w)
      · intro k hk; rcases hk with (hk | hk) | hk
        · exact .inl (.inl (.inl hk))
        · exact .inl (.inl (.inr hk))
        · exact ((.inl hk) : F.m k ∨ w.heap.size ≤ k).imp .inr id
      · intro k hk; rcases hk with hk | hk
        · exact hk.elim
        · exact ((.inl hk) : F.r k ∨ w.heap.size ≤ k).imp .inr id
    · -- else1
      have p13 := of_decide_eq_false hc10
      refine wp_skip ?_
      refine hK8 _ _ ?_
      refine wp_seq_k fun K14 hK14 => ?_
      -- ref.go:86
      refine wp_region_lit ?_
      refine L (r_mv Hz rfl) Hz rfl ?_
      clear Hz az; intro az Hz
      refine L (r_nilP Hz rfl) Hz rfl ?_
      clear Hz az; intro az Hz
      refine L (r_fa (m' := 2) Tryz.underlying49 rfl Tryz.sizeOf46 rfl Hz rfl rfl) Hz rfl ?_
      clear Hz az; intro az Hz
      refine L (r_ld Tryz.isAgg46 Hz rfl ((Blk.ca hB) 2 _ rfl)) Hz rfl ?_
      clear Hz az; intro az Hz
      have h15 := SliceOf.pl (Row.own KStr rO okO)
      refine LCV (v := strV (forms J.l)) Hz rfl rfl Tryz.call38 (kForms_v_ h15 (by omega) (fun t ht => by have := hsm t ht; omega)) rfl fun w16 o17 => ?_
      clear Hz az; intro az Hz
      refine L (r_lenS Tryz.underlying9 Hz rfl) Hz rfl ?_
      clear Hz az; intro az Hz
      refine L (r_as Hz rfl) Hz rfl ?_
      clear Hz az; intro az Hz
      refine hK14 _ _ ?_
      refine wp_seq_k fun K18 hK18 => ?_
      refine wp_seq_k fun K19 hK19 => ?_
      -- ref.go:87
      refine wp_region_lit ?_
      refine L (r_mv Hz rfl) Hz rfl ?_
      clear Hz az; intro az Hz
      refine L (r_mv Hz rfl) Hz rfl ?_
      clear Hz az; intro az Hz
      refine LCV (v := strV (form t)) Hz rfl rfl Tryz.call41 (kForm_v _ t (by omega)) rfl fun w20 o21 => ?_
      clear Hz az; intro az Hz
      refine L (r_lenS Tryz.underlying9 Hz rfl) Hz rfl ?_
      clear Hz az; intro az Hz
      have i22 : I64 ((((List.length (forms J.l) : Nat) : Int) + ((List.length (form t) : Nat) : Int))) := by unfold I64; omega
      refine L (r_addI (r := (((List.length (forms J.l) : Nat) : Int) + ((List.length (form t) : Nat) : Int))) Hz rfl rfl rfl i22) Hz rfl ?_
      clear Hz az; intro az Hz
      refine L (r_gtI Hz rfl rfl) Hz rfl ?_
      clear Hz az; intro az Hz
      refine hK19 _ _ ?_
      refine br Hz rfl (fun hc23 => ?_) (fun hc23 => ?_)
      · -- if2
        have p24 := of_decide_eq_true hc23
        refine wp_seq_k fun K25 hK25 => ?_
        -- ref.go:88
        refine wp_region_lit ?_
        refine L (r_as Hz rfl) Hz rfl ?_
        clear Hz az; intro az Hz
        refine hK25 _ _ ?_
        refine wp_ret ?_
        show bodyPost _ _ _ .ret _ _
        refine ret_of (vs := [.int .i64 (6)]) Hz Tryz.results13 ⟨rfl, trivial⟩ ?_
        rw [app_0f1f2t hc4 hc10 (by rw [hn]; exact hc23)]; refine ⟨by first | rfl | (rw [hn]; rfl) | rw [hn], ?_⟩
        try rw [hn]
        have O26 : Only NoF w w20 := (Only.trans' o17 o21)
        have T27 : (RefT b D) w20 F := ((refT_good b D).only hd O26 (fun _ _ h => h))
        have B28 := (Blk.k (Blk.k hB o17) o21)
        have r29 := (ow_k (ow_k rO o17) o21)
        refine ⟨_, KT.make (J := J) B28 r29 okO T27 s1 s2, ?_, ?_, ?_⟩
        · exact (Only.trans (Only.trans (Only.refl _ w) o17 (fun _ h => h.elim)) o21 (fun _ h => h.elim))
        · intro k hk; rcases hk with (hk | hk) | hk
          · exact .inl (.inl (.inl hk))
          · exact .inl (.inl (.inr hk))
          · exact ((.inl hk) : F.m k ∨ w.heap.size ≤ k).imp .inr id
        · intro k hk; rcases hk with hk | hk
          · exact hk.elim
          · exact ((.inl hk) : F.r k ∨ w.heap.size ≤ k).imp .inr id
      · -- else2
        have p30 := of_decide_eq_false hc23
        refine wp_skip ?_
        refine hK18 _ _ ?_
        refine wp_seq_k fun K31 hK31 => ?_
        -- ref.go:90
        refine reg_p F.m 1 [10, 11] (.rd 0 (.rd 1 (.rd 2 (.rd 3 (.rd 4 (.rd 5 (.rd 6 (.rd 7 (.rd 8 (.rd 9 (.ex 10 (.ex 11 (.rd 12 .nil))))))))))))) (by kernel_rfl) (by kernel_rfl) (fun _ _ _ _ _ h => h) fun w32 o33 => ?_
        have B34 := (Blk.k (Blk.k (Blk.k hB o17) o21) o33)
        refine Pl.MSP (b := false) (by kernel_rfl) (fun W oW => r_mv Hz rfl) Hz rfl rfl ?_
        clear Hz az; intro az Hz
        refine Pl.MSP (b := false) (by kernel_rfl) (fun W oW => r_nilP Hz rfl) Hz rfl rfl ?_
        clear Hz az; intro az Hz
        refine Pl.MSP (b := false) (by kernel_rfl) (fun W oW => r_fa (m' := 0) Tryz.underlying49 rfl Tryz.sizeOf27 rfl Hz rfl rfl) Hz rfl rfl ?_
        clear Hz az; intro az Hz
        refine Pl.MSP (b := true) (by kernel_rfl) (fun W oW => r_ld Tryz.isAgg27 Hz rfl ((Blk.ca (Blk.k B34 oW)) 0 _ rfl)) Hz rfl rfl ?_
        clear Hz az; intro az Hz
        refine Pl.MSP (b := false) (by kernel_rfl) (fun W oW => r_mv Hz rfl) Hz rfl rfl ?_
        clear Hz az; intro az Hz
        refine Pl.MSP (b := false) (by kernel_rfl) (fun W oW => r_nilP Hz rfl) Hz rfl rfl ?_
        clear Hz az; intro az Hz
        refine Pl.MSP (b := false) (by kernel_rfl) (fun W oW => r_fa (m' := 1) Tryz.underlying49 rfl Tryz.sizeOf3 rfl Hz rfl rfl) Hz rfl rfl ?_
        clear Hz az; intro az Hz
        refine Pl.MSP (b := true) (by kernel_rfl) (fun W oW => r_ld Tryz.isAgg3 Hz rfl ((Blk.ca (Blk.k B34 oW)) 1 _ rfl)) Hz rfl rfl ?_
        clear Hz az; intro az Hz
        refine Pl.MSP (b := true) (by kernel_rfl) (fun W oW => r_mv Hz rfl) Hz rfl rfl ?_
        clear Hz az; intro az Hz
        refine Pl.MSP (b := true) (by kernel_rfl) (fun W oW => r_mv Hz rfl) Hz rfl rfl ?_
        clear Hz az; intro az Hz
        refine Pl.MSV (v := strV (form t)) Hz rfl rfl rfl Tryz.call41 (kForm_v _ t (by omega)) rfl (fun w' o' => ⟨fun _ => o', (Only.trans (Only.refl F.m w32) o' (fun _ h => h.elim))⟩) fun w35 o36 => ?_
        clear Hz az; intro az Hz
        have O37 : Only NoF w w35 := (Only.trans' (Only.trans' (Only.trans' o17 o21) o33) o36)
        have T38 : (RefT b D) w35 F := ((refT_good b D).only hd O37 (fun _ _ h => h))
        refine Pl.MSC Hz rfl rfl rfl Tryz.call42 (rWrite_c T38 J.f _ (form t) (by unfold I64; omega) (by omega)) rfl ?_
        rintro e w39 ⟨rfl, F40, h41, o42, fm43, fr44⟩
        refine ⟨_, rfl, ⟨fun h => absurd h (by decide), (Only.trans (Only.trans (Only.refl F.m w32) o36 (fun _ h => h.elim)) o42 (fun _ h => .inl h))⟩, ?_⟩
        clear Hz az; intro az Hz
        refine Pl.MSP (b := false) (by kernel_rfl) (fun W oW => r_as Hz rfl) Hz rfl rfl ?_
        clear Hz az; intro az Hz
        refine wpPl_nil ?_
        refine hK31 _ _ ?_
        refine wp_seq_k fun K45 hK45 => ?_
        refine wp_seq_k fun K46 hK46 => ?_
        -- ref.go:91
        refine wp_region_lit ?_
        refine L (r_mv Hz rfl) Hz rfl ?_
        clear Hz az; intro az Hz
        refine L (r_neI Hz rfl rfl) Hz rfl ?_
        clear Hz az; intro az Hz
        refine hK46 _ _ ?_
        refine br Hz rfl (fun hc47 => ?_) (fun hc47 => ?_)
        · -- if3
          have p48 := of_decide_eq_false (nt_t hc47)
          refine wp_seq_k fun K49 hK49 => ?_
          -- ref.go:92
          refine wp_region_lit ?_
          refine L (r_mv Hz rfl) Hz rfl ?_
          clear Hz az; intro az Hz
          refine L (r_nilP Hz rfl) Hz rfl ?_
          clear Hz az; intro az Hz
          refine L (r_fa (m' := 3) Tryz.underlying49 rfl Tryz.sizeOf4 rfl Hz rfl rfl) Hz rfl ?_
          clear Hz az; intro az Hz
          have B50 := (Blk.only (Blk.k B34 o36) o42 (fun h => s1 (.inl h)))
          refine LSt (cs' := [.pointer (some ⟨b, 0, none⟩), .int .i64 (J.f), .slice A (J.l.length) c, .bool (true)]) Tryz.sizeOf4 Hz rfl rfl rfl rfl rfl ⟨rfl, trivial⟩ B50 rfl rfl fun w51 s52 B53 => ?_
          refine hK49 _ _ ?_
          refine wp_seq_k fun K54 hK54 => ?_
          -- ref.go:93
          refine wp_region_lit ?_
          refine L (r_mv Hz rfl) Hz rfl ?_
          clear Hz az; intro az Hz
          refine L (r_as Hz rfl) Hz rfl ?_
          clear Hz az; intro az Hz
          refine hK54 _ _ ?_
          refine wp_ret ?_
          show bodyPost _ _ _ .ret _ _
          refine ret_of (vs := [.int .i64 ((D.write J.f ((List.length (forms J.l) : Nat) : Int) (form t)).2)]) Hz Tryz.results13 ⟨rfl, trivial⟩ ?_
          rw [app_0f1f2f3t hc4 hc10 (by rw [hn]; exact hc23) (by rw [hn]; exact hc47)]; refine ⟨by first | rfl | (rw [hn]; rfl) | rw [hn], ?_⟩
          try rw [hn]
          have sp55 : ¬ Foot.all F40 g := sep_next s1 (Nat.lt_of_lt_of_le (Blk.lt hB) (size_only O37)) fm43 fr44
          have T56 : (RefT b (D.write J.f ((List.length (forms J.l) : Nat) : Int) (form t)).1) w51 F40 := ((refT_good b (D.write J.f ((List.length (forms J.l) : Nat) : Int) (form t)).1).only h41 s52 (fun k hk (e : k = g) => sp55 (by rw [← e]; exact hk)))
          have r57 := (ow_only (ow_only (ow_k (ow_k (ow_k (ow_k rO o17) o21) o33) o36) o42 (fun k hk hF => s2 k hk (.inl hF))) s52 (fun k hk hF => ow_nb (ow_only (ow_k (ow_k (ow_k (ow_k rO o17) o21) o33) o36) o42 (fun k hk hF => s2 k hk (.inl hF))) B50 (by decide) (by rw [show k = g from hF] at hk; exact hk)))
          have sp58 : ∀ k, ownF (.slice A (J.l.length) c) k → ¬ Foot.all F40 k := sep_nexto s2 (fun k hk => Nat.lt_of_lt_of_le (ownF_lt rO k hk) (size_only O37)) fm43 fr44
          refine ⟨_, KT.make (J := { J with bad := true }) B53 r57 okO T56 sp55 sp58, ?_, ?_, ?_⟩
          · exact (Only.trans (Only.trans (Only.trans (Only.trans (Only.trans (Only.trans (Only.refl _ w) o17 (fun _ h => h.elim)) o21 (fun _ h => h.elim)) o33 (fun _ h => h.elim)) o36 (fun _ h => h.elim)) o42 (fun k h => (.inl (.inr h)))) s52 (fun k h => .inl (.inl (.inl h))))
          · intro k hk; rcases hk with (hk | hk) | hk
            · exact .inl (.inl (.inl hk))
            · exact .inl (.inl (.inr hk))
            · exact (((fm43 _ hk).elim (fun h => (.inl h)) (fun h => .inr (Nat.le_trans (size_only O37) h))) : F.m k ∨ w.heap.size ≤ k).imp .inr id
          · intro k hk; rcases hk with hk | hk
            · exact hk.elim
            · exact (((fr44 _ hk).elim (fun h => (.inl h)) (fun h => .inr (Nat.le_trans (size_only O37) h))) : F.r k ∨ w.heap.size ≤ k).imp .inr id
        · -- else3
          have p59 := of_decide_eq_true (nt_f hc47)
          refine wp_skip ?_
          refine hK45 _ _ ?_
          refine wp_seq_k fun K60 hK60 => ?_
          -- ref.go:95
          refine wp_region_lit ?_
          refine L (r_mv Hz rfl) Hz rfl ?_
          clear Hz az; intro az Hz
          obtain ⟨A61, w62, hw, hA, r63, o64⟩ := made0 (w := w39) (e := 9) (size := 1)
          refine L (r_bs0 Tryz.underlying46 Tryz.sizeOf9) Hz rfl ?_
          rw [← hw, ← hA]; clear Hz az; intro az Hz
          clear hw hA
          refine L (r_mv Hz rfl) Hz rfl ?_
          clear Hz az; intro az Hz
          refine L (r_nilP Hz rfl) Hz rfl ?_
          clear Hz az; intro az Hz
          refine L (r_fa (m' := 2) Tryz.underlying49 rfl Tryz.sizeOf46 rfl Hz rfl rfl) Hz rfl ?_
          clear Hz az; intro az Hz
          have B65 := (Blk.k (Blk.only (Blk.k B34 o36) o42 (fun h => s1 (.inl h))) o64)
          refine L (r_ld Tryz.isAgg46 Hz rfl ((Blk.ca B65) 2 _ rfl)) Hz rfl ?_
          clear Hz az; intro az Hz
          have r67 := (ow_k (ow_only (ow_k (ow_k (ow_k (ow_k rO o17) o21) o33) o36) o42 (fun k hk hF => s2 k hk (.inl hF))) o64)
          have h66 := SliceOf.pl (Row.own KStr r67 okO)
          have hb75 : (List.length (([] : List Str)) + List.length (J.l)) * 16 ≤ 140737488355328 := by (simp only [List.length_append, List.length_cons, List.length_nil]; omega)
          obtain ⟨A68, c69, w70, hr71, r72, o73, al74⟩ := Row.app (P := Tryz.prog) (l := ([] : List Str)) (l2 := J.l) KStr elemStr r63 h66 hb75 (by unfold maxLen; omega) (size_only o64)
          simp only [List.nil_append, List.append_nil] at hr71 r72 al74
          refine L (r_app hr71 Hz rfl rfl) Hz rfl ?_
          clear Hz az; intro az Hz
          have ok76 : ∀ zq ∈ J.l, KStr.ok zq := (Row.oks KStr h66)
          have h77 := Row.own KStr r72 ok76
          refine L (r_mv Hz rfl) Hz rfl ?_
          clear Hz az; intro az Hz
          obtain ⟨A78, w79, hw, hA, r80, o81⟩ := Row.made (w := w70) KStr (e := 9) ([t] : List Str) (by simp only [List.length_cons, List.length_nil]; unfold maxLen; omega)
          refine L (r_bs (z := strV ([])) (size := 1) (vs := [(0, strV (t))]) (cs := List.flatMap KStr.cells [t]) Tryz.underlying46 Tryz.sizeOf9 Tryz.zeroValue9 rfl (Fr.evalps Hz rfl) (by kernel_rfl)) Hz rfl ?_
          rw [← hw, ← hA]; clear Hz az; intro az Hz
          clear hw hA
          have ok82 : ∀ zq ∈ ([t] : List Str), KStr.ok zq := by intro zq hx; simp only [List.mem_cons, List.not_mem_nil, or_false] at hx; rcases hx with rfl <;> first | exact htk
          have r83 := (ow_k r72 o81)
          have h84 := SliceOf.pl (Row.own KStr r80 ok82)
          have hb92 : (List.length (J.l) + List.length ([t])) * 16 ≤ 140737488355328 := by (simp only [List.length_append, List.length_cons, List.length_nil]; omega)
          have O93 : Only NoF w39 w79 := (Only.trans' (o_sg o64 o73 (Nat.le_refl _) (ownF_ge r63)) o81)
          obtain ⟨A85, c86, w87, hr88, r89, o90, al91⟩ := Row.app (P := Tryz.prog) (l := J.l) (l2 := [t]) KStr elemStr r83 h84 hb92 (by unfold maxLen; omega) (size_only O93)
          refine L (r_app hr88 Hz rfl rfl) Hz rfl ?_
          clear Hz az; intro az Hz
          have ok94 : ∀ zq ∈ (J.l ++ [t]), KStr.ok zq := (fun x hx => (List.mem_append.1 hx).elim (ok76 x) ((Row.oks KStr h84) x))
          have h95 := Row.own KStr r89 ok94
          refine L (r_nilP Hz rfl) Hz rfl ?_
          clear Hz az; intro az Hz
          refine L (r_fa (m' := 2) Tryz.underlying49 rfl Tryz.sizeOf46 rfl Hz rfl rfl) Hz rfl ?_
          clear Hz az; intro az Hz
          have B96 := (Blk.only (Blk.k (Blk.only B65 o73 (ow_nb r63 B65 (by decide))) o81) o90 (ow_nb r83 (Blk.k (Blk.only B65 o73 (ow_nb r63 B65 (by decide))) o81) (by decide)))
          refine LSt (cs' := [.pointer (some ⟨b, 0, none⟩), .int .i64 (J.f), .slice A85 (((J.l ++ [t])).length) c86, .bool (J.bad)]) Tryz.sizeOf46 Hz rfl rfl rfl rfl rfl ⟨rfl, trivial⟩ B96 rfl rfl fun w97 s98 B99 => ?_
          refine hK60 _ _ ?_
          refine wp_seq_k fun K100 hK100 => ?_
          -- ref.go:96
          refine wp_region_lit ?_
          refine L (r_as Hz rfl) Hz rfl ?_
          clear Hz az; intro az Hz
          refine hK100 _ _ ?_
          refine wp_ret ?_
          show bodyPost _ _ _ .ret _ _
          refine ret_of (vs := [.int .i64 (0)]) Hz Tryz.results13 ⟨rfl, trivial⟩ ?_
          rw [app_0f1f2f3f hc4 hc10 (by rw [hn]; exact hc23) (by rw [hn]; exact hc47)]; refine ⟨by first | rfl | (rw [hn]; rfl) | rw [hn], ?_⟩
          try rw [hn]
          have sp101 : ¬ Foot.all F40 g := sep_next s1 (Nat.lt_of_lt_of_le (Blk.lt hB) (size_only O37)) fm43 fr44
          have T102 : (RefT b (D.write J.f ((List.length (forms J.l) : Nat) : Int) (form t)).1) w97 F40 := ((refT_good b (D.write J.f ((List.length (forms J.l) : Nat) : Int) (form t)).1).only ((refT_good b (D.write J.f ((List.length (forms J.l) : Nat) : Int) (form t)).1).only ((refT_good b (D.write J.f ((List.length (forms J.l) : Nat) : Int) (form t)).1).only ((refT_good b (D.write J.f ((List.length (forms J.l) : Nat) : Int) (form t)).1).only ((refT_good b (D.write J.f ((List.length (forms J.l) : Nat) : Int) (form t)).1).only h41 o64 (fun _ _ h => h)) o73 (fun k hk e => (fun k hk h => absurd ((refT_good b (D.write J.f ((List.length (forms J.l) : Nat) : Int) (form t)).1).lt h41 _ h) (Nat.not_lt.2 (Nat.le_trans (Nat.le_refl _) (ownF_ge r63 k hk)))) k e hk)) o81 (fun _ _ h => h)) o90 (fun k hk e => (fun k hk h => absurd ((refT_good b (D.write J.f ((List.length (forms J.l) : Nat) : Int) (form t)).1).lt h41 _ h) (Nat.not_lt.2 (Nat.le_trans (Nat.le_refl _) (ownF_ge r72 k hk)))) k e hk)) s98 (fun k hk (e : k = g) => sp101 (by rw [← e]; exact hk)))
          have O103 := (Only.trans (Only.trans (Only.trans (Only.trans (Only.trans (Only.refl (fun _ => True) w) o17 (fun _ _ => .inl trivial)) o21 (fun _ _ => .inl trivial)) o33 (fun _ _ => .inl trivial)) o36 (fun _ _ => .inl trivial)) o42 (fun _ _ => .inl trivial))
          have r104 := (ow_only r89 s98 (fun k hk => ge_F (oneF_lt (Blk.lt hB)) (size_only O103) k (ownF_ge r89 k hk)))
          refine ⟨_, KT.make (J := ⟨J.f, J.l ++ [t], (forms J.l).length + (form t).length, J.bad⟩) B99 r104 ok94 T102 sp101 (fun k hk h => absurd ((refT_good b (D.write J.f ((List.length (forms J.l) : Nat) : Int) (form t)).1).lt h41 _ h) (Nat.not_lt.2 (Nat.le_trans (Nat.le_refl _) (ownF_ge r89 k hk)))), ?_, ?_, ?_⟩
          · exact (Only.trans (Only.trans (Only.trans (Only.trans (Only.trans (Only.trans (Only.trans (Only.trans (Only.trans (Only.trans (Only.refl _ w) o17 (fun _ h => h.elim)) o21 (fun _ h => h.elim)) o33 (fun _ h => h.elim)) o36 (fun _ h => h.elim)) o42 (fun k h => (.inl (.inr h)))) o64 (fun _ h => h.elim)) o73 (fun k h => .inr (Nat.le_trans (size_only O103) ((ownF_ge r63) k h)))) o81 (fun _ h => h.elim)) o90 (fun k h => .inr (Nat.le_trans (size_only O103) ((ownF_ge r72) k h)))) s98 (fun k h => .inl (.inl (.inl h))))
          · intro k hk; rcases hk with (hk | hk) | hk
            · exact .inl (.inl (.inl hk))
            · exact .inr (Nat.le_trans (size_only O103) (ownF_ge r104 k hk))
            · exact (((fm43 _ hk).elim (fun h => (.inl h)) (fun h => .inr (Nat.le_trans (size_only O37) h))) : F.m k ∨ w.heap.size ≤ k).imp .inr id
          · intro k hk; rcases hk with hk | hk
            · exact hk.elim
            · exact (((fr44 _ hk).elim (fun h => (.inl h)) (fun h => .inr (Nat.le_trans (size_only O37) h))) : F.r k ∨ w.heap.size ≤ k).imp .inr id

set_option maxRecDepth 20000 in
set_option maxHeartbeats 4000000 in
theorem kSync_v_ {w : World} {b g : Nat} {D : Dsk} {J : Jn} {A : Option Addr} {c : Nat} {F : Foot} (hB : Blk w g 49 (kjCells b J A c)) (rO : w.ownsRow 0 9 1 (.slice A J.l.length c) J.l.length (J.l.flatMap KStr.cells)) (okO : ∀ z ∈ J.l, KStr.ok z) (hd : RefT b D w F) (s1 : ¬ F.all g) (s2 : ∀ k, ownF (.slice A J.l.length c) k → ¬ F.all k) : Calls Tryz.prog 15 [.pointer (some ⟨g, 0, none⟩)].toArray w (TurnTo (.int .i64 (J.sync D).2.2) (KT b g (J.sync D).1 (J.sync D).2.1) w (⟨fun k => (k = g ∨ ownF (.slice A J.l.length c) k) ∨ F.m k, fun k => False ∨ F.r k⟩ : Foot)) := by
  refine calls_start Tryz.func15 rfl rfl ?_
  intro az Hz
  rw [Tryz.ntmps15] at Hz
  refine wp_seq_k fun K1 hK1 => ?_
  -- ref.go:100
  refine wp_region_lit ?_
  refine L (r_as Hz rfl) Hz rfl ?_
  clear Hz az; intro az Hz
  refine hK1 _ _ ?_
  refine wp_seq_k fun K2 hK2 => ?_
  refine wp_seq_k fun K3 hK3 => ?_
  -- ref.go:101
  refine wp_region_lit ?_
  refine L (r_mv Hz rfl) Hz rfl ?_
  clear Hz az; intro az Hz
  refine L (r_nilP Hz rfl) Hz rfl ?_
  clear Hz az; intro az Hz
  refine L (r_fa (m' := 3) Tryz.underlying49 rfl Tryz.sizeOf4 rfl Hz rfl rfl) Hz rfl ?_
  clear Hz az; intro az Hz
  refine L (r_ld Tryz.isAgg4 Hz rfl ((Blk.ca hB) 3 _ rfl)) Hz rfl ?_
  clear Hz az; intro az Hz
  refine hK3 _ _ ?_
  refine br Hz rfl (fun hc4 => ?_) (fun hc4 => ?_)
  · -- if0
    have q5 : J.bad = true := hc4
    refine wp_seq_k fun K6 hK6 => ?_
    -- ref.go:102
    refine wp_region_lit ?_
    refine L (r_as Hz rfl) Hz rfl ?_
    clear Hz az; intro az Hz
    refine hK6 _ _ ?_
    refine wp_ret ?_
    show bodyPost _ _ _ .ret _ _
    refine ret_of (vs := [.int .i64 (7)]) Hz Tryz.results15 ⟨rfl, trivial⟩ ?_
    rw [syn_0t hc4]; refine ⟨rfl, ?_⟩
    refine ⟨_, KT.make (J := J) hB rO okO hd s1 s2, ?_, ?_, ?_⟩
    · exact (Only.refl _ w)
    · intro k hk; rcases hk with (hk | hk) | hk
      · exact .inl (.inl (.inl hk))
      · exact .inl (.inl (.inr hk))
      · exact ((.inl hk) : F.m k ∨ w.heap.size ≤ k).imp .inr id
    · intro k hk; rcases hk with hk | hk
      · exact hk.elim
      · exact ((.inl hk) : F.r k ∨ w.heap.size ≤ k).imp .inr id
  · -- else0
    have q7 : J.bad = false := hc4
    refine wp_skip ?_
    refine hK2 _ _ ?_
    refine wp_seq_k fun K8 hK8 => ?_
    -- ref.go:104
    refine reg_p F.m 0 [8] (.rd 0 (.rd 1 (.rd 2 (.rd 3 (.rd 4 (.rd 5 (.rd 6 (.rd 7 (.ex 8 (.rd 9 .nil)))))))))) (by kernel_rfl) (by kernel_rfl) (fun _ _ _ _ _ h => h) fun w9 o10 => ?_
    have B11 := (Blk.k hB o10)
    refine Pl.MSP (b := false) (by kernel_rfl) (fun W oW => r_mv Hz rfl) Hz rfl rfl ?_
    clear Hz az; intro az Hz
    refine Pl.MSP (b := false) (by kernel_rfl) (fun W oW => r_nilP Hz rfl) Hz rfl rfl ?_
    clear Hz az; intro az Hz
    refine Pl.MSP (b := false) (by kernel_rfl) (fun W oW => r_fa (m' := 0) Tryz.underlying49 rfl Tryz.sizeOf27 rfl Hz rfl rfl) Hz rfl rfl ?_
    clear Hz az; intro az Hz
    refine Pl.MSP (b := true) (by kernel_rfl) (fun W oW => r_ld Tryz.isAgg27 Hz rfl ((Blk.ca (Blk.k B11 oW)) 0 _ rfl)) Hz rfl rfl ?_
    clear Hz az; intro az Hz
    refine Pl.MSP (b := false) (by kernel_rfl) (fun W oW => r_mv Hz rfl) Hz rfl rfl ?_
    clear Hz az; intro az Hz
    refine Pl.MSP (b := false) (by kernel_rfl) (fun W oW => r_nilP Hz rfl) Hz rfl rfl ?_
    clear Hz az; intro az Hz
    refine Pl.MSP (b := false) (by kernel_rfl) (fun W oW => r_fa (m' := 1) Tryz.underlying49 rfl Tryz.sizeOf3 rfl Hz rfl rfl) Hz rfl rfl ?_
    clear Hz az; intro az Hz
    refine Pl.MSP (b := true) (by kernel_rfl) (fun W oW => r_ld Tryz.isAgg3 Hz rfl ((Blk.ca (Blk.k B11 oW)) 1 _ rfl)) Hz rfl rfl ?_
    clear Hz az; intro az Hz
    have T12 : (RefT b D) w9 F := ((refT_good b D).only hd o10 (fun _ _ h => h))
    refine Pl.MSC Hz rfl rfl rfl Tryz.call36 (rSync_c T12 J.f) rfl ?_
    rintro e w13 ⟨rfl, F14, h15, o16, fm17, fr18⟩
    refine ⟨_, rfl, ⟨fun h => absurd h (by decide), (Only.trans (Only.refl F.m w9) o16 (fun _ h => .inl h))⟩, ?_⟩
    clear Hz az; intro az Hz
    refine Pl.MSP (b := false) (by kernel_rfl) (fun W oW => r_as Hz rfl) Hz rfl rfl ?_
    clear Hz az; intro az Hz
    refine wpPl_nil ?_
    refine hK8 _ _ ?_
    refine wp_seq_k fun K19 hK19 => ?_
    -- ref.go:105
    refine wp_region_lit ?_
    refine L (r_mv Hz rfl) Hz rfl ?_
    clear Hz az; intro az Hz
    refine L (r_mv Hz rfl) Hz rfl ?_
    clear Hz az; intro az Hz
    refine L (r_neI Hz rfl rfl) Hz rfl ?_
    clear Hz az; intro az Hz
    refine L (r_nilP Hz rfl) Hz rfl ?_
    clear Hz az; intro az Hz
    refine L (r_fa (m' := 3) Tryz.underlying49 rfl Tryz.sizeOf4 rfl Hz rfl rfl) Hz rfl ?_
    clear Hz az; intro az Hz
    have B20 := (Blk.only B11 o16 (fun h => s1 (.inl h)))
    refine LSt (cs' := [.pointer (some ⟨b, 0, none⟩), .int .i64 (J.f), .slice A (J.l.length) c, .bool ((!(decide ((D.sync J.f).2 = 0))))]) Tryz.sizeOf4 Hz rfl rfl rfl rfl rfl ⟨rfl, trivial⟩ B20 rfl rfl fun w21 s22 B23 => ?_
    refine hK19 _ _ ?_
    refine wp_seq_k fun K24 hK24 => ?_
    -- ref.go:106
    refine wp_region_lit ?_
    refine L (r_mv Hz rfl) Hz rfl ?_
    clear Hz az; intro az Hz
    refine L (r_as Hz rfl) Hz rfl ?_
    clear Hz az; intro az Hz
    refine hK24 _ _ ?_
    refine wp_ret ?_
    show bodyPost _ _ _ .ret _ _
    refine ret_of (vs := [.int .i64 ((D.sync J.f).2)]) Hz Tryz.results15 ⟨rfl, trivial⟩ ?_
    rw [syn_0f hc4]; refine ⟨rfl, ?_⟩
    have sp25 : ¬ Foot.all F14 g := sep_next s1 (Nat.lt_of_lt_of_le (Blk.lt hB) (size_only o10)) fm17 fr18
    have T26 : (RefT b (D.sync J.f).1) w21 F14 := ((refT_good b (D.sync J.f).1).only h15 s22 (fun k hk (e : k = g) => sp25 (by rw [← e]; exact hk)))
    have r27 := (ow_only (ow_only (ow_k rO o10) o16 (fun k hk hF => s2 k hk (.inl hF))) s22 (fun k hk hF => ow_nb (ow_only (ow_k rO o10) o16 (fun k hk hF => s2 k hk (.inl hF))) B20 (by decide) (by rw [show k = g from hF] at hk; exact hk)))
    have sp28 : ∀ k, ownF (.slice A (J.l.length) c) k → ¬ Foot.all F14 k := sep_nexto s2 (fun k hk => Nat.lt_of_lt_of_le (ownF_lt rO k hk) (size_only o10)) fm17 fr18
    refine ⟨_, KT.make (J := { J with bad := !decide ((D.sync J.f).2 = 0) }) B23 r27 okO T26 sp25 sp28, ?_, ?_, ?_⟩
    · exact (Only.trans (Only.trans (Only.trans (Only.refl _ w) o10 (fun _ h => h.elim)) o16 (fun k h => (.inl (.inr h)))) s22 (fun k h => .inl (.inl (.inl h))))
    · intro k hk; rcases hk with (hk | hk) | hk
      · exact .inl (.inl (.inl hk))
      · exact .inl (.inl (.inr hk))
      · exact (((fm17 _ hk).elim (fun h => (.inl h)) (fun h => .inr (Nat.le_trans (size_only o10) h))) : F.m k ∨ w.heap.size ≤ k).imp .inr id
    · intro k hk; rcases hk with hk | hk
      · exact hk.elim
      · exact (((fr18 _ hk).elim (fun h => (.inl h)) (fun h => .inr (Nat.le_trans (size_only o10) h))) : F.r k ∨ w.heap.size ≤ k).imp .inr id
end
section
open Go.RowKit

def KO (c : Nat) (D : Dsk) : Option (Nat × Jn) → Thing
  | none => RefT c D
  | some (g, J) => KT c g D J
theorem ko_good (c : Nat) (D : Dsk) (ok : Option (Nat × Jn)) : Good (KO c D ok) := by
  rcases ok with _ | ⟨g, J⟩
  · exact refT_good c D
  · exact kt_good c g D J
abbrev OO := Option (Nat × Nat × Jn)
def p1 (x : Nat × Nat × Jn) : Nat × Jn := (x.1, x.2.2)
def p2 (x : Nat × Nat × Jn) : Nat × Jn := (x.2.1, x.2.2)
theorem oo_join {oj ok : Option (Nat × Jn)} (h : oj.map (·.2) = ok.map (·.2)) : ∃ oo : OO, oj = oo.map p1 ∧ ok = oo.map p2 := by
  rcases oj with _ | ⟨g, J⟩ <;> rcases ok with _ | ⟨g2, J2⟩
  · exact ⟨none, rfl, rfl⟩
  · cases h
  · cases h
  · have e : J = J2 := Option.some.inj h
    subst e
    exact ⟨some (g, g2, J), rfl, rfl⟩
theorem oo_snd (oo : OO) : (oo.map p1).map (·.2) = oo.map (fun x => x.2.2) := by rcases oo with _ | ⟨_, _, _⟩ <;> rfl
section
variable {w w' : World} {b c g g2 : Nat} {D D2 : Dsk} {J : Jn} {F G G1 G2 : Foot} {X X' Y Y' : Thing} {oj ok : Option (Nat × Jn)} {v : Value}
theorem BothT.combl (gY : Good Y) (h2 : Y w G2) (s1 : ∀ k, G1.m k → ¬ G2.all k) (s2 : ∀ k, G2.m k → ¬ G1.all k) (ht : ThingTo X' w G1 w') : ThingTo (BothT X' Y) w ⟨fun k => G1.m k ∨ G2.m k, fun k => G1.r k ∨ G2.r k⟩ w' := by
  obtain ⟨F', h', o, fm, fr⟩ := ht
  have hlt := gY.lt h2
  have hy := gY.only h2 o fun k hk hF => s1 k hF hk
  refine ⟨_, ⟨F', G2, h', hy, fun k hk hF => ?_, fun k hk hF => ?_, rfl⟩, o.mono fun k hk => .inl hk, fun k hk => ?_, fun k hk => ?_⟩
  · rcases fm k hk with h | h
    · exact s1 k h hF
    · have := hlt k hF; omega
  · rcases hF with hF | hF
    · rcases fm k hF with h | h
      · exact s2 k hk (.inl h)
      · have := hlt k (.inl hk); omega
    · rcases fr k hF with h | h
      · exact s2 k hk (.inr h)
      · have := hlt k (.inl hk); omega
  · rcases hk with hk | hk
    · exact (fm k hk).imp .inl id
    · exact .inl (.inr hk)
  · rcases hk with hk | hk
    · exact (fr k hk).imp .inl id
    · exact .inl (.inr hk)
theorem BothT.calll (gY : Good Y) (h : BothT X Y w G) {f : FuncId} {args : Array Value}
    (hc : ∀ G1, X w G1 → (∀ k, G1.m k → G.m k) → Calls Tryz.prog f args w (TurnTo v X' w G1)) : Calls Tryz.prog f args w (TurnTo v (BothT X' Y) w G) := by
  obtain ⟨G1, G2, h1, h2, s1, s2, rfl⟩ := h
  exact (hc G1 h1 (fun k hk => .inl hk)).mono fun e w' ⟨he, ht⟩ => ⟨he, BothT.combl gY h2 s1 s2 ht⟩
/-! ### the program's side -/
def OpenL (b : Nat) (r : Dsk × Int × Option Jn) (Y : Thing) (w : World) (F : Foot) (e : Ending) (w' : World) : Prop := ∃ oj, oj.map (·.2) = r.2.2 ∧ e = .returned (.tuple #[jp oj, .int .i64 r.2.1]) ∧ ThingTo (BothT (JO b r.1 oj) Y) w F w'
theorem l_open (gY : Good Y) (hG : Gr w) (h : BothT (JO b D oj) Y w F) (h6 : ∀ k, F.m k → 6 ≤ k) {f : Int} : Calls Tryz.prog 8 [.pointer (some ⟨b, 0, none⟩), .int .i64 f].toArray w (OpenL b (openJ D f) Y w F) := by
  obtain ⟨G1, G2, h1, h2, s1, s2, rfl⟩ := h
  exact (open_o hG h1 (fun k hk => h6 k (.inl hk))).mono fun e w' ⟨oj', hm, he, ht⟩ => ⟨oj', hm, he, BothT.combl gY h2 s1 s2 ht⟩
theorem l_lose (gY : Good Y) (h : BothT (JO b D oj) Y w F) {n : Int} (hn : I64 n) : Calls Tryz.prog 16 [.pointer (some ⟨b, 0, none⟩), .int .i64 n].toArray w (TurnTo (.tuple #[]) (BothT (JO b (D.lose n) oj) Y) w F) := BothT.calll gY h fun _ h1 _ => lose_o h1 hn
theorem l_start (gY : Good Y) (h : BothT (JO b D oj) Y w F) : Calls Tryz.prog 22 [.pointer (some ⟨b, 0, none⟩)].toArray w (TurnTo (.tuple #[]) (BothT (JO b D.start oj) Y) w F) := BothT.calll gY h fun _ h1 _ => start_o h1
theorem l_crash (gY : Good Y) (h : BothT (JO b D oj) Y w F) {w0 : World} {kv : Value} {l : List Int} (hk : SliceOf AllB 1 KInt.R w0 kv l) (o : Only NoF w0 w) (hl : l.length ≤ 1000) (hS : ∀ k, F.m k → w0.heap.size ≤ k) : Calls Tryz.prog 20 [.pointer (some ⟨b, 0, none⟩), kv].toArray w (TurnTo (.tuple #[]) (BothT (JO b (D.crash l) oj) Y) w F) :=
  BothT.calll gY h fun _ h1 hm => crash_o h1 hk o hl fun k hk => hS k (hm k hk)
theorem l_arm (gY : Good Y) (h : BothT (JO b D oj) Y w F) {w0 : World} {kv : Value} {l : List Int} (hk : SliceOf AllB 1 KInt.R w0 kv l) (o : Only NoF w0 w) (hl : l.length ≤ 1000) {n : Int} (hn : I64 n) : Calls Tryz.prog 18 [.pointer (some ⟨b, 0, none⟩), .int .i64 n, kv].toArray w (TurnTo (.tuple #[]) (BothT (JO b (D.arm n l) oj) Y) w F) :=
  BothT.calll gY h fun _ h1 _ => arm_o h1 hk o hl hn
theorem l_append (gY : Good Y) (hG : Gr w) (h : BothT (JT b g D J) Y w F) (h6 : ∀ k, F.m k → 6 ≤ k) {t : Str} (ht : t.length ≤ 900000) (hn : J.n ≤ 100000000) (hll : J.l.length ≤ 100000000) : Calls Tryz.prog 12 [.pointer (some ⟨g, 0, none⟩), strV t].toArray w (TurnTo (.int .i64 (J.append D t).2.2) (BothT (JT b g (J.append D t).1 (J.append D t).2.1) Y) w F) :=
  BothT.calll gY h fun _ h1 hm => append_o hG h1 (fun k hk => h6 k (hm k hk)) ht hn hll
theorem l_sync (gY : Good Y) (hG : Gr w) (h : BothT (JT b g D J) Y w F) (h6 : ∀ k, F.m k → 6 ≤ k) : Calls Tryz.prog 14 [.pointer (some ⟨g, 0, none⟩)].toArray w (TurnTo (.int .i64 (J.sync D).2.2) (BothT (JT b g (J.sync D).1 (J.sync D).2.1) Y) w F) :=
  BothT.calll gY h fun _ h1 hm => sync_o hG h1 (fun k hk => h6 k (hm k hk))
theorem jo_disk (h : JO b D oj w F) : ∃ F2, DiskT b D w F2 := by
  rcases oj with _ | ⟨g, J⟩
  · exact ⟨F, h⟩
  · exact JT.d h
/-! ### the reference's side -/
theorem call_ko (h : KO c D ok w F) {f : FuncId} {args : Array Value} {D' : Dsk} (hc : ∀ F2, RefT c D w F2 → (∀ k, F2.m k → F.m k) → Calls Tryz.prog f args w (TurnTo v (RefT c D') w F2)) : Calls Tryz.prog f args w (TurnTo v (KO c D' ok) w F) := by
  rcases ok with _ | ⟨g, J⟩
  · exact hc F h fun _ h => h
  · exact BothT.call (kb_good c g J) h fun G2 h2 hm _ => hc G2 h2 hm
theorem call_r (gX : Good X) (h : BothT X (KO c D ok) w F) {f : FuncId} {args : Array Value} {D' : Dsk} (hc : ∀ F2, RefT c D w F2 → (∀ k, F2.m k → F.m k) → Calls Tryz.prog f args w (TurnTo v (RefT c D') w F2)) : Calls Tryz.prog f args w (TurnTo v (BothT X (KO c D' ok)) w F) :=
  BothT.call gX h fun _ h2 hm _ => call_ko h2 fun F2 h3 hm3 => hc F2 h3 fun k hk => hm k (hm3 k hk)
theorem r_lose (gX : Good X) (h : BothT X (KO c D ok) w F) {n : Int} (hn : I64 n) : Calls Tryz.prog 17 [.pointer (some ⟨c, 0, none⟩), .int .i64 n].toArray w (TurnTo (.tuple #[]) (BothT X (KO c (D.lose n) ok)) w F) := call_r gX h fun _ h2 _ => rLose_c h2 n hn
theorem r_start (gX : Good X) (h : BothT X (KO c D ok) w F) : Calls Tryz.prog 23 [.pointer (some ⟨c, 0, none⟩)].toArray w (TurnTo (.tuple #[]) (BothT X (KO c D.start ok)) w F) := call_r gX h fun _ h2 _ => rStart_c h2
theorem r_crash (gX : Good X) (h : BothT X (KO c D ok) w F) {w0 : World} {kv : Value} {l : List Int} (hk : SliceOf AllB 1 KInt.R w0 kv l) (o : Only NoF w0 w) (hl : l.length ≤ 1000) (hS : ∀ k, F.m k → w0.heap.size ≤ k) : Calls Tryz.prog 21 [.pointer (some ⟨c, 0, none⟩), kv].toArray w (TurnTo (.tuple #[]) (BothT X (KO c (D.crash l) ok)) w F) :=
  call_r gX h fun F2 h2 hm => rCrash_c h2 (ints_lt hk o) hl fun k hk hF => by have := hS k (hm k hF); omega
theorem r_arm (gX : Good X) (h : BothT X (KO c D ok) w F) {w0 : World} {kv : Value} {l : List Int} (hk : SliceOf AllB 1 KInt.R w0 kv l) (o : Only NoF w0 w) (hl : l.length ≤ 1000) {n : Int} (hn : I64 n) (hS : ∀ k, F.m k → w0.heap.size ≤ k) : Calls Tryz.prog 19 [.pointer (some ⟨c, 0, none⟩), .int .i64 n, kv].toArray w (TurnTo (.tuple #[]) (BothT X (KO c (D.arm n l) ok)) w F) :=
  call_r gX h fun F2 h2 hm => rArm_c h2 n hn (ints_lt hk o) hl fun k hk e => by
    have hc : F2.m c := by obtain ⟨x, _, rfl⟩ := h2; exact .inl rfl
    have := hS k (hm k (by rw [e]; exact hc)); omega
def OpenRR (c : Nat) (r : Dsk × Int × Option Jn) (X : Thing) (w : World) (F : Foot) (e : Ending) (w' : World) : Prop := ∃ ok, ok.map (·.2) = r.2.2 ∧ e = .returned (.tuple #[jp ok, .int .i64 r.2.1]) ∧ ThingTo (BothT X (KO c r.1 ok)) w F w'
theorem r_open (gX : Good X) (h : BothT X (KO c D ok) w F) {f : Int} : Calls Tryz.prog 9 [.pointer (some ⟨c, 0, none⟩), .int .i64 f].toArray w (OpenRR c (openJ D f) X w F) := by
  obtain ⟨G1, G2, h1, h2, s1, s2, rfl⟩ := h
  have key : ∀ F2, RefT c D w F2 → (∀ k, F2.m k → G2.m k) → (∀ k, F2.r k → G2.r k) → Calls Tryz.prog 9 [.pointer (some ⟨c, 0, none⟩), .int .i64 f].toArray w (OpenRR c (openJ D f) X w ⟨fun k => G1.m k ∨ G2.m k, fun k => G1.r k ∨ G2.r k⟩) := by
    intro F2 h3 hm hr
    refine (kOpen_v_ h3 (f := f)).mono ?_
    rintro e w' (⟨e1, he, ht⟩ | ⟨J', g, e1, he, ht⟩)
    · exact ⟨none, e1.symm, he, BothT.comb gX h1 s1 s2 (ht.low hm hr)⟩
    · exact ⟨some (g, J'), e1.symm, he, BothT.comb gX h1 s1 s2 (ht.low hm hr)⟩
  rcases ok with _ | ⟨g, J⟩
  · exact key G2 h2 (fun _ h => h) (fun _ h => h)
  · obtain ⟨F2, h3, hm, hr⟩ := KT.disk h2
    exact key F2 h3 hm hr
theorem r_append (gX : Good X) (h : BothT X (KT c g D J) w F) {t : Str} (ht : t.length ≤ 900000) (hn : J.n = (forms J.l).length) (hn2 : J.n ≤ 100000000) (hll : J.l.length ≤ 100000000) (hs : ∀ t ∈ J.l, t.length ≤ 20000) : Calls Tryz.prog 13 [.pointer (some ⟨g, 0, none⟩), strV t].toArray w (TurnTo (.int .i64 (J.append D t).2.2) (BothT X (KT c g (J.append D t).1 (J.append D t).2.1)) w F) :=
  BothT.call gX h fun _ h2 _ _ => by
    obtain ⟨G3, G4, ⟨A, cc, a1, a2, a3, rfl⟩, h4, s1, s2, rfl⟩ := h2
    exact kAppend_v_ a1 a2 a3 h4 (s1 g (.inl rfl)) (fun k hk => s1 k (.inr hk)) ht hn hn2 hll hs
theorem r_sync (gX : Good X) (h : BothT X (KT c g D J) w F) : Calls Tryz.prog 15 [.pointer (some ⟨g, 0, none⟩)].toArray w (TurnTo (.int .i64 (J.sync D).2.2) (BothT X (KT c g (J.sync D).1 (J.sync D).2.1)) w F) :=
  BothT.call gX h fun _ h2 _ _ => by
    obtain ⟨G3, G4, ⟨A, cc, a1, a2, a3, rfl⟩, h4, s1, s2, rfl⟩ := h2
    exact kSync_v_ a1 a2 a3 h4 (s1 g (.inl rfl)) (fun k hk => s1 k (.inr hk))
theorem ko_ref (h : KO c D ok w F) : ∃ F2, RefT c D w F2 := by
  rcases ok with _ | ⟨g, J⟩
  · exact ⟨F, h⟩
  · obtain ⟨F2, h2, _⟩ := KT.disk h
    exact ⟨F2, h2⟩
/-- both are made -/
theorem both_new {wm : World} (h1 : JO b D none w G1) (hg : ∀ k, G1.all k → wm.heap.size ≤ k) (hw : wm.heap.size ≤ w.heap.size) (h2 : IsRef w' c D2 G2) (o : Only NoF w w') (hn : ∀ k, G2.all k → w.heap.size ≤ k) : BothT (JO b D none) (KO c D2 none) w' ⟨fun k => G1.m k ∨ G2.m k, fun k => G1.r k ∨ G2.r k⟩ ∧ ∀ k, Foot.all ⟨fun k => G1.m k ∨ G2.m k, fun k => G1.r k ∨ G2.r k⟩ k → wm.heap.size ≤ k := by
  have hlt := (jo_good b D none).lt h1
  refine ⟨⟨G1, G2, (jo_good _ _ _).only h1 o (fun _ _ h => h), h2, fun k hk hF => ?_, fun k hk hF => ?_, rfl⟩, fun k hk => ?_⟩
  · have := hlt k (.inl hk); have := hn k hF; omega
  · have := hlt k hF; have := hn k (.inl hk); omega
  · rcases hk with (hk | hk) | (hk | hk)
    · exact hg k (.inl hk)
    · exact Nat.le_trans hw (hn k (.inl hk))
    · exact hg k (.inr hk)
    · exact Nat.le_trans hw (hn k (.inr hk))
theorem kb_open (h : BothT X (KT c g D J) w F) : ∃ A cc, Blk w g 49 (kjCells c J A cc) ∧ StrsV w (.slice A J.l.length cc) J.l := by
  obtain ⟨_, G2, _, ⟨G3, G4, ⟨A, cc, a1, a2, a3, rfl⟩, _⟩, _⟩ := h
  exact ⟨A, cc, a1, SliceOf.pl (Row.own KStr a2 a3)⟩
end
/-! ### what a journal's numbers are -/
def JI (J : Jn) : Prop := J.n = (forms J.l).length ∧ (∀ t ∈ J.l, t.length ≤ 20000) ∧ J.n ≤ 16777216
theorem JI.ll {J : Jn} (h : JI J) : J.l.length ≤ 16777216 := by
  have := forms_count J.l
  obtain ⟨h1, _, h3⟩ := h
  omega
theorem JI.append {J : Jn} (h : JI J) (D : Dsk) {t : Str} (ht : t.length ≤ 200) : JI (J.append D t).2.1 := by
  obtain ⟨h1, h2, h3⟩ := h
  unfold Jn.append
  split
  · exact ⟨h1, h2, h3⟩
  split
  · exact ⟨h1, h2, h3⟩
  split
  · exact ⟨h1, h2, h3⟩
  split
  · exact ⟨h1, h2, h3⟩
  · rename_i h4 _
    refine ⟨?_, fun x hx => ?_, ?_⟩
    · show J.n + (form t).length = (forms (J.l ++ [t])).length
      rw [forms_app, forms_one, List.length_append, h1]
    · rcases List.mem_append.1 hx with hx | hx
      · exact h2 x hx
      · rw [List.mem_singleton.1 hx]; omega
    · show J.n + (form t).length ≤ _
      omega
theorem JI.sync {J : Jn} (h : JI J) (D : Dsk) : JI (J.sync D).2.1 := by
  unfold Jn.sync
  split
  · exact h
  · exact h
theorem ji_rd {D : Dsk} (hD : D.Ok) (f : Int) : ((D.sync f).1.read f 0 (((D.sync f).1.size f : Nat) : Int)).1.length ≤ 16777216 := by
  have hs : (D.sync f).1.Ok := hD.tock.sync0 f
  have := (hs.lens f).1
  unfold Dsk.read Dsk.readS
  split
  · simp
  · split
    · simp
    · rw [List.length_take, List.length_drop]; omega
theorem ji_recs {s : Str} (hs : s.length ≤ 16777216) (f : Int) : JI ⟨f, recs s, (forms (recs s)).length, false⟩ :=
  ⟨rfl, fun _ ht => recs_short ht, Nat.le_trans (recs_le s) hs⟩
theorem ji_open {D : Dsk} (hD : D.Ok) {f : Int} {J : Jn} (h : (openJ D f).2.2 = some J) : JI J := by
  have hr := ji_rd hD f
  unfold openJ at h
  split at h
  · cases h
  split at h
  · cases h
  split at h
  · cases h
  split at h
  · split at h
    · cases h
    · rw [← Option.some.inj h]; exact ji_recs hr f
  · rw [← Option.some.inj h]; exact ji_recs hr f
end
section
open Go.RowKit

theorem ops_up {w w' W : World} {v : Value} {l : List OpM} (h : SliceOf AllB 4 (KOp w).R W v l) (o : Only NoF w w') : SliceOf AllB 4 (KOp w').R W v l :=
  SliceOf.only h (Only.refl NoF W) (fun _ _ h => h) fun cs x _ hR => ⟨hR.1, hR.2.1, hR.2.2.1, hR.2.2.2.1, SliceOf.kp hR.2.2.2.2 o (fun _ _ h => h) (fun _ _ _ _ h => h)⟩
theorem eq_ptrN {P : Program} {w : World} {t e : TypeId} (hu : P.underlying t = some (.pointer e)) : (Op.equal t (.pointer none) (.pointer none)).run P w = .ok true w := by
  exact eq_ptr0 hu
theorem r_neNN {P : Program} {w : World} {n : Nat} {l : List (Nat × Value)} {a : Act} {dst : Option Tmp} {ty : TypeId} {pos : String} {aft : Array Edge} {g : Option (Nat × Bool)} {x y : Operand} {t yt e : TypeId} (hu : P.underlying t = some (.pointer e)) (H : Fr n l a) (hx : ev l x = some (.pointer none)) (hy : ev l y = some (.pointer none)) : (execOp a.eval ⟨dst, .binOp .neq t x y yt, ty, pos, aft, g⟩).run P w = .ok (.value (.bool false)) w := by
  have hg : (eqGuard .neq t x y (.pointer none) (.pointer none)).run P w = .ok () w := by simp [eqGuard]
  simp only [execOp, H.eval hx, H.eval hy, Sem.run_bind, hg, Result.andThen_ok, binOp, eq_ptrN hu, Sem.run_pure, Bool.not_true]
theorem r_eqNN {P : Program} {w : World} {n : Nat} {l : List (Nat × Value)} {a : Act} {dst : Option Tmp} {ty : TypeId} {pos : String} {aft : Array Edge} {g : Option (Nat × Bool)} {x y : Operand} {t yt e : TypeId} (hu : P.underlying t = some (.pointer e)) (H : Fr n l a) (hx : ev l x = some (.pointer none)) (hy : ev l y = some (.pointer none)) : (execOp a.eval ⟨dst, .binOp .eql t x y yt, ty, pos, aft, g⟩).run P w = .ok (.value (.bool true)) w := by
  have hg : (eqGuard .eql t x y (.pointer none) (.pointer none)).run P w = .ok () w := by simp [eqGuard]
  simp only [execOp, H.eval hx, H.eval hy, Sem.run_bind, hg, Result.andThen_ok, binOp, eq_ptrN hu, Sem.run_pure]
theorem r_neJ {P : Program} {w : World} {n : Nat} {l : List (Nat × Value)} {a : Act} {dst : Option Tmp} {ty : TypeId} {pos : String} {aft : Array Edge} {g : Option (Nat × Bool)} {x y : Operand} {t yt e : TypeId} {oj : Option (Nat × Jn)} (hu : P.underlying t = some (.pointer e)) (H : Fr n l a) (hx : ev l x = some (jp oj)) (hy : ev l y = some (.pointer none)) : (execOp a.eval ⟨dst, .binOp .neq t x y yt, ty, pos, aft, g⟩).run P w = .ok (.value (.bool oj.isSome)) w := by
  rcases oj with _ | ⟨p, J⟩
  · exact r_neNN hu H hx hy
  · exact r_neP hu H hx hy
theorem r_eqJ {P : Program} {w : World} {n : Nat} {l : List (Nat × Value)} {a : Act} {dst : Option Tmp} {ty : TypeId} {pos : String} {aft : Array Edge} {g : Option (Nat × Bool)} {x y : Operand} {t yt e : TypeId} {oj : Option (Nat × Jn)} (hu : P.underlying t = some (.pointer e)) (H : Fr n l a) (hx : ev l x = some (jp oj)) (hy : ev l y = some (.pointer none)) : (execOp a.eval ⟨dst, .binOp .eql t x y yt, ty, pos, aft, g⟩).run P w = .ok (.value (.bool (!oj.isSome))) w := by
  rcases oj with _ | ⟨p, J⟩
  · exact r_eqNN hu H hx hy
  · exact r_eqP hu H hx hy
theorem r_neBs {P : Program} {w : World} {n : Nat} {l : List (Nat × Value)} {a : Act} {dst : Option Tmp} {ty : TypeId} {pos : String} {aft : Array Edge} {g : Option (Nat × Bool)} {x y : Operand} {t yt : TypeId} {b : Bool} (hu : P.underlying t = some .bool) (H : Fr n l a) (hx : ev l x = some (.bool b)) (hy : ev l y = some (.bool b)) : (execOp a.eval ⟨dst, .binOp .neq t x y yt, ty, pos, aft, g⟩).run P w = .ok (.value (.bool false)) w := by
  have h : (binOp .neq t (.bool b) (.bool b)).run P w = .ok (.bool false) w := by
    have := eq_bool (P := P) (w := w) (t := t) (b := b) (c := b) hu
    simp only [binOp, Sem.run_bind, this, Result.andThen_ok]
    simp
  simp [execOp, H.eval hx, H.eval hy, eqGuard, h]
theorem kb_ev {l : List (Nat × Value)} {x : Operand} {b c : Bool} (p : ev l x = some (.bool b)) (h : b = c) : ev l x = some (.bool c) := h ▸ p

section
variable {P : Program} {ops : Array Oper} {Q : Exit → Act → World → Prop} {a : Act} {w w1 : World} {n : Nat} {l : List (Nat × Value)} {d : Nat} {ty : TypeId} {pos : String} {aft : Array Edge} {xs : List Operand} {ats : Array TypeId} {f : FuncId} {vs : List Value} {fo : Operand} {j dj : Nat} {want c : Bool} {u : Value} {T : List Nat} {k i : Nat} {r : Plan} {F : Nat → Prop} {m : Nat}
theorem Pl.MXF {op : Op} (H : Fr n l a) (hj : (ops[j]?).bind (·.dst) = some dj) (hb : look l dj = some u) (hn : Gd u want false)
    (ho : ops[i]? = some ⟨some d, op, ty, pos, aft, some (j, want)⟩) (hd : Nat.blt d n = true) (hS : SK F m w1 (k + 1) w)
    (h : ∀ a', Fr n ((d, undef) :: l) a' → wpPl P ops Q (SK F m w1) T (k + 1) r a' w) : wpPl P ops Q (SK F m w1) T k (.ex i r) a w := by
  have hw := wanted_eq (op := op) (ty := ty) (pos := pos) (aft := aft) (d := d) (want := want) H hj hb hn
  simp only [wpPl, wpOp, ho]
  rw [hw]
  exact ⟨hS, h _ (H.puts hd _)⟩
end
theorem r_eqO1 {P : Program} {w : World} {n : Nat} {l : List (Nat × Value)} {a : Act} {dst : Option Tmp} {ty : TypeId} {pos : String} {aft : Array Edge} {g : Option (Nat × Bool)} {x y : Operand} {t yt e : TypeId} {oo : OO} (hu : P.underlying t = some (.pointer e)) (H : Fr n l a) (hx : ev l x = some (jp (oo.map p1))) (hy : ev l y = some (.pointer none)) : (execOp a.eval ⟨dst, .binOp .eql t x y yt, ty, pos, aft, g⟩).run P w = .ok (.value (.bool (!oo.isSome))) w := by
  rcases oo with _ | ⟨_, _, _⟩
  · exact r_eqNN hu H hx hy
  · exact r_eqP hu H hx hy
theorem r_neO1 {P : Program} {w : World} {n : Nat} {l : List (Nat × Value)} {a : Act} {dst : Option Tmp} {ty : TypeId} {pos : String} {aft : Array Edge} {g : Option (Nat × Bool)} {x y : Operand} {t yt e : TypeId} {oo : OO} (hu : P.underlying t = some (.pointer e)) (H : Fr n l a) (hx : ev l x = some (jp (oo.map p1))) (hy : ev l y = some (.pointer none)) : (execOp a.eval ⟨dst, .binOp .neq t x y yt, ty, pos, aft, g⟩).run P w = .ok (.value (.bool (oo.isSome))) w := by
  rcases oo with _ | ⟨_, _, _⟩
  · exact r_neNN hu H hx hy
  · exact r_neP hu H hx hy
theorem r_eqO2 {P : Program} {w : World} {n : Nat} {l : List (Nat × Value)} {a : Act} {dst : Option Tmp} {ty : TypeId} {pos : String} {aft : Array Edge} {g : Option (Nat × Bool)} {x y : Operand} {t yt e : TypeId} {oo : OO} (hu : P.underlying t = some (.pointer e)) (H : Fr n l a) (hx : ev l x = some (jp (oo.map p2))) (hy : ev l y = some (.pointer none)) : (execOp a.eval ⟨dst, .binOp .eql t x y yt, ty, pos, aft, g⟩).run P w = .ok (.value (.bool (!oo.isSome))) w := by
  rcases oo with _ | ⟨_, _, _⟩
  · exact r_eqNN hu H hx hy
  · exact r_eqP hu H hx hy
theorem r_neO2 {P : Program} {w : World} {n : Nat} {l : List (Nat × Value)} {a : Act} {dst : Option Tmp} {ty : TypeId} {pos : String} {aft : Array Edge} {g : Option (Nat × Bool)} {x y : Operand} {t yt e : TypeId} {oo : OO} (hu : P.underlying t = some (.pointer e)) (H : Fr n l a) (hx : ev l x = some (jp (oo.map p2))) (hy : ev l y = some (.pointer none)) : (execOp a.eval ⟨dst, .binOp .neq t x y yt, ty, pos, aft, g⟩).run P w = .ok (.value (.bool (oo.isSome))) w := by
  rcases oo with _ | ⟨_, _, _⟩
  · exact r_neNN hu H hx hy
  · exact r_neP hu H hx hy
theorem ji_some {g g2 : Nat} {J : Jn} (h : JI J) : ∀ x, (some (g, g2, J) : OO) = some x → JI x.2.2 := by
  intro x e
  rw [← Option.some.inj e]; exact h
theorem ji_none : ∀ x, (none : OO) = some x → JI x.2.2 := by
  intro x e; cases e
theorem jb_of {w : World} {b g : Nat} {D : Dsk} {J : Jn} {Y : Thing} {F : Foot} (h : BothT (JT b g D J) Y w F) : ∃ F, JB b g J w F := (BothT.l h).elim fun _ q => BothT.l q
set_option maxRecDepth 20000 in
set_option maxHeartbeats 4000000 in
theorem jtells_v_ {w : World} (hG : Gr w) {l : List OpM} {A1 : Option Addr} {c1 : Nat} (f1 : OpsV w w (.slice A1 l.length c1) l) : Calls Tryz.prog 3 [.slice A1 l.length c1].toArray w (Fix (.bool true) w) := by
  refine calls_start Tryz.func3 rfl rfl ?_
  intro az Hz
  rw [Tryz.ntmps3] at Hz
  refine wp_seq_k fun K1 hK1 => ?_
  -- law.go:58
  refine wp_region_lit ?_
  refine L (r_as Hz rfl) Hz rfl ?_
  clear Hz az; intro az Hz
  refine hK1 _ _ ?_
  refine wp_seq_k fun K2 hK2 => ?_
  -- law.go:59
  refine wp_region_lit ?_
  have G3 := Gr.k hG (Only.refl NoF w)
  refine LCV (v := .bool (true)) Hz rfl rfl Tryz.call4 (small03_v G3) rfl fun w4 o5 => ?_
  clear Hz az; intro az Hz
  refine L (r_as Hz rfl) Hz rfl ?_
  clear Hz az; intro az Hz
  refine hK2 _ _ ?_
  refine wp_seq_k fun K6 hK6 => ?_
  refine wp_seq_k fun K7 hK7 => ?_
  -- law.go:60
  refine wp_region_lit ?_
  refine L (r_mv Hz rfl) Hz rfl ?_
  clear Hz az; intro az Hz
  have h8 := (SliceOf.kp f1 o5 (fun _ _ h => h) (fun _ _ _ _ h => h))
  refine LCE Hz rfl rfl Tryz.call5 (few03_v_ (ops_up h8 o5)) rfl fun b11 w9 hs12 o10 => ?_
  clear Hz az; intro az Hz
  refine L (r_not Hz rfl) Hz rfl ?_
  clear Hz az; intro az Hz
  refine hK7 _ _ ?_
  refine br Hz rfl (fun hc13 => ?_) (fun hc13 => ?_)
  · -- if0
    have q14 : b11 = false := (nt_t hc13)
    refine wp_seq_k fun K15 hK15 => ?_
    -- law.go:61
    refine wp_region_lit ?_
    refine L (r_mv Hz rfl) Hz rfl ?_
    clear Hz az; intro az Hz
    refine L (r_as Hz rfl) Hz rfl ?_
    clear Hz az; intro az Hz
    refine hK15 _ _ ?_
    refine wp_ret ?_
    show bodyPost _ _ _ .ret _ _
    refine ret_of (vs := [.bool (true)]) Hz Tryz.results3 ⟨rfl, trivial⟩ ?_
    have O16 : Only NoF w w9 := (Only.trans' o5 o10)
    exact ⟨rfl, O16⟩
  · -- else0
    have q17 : b11 = true := (nt_f hc13)
    have S18 := hs12 q17
    have hfo := S18; have hfl := hfo.1
    refine wp_skip ?_
    refine hK6 _ _ ?_
    refine wp_seq_k fun K19 hK19 => ?_
    -- law.go:63
    refine wp_region_lit ?_
    refine LC Hz rfl rfl Tryz.call6 (dNew_l _) rfl ?_
    rintro e w22 ⟨b20, F21, rfl, h23, o24, hge25⟩; refine ⟨_, rfl, ?_⟩
    have h26 : JO b20 Dsk.init none w22 F21 := h23
    clear Hz az; intro az Hz
    refine L (r_as Hz rfl) Hz rfl ?_
    clear Hz az; intro az Hz
    refine hK19 _ _ ?_
    refine wp_seq_k fun K27 hK27 => ?_
    -- law.go:64
    refine wp_region_lit ?_
    refine LC Hz rfl rfl Tryz.call7 (rNew_c _) rfl ?_
    rintro e w30 ⟨c28, rfl, F29, h31, o32, hge33⟩; refine ⟨_, rfl, ?_⟩
    obtain ⟨hb34, hge35⟩ := both_new h26 hge25 (size_only o24) h31 o32 hge33
    obtain ⟨F36, hF36⟩ : ∃ G : Foot, G = (⟨fun k => F21.m k ∨ F29.m k, fun k => F21.r k ∨ F29.r k⟩ : Foot) := ⟨_, rfl⟩
    rw [← hF36] at hb34 hge35
    clear Hz az; intro az Hz
    refine L (r_as Hz rfl) Hz rfl ?_
    clear Hz az; intro az Hz
    refine hK27 _ _ ?_
    refine wp_seq_k fun K37 hK37 => ?_
    refine wp_seq_k fun K38 hK38 => ?_
    -- law.go:65
    refine wp_region_lit ?_
    refine L (r_mv Hz rfl) Hz rfl ?_
    clear Hz az; intro az Hz
    refine L (r_eqP Tryz.underlying25 Hz rfl rfl) Hz rfl ?_
    clear Hz az; intro az Hz
    refine hK38 _ _ ?_
    refine br_false Hz rfl ?_
    refine wp_skip ?_
    refine hK37 _ _ ?_
    refine wp_seq_k fun K39 hK39 => ?_
    -- law.go:68
    refine wp_region_lit ?_
    refine L (r_mv Hz rfl) Hz rfl ?_
    clear Hz az; intro az Hz
    have hOk48 := (BothT.r hb34).elim fun _ q => (ko_ref q).elim fun _ q => refok q
    have O50 : Only NoF w w30 := (Only.trans' (Only.trans' (Only.trans' o5 o10) o24) o32)
    have G49 := Gr.k hG O50
    have O51 : Only NoF w w9 := (Only.trans' o5 o10)
    refine LC Hz rfl rfl Tryz.call8 (l_open (ko_good _ _ _) G49 hb34 (fun k hk => Nat.le_trans (Nat.le_trans hG.1 (size_only O51)) (hge35 k (.inl hk)))) rfl ?_
    rintro e w41 ⟨oj40, hm43, rfl, F42, h44, o45, fm46, fr47⟩; refine ⟨_, rfl, ?_⟩
    have O52 : Only NoF w9 w30 := (Only.trans' o24 o32)
    have hge53 := ge_next hge35 (size_only O52) fm46 fr47
    clear Hz az; intro az Hz
    refine L (r_mv Hz rfl) Hz rfl ?_
    clear Hz az; intro az Hz
    refine L (r_ex Hz rfl rfl) Hz rfl ?_
    clear Hz az; intro az Hz
    refine L (r_ex Hz rfl rfl) Hz rfl ?_
    clear Hz az; intro az Hz
    refine L (r_as Hz rfl) Hz rfl ?_
    clear Hz az; intro az Hz
    refine L (r_as Hz rfl) Hz rfl ?_
    clear Hz az; intro az Hz
    refine hK39 _ _ ?_
    refine wp_seq_k fun K54 hK54 => ?_
    -- law.go:69
    refine wp_region_lit ?_
    refine L (r_mv Hz rfl) Hz rfl ?_
    clear Hz az; intro az Hz
    refine LC Hz rfl rfl Tryz.call9 (r_open (jo_good _ _ _) h44) rfl ?_
    rintro e w56 ⟨ok55, hm58, rfl, F57, h59, o60, fm61, fr62⟩; refine ⟨_, rfl, ?_⟩
    obtain ⟨oo63, e64, e65⟩ := oo_join (hm43.trans hm58.symm); subst e64 e65
    have hji66 : ∀ x, oo63 = some x → JI x.2.2 := fun x e => ji_open hOk48 (hm43.symm.trans (by rw [e]; rfl))
    have O67 : Only NoF w9 w41 := (o_sg O52 o45 (Nat.le_refl _) (fun k h => hge35 k (.inl h)))
    have hge68 := ge_next hge53 (size_only O67) fm61 fr62
    clear Hz az; intro az Hz
    refine L (r_mv Hz rfl) Hz rfl ?_
    clear Hz az; intro az Hz
    refine L (r_ex Hz rfl rfl) Hz rfl ?_
    clear Hz az; intro az Hz
    refine L (r_ex Hz rfl rfl) Hz rfl ?_
    clear Hz az; intro az Hz
    refine L (r_as Hz rfl) Hz rfl ?_
    clear Hz az; intro az Hz
    refine L (r_as Hz rfl) Hz rfl ?_
    clear Hz az; intro az Hz
    refine hK54 _ _ ?_
    refine wp_seq_k fun K69 hK69 => ?_
    refine wp_seq_k fun K70 hK70 => ?_
    -- law.go:70
    refine wp_region_lit ?_
    refine L (r_as Hz rfl) Hz rfl ?_
    clear Hz az; intro az Hz
    refine hK70 _ _ ?_
    refine wp_block ?_
    refine wp_loop_m (fun mz az W => ∃ i : Nat, ∃ D : Dsk, ∃ oo : OO, ∃ er : Int, ∃ F : Foot, mz = l.length - i ∧ Fr 185 [(0, .slice A1 (l.length) c1), (3, .bool (true)), (4, .pointer (some ⟨b20, 0, none⟩)), (5, .pointer (some ⟨c28, 0, none⟩)), (10, .int .i64 ((i : Int))), (6, jp (oo.map p1)), (8, jp (oo.map p2)), (7, .int .i64 (er)), (9, .int .i64 (er))] az ∧ (i ≤ l.length) ∧ (∀ x, oo = some x → JI x.2.2) ∧ Only NoF w W ∧ BothT (JO b20 D (oo.map p1)) (KO c28 D (oo.map p2)) W F ∧ (∀ k, F.all k → w.heap.size ≤ k)) ?_ ?_
    · -- start
      have O71 : Only NoF w w56 := (o_sg (o_sg O50 o45 (size_only O51) (fun k h => hge35 k (.inl h))) o60 (size_only O51) (fun k h => hge53 k (.inl h)))
      exact ⟨_, 0, (openJ Dsk.init 3).1, oo63, (openJ Dsk.init 3).2.1, F57, rfl, Hz.cut ⟨rfl, rfl, rfl, rfl, rfl, rfl, rfl, rfl, rfl, trivial⟩, Nat.zero_le _, hji66, O71, h59, (fun k hk => Nat.le_trans (size_only O51) (hge68 k hk))⟩
    clear Hz az
    rintro mz az w72 ⟨i, D, oo, er, F, hm74, Hz, hi, hji, o73, hT, hgeT⟩
    refine wp_seq_k fun K75 hK75 => ?_
    refine wp_seq_k fun K76 hK76 => ?_
    -- law.go:70
    refine wp_region_lit ?_
    refine L (r_mv Hz rfl) Hz rfl ?_
    clear Hz az; intro az Hz
    refine L (r_mv Hz rfl) Hz rfl ?_
    clear Hz az; intro az Hz
    refine L (r_lenL Tryz.underlying22 Hz rfl) Hz rfl ?_
    clear Hz az; intro az Hz
    refine L (r_ltI Hz rfl rfl) Hz rfl ?_
    clear Hz az; intro az Hz
    refine hK76 _ _ ?_
    refine br Hz rfl (fun hc77 => ?_) (fun hc77 => ?_)
    · -- if2
      have p78 := of_decide_eq_true hc77
      refine wp_skip ?_
      refine hK75 _ _ ?_
      refine wp_seq_k fun K79 hK79 => ?_
      refine wp_block ?_
      refine wp_seq_k fun K80 hK80 => ?_
      -- law.go:71
      refine wp_region_lit ?_
      refine L (r_mv Hz rfl) Hz rfl ?_
      clear Hz az; intro az Hz
      refine L (r_mv Hz rfl) Hz rfl ?_
      clear Hz az; intro az Hz
      have hk81 : i < (l).length := by omega
      have h87 := (SliceOf.kp f1 o73 (fun _ _ h => h) (fun _ _ _ _ h => h))
      obtain ⟨m82, hm83, ok84, hA85⟩ := Row.el (KOp w) h87 hk81
      have E86 : ∀ W, Only NoF w72 W → CA W (eA A1 4 (i)) [.int .i64 (m82.k), strV (m82.s), .int .i64 (m82.n), .slice m82.A (m82.l.length) m82.c] := Row.ce (KOp w) h87 hm83 rfl
      refine L (r_ia (k := i) (size := 4) Tryz.underlying22 Tryz.sizeOf38 Hz rfl rfl rfl hk81 hA85) Hz rfl ?_
      clear Hz az; intro az Hz
      refine L (r_ldA Tryz.isAgg38 Tryz.sizeOf38 Hz rfl (E86 _ (Only.refl NoF w72)) rfl) Hz rfl ?_
      clear Hz az; intro az Hz
      refine LAl (v := .agg #[.int .i64 (0), strV ([]), .int .i64 (0), .slice none (0) 0]) Tryz.zeroValue38 Hz rfl rfl ?_
      clear Hz az; intro g88 w89 hg92 hl93 o90 B91 az Hz
      refine LSt (cs' := [.int .i64 (m82.k), strV (m82.s), .int .i64 (m82.n), .slice m82.A (m82.l.length) m82.c]) Tryz.sizeOf38 Hz rfl rfl rfl rfl rfl ⟨rfl, rfl, rfl, rfl, trivial⟩ B91 rfl rfl fun w94 s95 B96 => ?_
      refine hK80 _ _ ?_
      refine wp_seq_k fun K97 hK97 => ?_
      refine wp_seq_k fun K98 hK98 => ?_
      -- law.go:72
      refine reg_p NoF 2 [2, 5] (.rd 0 (.rd 1 (.rd 3 (.rd 4 (.ex 2 (.ex 5 (.rd 6 .nil))))))) (by kernel_rfl) (by kernel_rfl) (fun _ _ _ _ _ h => h) fun w99 o100 => ?_
      have B101 := (Blk.k B96 o100)
      refine Pl.MSP (b := true) (by kernel_rfl) (fun W oW => r_fa (m' := 1) Tryz.underlying38 rfl Tryz.sizeOf9 rfl Hz rfl rfl) Hz rfl rfl ?_
      clear Hz az; intro az Hz
      refine Pl.MSP (b := true) (by kernel_rfl) (fun W oW => r_ld Tryz.isAgg9 Hz rfl ((Blk.ca (Blk.k B101 oW)) 1 _ rfl)) Hz rfl rfl ?_
      clear Hz az; intro az Hz
      refine Pl.MSP (b := true) (by kernel_rfl) (fun W oW => r_fa (m' := 1) Tryz.underlying38 rfl Tryz.sizeOf9 rfl Hz rfl rfl) Hz rfl rfl ?_
      clear Hz az; intro az Hz
      refine Pl.MSP (b := true) (by kernel_rfl) (fun W oW => r_ld Tryz.isAgg9 Hz rfl ((Blk.ca (Blk.k B101 oW)) 1 _ rfl)) Hz rfl rfl ?_
      clear Hz az; intro az Hz
      refine Pl.MSV (v := .int .i64 ((jsum m82.s))) Hz rfl rfl rfl Tryz.call10 (Sum_v _ m82.s (by have := (hfo.2 _ (List.mem_of_getElem? hm83)).1; omega)) rfl (fun w' o' => ⟨fun _ => o', (Only.trans (Only.refl NoF w99) o' (fun _ h => h.elim))⟩) fun w102 o103 => ?_
      clear Hz az; intro az Hz
      refine Pl.MSV (v := .int .i64 ((jsum m82.s))) Hz rfl rfl rfl Tryz.call11 (kSum_v _ m82.s (by have := (hfo.2 _ (List.mem_of_getElem? hm83)).1; omega)) rfl (fun w' o' => ⟨fun _ => (Only.trans' o103 o'), (Only.trans (Only.trans (Only.refl NoF w99) o103 (fun _ h => h.elim)) o' (fun _ h => h.elim))⟩) fun w104 o105 => ?_
      clear Hz az; intro az Hz
      refine Pl.MSP (b := true) (by kernel_rfl) (fun W oW => r_neRI Hz rfl rfl) Hz rfl rfl ?_
      clear Hz az; intro az Hz
      refine wpPl_nil ?_
      refine hK98 _ _ ?_
      refine br_false Hz rfl ?_
      refine wp_skip ?_
      refine hK97 _ _ ?_
      refine wp_seq_k fun K106 hK106 => ?_
      refine wp_seq_k fun K107 hK107 => ?_
      -- law.go:75
      refine wp_region_lit ?_
      refine L (r_fa (m' := 0) Tryz.underlying38 rfl Tryz.sizeOf3 rfl Hz rfl rfl) Hz rfl ?_
      clear Hz az; intro az Hz
      have B108 := (Blk.k (Blk.k B101 o103) o105)
      refine L (r_ld Tryz.isAgg3 Hz rfl ((Blk.ca B108) 0 _ rfl)) Hz rfl ?_
      clear Hz az; intro az Hz
      refine hK107 _ _ ?_
      refine wp_block ?_
      refine wp_seq_k fun K109 hK109 => ?_
      refine wp_seq_k fun K110 hK110 => ?_
      -- law.go:76
      refine wp_region_lit ?_
      refine L (r_eqI Hz rfl rfl) Hz rfl ?_
      clear Hz az; intro az Hz
      refine L (r_as Hz rfl) Hz rfl ?_
      clear Hz az; intro az Hz
      refine hK110 _ _ ?_
      refine br Hz rfl (fun hc111 => ?_) (fun hc111 => ?_)
      · -- if4
        have p112 := of_decide_eq_true hc111
        refine wp_skip ?_
        refine hK109 _ _ ?_
        refine br_true Hz (kb_ev rfl hc111) ?_
        refine wp_seq_k fun K113 hK113 => ?_
        refine wp_seq_k fun K114 hK114 => ?_
        -- law.go:77
        refine wp_region_lit ?_
        refine L (r_mv Hz rfl) Hz rfl ?_
        clear Hz az; intro az Hz
        refine L (r_eqO1 Tryz.underlying29 Hz rfl rfl) Hz rfl ?_
        clear Hz az; intro az Hz
        refine L (r_mv Hz rfl) Hz rfl ?_
        clear Hz az; intro az Hz
        refine L (r_eqO2 Tryz.underlying33 Hz rfl rfl) Hz rfl ?_
        clear Hz az; intro az Hz
        refine L (r_neBs Tryz.underlying4 Hz rfl rfl) Hz rfl ?_
        clear Hz az; intro az Hz
        rcases oo with _ | ⟨g115, g116, J117⟩
        · -- a case
          have O120 : Only NoF w94 w104 := (Only.trans' (Only.trans' o100 o103) o105)
          have T121 : (BothT (JO b20 D ((none : OO).map p1)) (KO c28 D ((none : OO).map p2))) w104 F := ((BothT.good (jo_good _ _ _) (ko_good _ _ _)).only ((BothT.good (jo_good _ _ _) (ko_good _ _ _)).only ((BothT.good (jo_good _ _ _) (ko_good _ _ _)).only hT o90 (fun _ _ h => h)) s95 (fun k hk (e : k = g88) => (fun h => absurd ((BothT.good (jo_good _ _ _) (ko_good _ _ _)).lt hT _ h) (Nat.not_lt.2 (Nat.le_trans (Nat.le_refl _) hg92))) (by rw [← e]; exact hk))) O120 (fun _ _ h => h))
          have h119 : (BothT (JO b20 D none) (KO c28 D none)) w104 F := T121
          refine hK114 _ _ ?_
          refine br_false Hz rfl ?_
          refine wp_skip ?_
          refine hK113 _ _ ?_
          refine wp_seq_k fun K122 hK122 => ?_
          refine wp_seq_k fun K123 hK123 => ?_
          -- law.go:80
          refine wp_region_lit ?_
          refine L (r_mv Hz rfl) Hz rfl ?_
          clear Hz az; intro az Hz
          refine L (r_eqNN Tryz.underlying29 Hz rfl rfl) Hz rfl ?_
          clear Hz az; intro az Hz
          refine L (r_mv Hz rfl) Hz rfl ?_
          clear Hz az; intro az Hz
          refine LF Hz rfl rfl rfl rfl ?_
          clear Hz az; intro az Hz
          refine LF Hz rfl rfl rfl rfl ?_
          clear Hz az; intro az Hz
          refine L (r_pick Hz rfl rfl rfl) Hz rfl ?_
          clear Hz az; intro az Hz
          refine hK123 _ _ ?_
          refine br_true Hz rfl ?_
          refine wp_exit ?_
          refine th_exit ?_
          refine ib_miss rfl ?_
          refine th_exit ?_
          refine ib_hit ?_
          refine hK79 _ _ ?_
          -- law.go:70
          refine wp_region_lit ?_
          refine L (r_mv Hz rfl) Hz rfl ?_
          clear Hz az; intro az Hz
          have i124 : I64 (((i : Int) + 1)) := by unfold I64; omega
          refine L (r_addI (r := ((i : Int) + 1)) Hz rfl rfl rfl i124) Hz rfl ?_
          clear Hz az; intro az Hz
          refine L (r_as Hz rfl) Hz rfl ?_
          clear Hz az; intro az Hz
          have O125 : Only NoF w w104 := (Only.trans' (Only.trans' (Only.trans' (o_sg (Only.trans' o73 o90) s95 (size_only o73) (oneF_ge hg92)) o100) o103) o105)
          exact ⟨_, (by omega), i + 1, D, none, er, F, rfl, Hz.cut ⟨rfl, rfl, rfl, rfl, rfl, rfl, rfl, rfl, rfl, trivial⟩, (by omega), ji_none, O125, h119, hgeT⟩
        · -- a case
          have O127 : Only NoF w94 w104 := (Only.trans' (Only.trans' o100 o103) o105)
          have T128 : (BothT (JO b20 D ((some (g115, g116, J117) : OO).map p1)) (KO c28 D ((some (g115, g116, J117) : OO).map p2))) w104 F := ((BothT.good (jo_good _ _ _) (ko_good _ _ _)).only ((BothT.good (jo_good _ _ _) (ko_good _ _ _)).only ((BothT.good (jo_good _ _ _) (ko_good _ _ _)).only hT o90 (fun _ _ h => h)) s95 (fun k hk (e : k = g88) => (fun h => absurd ((BothT.good (jo_good _ _ _) (ko_good _ _ _)).lt hT _ h) (Nat.not_lt.2 (Nat.le_trans (Nat.le_refl _) hg92))) (by rw [← e]; exact hk))) O127 (fun _ _ h => h))
          have h126 : (BothT (JT b20 g115 D J117) (KT c28 g116 D J117)) w104 F := T128
          have hj118 : JI J117 := hji _ rfl
          refine hK114 _ _ ?_
          refine br_false Hz rfl ?_
          refine wp_skip ?_
          refine hK113 _ _ ?_
          refine wp_seq_k fun K129 hK129 => ?_
          refine wp_seq_k fun K130 hK130 => ?_
          -- law.go:80
          refine wp_region_lit ?_
          refine L (r_mv Hz rfl) Hz rfl ?_
          clear Hz az; intro az Hz
          refine L (r_eqP Tryz.underlying29 Hz rfl rfl) Hz rfl ?_
          clear Hz az; intro az Hz
          refine L (r_mv Hz rfl) Hz rfl ?_
          clear Hz az; intro az Hz
          refine LT Hz rfl rfl (r_mv Hz rfl) rfl ?_
          clear Hz az; intro az Hz
          refine LT Hz rfl rfl (r_eqP Tryz.underlying33 Hz rfl rfl) rfl ?_
          clear Hz az; intro az Hz
          refine L (r_pick Hz rfl rfl rfl) Hz rfl ?_
          clear Hz az; intro az Hz
          refine hK130 _ _ ?_
          refine br_false Hz rfl ?_
          refine wp_skip ?_
          refine hK129 _ _ ?_
          refine wp_seq_k fun K131 hK131 => ?_
          -- law.go:83
          refine wp_region_lit ?_
          refine L (r_fa (m' := 0) Tryz.underlying38 rfl Tryz.sizeOf3 rfl Hz rfl rfl) Hz rfl ?_
          clear Hz az; intro az Hz
          refine L (r_ld Tryz.isAgg3 Hz rfl ((Blk.ca B108) 0 _ rfl)) Hz rfl ?_
          clear Hz az; intro az Hz
          refine L (r_eqI Hz rfl rfl) Hz rfl ?_
          clear Hz az; intro az Hz
          refine hK131 _ _ ?_
          refine br_true Hz (kb_ev rfl hc111) ?_
          refine wp_seq_k fun K132 hK132 => ?_
          -- law.go:84
          refine wp_region_lit ?_
          refine L (r_mv Hz rfl) Hz rfl ?_
          clear Hz az; intro az Hz
          refine L (r_fa (m' := 1) Tryz.underlying38 rfl Tryz.sizeOf9 rfl Hz rfl rfl) Hz rfl ?_
          clear Hz az; intro az Hz
          refine L (r_ld Tryz.isAgg9 Hz rfl ((Blk.ca B108) 1 _ rfl)) Hz rfl ?_
          clear Hz az; intro az Hz
          have O134 : Only NoF w w104 := (Only.trans' (Only.trans' (Only.trans' (o_sg (Only.trans' o73 o90) s95 (size_only o73) (oneF_ge hg92)) o100) o103) o105)
          have G133 := Gr.k hG O134
          refine LC Hz rfl rfl Tryz.call12 (l_append (t := m82.s) (kt_good _ _ _ _) G133 h126 (fun k hk => Nat.le_trans (Nat.le_trans hG.1 (Nat.le_refl _)) (hgeT k (.inl hk))) (by have := (hfo.2 _ (List.mem_of_getElem? hm83)).1; omega) (Nat.le_trans hj118.2.2 (by decide)) (Nat.le_trans (JI.ll hj118) (by decide))) rfl ?_
          rintro e w135 ⟨rfl, F136, h137, o138, fm139, fr140⟩; refine ⟨_, rfl, ?_⟩
          have hge141 := ge_next hgeT (size_only O134) fm139 fr140
          clear Hz az; intro az Hz
          refine L (r_as Hz rfl) Hz rfl ?_
          clear Hz az; intro az Hz
          refine hK132 _ _ ?_
          -- law.go:85
          refine wp_region_lit ?_
          refine L (r_mv Hz rfl) Hz rfl ?_
          clear Hz az; intro az Hz
          refine L (r_fa (m' := 1) Tryz.underlying38 rfl Tryz.sizeOf9 rfl Hz rfl rfl) Hz rfl ?_
          clear Hz az; intro az Hz
          have B142 := (Blk.only B108 o138 (fun h => (fun h => absurd ((BothT.good (jo_good _ _ _) (ko_good _ _ _)).lt hT _ h) (Nat.not_lt.2 (Nat.le_trans (Nat.le_refl _) hg92))) (.inl h)))
          refine L (r_ld Tryz.isAgg9 Hz rfl ((Blk.ca B142) 1 _ rfl)) Hz rfl ?_
          clear Hz az; intro az Hz
          refine LC Hz rfl rfl Tryz.call13 (r_append (t := m82.s) (jt_good _ _ _ _) h137 (by have := (hfo.2 _ (List.mem_of_getElem? hm83)).1; omega) hj118.1 (Nat.le_trans hj118.2.2 (by decide)) (Nat.le_trans (JI.ll hj118) (by decide)) hj118.2.1) rfl ?_
          rintro e w143 ⟨rfl, F144, h145, o146, fm147, fr148⟩; refine ⟨_, rfl, ?_⟩
          have O149 : Only NoF w w135 := (o_sg O134 o138 (Nat.le_refl _) (fun k h => hgeT k (.inl h)))
          have hge150 := ge_next hge141 (size_only O149) fm147 fr148
          clear Hz az; intro az Hz
          have hj151 := JI.append hj118 D (hfo.2 _ (List.mem_of_getElem? hm83)).1
          refine L (r_as Hz rfl) Hz rfl ?_
          clear Hz az; intro az Hz
          refine hK106 _ _ ?_
          refine wp_seq_k fun K152 hK152 => ?_
          refine wp_seq_k fun K153 hK153 => ?_
          -- law.go:106
          refine wp_region_lit ?_
          refine L (r_mv Hz rfl) Hz rfl ?_
          clear Hz az; intro az Hz
          refine L (r_mv Hz rfl) Hz rfl ?_
          clear Hz az; intro az Hz
          refine L (r_neRI Hz rfl rfl) Hz rfl ?_
          clear Hz az; intro az Hz
          refine L (r_mv Hz rfl) Hz rfl ?_
          clear Hz az; intro az Hz
          refine LT Hz rfl rfl (r_mv Hz rfl) rfl ?_
          clear Hz az; intro az Hz
          refine LT Hz rfl rfl (r_eqP Tryz.underlying29 Hz rfl rfl) rfl ?_
          clear Hz az; intro az Hz
          refine LT Hz rfl rfl (r_mv Hz rfl) rfl ?_
          clear Hz az; intro az Hz
          refine LT Hz rfl rfl (r_eqP Tryz.underlying33 Hz rfl rfl) rfl ?_
          clear Hz az; intro az Hz
          refine LT Hz rfl rfl (r_neBs Tryz.underlying4 Hz rfl rfl) rfl ?_
          clear Hz az; intro az Hz
          refine L (r_pick Hz rfl rfl rfl) Hz rfl ?_
          clear Hz az; intro az Hz
          refine hK153 _ _ ?_
          refine br_false Hz rfl ?_
          refine wp_skip ?_
          refine hK152 _ _ ?_
          refine wp_seq_k fun K154 hK154 => ?_
          obtain ⟨A155, c156, hB157, hR158⟩ := kb_open h145
          -- law.go:109
          refine reg_p NoF 2 [8, 13] (.rd 0 (.rd 1 (.rd 2 (.rd 3 (.rd 4 (.rd 5 (.rd 6 (.rd 7 (.rd 9 (.rd 10 (.rd 11 (.rd 12 (.ex 8 (.ex 13 (.rd 14 (.rd 15 .nil)))))))))))))))) (by kernel_rfl) (by kernel_rfl) (fun _ _ _ _ _ h => h) fun w159 o160 => ?_
          have B161 := (Blk.k hB157 o160)
          refine Pl.MSP (b := true) (by kernel_rfl) (fun W oW => r_mv Hz rfl) Hz rfl rfl ?_
          clear Hz az; intro az Hz
          refine Pl.MSP (b := true) (by kernel_rfl) (fun W oW => r_neP Tryz.underlying29 Hz rfl rfl) Hz rfl rfl ?_
          clear Hz az; intro az Hz
          refine Pl.MSP (b := true) (by kernel_rfl) (fun W oW => r_mv Hz rfl) Hz rfl rfl ?_
          clear Hz az; intro az Hz
          refine Pl.MSPT (b := true) (by kernel_rfl) Hz rfl rfl (fun W oW => r_mv Hz rfl) rfl rfl ?_
          clear Hz az; intro az Hz
          refine Pl.MSPT (b := true) (by kernel_rfl) Hz rfl rfl (fun W oW => r_neP Tryz.underlying33 Hz rfl rfl) rfl rfl ?_
          clear Hz az; intro az Hz
          refine Pl.MSP (b := true) (by kernel_rfl) (fun W oW => r_pick Hz rfl rfl rfl) Hz rfl rfl ?_
          clear Hz az; intro az Hz
          refine Pl.MSP (b := true) (by kernel_rfl) (fun W oW => r_mv Hz rfl) Hz rfl rfl ?_
          clear Hz az; intro az Hz
          refine Pl.MSPT (b := true) (by kernel_rfl) Hz rfl rfl (fun W oW => r_mv Hz rfl) rfl rfl ?_
          clear Hz az; intro az Hz
          refine Pl.MSPT (b := true) (by kernel_rfl) Hz rfl rfl (fun W oW => r_mv Hz rfl) rfl rfl ?_
          clear Hz az; intro az Hz
          refine Pl.MSPT (b := true) (by kernel_rfl) Hz rfl rfl (fun W oW => r_nilP Hz rfl) rfl rfl ?_
          clear Hz az; intro az Hz
          refine Pl.MSPT (b := true) (by kernel_rfl) Hz rfl rfl (fun W oW => r_fa (m' := 2) Tryz.underlying49 rfl Tryz.sizeOf46 rfl Hz rfl rfl) rfl rfl ?_
          clear Hz az; intro az Hz
          refine Pl.MSPT (b := true) (by kernel_rfl) Hz rfl rfl (fun W oW => r_ld Tryz.isAgg46 Hz rfl ((Blk.ca (Blk.k B161 oW)) 2 _ rfl)) rfl rfl ?_
          clear Hz az; intro az Hz
          have T168 : (BothT (JT b20 g115 ((Jn.append J117 D m82.s).1) ((Jn.append J117 D m82.s).2.1)) (KT c28 g116 ((Jn.append J117 D m82.s).1) ((Jn.append J117 D m82.s).2.1))) w159 F144 := ((BothT.good (jt_good _ _ _ _) (kt_good _ _ _ _)).only h145 o160 (fun _ _ h => h))
          have okl167 := okB (jb_of T168)
          refine Pl.MSCT Hz rfl rfl rfl rfl rfl Tryz.call25 (all_b (jb_of T168) (Nat.le_trans (JI.ll hj151) (by decide))) rfl ?_
          rintro e w162 ⟨A163, c164, rfl, r165, o166⟩
          refine ⟨_, rfl, ⟨fun _ => o166, (Only.trans (Only.refl NoF w159) o166 (fun _ h => h.elim))⟩, ?_⟩
          clear Hz az; intro az Hz
          have h169 := SliceOf.pl (Row.own KStr r165 okl167)
          have O170 : Only NoF w143 w162 := (Only.trans' o160 o166)
          have h171 := (SliceOf.kp hR158 O170 (fun _ _ h => h) (fun _ _ _ _ h => h))
          refine Pl.MSGV (v := .bool (true)) Hz rfl rfl gd_t rfl rfl (fun hb => rfl) Tryz.call24 (fun hb => fix_eq (congrArg Value.bool (decide_eq_true rfl)) (SameTexts_v h169 h171)) rfl (fun w' o' => ⟨fun _ => (Only.trans' o166 o'), (Only.trans (Only.trans (Only.refl NoF w159) o166 (fun _ h => h.elim)) o' (fun _ h => h.elim))⟩) fun w172 o173 => ?_
          clear Hz az; intro az Hz
          refine Pl.MSPT (b := true) (by kernel_rfl) Hz rfl rfl (fun W oW => r_not Hz rfl) rfl rfl ?_
          clear Hz az; intro az Hz
          refine Pl.MSP (b := true) (by kernel_rfl) (fun W oW => r_pick Hz rfl rfl rfl) Hz rfl rfl ?_
          clear Hz az; intro az Hz
          refine wpPl_nil ?_
          refine hK154 _ _ ?_
          refine br_false Hz rfl ?_
          refine wp_skip ?_
          refine hK79 _ _ ?_
          -- law.go:70
          refine wp_region_lit ?_
          refine L (r_mv Hz rfl) Hz rfl ?_
          clear Hz az; intro az Hz
          have i174 : I64 (((i : Int) + 1)) := by unfold I64; omega
          refine L (r_addI (r := ((i : Int) + 1)) Hz rfl rfl rfl i174) Hz rfl ?_
          clear Hz az; intro az Hz
          refine L (r_as Hz rfl) Hz rfl ?_
          clear Hz az; intro az Hz
          have O175 : Only NoF w w172 := (Only.trans' (Only.trans' (Only.trans' (o_sg O149 o146 (Nat.le_refl _) (fun k h => hge141 k (.inl h))) o160) o166) o173)
          have O176 : Only NoF w159 w172 := (Only.trans' o166 o173)
          have T177 : (BothT (JT b20 g115 ((Jn.append J117 D m82.s).1) ((Jn.append J117 D m82.s).2.1)) (KT c28 g116 ((Jn.append J117 D m82.s).1) ((Jn.append J117 D m82.s).2.1))) w172 F144 := ((BothT.good (jt_good _ _ _ _) (kt_good _ _ _ _)).only T168 O176 (fun _ _ h => h))
          exact ⟨_, (by omega), i + 1, (Jn.append J117 D m82.s).1, (some (g115, g116, (Jn.append J117 D m82.s).2.1)), (Jn.append J117 D m82.s).2.2, F144, rfl, Hz.cut ⟨rfl, rfl, rfl, rfl, rfl, rfl, rfl, rfl, rfl, trivial⟩, (by omega), (ji_some hj151), O175, T177, hge150⟩
      · -- else4
        have p178 := of_decide_eq_false hc111
        -- law.go:76
        refine wp_region_lit ?_
        refine L (r_eqI Hz rfl rfl) Hz rfl ?_
        clear Hz az; intro az Hz
        refine L (r_as Hz rfl) Hz rfl ?_
        clear Hz az; intro az Hz
        refine hK109 _ _ ?_
        refine br Hz rfl (fun hc179 => ?_) (fun hc179 => ?_)
        · -- if5
          have p180 := of_decide_eq_true hc179
          refine wp_seq_k fun K181 hK181 => ?_
          refine wp_seq_k fun K182 hK182 => ?_
          -- law.go:77
          refine wp_region_lit ?_
          refine L (r_mv Hz rfl) Hz rfl ?_
          clear Hz az; intro az Hz
          refine L (r_eqO1 Tryz.underlying29 Hz rfl rfl) Hz rfl ?_
          clear Hz az; intro az Hz
          refine L (r_mv Hz rfl) Hz rfl ?_
          clear Hz az; intro az Hz
          refine L (r_eqO2 Tryz.underlying33 Hz rfl rfl) Hz rfl ?_
          clear Hz az; intro az Hz
          refine L (r_neBs Tryz.underlying4 Hz rfl rfl) Hz rfl ?_
          clear Hz az; intro az Hz
          rcases oo with _ | ⟨g183, g184, J185⟩
          · -- a case
            have O188 : Only NoF w94 w104 := (Only.trans' (Only.trans' o100 o103) o105)
            have T189 : (BothT (JO b20 D ((none : OO).map p1)) (KO c28 D ((none : OO).map p2))) w104 F := ((BothT.good (jo_good _ _ _) (ko_good _ _ _)).only ((BothT.good (jo_good _ _ _) (ko_good _ _ _)).only ((BothT.good (jo_good _ _ _) (ko_good _ _ _)).only hT o90 (fun _ _ h => h)) s95 (fun k hk (e : k = g88) => (fun h => absurd ((BothT.good (jo_good _ _ _) (ko_good _ _ _)).lt hT _ h) (Nat.not_lt.2 (Nat.le_trans (Nat.le_refl _) hg92))) (by rw [← e]; exact hk))) O188 (fun _ _ h => h))
            have h187 : (BothT (JO b20 D none) (KO c28 D none)) w104 F := T189
            refine hK182 _ _ ?_
            refine br_false Hz rfl ?_
            refine wp_skip ?_
            refine hK181 _ _ ?_
            refine wp_seq_k fun K190 hK190 => ?_
            refine wp_seq_k fun K191 hK191 => ?_
            -- law.go:80
            refine wp_region_lit ?_
            refine L (r_mv Hz rfl) Hz rfl ?_
            clear Hz az; intro az Hz
            refine L (r_eqNN Tryz.underlying29 Hz rfl rfl) Hz rfl ?_
            clear Hz az; intro az Hz
            refine L (r_mv Hz rfl) Hz rfl ?_
            clear Hz az; intro az Hz
            refine LF Hz rfl rfl rfl rfl ?_
            clear Hz az; intro az Hz
            refine LF Hz rfl rfl rfl rfl ?_
            clear Hz az; intro az Hz
            refine L (r_pick Hz rfl rfl rfl) Hz rfl ?_
            clear Hz az; intro az Hz
            refine hK191 _ _ ?_
            refine br_true Hz rfl ?_
            refine wp_exit ?_
            refine th_exit ?_
            refine ib_miss rfl ?_
            refine th_exit ?_
            refine ib_hit ?_
            refine hK79 _ _ ?_
            -- law.go:70
            refine wp_region_lit ?_
            refine L (r_mv Hz rfl) Hz rfl ?_
            clear Hz az; intro az Hz
            have i192 : I64 (((i : Int) + 1)) := by unfold I64; omega
            refine L (r_addI (r := ((i : Int) + 1)) Hz rfl rfl rfl i192) Hz rfl ?_
            clear Hz az; intro az Hz
            refine L (r_as Hz rfl) Hz rfl ?_
            clear Hz az; intro az Hz
            have O193 : Only NoF w w104 := (Only.trans' (Only.trans' (Only.trans' (o_sg (Only.trans' o73 o90) s95 (size_only o73) (oneF_ge hg92)) o100) o103) o105)
            exact ⟨_, (by omega), i + 1, D, none, er, F, rfl, Hz.cut ⟨rfl, rfl, rfl, rfl, rfl, rfl, rfl, rfl, rfl, trivial⟩, (by omega), ji_none, O193, h187, hgeT⟩
          · -- a case
            have O195 : Only NoF w94 w104 := (Only.trans' (Only.trans' o100 o103) o105)
            have T196 : (BothT (JO b20 D ((some (g183, g184, J185) : OO).map p1)) (KO c28 D ((some (g183, g184, J185) : OO).map p2))) w104 F := ((BothT.good (jo_good _ _ _) (ko_good _ _ _)).only ((BothT.good (jo_good _ _ _) (ko_good _ _ _)).only ((BothT.good (jo_good _ _ _) (ko_good _ _ _)).only hT o90 (fun _ _ h => h)) s95 (fun k hk (e : k = g88) => (fun h => absurd ((BothT.good (jo_good _ _ _) (ko_good _ _ _)).lt hT _ h) (Nat.not_lt.2 (Nat.le_trans (Nat.le_refl _) hg92))) (by rw [← e]; exact hk))) O195 (fun _ _ h => h))
            have h194 : (BothT (JT b20 g183 D J185) (KT c28 g184 D J185)) w104 F := T196
            have hj186 : JI J185 := hji _ rfl
            refine hK182 _ _ ?_
            refine br_false Hz rfl ?_
            refine wp_skip ?_
            refine hK181 _ _ ?_
            refine wp_seq_k fun K197 hK197 => ?_
            refine wp_seq_k fun K198 hK198 => ?_
            -- law.go:80
            refine wp_region_lit ?_
            refine L (r_mv Hz rfl) Hz rfl ?_
            clear Hz az; intro az Hz
            refine L (r_eqP Tryz.underlying29 Hz rfl rfl) Hz rfl ?_
            clear Hz az; intro az Hz
            refine L (r_mv Hz rfl) Hz rfl ?_
            clear Hz az; intro az Hz
            refine LT Hz rfl rfl (r_mv Hz rfl) rfl ?_
            clear Hz az; intro az Hz
            refine LT Hz rfl rfl (r_eqP Tryz.underlying33 Hz rfl rfl) rfl ?_
            clear Hz az; intro az Hz
            refine L (r_pick Hz rfl rfl rfl) Hz rfl ?_
            clear Hz az; intro az Hz
            refine hK198 _ _ ?_
            refine br_false Hz rfl ?_
            refine wp_skip ?_
            refine hK197 _ _ ?_
            refine wp_seq_k fun K199 hK199 => ?_
            -- law.go:83
            refine wp_region_lit ?_
            refine L (r_fa (m' := 0) Tryz.underlying38 rfl Tryz.sizeOf3 rfl Hz rfl rfl) Hz rfl ?_
            clear Hz az; intro az Hz
            refine L (r_ld Tryz.isAgg3 Hz rfl ((Blk.ca B108) 0 _ rfl)) Hz rfl ?_
            clear Hz az; intro az Hz
            refine L (r_eqI Hz rfl rfl) Hz rfl ?_
            clear Hz az; intro az Hz
            refine hK199 _ _ ?_
            refine br_false Hz (kb_ev rfl hc111) ?_
            refine wp_seq_k fun K200 hK200 => ?_
            -- law.go:87
            refine wp_region_lit ?_
            refine L (r_mv Hz rfl) Hz rfl ?_
            clear Hz az; intro az Hz
            have O202 : Only NoF w w104 := (Only.trans' (Only.trans' (Only.trans' (o_sg (Only.trans' o73 o90) s95 (size_only o73) (oneF_ge hg92)) o100) o103) o105)
            have G201 := Gr.k hG O202
            refine LC Hz rfl rfl Tryz.call14 (l_sync (kt_good _ _ _ _) G201 h194 (fun k hk => Nat.le_trans (Nat.le_trans hG.1 (Nat.le_refl _)) (hgeT k (.inl hk)))) rfl ?_
            rintro e w203 ⟨rfl, F204, h205, o206, fm207, fr208⟩; refine ⟨_, rfl, ?_⟩
            have hge209 := ge_next hgeT (size_only O202) fm207 fr208
            clear Hz az; intro az Hz
            refine L (r_as Hz rfl) Hz rfl ?_
            clear Hz az; intro az Hz
            refine hK200 _ _ ?_
            -- law.go:88
            refine wp_region_lit ?_
            refine L (r_mv Hz rfl) Hz rfl ?_
            clear Hz az; intro az Hz
            refine LC Hz rfl rfl Tryz.call15 (r_sync (jt_good _ _ _ _) h205) rfl ?_
            rintro e w210 ⟨rfl, F211, h212, o213, fm214, fr215⟩; refine ⟨_, rfl, ?_⟩
            have O216 : Only NoF w w203 := (o_sg O202 o206 (Nat.le_refl _) (fun k h => hgeT k (.inl h)))
            have hge217 := ge_next hge209 (size_only O216) fm214 fr215
            clear Hz az; intro az Hz
            have hj218 := JI.sync hj186 D
            refine L (r_as Hz rfl) Hz rfl ?_
            clear Hz az; intro az Hz
            refine hK106 _ _ ?_
            refine wp_seq_k fun K219 hK219 => ?_
            refine wp_seq_k fun K220 hK220 => ?_
            -- law.go:106
            refine wp_region_lit ?_
            refine L (r_mv Hz rfl) Hz rfl ?_
            clear Hz az; intro az Hz
            refine L (r_mv Hz rfl) Hz rfl ?_
            clear Hz az; intro az Hz
            refine L (r_neRI Hz rfl rfl) Hz rfl ?_
            clear Hz az; intro az Hz
            refine L (r_mv Hz rfl) Hz rfl ?_
            clear Hz az; intro az Hz
            refine LT Hz rfl rfl (r_mv Hz rfl) rfl ?_
            clear Hz az; intro az Hz
            refine LT Hz rfl rfl (r_eqP Tryz.underlying29 Hz rfl rfl) rfl ?_
            clear Hz az; intro az Hz
            refine LT Hz rfl rfl (r_mv Hz rfl) rfl ?_
            clear Hz az; intro az Hz
            refine LT Hz rfl rfl (r_eqP Tryz.underlying33 Hz rfl rfl) rfl ?_
            clear Hz az; intro az Hz
            refine LT Hz rfl rfl (r_neBs Tryz.underlying4 Hz rfl rfl) rfl ?_
            clear Hz az; intro az Hz
            refine L (r_pick Hz rfl rfl rfl) Hz rfl ?_
            clear Hz az; intro az Hz
            refine hK220 _ _ ?_
            refine br_false Hz rfl ?_
            refine wp_skip ?_
            refine hK219 _ _ ?_
            refine wp_seq_k fun K221 hK221 => ?_
            obtain ⟨A222, c223, hB224, hR225⟩ := kb_open h212
            -- law.go:109
            refine reg_p NoF 2 [8, 13] (.rd 0 (.rd 1 (.rd 2 (.rd 3 (.rd 4 (.rd 5 (.rd 6 (.rd 7 (.rd 9 (.rd 10 (.rd 11 (.rd 12 (.ex 8 (.ex 13 (.rd 14 (.rd 15 .nil)))))))))))))))) (by kernel_rfl) (by kernel_rfl) (fun _ _ _ _ _ h => h) fun w226 o227 => ?_
            have B228 := (Blk.k hB224 o227)
            refine Pl.MSP (b := true) (by kernel_rfl) (fun W oW => r_mv Hz rfl) Hz rfl rfl ?_
            clear Hz az; intro az Hz
            refine Pl.MSP (b := true) (by kernel_rfl) (fun W oW => r_neP Tryz.underlying29 Hz rfl rfl) Hz rfl rfl ?_
            clear Hz az; intro az Hz
            refine Pl.MSP (b := true) (by kernel_rfl) (fun W oW => r_mv Hz rfl) Hz rfl rfl ?_
            clear Hz az; intro az Hz
            refine Pl.MSPT (b := true) (by kernel_rfl) Hz rfl rfl (fun W oW => r_mv Hz rfl) rfl rfl ?_
            clear Hz az; intro az Hz
            refine Pl.MSPT (b := true) (by kernel_rfl) Hz rfl rfl (fun W oW => r_neP Tryz.underlying33 Hz rfl rfl) rfl rfl ?_
            clear Hz az; intro az Hz
            refine Pl.MSP (b := true) (by kernel_rfl) (fun W oW => r_pick Hz rfl rfl rfl) Hz rfl rfl ?_
            clear Hz az; intro az Hz
            refine Pl.MSP (b := true) (by kernel_rfl) (fun W oW => r_mv Hz rfl) Hz rfl rfl ?_
            clear Hz az; intro az Hz
            refine Pl.MSPT (b := true) (by kernel_rfl) Hz rfl rfl (fun W oW => r_mv Hz rfl) rfl rfl ?_
            clear Hz az; intro az Hz
            refine Pl.MSPT (b := true) (by kernel_rfl) Hz rfl rfl (fun W oW => r_mv Hz rfl) rfl rfl ?_
            clear Hz az; intro az Hz
            refine Pl.MSPT (b := true) (by kernel_rfl) Hz rfl rfl (fun W oW => r_nilP Hz rfl) rfl rfl ?_
            clear Hz az; intro az Hz
            refine Pl.MSPT (b := true) (by kernel_rfl) Hz rfl rfl (fun W oW => r_fa (m' := 2) Tryz.underlying49 rfl Tryz.sizeOf46 rfl Hz rfl rfl) rfl rfl ?_
            clear Hz az; intro az Hz
            refine Pl.MSPT (b := true) (by kernel_rfl) Hz rfl rfl (fun W oW => r_ld Tryz.isAgg46 Hz rfl ((Blk.ca (Blk.k B228 oW)) 2 _ rfl)) rfl rfl ?_
            clear Hz az; intro az Hz
            have T235 : (BothT (JT b20 g183 ((Jn.sync J185 D).1) ((Jn.sync J185 D).2.1)) (KT c28 g184 ((Jn.sync J185 D).1) ((Jn.sync J185 D).2.1))) w226 F211 := ((BothT.good (jt_good _ _ _ _) (kt_good _ _ _ _)).only h212 o227 (fun _ _ h => h))
            have okl234 := okB (jb_of T235)
            refine Pl.MSCT Hz rfl rfl rfl rfl rfl Tryz.call25 (all_b (jb_of T235) (Nat.le_trans (JI.ll hj218) (by decide))) rfl ?_
            rintro e w229 ⟨A230, c231, rfl, r232, o233⟩
            refine ⟨_, rfl, ⟨fun _ => o233, (Only.trans (Only.refl NoF w226) o233 (fun _ h => h.elim))⟩, ?_⟩
            clear Hz az; intro az Hz
            have h236 := SliceOf.pl (Row.own KStr r232 okl234)
            have O237 : Only NoF w210 w229 := (Only.trans' o227 o233)
            have h238 := (SliceOf.kp hR225 O237 (fun _ _ h => h) (fun _ _ _ _ h => h))
            refine Pl.MSGV (v := .bool (true)) Hz rfl rfl gd_t rfl rfl (fun hb => rfl) Tryz.call24 (fun hb => fix_eq (congrArg Value.bool (decide_eq_true rfl)) (SameTexts_v h236 h238)) rfl (fun w' o' => ⟨fun _ => (Only.trans' o233 o'), (Only.trans (Only.trans (Only.refl NoF w226) o233 (fun _ h => h.elim)) o' (fun _ h => h.elim))⟩) fun w239 o240 => ?_
            clear Hz az; intro az Hz
            refine Pl.MSPT (b := true) (by kernel_rfl) Hz rfl rfl (fun W oW => r_not Hz rfl) rfl rfl ?_
            clear Hz az; intro az Hz
            refine Pl.MSP (b := true) (by kernel_rfl) (fun W oW => r_pick Hz rfl rfl rfl) Hz rfl rfl ?_
            clear Hz az; intro az Hz
            refine wpPl_nil ?_
            refine hK221 _ _ ?_
            refine br_false Hz rfl ?_
            refine wp_skip ?_
            refine hK79 _ _ ?_
            -- law.go:70
            refine wp_region_lit ?_
            refine L (r_mv Hz rfl) Hz rfl ?_
            clear Hz az; intro az Hz
            have i241 : I64 (((i : Int) + 1)) := by unfold I64; omega
            refine L (r_addI (r := ((i : Int) + 1)) Hz rfl rfl rfl i241) Hz rfl ?_
            clear Hz az; intro az Hz
            refine L (r_as Hz rfl) Hz rfl ?_
            clear Hz az; intro az Hz
            have O242 : Only NoF w w239 := (Only.trans' (Only.trans' (Only.trans' (o_sg O216 o213 (Nat.le_refl _) (fun k h => hge209 k (.inl h))) o227) o233) o240)
            have O243 : Only NoF w226 w239 := (Only.trans' o233 o240)
            have T244 : (BothT (JT b20 g183 ((Jn.sync J185 D).1) ((Jn.sync J185 D).2.1)) (KT c28 g184 ((Jn.sync J185 D).1) ((Jn.sync J185 D).2.1))) w239 F211 := ((BothT.good (jt_good _ _ _ _) (kt_good _ _ _ _)).only T235 O243 (fun _ _ h => h))
            exact ⟨_, (by omega), i + 1, (Jn.sync J185 D).1, (some (g183, g184, (Jn.sync J185 D).2.1)), (Jn.sync J185 D).2.2, F211, rfl, Hz.cut ⟨rfl, rfl, rfl, rfl, rfl, rfl, rfl, rfl, rfl, trivial⟩, (by omega), (ji_some hj218), O242, T244, hge217⟩
        · -- else5
          have p245 := of_decide_eq_false hc179
          refine wp_seq_k fun K246 hK246 => ?_
          -- law.go:90
          refine wp_region_lit ?_
          refine L (r_eqI Hz rfl rfl) Hz rfl ?_
          clear Hz az; intro az Hz
          refine L (r_as Hz rfl) Hz rfl ?_
          clear Hz az; intro az Hz
          refine hK246 _ _ ?_
          refine br Hz rfl (fun hc247 => ?_) (fun hc247 => ?_)
          · -- if9
            have p248 := of_decide_eq_true hc247
            refine wp_seq_k fun K249 hK249 => ?_
            -- law.go:91
            refine wp_region_lit ?_
            refine L (r_mv Hz rfl) Hz rfl ?_
            clear Hz az; intro az Hz
            refine L (r_fa (m' := 2) Tryz.underlying38 rfl Tryz.sizeOf3 rfl Hz rfl rfl) Hz rfl ?_
            clear Hz az; intro az Hz
            refine L (r_ld Tryz.isAgg3 Hz rfl ((Blk.ca B108) 2 _ rfl)) Hz rfl ?_
            clear Hz az; intro az Hz
            have O250 : Only NoF w94 w104 := (Only.trans' (Only.trans' o100 o103) o105)
            have T251 : (BothT (JO b20 D (oo.map p1)) (KO c28 D (oo.map p2))) w104 F := ((BothT.good (jo_good _ _ _) (ko_good _ _ _)).only ((BothT.good (jo_good _ _ _) (ko_good _ _ _)).only ((BothT.good (jo_good _ _ _) (ko_good _ _ _)).only hT o90 (fun _ _ h => h)) s95 (fun k hk (e : k = g88) => (fun h => absurd ((BothT.good (jo_good _ _ _) (ko_good _ _ _)).lt hT _ h) (Nat.not_lt.2 (Nat.le_trans (Nat.le_refl _) hg92))) (by rw [← e]; exact hk))) O250 (fun _ _ h => h))
            refine LC Hz rfl rfl Tryz.call16 (l_lose (n := m82.n) (ko_good _ _ _) T251 ok84.2.2.1) rfl ?_
            rintro e w252 ⟨rfl, F253, h254, o255, fm256, fr257⟩; refine ⟨_, rfl, ?_⟩
            have O258 : Only NoF w w104 := (Only.trans' (Only.trans' (Only.trans' (o_sg (Only.trans' o73 o90) s95 (size_only o73) (oneF_ge hg92)) o100) o103) o105)
            have hge259 := ge_next hgeT (size_only O258) fm256 fr257
            clear Hz az; intro az Hz
            refine hK249 _ _ ?_
            -- law.go:92
            refine wp_region_lit ?_
            refine L (r_mv Hz rfl) Hz rfl ?_
            clear Hz az; intro az Hz
            refine L (r_fa (m' := 2) Tryz.underlying38 rfl Tryz.sizeOf3 rfl Hz rfl rfl) Hz rfl ?_
            clear Hz az; intro az Hz
            have B260 := (Blk.only B108 o255 (fun h => (fun h => absurd ((BothT.good (jo_good _ _ _) (ko_good _ _ _)).lt hT _ h) (Nat.not_lt.2 (Nat.le_trans (Nat.le_refl _) hg92))) (.inl h)))
            refine L (r_ld Tryz.isAgg3 Hz rfl ((Blk.ca B260) 2 _ rfl)) Hz rfl ?_
            clear Hz az; intro az Hz
            refine LC Hz rfl rfl Tryz.call17 (r_lose (n := m82.n) (jo_good _ _ _) h254 ok84.2.2.1) rfl ?_
            rintro e w261 ⟨rfl, F262, h263, o264, fm265, fr266⟩; refine ⟨_, rfl, ?_⟩
            have O267 : Only NoF w w252 := (o_sg O258 o255 (Nat.le_refl _) (fun k h => hgeT k (.inl h)))
            have hge268 := ge_next hge259 (size_only O267) fm265 fr266
            clear Hz az; intro az Hz
            refine hK106 _ _ ?_
            refine wp_seq_k fun K269 hK269 => ?_
            refine wp_seq_k fun K270 hK270 => ?_
            -- law.go:106
            refine wp_region_lit ?_
            refine L (r_mv Hz rfl) Hz rfl ?_
            clear Hz az; intro az Hz
            refine L (r_mv Hz rfl) Hz rfl ?_
            clear Hz az; intro az Hz
            refine L (r_neRI Hz rfl rfl) Hz rfl ?_
            clear Hz az; intro az Hz
            refine L (r_mv Hz rfl) Hz rfl ?_
            clear Hz az; intro az Hz
            refine LT Hz rfl rfl (r_mv Hz rfl) rfl ?_
            clear Hz az; intro az Hz
            refine LT Hz rfl rfl (r_eqO1 Tryz.underlying29 Hz rfl rfl) rfl ?_
            clear Hz az; intro az Hz
            refine LT Hz rfl rfl (r_mv Hz rfl) rfl ?_
            clear Hz az; intro az Hz
            refine LT Hz rfl rfl (r_eqO2 Tryz.underlying33 Hz rfl rfl) rfl ?_
            clear Hz az; intro az Hz
            refine LT Hz rfl rfl (r_neBs Tryz.underlying4 Hz rfl rfl) rfl ?_
            clear Hz az; intro az Hz
            refine L (r_pick Hz rfl rfl rfl) Hz rfl ?_
            clear Hz az; intro az Hz
            rcases oo with _ | ⟨g271, g272, J273⟩
            · -- a case
              have h275 : (BothT (JO b20 (Dsk.lose D m82.n) none) (KO c28 (Dsk.lose D m82.n) none)) w261 F262 := h263
              refine hK270 _ _ ?_
              refine br_false Hz rfl ?_
              refine wp_skip ?_
              refine hK269 _ _ ?_
              refine wp_seq_k fun K276 hK276 => ?_
              -- law.go:109
              refine reg_p NoF 2 [8, 13] (.rd 0 (.rd 1 (.rd 2 (.rd 3 (.rd 4 (.rd 5 (.rd 6 (.rd 7 (.rd 9 (.rd 10 (.rd 11 (.rd 12 (.ex 8 (.ex 13 (.rd 14 (.rd 15 .nil)))))))))))))))) (by kernel_rfl) (by kernel_rfl) (fun _ _ _ _ _ h => h) fun w277 o278 => ?_
              refine Pl.MSP (b := true) (by kernel_rfl) (fun W oW => r_mv Hz rfl) Hz rfl rfl ?_
              clear Hz az; intro az Hz
              refine Pl.MSP (b := true) (by kernel_rfl) (fun W oW => r_neNN Tryz.underlying29 Hz rfl rfl) Hz rfl rfl ?_
              clear Hz az; intro az Hz
              refine Pl.MSP (b := true) (by kernel_rfl) (fun W oW => r_mv Hz rfl) Hz rfl rfl ?_
              clear Hz az; intro az Hz
              refine Pl.MSPF Hz rfl rfl (by exact rfl) rfl rfl ?_
              clear Hz az; intro az Hz
              refine Pl.MSPF Hz rfl rfl (by exact rfl) rfl rfl ?_
              clear Hz az; intro az Hz
              refine Pl.MSP (b := true) (by kernel_rfl) (fun W oW => r_pick Hz rfl rfl rfl) Hz rfl rfl ?_
              clear Hz az; intro az Hz
              refine Pl.MSP (b := true) (by kernel_rfl) (fun W oW => r_mv Hz rfl) Hz rfl rfl ?_
              clear Hz az; intro az Hz
              refine Pl.MSPF Hz rfl rfl (by exact rfl) rfl rfl ?_
              clear Hz az; intro az Hz
              refine Pl.MSPF Hz rfl rfl (by exact rfl) rfl rfl ?_
              clear Hz az; intro az Hz
              refine Pl.MSPF Hz rfl rfl (by exact rfl) rfl rfl ?_
              clear Hz az; intro az Hz
              refine Pl.MSPF Hz rfl rfl (by exact rfl) rfl rfl ?_
              clear Hz az; intro az Hz
              refine Pl.MSPF Hz rfl rfl (by exact rfl) rfl rfl ?_
              clear Hz az; intro az Hz
              refine Pl.MXF Hz rfl rfl (by exact rfl) rfl rfl ⟨fun _ => (Only.refl _ _), (Only.refl NoF w277)⟩ ?_
              clear Hz az; intro az Hz
              refine Pl.MXF Hz rfl rfl (by exact rfl) rfl rfl ⟨fun _ => (Only.refl _ _), (Only.refl NoF w277)⟩ ?_
              clear Hz az; intro az Hz
              refine Pl.MSPF Hz rfl rfl (by exact rfl) rfl rfl ?_
              clear Hz az; intro az Hz
              refine Pl.MSP (b := true) (by kernel_rfl) (fun W oW => r_pick Hz rfl rfl rfl) Hz rfl rfl ?_
              clear Hz az; intro az Hz
              refine wpPl_nil ?_
              refine hK276 _ _ ?_
              refine br_false Hz rfl ?_
              refine wp_skip ?_
              refine hK79 _ _ ?_
              -- law.go:70
              refine wp_region_lit ?_
              refine L (r_mv Hz rfl) Hz rfl ?_
              clear Hz az; intro az Hz
              have i279 : I64 (((i : Int) + 1)) := by unfold I64; omega
              refine L (r_addI (r := ((i : Int) + 1)) Hz rfl rfl rfl i279) Hz rfl ?_
              clear Hz az; intro az Hz
              refine L (r_as Hz rfl) Hz rfl ?_
              clear Hz az; intro az Hz
              have O280 : Only NoF w w277 := (Only.trans' (o_sg O267 o264 (Nat.le_refl _) (fun k h => hge259 k (.inl h))) o278)
              have T281 : (BothT (JO b20 (Dsk.lose D m82.n) none) (KO c28 (Dsk.lose D m82.n) none)) w277 F262 := ((BothT.good (jo_good _ _ _) (ko_good _ _ _)).only h275 o278 (fun _ _ h => h))
              exact ⟨_, (by omega), i + 1, (Dsk.lose D m82.n), none, er, F262, rfl, Hz.cut ⟨rfl, rfl, rfl, rfl, rfl, rfl, rfl, rfl, rfl, trivial⟩, (by omega), ji_none, O280, T281, hge268⟩
            · -- a case
              have h282 : (BothT (JT b20 g271 (Dsk.lose D m82.n) J273) (KT c28 g272 (Dsk.lose D m82.n) J273)) w261 F262 := h263
              have hj274 : JI J273 := hji _ rfl
              refine hK270 _ _ ?_
              refine br_false Hz rfl ?_
              refine wp_skip ?_
              refine hK269 _ _ ?_
              refine wp_seq_k fun K283 hK283 => ?_
              obtain ⟨A284, c285, hB286, hR287⟩ := kb_open h282
              -- law.go:109
              refine reg_p NoF 2 [8, 13] (.rd 0 (.rd 1 (.rd 2 (.rd 3 (.rd 4 (.rd 5 (.rd 6 (.rd 7 (.rd 9 (.rd 10 (.rd 11 (.rd 12 (.ex 8 (.ex 13 (.rd 14 (.rd 15 .nil)))))))))))))))) (by kernel_rfl) (by kernel_rfl) (fun _ _ _ _ _ h => h) fun w288 o289 => ?_
              have B290 := (Blk.k hB286 o289)
              refine Pl.MSP (b := true) (by kernel_rfl) (fun W oW => r_mv Hz rfl) Hz rfl rfl ?_
              clear Hz az; intro az Hz
              refine Pl.MSP (b := true) (by kernel_rfl) (fun W oW => r_neP Tryz.underlying29 Hz rfl rfl) Hz rfl rfl ?_
              clear Hz az; intro az Hz
              refine Pl.MSP (b := true) (by kernel_rfl) (fun W oW => r_mv Hz rfl) Hz rfl rfl ?_
              clear Hz az; intro az Hz
              refine Pl.MSPT (b := true) (by kernel_rfl) Hz rfl rfl (fun W oW => r_mv Hz rfl) rfl rfl ?_
              clear Hz az; intro az Hz
              refine Pl.MSPT (b := true) (by kernel_rfl) Hz rfl rfl (fun W oW => r_neP Tryz.underlying33 Hz rfl rfl) rfl rfl ?_
              clear Hz az; intro az Hz
              refine Pl.MSP (b := true) (by kernel_rfl) (fun W oW => r_pick Hz rfl rfl rfl) Hz rfl rfl ?_
              clear Hz az; intro az Hz
              refine Pl.MSP (b := true) (by kernel_rfl) (fun W oW => r_mv Hz rfl) Hz rfl rfl ?_
              clear Hz az; intro az Hz
              refine Pl.MSPT (b := true) (by kernel_rfl) Hz rfl rfl (fun W oW => r_mv Hz rfl) rfl rfl ?_
              clear Hz az; intro az Hz
              refine Pl.MSPT (b := true) (by kernel_rfl) Hz rfl rfl (fun W oW => r_mv Hz rfl) rfl rfl ?_
              clear Hz az; intro az Hz
              refine Pl.MSPT (b := true) (by kernel_rfl) Hz rfl rfl (fun W oW => r_nilP Hz rfl) rfl rfl ?_
              clear Hz az; intro az Hz
              refine Pl.MSPT (b := true) (by kernel_rfl) Hz rfl rfl (fun W oW => r_fa (m' := 2) Tryz.underlying49 rfl Tryz.sizeOf46 rfl Hz rfl rfl) rfl rfl ?_
              clear Hz az; intro az Hz
              refine Pl.MSPT (b := true) (by kernel_rfl) Hz rfl rfl (fun W oW => r_ld Tryz.isAgg46 Hz rfl ((Blk.ca (Blk.k B290 oW)) 2 _ rfl)) rfl rfl ?_
              clear Hz az; intro az Hz
              have T297 : (BothT (JT b20 g271 (Dsk.lose D m82.n) J273) (KT c28 g272 (Dsk.lose D m82.n) J273)) w288 F262 := ((BothT.good (jt_good _ _ _ _) (kt_good _ _ _ _)).only h282 o289 (fun _ _ h => h))
              have okl296 := okB (jb_of T297)
              refine Pl.MSCT Hz rfl rfl rfl rfl rfl Tryz.call25 (all_b (jb_of T297) (Nat.le_trans (JI.ll hj274) (by decide))) rfl ?_
              rintro e w291 ⟨A292, c293, rfl, r294, o295⟩
              refine ⟨_, rfl, ⟨fun _ => o295, (Only.trans (Only.refl NoF w288) o295 (fun _ h => h.elim))⟩, ?_⟩
              clear Hz az; intro az Hz
              have h298 := SliceOf.pl (Row.own KStr r294 okl296)
              have O299 : Only NoF w261 w291 := (Only.trans' o289 o295)
              have h300 := (SliceOf.kp hR287 O299 (fun _ _ h => h) (fun _ _ _ _ h => h))
              refine Pl.MSGV (v := .bool (true)) Hz rfl rfl gd_t rfl rfl (fun hb => rfl) Tryz.call24 (fun hb => fix_eq (congrArg Value.bool (decide_eq_true rfl)) (SameTexts_v h298 h300)) rfl (fun w' o' => ⟨fun _ => (Only.trans' o295 o'), (Only.trans (Only.trans (Only.refl NoF w288) o295 (fun _ h => h.elim)) o' (fun _ h => h.elim))⟩) fun w301 o302 => ?_
              clear Hz az; intro az Hz
              refine Pl.MSPT (b := true) (by kernel_rfl) Hz rfl rfl (fun W oW => r_not Hz rfl) rfl rfl ?_
              clear Hz az; intro az Hz
              refine Pl.MSP (b := true) (by kernel_rfl) (fun W oW => r_pick Hz rfl rfl rfl) Hz rfl rfl ?_
              clear Hz az; intro az Hz
              refine wpPl_nil ?_
              refine hK283 _ _ ?_
              refine br_false Hz rfl ?_
              refine wp_skip ?_
              refine hK79 _ _ ?_
              -- law.go:70
              refine wp_region_lit ?_
              refine L (r_mv Hz rfl) Hz rfl ?_
              clear Hz az; intro az Hz
              have i303 : I64 (((i : Int) + 1)) := by unfold I64; omega
              refine L (r_addI (r := ((i : Int) + 1)) Hz rfl rfl rfl i303) Hz rfl ?_
              clear Hz az; intro az Hz
              refine L (r_as Hz rfl) Hz rfl ?_
              clear Hz az; intro az Hz
              have O304 : Only NoF w w301 := (Only.trans' (Only.trans' (Only.trans' (o_sg O267 o264 (Nat.le_refl _) (fun k h => hge259 k (.inl h))) o289) o295) o302)
              have O305 : Only NoF w288 w301 := (Only.trans' o295 o302)
              have T306 : (BothT (JT b20 g271 (Dsk.lose D m82.n) J273) (KT c28 g272 (Dsk.lose D m82.n) J273)) w301 F262 := ((BothT.good (jt_good _ _ _ _) (kt_good _ _ _ _)).only T297 O305 (fun _ _ h => h))
              exact ⟨_, (by omega), i + 1, (Dsk.lose D m82.n), (some (g271, g272, J273)), er, F262, rfl, Hz.cut ⟨rfl, rfl, rfl, rfl, rfl, rfl, rfl, rfl, rfl, trivial⟩, (by omega), (ji_some hj274), O304, T306, hge268⟩
          · -- else9
            have p307 := of_decide_eq_false hc247
            refine wp_seq_k fun K308 hK308 => ?_
            -- law.go:93
            refine wp_region_lit ?_
            refine L (r_eqI Hz rfl rfl) Hz rfl ?_
            clear Hz az; intro az Hz
            refine L (r_as Hz rfl) Hz rfl ?_
            clear Hz az; intro az Hz
            refine hK308 _ _ ?_
            refine br Hz rfl (fun hc309 => ?_) (fun hc309 => ?_)
            · -- if10
              have p310 := of_decide_eq_true hc309
              refine wp_seq_k fun K311 hK311 => ?_
              -- law.go:94
              refine wp_region_lit ?_
              refine L (r_mv Hz rfl) Hz rfl ?_
              clear Hz az; intro az Hz
              refine L (r_fa (m' := 2) Tryz.underlying38 rfl Tryz.sizeOf3 rfl Hz rfl rfl) Hz rfl ?_
              clear Hz az; intro az Hz
              refine L (r_ld Tryz.isAgg3 Hz rfl ((Blk.ca B108) 2 _ rfl)) Hz rfl ?_
              clear Hz az; intro az Hz
              refine L (r_fa (m' := 3) Tryz.underlying38 rfl Tryz.sizeOf36 rfl Hz rfl rfl) Hz rfl ?_
              clear Hz az; intro az Hz
              refine L (r_ld Tryz.isAgg36 Hz rfl ((Blk.ca B108) 3 _ rfl)) Hz rfl ?_
              clear Hz az; intro az Hz
              have O312 : Only NoF w94 w104 := (Only.trans' (Only.trans' o100 o103) o105)
              have T313 : (BothT (JO b20 D (oo.map p1)) (KO c28 D (oo.map p2))) w104 F := ((BothT.good (jo_good _ _ _) (ko_good _ _ _)).only ((BothT.good (jo_good _ _ _) (ko_good _ _ _)).only ((BothT.good (jo_good _ _ _) (ko_good _ _ _)).only hT o90 (fun _ _ h => h)) s95 (fun k hk (e : k = g88) => (fun h => absurd ((BothT.good (jo_good _ _ _) (ko_good _ _ _)).lt hT _ h) (Nat.not_lt.2 (Nat.le_trans (Nat.le_refl _) hg92))) (by rw [← e]; exact hk))) O312 (fun _ _ h => h))
              have O314 : Only NoF w w104 := (Only.trans' (Only.trans' (Only.trans' (o_sg (Only.trans' o73 o90) s95 (size_only o73) (oneF_ge hg92)) o100) o103) o105)
              refine LC Hz rfl rfl Tryz.call18 (l_arm (n := m82.n) (ko_good _ _ _) T313 ok84.2.2.2 O314 (by have := (hfo.2 _ (List.mem_of_getElem? hm83)).2; omega) ok84.2.2.1) rfl ?_
              rintro e w315 ⟨rfl, F316, h317, o318, fm319, fr320⟩; refine ⟨_, rfl, ?_⟩
              have hge321 := ge_next hgeT (size_only O314) fm319 fr320
              clear Hz az; intro az Hz
              refine hK311 _ _ ?_
              -- law.go:95
              refine wp_region_lit ?_
              refine L (r_mv Hz rfl) Hz rfl ?_
              clear Hz az; intro az Hz
              refine L (r_fa (m' := 2) Tryz.underlying38 rfl Tryz.sizeOf3 rfl Hz rfl rfl) Hz rfl ?_
              clear Hz az; intro az Hz
              have B322 := (Blk.only B108 o318 (fun h => (fun h => absurd ((BothT.good (jo_good _ _ _) (ko_good _ _ _)).lt hT _ h) (Nat.not_lt.2 (Nat.le_trans (Nat.le_refl _) hg92))) (.inl h)))
              refine L (r_ld Tryz.isAgg3 Hz rfl ((Blk.ca B322) 2 _ rfl)) Hz rfl ?_
              clear Hz az; intro az Hz
              refine L (r_fa (m' := 3) Tryz.underlying38 rfl Tryz.sizeOf36 rfl Hz rfl rfl) Hz rfl ?_
              clear Hz az; intro az Hz
              refine L (r_ld Tryz.isAgg36 Hz rfl ((Blk.ca B322) 3 _ rfl)) Hz rfl ?_
              clear Hz az; intro az Hz
              have O323 : Only NoF w w315 := (o_sg O314 o318 (Nat.le_refl _) (fun k h => hgeT k (.inl h)))
              refine LC Hz rfl rfl Tryz.call19 (r_arm (n := m82.n) (jo_good _ _ _) h317 ok84.2.2.2 O323 (by have := (hfo.2 _ (List.mem_of_getElem? hm83)).2; omega) ok84.2.2.1 (fun k hk => Nat.le_trans (Nat.le_refl _) (hge321 k (.inl hk)))) rfl ?_
              rintro e w324 ⟨rfl, F325, h326, o327, fm328, fr329⟩; refine ⟨_, rfl, ?_⟩
              have hge330 := ge_next hge321 (size_only O323) fm328 fr329
              clear Hz az; intro az Hz
              refine hK106 _ _ ?_
              refine wp_seq_k fun K331 hK331 => ?_
              refine wp_seq_k fun K332 hK332 => ?_
              -- law.go:106
              refine wp_region_lit ?_
              refine L (r_mv Hz rfl) Hz rfl ?_
              clear Hz az; intro az Hz
              refine L (r_mv Hz rfl) Hz rfl ?_
              clear Hz az; intro az Hz
              refine L (r_neRI Hz rfl rfl) Hz rfl ?_
              clear Hz az; intro az Hz
              refine L (r_mv Hz rfl) Hz rfl ?_
              clear Hz az; intro az Hz
              refine LT Hz rfl rfl (r_mv Hz rfl) rfl ?_
              clear Hz az; intro az Hz
              refine LT Hz rfl rfl (r_eqO1 Tryz.underlying29 Hz rfl rfl) rfl ?_
              clear Hz az; intro az Hz
              refine LT Hz rfl rfl (r_mv Hz rfl) rfl ?_
              clear Hz az; intro az Hz
              refine LT Hz rfl rfl (r_eqO2 Tryz.underlying33 Hz rfl rfl) rfl ?_
              clear Hz az; intro az Hz
              refine LT Hz rfl rfl (r_neBs Tryz.underlying4 Hz rfl rfl) rfl ?_
              clear Hz az; intro az Hz
              refine L (r_pick Hz rfl rfl rfl) Hz rfl ?_
              clear Hz az; intro az Hz
              rcases oo with _ | ⟨g333, g334, J335⟩
              · -- a case
                have h337 : (BothT (JO b20 (Dsk.arm D m82.n m82.l) none) (KO c28 (Dsk.arm D m82.n m82.l) none)) w324 F325 := h326
                refine hK332 _ _ ?_
                refine br_false Hz rfl ?_
                refine wp_skip ?_
                refine hK331 _ _ ?_
                refine wp_seq_k fun K338 hK338 => ?_
                -- law.go:109
                refine reg_p NoF 2 [8, 13] (.rd 0 (.rd 1 (.rd 2 (.rd 3 (.rd 4 (.rd 5 (.rd 6 (.rd 7 (.rd 9 (.rd 10 (.rd 11 (.rd 12 (.ex 8 (.ex 13 (.rd 14 (.rd 15 .nil)))))))))))))))) (by kernel_rfl) (by kernel_rfl) (fun _ _ _ _ _ h => h) fun w339 o340 => ?_
                refine Pl.MSP (b := true) (by kernel_rfl) (fun W oW => r_mv Hz rfl) Hz rfl rfl ?_
                clear Hz az; intro az Hz
                refine Pl.MSP (b := true) (by kernel_rfl) (fun W oW => r_neNN Tryz.underlying29 Hz rfl rfl) Hz rfl rfl ?_
                clear Hz az; intro az Hz
                refine Pl.MSP (b := true) (by kernel_rfl) (fun W oW => r_mv Hz rfl) Hz rfl rfl ?_
                clear Hz az; intro az Hz
                refine Pl.MSPF Hz rfl rfl (by exact rfl) rfl rfl ?_
                clear Hz az; intro az Hz
                refine Pl.MSPF Hz rfl rfl (by exact rfl) rfl rfl ?_
                clear Hz az; intro az Hz
                refine Pl.MSP (b := true) (by kernel_rfl) (fun W oW => r_pick Hz rfl rfl rfl) Hz rfl rfl ?_
                clear Hz az; intro az Hz
                refine Pl.MSP (b := true) (by kernel_rfl) (fun W oW => r_mv Hz rfl) Hz rfl rfl ?_
                clear Hz az; intro az Hz
                refine Pl.MSPF Hz rfl rfl (by exact rfl) rfl rfl ?_
                clear Hz az; intro az Hz
                refine Pl.MSPF Hz rfl rfl (by exact rfl) rfl rfl ?_
                clear Hz az; intro az Hz
                refine Pl.MSPF Hz rfl rfl (by exact rfl) rfl rfl ?_
                clear Hz az; intro az Hz
                refine Pl.MSPF Hz rfl rfl (by exact rfl) rfl rfl ?_
                clear Hz az; intro az Hz
                refine Pl.MSPF Hz rfl rfl (by exact rfl) rfl rfl ?_
                clear Hz az; intro az Hz
                refine Pl.MXF Hz rfl rfl (by exact rfl) rfl rfl ⟨fun _ => (Only.refl _ _), (Only.refl NoF w339)⟩ ?_
                clear Hz az; intro az Hz
                refine Pl.MXF Hz rfl rfl (by exact rfl) rfl rfl ⟨fun _ => (Only.refl _ _), (Only.refl NoF w339)⟩ ?_
                clear Hz az; intro az Hz
                refine Pl.MSPF Hz rfl rfl (by exact rfl) rfl rfl ?_
                clear Hz az; intro az Hz
                refine Pl.MSP (b := true) (by kernel_rfl) (fun W oW => r_pick Hz rfl rfl rfl) Hz rfl rfl ?_
                clear Hz az; intro az Hz
                refine wpPl_nil ?_
                refine hK338 _ _ ?_
                refine br_false Hz rfl ?_
                refine wp_skip ?_
                refine hK79 _ _ ?_
                -- law.go:70
                refine wp_region_lit ?_
                refine L (r_mv Hz rfl) Hz rfl ?_
                clear Hz az; intro az Hz
                have i341 : I64 (((i : Int) + 1)) := by unfold I64; omega
                refine L (r_addI (r := ((i : Int) + 1)) Hz rfl rfl rfl i341) Hz rfl ?_
                clear Hz az; intro az Hz
                refine L (r_as Hz rfl) Hz rfl ?_
                clear Hz az; intro az Hz
                have O342 : Only NoF w w339 := (Only.trans' (o_sg O323 o327 (Nat.le_refl _) (fun k h => hge321 k (.inl h))) o340)
                have T343 : (BothT (JO b20 (Dsk.arm D m82.n m82.l) none) (KO c28 (Dsk.arm D m82.n m82.l) none)) w339 F325 := ((BothT.good (jo_good _ _ _) (ko_good _ _ _)).only h337 o340 (fun _ _ h => h))
                exact ⟨_, (by omega), i + 1, (Dsk.arm D m82.n m82.l), none, er, F325, rfl, Hz.cut ⟨rfl, rfl, rfl, rfl, rfl, rfl, rfl, rfl, rfl, trivial⟩, (by omega), ji_none, O342, T343, hge330⟩
              · -- a case
                have h344 : (BothT (JT b20 g333 (Dsk.arm D m82.n m82.l) J335) (KT c28 g334 (Dsk.arm D m82.n m82.l) J335)) w324 F325 := h326
                have hj336 : JI J335 := hji _ rfl
                refine hK332 _ _ ?_
                refine br_false Hz rfl ?_
                refine wp_skip ?_
                refine hK331 _ _ ?_
                refine wp_seq_k fun K345 hK345 => ?_
                obtain ⟨A346, c347, hB348, hR349⟩ := kb_open h344
                -- law.go:109
                refine reg_p NoF 2 [8, 13] (.rd 0 (.rd 1 (.rd 2 (.rd 3 (.rd 4 (.rd 5 (.rd 6 (.rd 7 (.rd 9 (.rd 10 (.rd 11 (.rd 12 (.ex 8 (.ex 13 (.rd 14 (.rd 15 .nil)))))))))))))))) (by kernel_rfl) (by kernel_rfl) (fun _ _ _ _ _ h => h) fun w350 o351 => ?_
                have B352 := (Blk.k hB348 o351)
                refine Pl.MSP (b := true) (by kernel_rfl) (fun W oW => r_mv Hz rfl) Hz rfl rfl ?_
                clear Hz az; intro az Hz
                refine Pl.MSP (b := true) (by kernel_rfl) (fun W oW => r_neP Tryz.underlying29 Hz rfl rfl) Hz rfl rfl ?_
                clear Hz az; intro az Hz
                refine Pl.MSP (b := true) (by kernel_rfl) (fun W oW => r_mv Hz rfl) Hz rfl rfl ?_
                clear Hz az; intro az Hz
                refine Pl.MSPT (b := true) (by kernel_rfl) Hz rfl rfl (fun W oW => r_mv Hz rfl) rfl rfl ?_
                clear Hz az; intro az Hz
                refine Pl.MSPT (b := true) (by kernel_rfl) Hz rfl rfl (fun W oW => r_neP Tryz.underlying33 Hz rfl rfl) rfl rfl ?_
                clear Hz az; intro az Hz
                refine Pl.MSP (b := true) (by kernel_rfl) (fun W oW => r_pick Hz rfl rfl rfl) Hz rfl rfl ?_
                clear Hz az; intro az Hz
                refine Pl.MSP (b := true) (by kernel_rfl) (fun W oW => r_mv Hz rfl) Hz rfl rfl ?_
                clear Hz az; intro az Hz
                refine Pl.MSPT (b := true) (by kernel_rfl) Hz rfl rfl (fun W oW => r_mv Hz rfl) rfl rfl ?_
                clear Hz az; intro az Hz
                refine Pl.MSPT (b := true) (by kernel_rfl) Hz rfl rfl (fun W oW => r_mv Hz rfl) rfl rfl ?_
                clear Hz az; intro az Hz
                refine Pl.MSPT (b := true) (by kernel_rfl) Hz rfl rfl (fun W oW => r_nilP Hz rfl) rfl rfl ?_
                clear Hz az; intro az Hz
                refine Pl.MSPT (b := true) (by kernel_rfl) Hz rfl rfl (fun W oW => r_fa (m' := 2) Tryz.underlying49 rfl Tryz.sizeOf46 rfl Hz rfl rfl) rfl rfl ?_
                clear Hz az; intro az Hz
                refine Pl.MSPT (b := true) (by kernel_rfl) Hz rfl rfl (fun W oW => r_ld Tryz.isAgg46 Hz rfl ((Blk.ca (Blk.k B352 oW)) 2 _ rfl)) rfl rfl ?_
                clear Hz az; intro az Hz
                have T359 : (BothT (JT b20 g333 (Dsk.arm D m82.n m82.l) J335) (KT c28 g334 (Dsk.arm D m82.n m82.l) J335)) w350 F325 := ((BothT.good (jt_good _ _ _ _) (kt_good _ _ _ _)).only h344 o351 (fun _ _ h => h))
                have okl358 := okB (jb_of T359)
                refine Pl.MSCT Hz rfl rfl rfl rfl rfl Tryz.call25 (all_b (jb_of T359) (Nat.le_trans (JI.ll hj336) (by decide))) rfl ?_
                rintro e w353 ⟨A354, c355, rfl, r356, o357⟩
                refine ⟨_, rfl, ⟨fun _ => o357, (Only.trans (Only.refl NoF w350) o357 (fun _ h => h.elim))⟩, ?_⟩
                clear Hz az; intro az Hz
                have h360 := SliceOf.pl (Row.own KStr r356 okl358)
                have O361 : Only NoF w324 w353 := (Only.trans' o351 o357)
                have h362 := (SliceOf.kp hR349 O361 (fun _ _ h => h) (fun _ _ _ _ h => h))
                refine Pl.MSGV (v := .bool (true)) Hz rfl rfl gd_t rfl rfl (fun hb => rfl) Tryz.call24 (fun hb => fix_eq (congrArg Value.bool (decide_eq_true rfl)) (SameTexts_v h360 h362)) rfl (fun w' o' => ⟨fun _ => (Only.trans' o357 o'), (Only.trans (Only.trans (Only.refl NoF w350) o357 (fun _ h => h.elim)) o' (fun _ h => h.elim))⟩) fun w363 o364 => ?_
                clear Hz az; intro az Hz
                refine Pl.MSPT (b := true) (by kernel_rfl) Hz rfl rfl (fun W oW => r_not Hz rfl) rfl rfl ?_
                clear Hz az; intro az Hz
                refine Pl.MSP (b := true) (by kernel_rfl) (fun W oW => r_pick Hz rfl rfl rfl) Hz rfl rfl ?_
                clear Hz az; intro az Hz
                refine wpPl_nil ?_
                refine hK345 _ _ ?_
                refine br_false Hz rfl ?_
                refine wp_skip ?_
                refine hK79 _ _ ?_
                -- law.go:70
                refine wp_region_lit ?_
                refine L (r_mv Hz rfl) Hz rfl ?_
                clear Hz az; intro az Hz
                have i365 : I64 (((i : Int) + 1)) := by unfold I64; omega
                refine L (r_addI (r := ((i : Int) + 1)) Hz rfl rfl rfl i365) Hz rfl ?_
                clear Hz az; intro az Hz
                refine L (r_as Hz rfl) Hz rfl ?_
                clear Hz az; intro az Hz
                have O366 : Only NoF w w363 := (Only.trans' (Only.trans' (Only.trans' (o_sg O323 o327 (Nat.le_refl _) (fun k h => hge321 k (.inl h))) o351) o357) o364)
                have O367 : Only NoF w350 w363 := (Only.trans' o357 o364)
                have T368 : (BothT (JT b20 g333 (Dsk.arm D m82.n m82.l) J335) (KT c28 g334 (Dsk.arm D m82.n m82.l) J335)) w363 F325 := ((BothT.good (jt_good _ _ _ _) (kt_good _ _ _ _)).only T359 O367 (fun _ _ h => h))
                exact ⟨_, (by omega), i + 1, (Dsk.arm D m82.n m82.l), (some (g333, g334, J335)), er, F325, rfl, Hz.cut ⟨rfl, rfl, rfl, rfl, rfl, rfl, rfl, rfl, rfl, trivial⟩, (by omega), (ji_some hj336), O366, T368, hge330⟩
            · -- else10
              have p369 := of_decide_eq_false hc309
              refine wp_seq_k fun K370 hK370 => ?_
              refine wp_seq_k fun K371 hK371 => ?_
              -- law.go:96
              refine wp_region_lit ?_
              refine L (r_eqI Hz rfl rfl) Hz rfl ?_
              clear Hz az; intro az Hz
              refine L (r_as Hz rfl) Hz rfl ?_
              clear Hz az; intro az Hz
              refine hK371 _ _ ?_
              refine br Hz rfl (fun hc372 => ?_) (fun hc372 => ?_)
              · -- if11
                have p373 := of_decide_eq_true hc372
                refine wp_skip ?_
                refine hK370 _ _ ?_
                refine br_true Hz (kb_ev rfl hc372) ?_
                refine wp_seq_k fun K374 hK374 => ?_
                refine wp_seq_k fun K375 hK375 => ?_
                -- law.go:97
                refine wp_region_lit ?_
                refine L (r_fa (m' := 0) Tryz.underlying38 rfl Tryz.sizeOf3 rfl Hz rfl rfl) Hz rfl ?_
                clear Hz az; intro az Hz
                refine L (r_ld Tryz.isAgg3 Hz rfl ((Blk.ca B108) 0 _ rfl)) Hz rfl ?_
                clear Hz az; intro az Hz
                refine L (r_eqI Hz rfl rfl) Hz rfl ?_
                clear Hz az; intro az Hz
                refine hK375 _ _ ?_
                refine br_true Hz (kb_ev rfl hc372) ?_
                refine wp_seq_k fun K376 hK376 => ?_
                -- law.go:98
                refine wp_region_lit ?_
                refine L (r_mv Hz rfl) Hz rfl ?_
                clear Hz az; intro az Hz
                refine L (r_fa (m' := 3) Tryz.underlying38 rfl Tryz.sizeOf36 rfl Hz rfl rfl) Hz rfl ?_
                clear Hz az; intro az Hz
                refine L (r_ld Tryz.isAgg36 Hz rfl ((Blk.ca B108) 3 _ rfl)) Hz rfl ?_
                clear Hz az; intro az Hz
                have O377 : Only NoF w94 w104 := (Only.trans' (Only.trans' o100 o103) o105)
                have T378 : (BothT (JO b20 D (oo.map p1)) (KO c28 D (oo.map p2))) w104 F := ((BothT.good (jo_good _ _ _) (ko_good _ _ _)).only ((BothT.good (jo_good _ _ _) (ko_good _ _ _)).only ((BothT.good (jo_good _ _ _) (ko_good _ _ _)).only hT o90 (fun _ _ h => h)) s95 (fun k hk (e : k = g88) => (fun h => absurd ((BothT.good (jo_good _ _ _) (ko_good _ _ _)).lt hT _ h) (Nat.not_lt.2 (Nat.le_trans (Nat.le_refl _) hg92))) (by rw [← e]; exact hk))) O377 (fun _ _ h => h))
                have O379 : Only NoF w w104 := (Only.trans' (Only.trans' (Only.trans' (o_sg (Only.trans' o73 o90) s95 (size_only o73) (oneF_ge hg92)) o100) o103) o105)
                refine LC Hz rfl rfl Tryz.call20 (l_crash (ko_good _ _ _) T378 ok84.2.2.2 O379 (by have := (hfo.2 _ (List.mem_of_getElem? hm83)).2; omega) (fun k hk => Nat.le_trans (Nat.le_refl _) (hgeT k (.inl hk)))) rfl ?_
                rintro e w380 ⟨rfl, F381, h382, o383, fm384, fr385⟩; refine ⟨_, rfl, ?_⟩
                have hge386 := ge_next hgeT (size_only O379) fm384 fr385
                clear Hz az; intro az Hz
                refine hK376 _ _ ?_
                -- law.go:99
                refine wp_region_lit ?_
                refine L (r_mv Hz rfl) Hz rfl ?_
                clear Hz az; intro az Hz
                refine L (r_fa (m' := 3) Tryz.underlying38 rfl Tryz.sizeOf36 rfl Hz rfl rfl) Hz rfl ?_
                clear Hz az; intro az Hz
                have B387 := (Blk.only B108 o383 (fun h => (fun h => absurd ((BothT.good (jo_good _ _ _) (ko_good _ _ _)).lt hT _ h) (Nat.not_lt.2 (Nat.le_trans (Nat.le_refl _) hg92))) (.inl h)))
                refine L (r_ld Tryz.isAgg36 Hz rfl ((Blk.ca B387) 3 _ rfl)) Hz rfl ?_
                clear Hz az; intro az Hz
                have O388 : Only NoF w w380 := (o_sg O379 o383 (Nat.le_refl _) (fun k h => hgeT k (.inl h)))
                refine LC Hz rfl rfl Tryz.call21 (r_crash (jo_good _ _ _) h382 ok84.2.2.2 O388 (by have := (hfo.2 _ (List.mem_of_getElem? hm83)).2; omega) (fun k hk => Nat.le_trans (Nat.le_refl _) (hge386 k (.inl hk)))) rfl ?_
                rintro e w389 ⟨rfl, F390, h391, o392, fm393, fr394⟩; refine ⟨_, rfl, ?_⟩
                have hge395 := ge_next hge386 (size_only O388) fm393 fr394
                clear Hz az; intro az Hz
                refine hK374 _ _ ?_
                refine wp_seq_k fun K396 hK396 => ?_
                -- law.go:101
                refine wp_region_lit ?_
                refine L (r_mv Hz rfl) Hz rfl ?_
                clear Hz az; intro az Hz
                refine LC Hz rfl rfl Tryz.call22 (l_start (ko_good _ _ _) h391) rfl ?_
                rintro e w397 ⟨rfl, F398, h399, o400, fm401, fr402⟩; refine ⟨_, rfl, ?_⟩
                have O403 : Only NoF w w389 := (o_sg O388 o392 (Nat.le_refl _) (fun k h => hge386 k (.inl h)))
                have hge404 := ge_next hge395 (size_only O403) fm401 fr402
                clear Hz az; intro az Hz
                refine hK396 _ _ ?_
                refine wp_seq_k fun K405 hK405 => ?_
                -- law.go:102
                refine wp_region_lit ?_
                refine L (r_mv Hz rfl) Hz rfl ?_
                clear Hz az; intro az Hz
                refine LC Hz rfl rfl Tryz.call23 (r_start (jo_good _ _ _) h399) rfl ?_
                rintro e w406 ⟨rfl, F407, h408, o409, fm410, fr411⟩; refine ⟨_, rfl, ?_⟩
                have O412 : Only NoF w w397 := (o_sg O403 o400 (Nat.le_refl _) (fun k h => hge395 k (.inl h)))
                have hge413 := ge_next hge404 (size_only O412) fm410 fr411
                clear Hz az; intro az Hz
                refine hK405 _ _ ?_
                refine wp_seq_k fun K414 hK414 => ?_
                -- law.go:103
                refine wp_region_lit ?_
                refine L (r_mv Hz rfl) Hz rfl ?_
                clear Hz az; intro az Hz
                have hOk423 := (BothT.r h408).elim fun _ q => (ko_ref q).elim fun _ q => refok q
                have O425 : Only NoF w w406 := (o_sg O412 o409 (Nat.le_refl _) (fun k h => hge404 k (.inl h)))
                have G424 := Gr.k hG O425
                refine LC Hz rfl rfl Tryz.call8 (l_open (ko_good _ _ _) G424 h408 (fun k hk => Nat.le_trans (Nat.le_trans hG.1 (Nat.le_refl _)) (hge413 k (.inl hk)))) rfl ?_
                rintro e w416 ⟨oj415, hm418, rfl, F417, h419, o420, fm421, fr422⟩; refine ⟨_, rfl, ?_⟩
                have hge426 := ge_next hge413 (size_only O425) fm421 fr422
                clear Hz az; intro az Hz
                refine L (r_mv Hz rfl) Hz rfl ?_
                clear Hz az; intro az Hz
                refine L (r_ex Hz rfl rfl) Hz rfl ?_
                clear Hz az; intro az Hz
                refine L (r_ex Hz rfl rfl) Hz rfl ?_
                clear Hz az; intro az Hz
                refine L (r_as Hz rfl) Hz rfl ?_
                clear Hz az; intro az Hz
                refine L (r_as Hz rfl) Hz rfl ?_
                clear Hz az; intro az Hz
                refine hK414 _ _ ?_
                -- law.go:104
                refine wp_region_lit ?_
                refine L (r_mv Hz rfl) Hz rfl ?_
                clear Hz az; intro az Hz
                refine LC Hz rfl rfl Tryz.call9 (r_open (jo_good _ _ _) h419) rfl ?_
                rintro e w428 ⟨ok427, hm430, rfl, F429, h431, o432, fm433, fr434⟩; refine ⟨_, rfl, ?_⟩
                obtain ⟨oo435, e436, e437⟩ := oo_join (hm418.trans hm430.symm); subst e436 e437
                have hji438 : ∀ x, oo435 = some x → JI x.2.2 := fun x e => ji_open hOk423 (hm418.symm.trans (by rw [e]; rfl))
                have O439 : Only NoF w w416 := (o_sg O425 o420 (Nat.le_refl _) (fun k h => hge413 k (.inl h)))
                have hge440 := ge_next hge426 (size_only O439) fm433 fr434
                clear Hz az; intro az Hz
                refine L (r_mv Hz rfl) Hz rfl ?_
                clear Hz az; intro az Hz
                refine L (r_ex Hz rfl rfl) Hz rfl ?_
                clear Hz az; intro az Hz
                refine L (r_ex Hz rfl rfl) Hz rfl ?_
                clear Hz az; intro az Hz
                refine L (r_as Hz rfl) Hz rfl ?_
                clear Hz az; intro az Hz
                refine L (r_as Hz rfl) Hz rfl ?_
                clear Hz az; intro az Hz
                refine hK106 _ _ ?_
                refine wp_seq_k fun K441 hK441 => ?_
                refine wp_seq_k fun K442 hK442 => ?_
                -- law.go:106
                refine wp_region_lit ?_
                refine L (r_mv Hz rfl) Hz rfl ?_
                clear Hz az; intro az Hz
                refine L (r_mv Hz rfl) Hz rfl ?_
                clear Hz az; intro az Hz
                refine L (r_neRI Hz rfl rfl) Hz rfl ?_
                clear Hz az; intro az Hz
                refine L (r_mv Hz rfl) Hz rfl ?_
                clear Hz az; intro az Hz
                refine LT Hz rfl rfl (r_mv Hz rfl) rfl ?_
                clear Hz az; intro az Hz
                refine LT Hz rfl rfl (r_eqO1 Tryz.underlying29 Hz rfl rfl) rfl ?_
                clear Hz az; intro az Hz
                refine LT Hz rfl rfl (r_mv Hz rfl) rfl ?_
                clear Hz az; intro az Hz
                refine LT Hz rfl rfl (r_eqO2 Tryz.underlying33 Hz rfl rfl) rfl ?_
                clear Hz az; intro az Hz
                refine LT Hz rfl rfl (r_neBs Tryz.underlying4 Hz rfl rfl) rfl ?_
                clear Hz az; intro az Hz
                refine L (r_pick Hz rfl rfl rfl) Hz rfl ?_
                clear Hz az; intro az Hz
                rcases oo435 with _ | ⟨g443, g444, J445⟩
                · -- a case
                  have h447 : (BothT (JO b20 ((openJ (Dsk.start (Dsk.crash D m82.l)) 3).1) none) (KO c28 ((openJ (Dsk.start (Dsk.crash D m82.l)) 3).1) none)) w428 F429 := h431
                  refine hK442 _ _ ?_
                  refine br_false Hz rfl ?_
                  refine wp_skip ?_
                  refine hK441 _ _ ?_
                  refine wp_seq_k fun K448 hK448 => ?_
                  -- law.go:109
                  refine reg_p NoF 2 [8, 13] (.rd 0 (.rd 1 (.rd 2 (.rd 3 (.rd 4 (.rd 5 (.rd 6 (.rd 7 (.rd 9 (.rd 10 (.rd 11 (.rd 12 (.ex 8 (.ex 13 (.rd 14 (.rd 15 .nil)))))))))))))))) (by kernel_rfl) (by kernel_rfl) (fun _ _ _ _ _ h => h) fun w449 o450 => ?_
                  refine Pl.MSP (b := true) (by kernel_rfl) (fun W oW => r_mv Hz rfl) Hz rfl rfl ?_
                  clear Hz az; intro az Hz
                  refine Pl.MSP (b := true) (by kernel_rfl) (fun W oW => r_neNN Tryz.underlying29 Hz rfl rfl) Hz rfl rfl ?_
                  clear Hz az; intro az Hz
                  refine Pl.MSP (b := true) (by kernel_rfl) (fun W oW => r_mv Hz rfl) Hz rfl rfl ?_
                  clear Hz az; intro az Hz
                  refine Pl.MSPF Hz rfl rfl (by exact rfl) rfl rfl ?_
                  clear Hz az; intro az Hz
                  refine Pl.MSPF Hz rfl rfl (by exact rfl) rfl rfl ?_
                  clear Hz az; intro az Hz
                  refine Pl.MSP (b := true) (by kernel_rfl) (fun W oW => r_pick Hz rfl rfl rfl) Hz rfl rfl ?_
                  clear Hz az; intro az Hz
                  refine Pl.MSP (b := true) (by kernel_rfl) (fun W oW => r_mv Hz rfl) Hz rfl rfl ?_
                  clear Hz az; intro az Hz
                  refine Pl.MSPF Hz rfl rfl (by exact rfl) rfl rfl ?_
                  clear Hz az; intro az Hz
                  refine Pl.MSPF Hz rfl rfl (by exact rfl) rfl rfl ?_
                  clear Hz az; intro az Hz
                  refine Pl.MSPF Hz rfl rfl (by exact rfl) rfl rfl ?_
                  clear Hz az; intro az Hz
                  refine Pl.MSPF Hz rfl rfl (by exact rfl) rfl rfl ?_
                  clear Hz az; intro az Hz
                  refine Pl.MSPF Hz rfl rfl (by exact rfl) rfl rfl ?_
                  clear Hz az; intro az Hz
                  refine Pl.MXF Hz rfl rfl (by exact rfl) rfl rfl ⟨fun _ => (Only.refl _ _), (Only.refl NoF w449)⟩ ?_
                  clear Hz az; intro az Hz
                  refine Pl.MXF Hz rfl rfl (by exact rfl) rfl rfl ⟨fun _ => (Only.refl _ _), (Only.refl NoF w449)⟩ ?_
                  clear Hz az; intro az Hz
                  refine Pl.MSPF Hz rfl rfl (by exact rfl) rfl rfl ?_
                  clear Hz az; intro az Hz
                  refine Pl.MSP (b := true) (by kernel_rfl) (fun W oW => r_pick Hz rfl rfl rfl) Hz rfl rfl ?_
                  clear Hz az; intro az Hz
                  refine wpPl_nil ?_
                  refine hK448 _ _ ?_
                  refine br_false Hz rfl ?_
                  refine wp_skip ?_
                  refine hK79 _ _ ?_
                  -- law.go:70
                  refine wp_region_lit ?_
                  refine L (r_mv Hz rfl) Hz rfl ?_
                  clear Hz az; intro az Hz
                  have i451 : I64 (((i : Int) + 1)) := by unfold I64; omega
                  refine L (r_addI (r := ((i : Int) + 1)) Hz rfl rfl rfl i451) Hz rfl ?_
                  clear Hz az; intro az Hz
                  refine L (r_as Hz rfl) Hz rfl ?_
                  clear Hz az; intro az Hz
                  have O452 : Only NoF w w449 := (Only.trans' (o_sg O439 o432 (Nat.le_refl _) (fun k h => hge426 k (.inl h))) o450)
                  have T453 : (BothT (JO b20 ((openJ (Dsk.start (Dsk.crash D m82.l)) 3).1) none) (KO c28 ((openJ (Dsk.start (Dsk.crash D m82.l)) 3).1) none)) w449 F429 := ((BothT.good (jo_good _ _ _) (ko_good _ _ _)).only h447 o450 (fun _ _ h => h))
                  exact ⟨_, (by omega), i + 1, (openJ (Dsk.start (Dsk.crash D m82.l)) 3).1, none, (openJ (Dsk.start (Dsk.crash D m82.l)) 3).2.1, F429, rfl, Hz.cut ⟨rfl, rfl, rfl, rfl, rfl, rfl, rfl, rfl, rfl, trivial⟩, (by omega), ji_none, O452, T453, hge440⟩
                · -- a case
                  have h454 : (BothT (JT b20 g443 ((openJ (Dsk.start (Dsk.crash D m82.l)) 3).1) J445) (KT c28 g444 ((openJ (Dsk.start (Dsk.crash D m82.l)) 3).1) J445)) w428 F429 := h431
                  have hj446 : JI J445 := hji438 _ rfl
                  refine hK442 _ _ ?_
                  refine br_false Hz rfl ?_
                  refine wp_skip ?_
                  refine hK441 _ _ ?_
                  refine wp_seq_k fun K455 hK455 => ?_
                  obtain ⟨A456, c457, hB458, hR459⟩ := kb_open h454
                  -- law.go:109
                  refine reg_p NoF 2 [8, 13] (.rd 0 (.rd 1 (.rd 2 (.rd 3 (.rd 4 (.rd 5 (.rd 6 (.rd 7 (.rd 9 (.rd 10 (.rd 11 (.rd 12 (.ex 8 (.ex 13 (.rd 14 (.rd 15 .nil)))))))))))))))) (by kernel_rfl) (by kernel_rfl) (fun _ _ _ _ _ h => h) fun w460 o461 => ?_
                  have B462 := (Blk.k hB458 o461)
                  refine Pl.MSP (b := true) (by kernel_rfl) (fun W oW => r_mv Hz rfl) Hz rfl rfl ?_
                  clear Hz az; intro az Hz
                  refine Pl.MSP (b := true) (by kernel_rfl) (fun W oW => r_neP Tryz.underlying29 Hz rfl rfl) Hz rfl rfl ?_
                  clear Hz az; intro az Hz
                  refine Pl.MSP (b := true) (by kernel_rfl) (fun W oW => r_mv Hz rfl) Hz rfl rfl ?_
                  clear Hz az; intro az Hz
                  refine Pl.MSPT (b := true) (by kernel_rfl) Hz rfl rfl (fun W oW => r_mv Hz rfl) rfl rfl ?_
                  clear Hz az; intro az Hz
                  refine Pl.MSPT (b := true) (by kernel_rfl) Hz rfl rfl (fun W oW => r_neP Tryz.underlying33 Hz rfl rfl) rfl rfl ?_
                  clear Hz az; intro az Hz
                  refine Pl.MSP (b := true) (by kernel_rfl) (fun W oW => r_pick Hz rfl rfl rfl) Hz rfl rfl ?_
                  clear Hz az; intro az Hz
                  refine Pl.MSP (b := true) (by kernel_rfl) (fun W oW => r_mv Hz rfl) Hz rfl rfl ?_
                  clear Hz az; intro az Hz
                  refine Pl.MSPT (b := true) (by kernel_rfl) Hz rfl rfl (fun W oW => r_mv Hz rfl) rfl rfl ?_
                  clear Hz az; intro az Hz
                  refine Pl.MSPT (b := true) (by kernel_rfl) Hz rfl rfl (fun W oW => r_mv Hz rfl) rfl rfl ?_
                  clear Hz az; intro az Hz
                  refine Pl.MSPT (b := true) (by kernel_rfl) Hz rfl rfl (fun W oW => r_nilP Hz rfl) rfl rfl ?_
                  clear Hz az; intro az Hz
                  refine Pl.MSPT (b := true) (by kernel_rfl) Hz rfl rfl (fun W oW => r_fa (m' := 2) Tryz.underlying49 rfl Tryz.sizeOf46 rfl Hz rfl rfl) rfl rfl ?_
                  clear Hz az; intro az Hz
                  refine Pl.MSPT (b := true) (by kernel_rfl) Hz rfl rfl (fun W oW => r_ld Tryz.isAgg46 Hz rfl ((Blk.ca (Blk.k B462 oW)) 2 _ rfl)) rfl rfl ?_
                  clear Hz az; intro az Hz
                  have T469 : (BothT (JT b20 g443 ((openJ (Dsk.start (Dsk.crash D m82.l)) 3).1) J445) (KT c28 g444 ((openJ (Dsk.start (Dsk.crash D m82.l)) 3).1) J445)) w460 F429 := ((BothT.good (jt_good _ _ _ _) (kt_good _ _ _ _)).only h454 o461 (fun _ _ h => h))
                  have okl468 := okB (jb_of T469)
                  refine Pl.MSCT Hz rfl rfl rfl rfl rfl Tryz.call25 (all_b (jb_of T469) (Nat.le_trans (JI.ll hj446) (by decide))) rfl ?_
                  rintro e w463 ⟨A464, c465, rfl, r466, o467⟩
                  refine ⟨_, rfl, ⟨fun _ => o467, (Only.trans (Only.refl NoF w460) o467 (fun _ h => h.elim))⟩, ?_⟩
                  clear Hz az; intro az Hz
                  have h470 := SliceOf.pl (Row.own KStr r466 okl468)
                  have O471 : Only NoF w428 w463 := (Only.trans' o461 o467)
                  have h472 := (SliceOf.kp hR459 O471 (fun _ _ h => h) (fun _ _ _ _ h => h))
                  refine Pl.MSGV (v := .bool (true)) Hz rfl rfl gd_t rfl rfl (fun hb => rfl) Tryz.call24 (fun hb => fix_eq (congrArg Value.bool (decide_eq_true rfl)) (SameTexts_v h470 h472)) rfl (fun w' o' => ⟨fun _ => (Only.trans' o467 o'), (Only.trans (Only.trans (Only.refl NoF w460) o467 (fun _ h => h.elim)) o' (fun _ h => h.elim))⟩) fun w473 o474 => ?_
                  clear Hz az; intro az Hz
                  refine Pl.MSPT (b := true) (by kernel_rfl) Hz rfl rfl (fun W oW => r_not Hz rfl) rfl rfl ?_
                  clear Hz az; intro az Hz
                  refine Pl.MSP (b := true) (by kernel_rfl) (fun W oW => r_pick Hz rfl rfl rfl) Hz rfl rfl ?_
                  clear Hz az; intro az Hz
                  refine wpPl_nil ?_
                  refine hK455 _ _ ?_
                  refine br_false Hz rfl ?_
                  refine wp_skip ?_
                  refine hK79 _ _ ?_
                  -- law.go:70
                  refine wp_region_lit ?_
                  refine L (r_mv Hz rfl) Hz rfl ?_
                  clear Hz az; intro az Hz
                  have i475 : I64 (((i : Int) + 1)) := by unfold I64; omega
                  refine L (r_addI (r := ((i : Int) + 1)) Hz rfl rfl rfl i475) Hz rfl ?_
                  clear Hz az; intro az Hz
                  refine L (r_as Hz rfl) Hz rfl ?_
                  clear Hz az; intro az Hz
                  have O476 : Only NoF w w473 := (Only.trans' (Only.trans' (Only.trans' (o_sg O439 o432 (Nat.le_refl _) (fun k h => hge426 k (.inl h))) o461) o467) o474)
                  have O477 : Only NoF w460 w473 := (Only.trans' o467 o474)
                  have T478 : (BothT (JT b20 g443 ((openJ (Dsk.start (Dsk.crash D m82.l)) 3).1) J445) (KT c28 g444 ((openJ (Dsk.start (Dsk.crash D m82.l)) 3).1) J445)) w473 F429 := ((BothT.good (jt_good _ _ _ _) (kt_good _ _ _ _)).only T469 O477 (fun _ _ h => h))
                  exact ⟨_, (by omega), i + 1, (openJ (Dsk.start (Dsk.crash D m82.l)) 3).1, (some (g443, g444, J445)), (openJ (Dsk.start (Dsk.crash D m82.l)) 3).2.1, F429, rfl, Hz.cut ⟨rfl, rfl, rfl, rfl, rfl, rfl, rfl, rfl, rfl, trivial⟩, (by omega), (ji_some hj446), O476, T478, hge440⟩
              · -- else11
                have p479 := of_decide_eq_false hc372
                -- law.go:96
                refine wp_region_lit ?_
                refine L (r_eqI Hz rfl rfl) Hz rfl ?_
                clear Hz az; intro az Hz
                refine L (r_as Hz rfl) Hz rfl ?_
                clear Hz az; intro az Hz
                refine hK370 _ _ ?_
                refine br Hz rfl (fun hc480 => ?_) (fun hc480 => ?_)
                · -- if12
                  have p481 := of_decide_eq_true hc480
                  refine wp_seq_k fun K482 hK482 => ?_
                  refine wp_seq_k fun K483 hK483 => ?_
                  -- law.go:97
                  refine wp_region_lit ?_
                  refine L (r_fa (m' := 0) Tryz.underlying38 rfl Tryz.sizeOf3 rfl Hz rfl rfl) Hz rfl ?_
                  clear Hz az; intro az Hz
                  refine L (r_ld Tryz.isAgg3 Hz rfl ((Blk.ca B108) 0 _ rfl)) Hz rfl ?_
                  clear Hz az; intro az Hz
                  refine L (r_eqI Hz rfl rfl) Hz rfl ?_
                  clear Hz az; intro az Hz
                  refine hK483 _ _ ?_
                  refine br_false Hz (kb_ev rfl hc372) ?_
                  refine wp_skip ?_
                  refine hK482 _ _ ?_
                  refine wp_seq_k fun K484 hK484 => ?_
                  -- law.go:101
                  refine wp_region_lit ?_
                  refine L (r_mv Hz rfl) Hz rfl ?_
                  clear Hz az; intro az Hz
                  have O485 : Only NoF w94 w104 := (Only.trans' (Only.trans' o100 o103) o105)
                  have T486 : (BothT (JO b20 D (oo.map p1)) (KO c28 D (oo.map p2))) w104 F := ((BothT.good (jo_good _ _ _) (ko_good _ _ _)).only ((BothT.good (jo_good _ _ _) (ko_good _ _ _)).only ((BothT.good (jo_good _ _ _) (ko_good _ _ _)).only hT o90 (fun _ _ h => h)) s95 (fun k hk (e : k = g88) => (fun h => absurd ((BothT.good (jo_good _ _ _) (ko_good _ _ _)).lt hT _ h) (Nat.not_lt.2 (Nat.le_trans (Nat.le_refl _) hg92))) (by rw [← e]; exact hk))) O485 (fun _ _ h => h))
                  refine LC Hz rfl rfl Tryz.call22 (l_start (ko_good _ _ _) T486) rfl ?_
                  rintro e w487 ⟨rfl, F488, h489, o490, fm491, fr492⟩; refine ⟨_, rfl, ?_⟩
                  have O493 : Only NoF w w104 := (Only.trans' (Only.trans' (Only.trans' (o_sg (Only.trans' o73 o90) s95 (size_only o73) (oneF_ge hg92)) o100) o103) o105)
                  have hge494 := ge_next hgeT (size_only O493) fm491 fr492
                  clear Hz az; intro az Hz
                  refine hK484 _ _ ?_
                  refine wp_seq_k fun K495 hK495 => ?_
                  -- law.go:102
                  refine wp_region_lit ?_
                  refine L (r_mv Hz rfl) Hz rfl ?_
                  clear Hz az; intro az Hz
                  refine LC Hz rfl rfl Tryz.call23 (r_start (jo_good _ _ _) h489) rfl ?_
                  rintro e w496 ⟨rfl, F497, h498, o499, fm500, fr501⟩; refine ⟨_, rfl, ?_⟩
                  have O502 : Only NoF w w487 := (o_sg O493 o490 (Nat.le_refl _) (fun k h => hgeT k (.inl h)))
                  have hge503 := ge_next hge494 (size_only O502) fm500 fr501
                  clear Hz az; intro az Hz
                  refine hK495 _ _ ?_
                  refine wp_seq_k fun K504 hK504 => ?_
                  -- law.go:103
                  refine wp_region_lit ?_
                  refine L (r_mv Hz rfl) Hz rfl ?_
                  clear Hz az; intro az Hz
                  have hOk513 := (BothT.r h498).elim fun _ q => (ko_ref q).elim fun _ q => refok q
                  have O515 : Only NoF w w496 := (o_sg O502 o499 (Nat.le_refl _) (fun k h => hge494 k (.inl h)))
                  have G514 := Gr.k hG O515
                  refine LC Hz rfl rfl Tryz.call8 (l_open (ko_good _ _ _) G514 h498 (fun k hk => Nat.le_trans (Nat.le_trans hG.1 (Nat.le_refl _)) (hge503 k (.inl hk)))) rfl ?_
                  rintro e w506 ⟨oj505, hm508, rfl, F507, h509, o510, fm511, fr512⟩; refine ⟨_, rfl, ?_⟩
                  have hge516 := ge_next hge503 (size_only O515) fm511 fr512
                  clear Hz az; intro az Hz
                  refine L (r_mv Hz rfl) Hz rfl ?_
                  clear Hz az; intro az Hz
                  refine L (r_ex Hz rfl rfl) Hz rfl ?_
                  clear Hz az; intro az Hz
                  refine L (r_ex Hz rfl rfl) Hz rfl ?_
                  clear Hz az; intro az Hz
                  refine L (r_as Hz rfl) Hz rfl ?_
                  clear Hz az; intro az Hz
                  refine L (r_as Hz rfl) Hz rfl ?_
                  clear Hz az; intro az Hz
                  refine hK504 _ _ ?_
                  -- law.go:104
                  refine wp_region_lit ?_
                  refine L (r_mv Hz rfl) Hz rfl ?_
                  clear Hz az; intro az Hz
                  refine LC Hz rfl rfl Tryz.call9 (r_open (jo_good _ _ _) h509) rfl ?_
                  rintro e w518 ⟨ok517, hm520, rfl, F519, h521, o522, fm523, fr524⟩; refine ⟨_, rfl, ?_⟩
                  obtain ⟨oo525, e526, e527⟩ := oo_join (hm508.trans hm520.symm); subst e526 e527
                  have hji528 : ∀ x, oo525 = some x → JI x.2.2 := fun x e => ji_open hOk513 (hm508.symm.trans (by rw [e]; rfl))
                  have O529 : Only NoF w w506 := (o_sg O515 o510 (Nat.le_refl _) (fun k h => hge503 k (.inl h)))
                  have hge530 := ge_next hge516 (size_only O529) fm523 fr524
                  clear Hz az; intro az Hz
                  refine L (r_mv Hz rfl) Hz rfl ?_
                  clear Hz az; intro az Hz
                  refine L (r_ex Hz rfl rfl) Hz rfl ?_
                  clear Hz az; intro az Hz
                  refine L (r_ex Hz rfl rfl) Hz rfl ?_
                  clear Hz az; intro az Hz
                  refine L (r_as Hz rfl) Hz rfl ?_
                  clear Hz az; intro az Hz
                  refine L (r_as Hz rfl) Hz rfl ?_
                  clear Hz az; intro az Hz
                  refine hK106 _ _ ?_
                  refine wp_seq_k fun K531 hK531 => ?_
                  refine wp_seq_k fun K532 hK532 => ?_
                  -- law.go:106
                  refine wp_region_lit ?_
                  refine L (r_mv Hz rfl) Hz rfl ?_
                  clear Hz az; intro az Hz
                  refine L (r_mv Hz rfl) Hz rfl ?_
                  clear Hz az; intro az Hz
                  refine L (r_neRI Hz rfl rfl) Hz rfl ?_
                  clear Hz az; intro az Hz
                  refine L (r_mv Hz rfl) Hz rfl ?_
                  clear Hz az; intro az Hz
                  refine LT Hz rfl rfl (r_mv Hz rfl) rfl ?_
                  clear Hz az; intro az Hz
                  refine LT Hz rfl rfl (r_eqO1 Tryz.underlying29 Hz rfl rfl) rfl ?_
                  clear Hz az; intro az Hz
                  refine LT Hz rfl rfl (r_mv Hz rfl) rfl ?_
                  clear Hz az; intro az Hz
                  refine LT Hz rfl rfl (r_eqO2 Tryz.underlying33 Hz rfl rfl) rfl ?_
                  clear Hz az; intro az Hz
                  refine LT Hz rfl rfl (r_neBs Tryz.underlying4 Hz rfl rfl) rfl ?_
                  clear Hz az; intro az Hz
                  refine L (r_pick Hz rfl rfl rfl) Hz rfl ?_
                  clear Hz az; intro az Hz
                  rcases oo525 with _ | ⟨g533, g534, J535⟩
                  · -- a case
                    have h537 : (BothT (JO b20 ((openJ (Dsk.start D) 3).1) none) (KO c28 ((openJ (Dsk.start D) 3).1) none)) w518 F519 := h521
                    refine hK532 _ _ ?_
                    refine br_false Hz rfl ?_
                    refine wp_skip ?_
                    refine hK531 _ _ ?_
                    refine wp_seq_k fun K538 hK538 => ?_
                    -- law.go:109
                    refine reg_p NoF 2 [8, 13] (.rd 0 (.rd 1 (.rd 2 (.rd 3 (.rd 4 (.rd 5 (.rd 6 (.rd 7 (.rd 9 (.rd 10 (.rd 11 (.rd 12 (.ex 8 (.ex 13 (.rd 14 (.rd 15 .nil)))))))))))))))) (by kernel_rfl) (by kernel_rfl) (fun _ _ _ _ _ h => h) fun w539 o540 => ?_
                    refine Pl.MSP (b := true) (by kernel_rfl) (fun W oW => r_mv Hz rfl) Hz rfl rfl ?_
                    clear Hz az; intro az Hz
                    refine Pl.MSP (b := true) (by kernel_rfl) (fun W oW => r_neNN Tryz.underlying29 Hz rfl rfl) Hz rfl rfl ?_
                    clear Hz az; intro az Hz
                    refine Pl.MSP (b := true) (by kernel_rfl) (fun W oW => r_mv Hz rfl) Hz rfl rfl ?_
                    clear Hz az; intro az Hz
                    refine Pl.MSPF Hz rfl rfl (by exact rfl) rfl rfl ?_
                    clear Hz az; intro az Hz
                    refine Pl.MSPF Hz rfl rfl (by exact rfl) rfl rfl ?_
                    clear Hz az; intro az Hz
                    refine Pl.MSP (b := true) (by kernel_rfl) (fun W oW => r_pick Hz rfl rfl rfl) Hz rfl rfl ?_
                    clear Hz az; intro az Hz
                    refine Pl.MSP (b := true) (by kernel_rfl) (fun W oW => r_mv Hz rfl) Hz rfl rfl ?_
                    clear Hz az; intro az Hz
                    refine Pl.MSPF Hz rfl rfl (by exact rfl) rfl rfl ?_
                    clear Hz az; intro az Hz
                    refine Pl.MSPF Hz rfl rfl (by exact rfl) rfl rfl ?_
                    clear Hz az; intro az Hz
                    refine Pl.MSPF Hz rfl rfl (by exact rfl) rfl rfl ?_
                    clear Hz az; intro az Hz
                    refine Pl.MSPF Hz rfl rfl (by exact rfl) rfl rfl ?_
                    clear Hz az; intro az Hz
                    refine Pl.MSPF Hz rfl rfl (by exact rfl) rfl rfl ?_
                    clear Hz az; intro az Hz
                    refine Pl.MXF Hz rfl rfl (by exact rfl) rfl rfl ⟨fun _ => (Only.refl _ _), (Only.refl NoF w539)⟩ ?_
                    clear Hz az; intro az Hz
                    refine Pl.MXF Hz rfl rfl (by exact rfl) rfl rfl ⟨fun _ => (Only.refl _ _), (Only.refl NoF w539)⟩ ?_
                    clear Hz az; intro az Hz
                    refine Pl.MSPF Hz rfl rfl (by exact rfl) rfl rfl ?_
                    clear Hz az; intro az Hz
                    refine Pl.MSP (b := true) (by kernel_rfl) (fun W oW => r_pick Hz rfl rfl rfl) Hz rfl rfl ?_
                    clear Hz az; intro az Hz
                    refine wpPl_nil ?_
                    refine hK538 _ _ ?_
                    refine br_false Hz rfl ?_
                    refine wp_skip ?_
                    refine hK79 _ _ ?_
                    -- law.go:70
                    refine wp_region_lit ?_
                    refine L (r_mv Hz rfl) Hz rfl ?_
                    clear Hz az; intro az Hz
                    have i541 : I64 (((i : Int) + 1)) := by unfold I64; omega
                    refine L (r_addI (r := ((i : Int) + 1)) Hz rfl rfl rfl i541) Hz rfl ?_
                    clear Hz az; intro az Hz
                    refine L (r_as Hz rfl) Hz rfl ?_
                    clear Hz az; intro az Hz
                    have O542 : Only NoF w w539 := (Only.trans' (o_sg O529 o522 (Nat.le_refl _) (fun k h => hge516 k (.inl h))) o540)
                    have T543 : (BothT (JO b20 ((openJ (Dsk.start D) 3).1) none) (KO c28 ((openJ (Dsk.start D) 3).1) none)) w539 F519 := ((BothT.good (jo_good _ _ _) (ko_good _ _ _)).only h537 o540 (fun _ _ h => h))
                    exact ⟨_, (by omega), i + 1, (openJ (Dsk.start D) 3).1, none, (openJ (Dsk.start D) 3).2.1, F519, rfl, Hz.cut ⟨rfl, rfl, rfl, rfl, rfl, rfl, rfl, rfl, rfl, trivial⟩, (by omega), ji_none, O542, T543, hge530⟩
                  · -- a case
                    have h544 : (BothT (JT b20 g533 ((openJ (Dsk.start D) 3).1) J535) (KT c28 g534 ((openJ (Dsk.start D) 3).1) J535)) w518 F519 := h521
                    have hj536 : JI J535 := hji528 _ rfl
                    refine hK532 _ _ ?_
                    refine br_false Hz rfl ?_
                    refine wp_skip ?_
                    refine hK531 _ _ ?_
                    refine wp_seq_k fun K545 hK545 => ?_
                    obtain ⟨A546, c547, hB548, hR549⟩ := kb_open h544
                    -- law.go:109
                    refine reg_p NoF 2 [8, 13] (.rd 0 (.rd 1 (.rd 2 (.rd 3 (.rd 4 (.rd 5 (.rd 6 (.rd 7 (.rd 9 (.rd 10 (.rd 11 (.rd 12 (.ex 8 (.ex 13 (.rd 14 (.rd 15 .nil)))))))))))))))) (by kernel_rfl) (by kernel_rfl) (fun _ _ _ _ _ h => h) fun w550 o551 => ?_
                    have B552 := (Blk.k hB548 o551)
                    refine Pl.MSP (b := true) (by kernel_rfl) (fun W oW => r_mv Hz rfl) Hz rfl rfl ?_
                    clear Hz az; intro az Hz
                    refine Pl.MSP (b := true) (by kernel_rfl) (fun W oW => r_neP Tryz.underlying29 Hz rfl rfl) Hz rfl rfl ?_
                    clear Hz az; intro az Hz
                    refine Pl.MSP (b := true) (by kernel_rfl) (fun W oW => r_mv Hz rfl) Hz rfl rfl ?_
                    clear Hz az; intro az Hz
                    refine Pl.MSPT (b := true) (by kernel_rfl) Hz rfl rfl (fun W oW => r_mv Hz rfl) rfl rfl ?_
                    clear Hz az; intro az Hz
                    refine Pl.MSPT (b := true) (by kernel_rfl) Hz rfl rfl (fun W oW => r_neP Tryz.underlying33 Hz rfl rfl) rfl rfl ?_
                    clear Hz az; intro az Hz
                    refine Pl.MSP (b := true) (by kernel_rfl) (fun W oW => r_pick Hz rfl rfl rfl) Hz rfl rfl ?_
                    clear Hz az; intro az Hz
                    refine Pl.MSP (b := true) (by kernel_rfl) (fun W oW => r_mv Hz rfl) Hz rfl rfl ?_
                    clear Hz az; intro az Hz
                    refine Pl.MSPT (b := true) (by kernel_rfl) Hz rfl rfl (fun W oW => r_mv Hz rfl) rfl rfl ?_
                    clear Hz az; intro az Hz
                    refine Pl.MSPT (b := true) (by kernel_rfl) Hz rfl rfl (fun W oW => r_mv Hz rfl) rfl rfl ?_
                    clear Hz az; intro az Hz
                    refine Pl.MSPT (b := true) (by kernel_rfl) Hz rfl rfl (fun W oW => r_nilP Hz rfl) rfl rfl ?_
                    clear Hz az; intro az Hz
                    refine Pl.MSPT (b := true) (by kernel_rfl) Hz rfl rfl (fun W oW => r_fa (m' := 2) Tryz.underlying49 rfl Tryz.sizeOf46 rfl Hz rfl rfl) rfl rfl ?_
                    clear Hz az; intro az Hz
                    refine Pl.MSPT (b := true) (by kernel_rfl) Hz rfl rfl (fun W oW => r_ld Tryz.isAgg46 Hz rfl ((Blk.ca (Blk.k B552 oW)) 2 _ rfl)) rfl rfl ?_
                    clear Hz az; intro az Hz
                    have T559 : (BothT (JT b20 g533 ((openJ (Dsk.start D) 3).1) J535) (KT c28 g534 ((openJ (Dsk.start D) 3).1) J535)) w550 F519 := ((BothT.good (jt_good _ _ _ _) (kt_good _ _ _ _)).only h544 o551 (fun _ _ h => h))
                    have okl558 := okB (jb_of T559)
                    refine Pl.MSCT Hz rfl rfl rfl rfl rfl Tryz.call25 (all_b (jb_of T559) (Nat.le_trans (JI.ll hj536) (by decide))) rfl ?_
                    rintro e w553 ⟨A554, c555, rfl, r556, o557⟩
                    refine ⟨_, rfl, ⟨fun _ => o557, (Only.trans (Only.refl NoF w550) o557 (fun _ h => h.elim))⟩, ?_⟩
                    clear Hz az; intro az Hz
                    have h560 := SliceOf.pl (Row.own KStr r556 okl558)
                    have O561 : Only NoF w518 w553 := (Only.trans' o551 o557)
                    have h562 := (SliceOf.kp hR549 O561 (fun _ _ h => h) (fun _ _ _ _ h => h))
                    refine Pl.MSGV (v := .bool (true)) Hz rfl rfl gd_t rfl rfl (fun hb => rfl) Tryz.call24 (fun hb => fix_eq (congrArg Value.bool (decide_eq_true rfl)) (SameTexts_v h560 h562)) rfl (fun w' o' => ⟨fun _ => (Only.trans' o557 o'), (Only.trans (Only.trans (Only.refl NoF w550) o557 (fun _ h => h.elim)) o' (fun _ h => h.elim))⟩) fun w563 o564 => ?_
                    clear Hz az; intro az Hz
                    refine Pl.MSPT (b := true) (by kernel_rfl) Hz rfl rfl (fun W oW => r_not Hz rfl) rfl rfl ?_
                    clear Hz az; intro az Hz
                    refine Pl.MSP (b := true) (by kernel_rfl) (fun W oW => r_pick Hz rfl rfl rfl) Hz rfl rfl ?_
                    clear Hz az; intro az Hz
                    refine wpPl_nil ?_
                    refine hK545 _ _ ?_
                    refine br_false Hz rfl ?_
                    refine wp_skip ?_
                    refine hK79 _ _ ?_
                    -- law.go:70
                    refine wp_region_lit ?_
                    refine L (r_mv Hz rfl) Hz rfl ?_
                    clear Hz az; intro az Hz
                    have i565 : I64 (((i : Int) + 1)) := by unfold I64; omega
                    refine L (r_addI (r := ((i : Int) + 1)) Hz rfl rfl rfl i565) Hz rfl ?_
                    clear Hz az; intro az Hz
                    refine L (r_as Hz rfl) Hz rfl ?_
                    clear Hz az; intro az Hz
                    have O566 : Only NoF w w563 := (Only.trans' (Only.trans' (Only.trans' (o_sg O529 o522 (Nat.le_refl _) (fun k h => hge516 k (.inl h))) o551) o557) o564)
                    have O567 : Only NoF w550 w563 := (Only.trans' o557 o564)
                    have T568 : (BothT (JT b20 g533 ((openJ (Dsk.start D) 3).1) J535) (KT c28 g534 ((openJ (Dsk.start D) 3).1) J535)) w563 F519 := ((BothT.good (jt_good _ _ _ _) (kt_good _ _ _ _)).only T559 O567 (fun _ _ h => h))
                    exact ⟨_, (by omega), i + 1, (openJ (Dsk.start D) 3).1, (some (g533, g534, J535)), (openJ (Dsk.start D) 3).2.1, F519, rfl, Hz.cut ⟨rfl, rfl, rfl, rfl, rfl, rfl, rfl, rfl, rfl, trivial⟩, (by omega), (ji_some hj536), O566, T568, hge530⟩
                · -- else12
                  have p569 := of_decide_eq_false hc480
                  refine wp_skip ?_
                  refine hK106 _ _ ?_
                  refine wp_seq_k fun K570 hK570 => ?_
                  refine wp_seq_k fun K571 hK571 => ?_
                  -- law.go:106
                  refine wp_region_lit ?_
                  refine L (r_mv Hz rfl) Hz rfl ?_
                  clear Hz az; intro az Hz
                  refine L (r_mv Hz rfl) Hz rfl ?_
                  clear Hz az; intro az Hz
                  refine L (r_neRI Hz rfl rfl) Hz rfl ?_
                  clear Hz az; intro az Hz
                  refine L (r_mv Hz rfl) Hz rfl ?_
                  clear Hz az; intro az Hz
                  refine LT Hz rfl rfl (r_mv Hz rfl) rfl ?_
                  clear Hz az; intro az Hz
                  refine LT Hz rfl rfl (r_eqO1 Tryz.underlying29 Hz rfl rfl) rfl ?_
                  clear Hz az; intro az Hz
                  refine LT Hz rfl rfl (r_mv Hz rfl) rfl ?_
                  clear Hz az; intro az Hz
                  refine LT Hz rfl rfl (r_eqO2 Tryz.underlying33 Hz rfl rfl) rfl ?_
                  clear Hz az; intro az Hz
                  refine LT Hz rfl rfl (r_neBs Tryz.underlying4 Hz rfl rfl) rfl ?_
                  clear Hz az; intro az Hz
                  refine L (r_pick Hz rfl rfl rfl) Hz rfl ?_
                  clear Hz az; intro az Hz
                  rcases oo with _ | ⟨g572, g573, J574⟩
                  · -- a case
                    have O577 : Only NoF w94 w104 := (Only.trans' (Only.trans' o100 o103) o105)
                    have T578 : (BothT (JO b20 D ((none : OO).map p1)) (KO c28 D ((none : OO).map p2))) w104 F := ((BothT.good (jo_good _ _ _) (ko_good _ _ _)).only ((BothT.good (jo_good _ _ _) (ko_good _ _ _)).only ((BothT.good (jo_good _ _ _) (ko_good _ _ _)).only hT o90 (fun _ _ h => h)) s95 (fun k hk (e : k = g88) => (fun h => absurd ((BothT.good (jo_good _ _ _) (ko_good _ _ _)).lt hT _ h) (Nat.not_lt.2 (Nat.le_trans (Nat.le_refl _) hg92))) (by rw [← e]; exact hk))) O577 (fun _ _ h => h))
                    have h576 : (BothT (JO b20 D none) (KO c28 D none)) w104 F := T578
                    refine hK571 _ _ ?_
                    refine br_false Hz rfl ?_
                    refine wp_skip ?_
                    refine hK570 _ _ ?_
                    refine wp_seq_k fun K579 hK579 => ?_
                    -- law.go:109
                    refine reg_p NoF 2 [8, 13] (.rd 0 (.rd 1 (.rd 2 (.rd 3 (.rd 4 (.rd 5 (.rd 6 (.rd 7 (.rd 9 (.rd 10 (.rd 11 (.rd 12 (.ex 8 (.ex 13 (.rd 14 (.rd 15 .nil)))))))))))))))) (by kernel_rfl) (by kernel_rfl) (fun _ _ _ _ _ h => h) fun w580 o581 => ?_
                    refine Pl.MSP (b := true) (by kernel_rfl) (fun W oW => r_mv Hz rfl) Hz rfl rfl ?_
                    clear Hz az; intro az Hz
                    refine Pl.MSP (b := true) (by kernel_rfl) (fun W oW => r_neNN Tryz.underlying29 Hz rfl rfl) Hz rfl rfl ?_
                    clear Hz az; intro az Hz
                    refine Pl.MSP (b := true) (by kernel_rfl) (fun W oW => r_mv Hz rfl) Hz rfl rfl ?_
                    clear Hz az; intro az Hz
                    refine Pl.MSPF Hz rfl rfl (by exact rfl) rfl rfl ?_
                    clear Hz az; intro az Hz
                    refine Pl.MSPF Hz rfl rfl (by exact rfl) rfl rfl ?_
                    clear Hz az; intro az Hz
                    refine Pl.MSP (b := true) (by kernel_rfl) (fun W oW => r_pick Hz rfl rfl rfl) Hz rfl rfl ?_
                    clear Hz az; intro az Hz
                    refine Pl.MSP (b := true) (by kernel_rfl) (fun W oW => r_mv Hz rfl) Hz rfl rfl ?_
                    clear Hz az; intro az Hz
                    refine Pl.MSPF Hz rfl rfl (by exact rfl) rfl rfl ?_
                    clear Hz az; intro az Hz
                    refine Pl.MSPF Hz rfl rfl (by exact rfl) rfl rfl ?_
                    clear Hz az; intro az Hz
                    refine Pl.MSPF Hz rfl rfl (by exact rfl) rfl rfl ?_
                    clear Hz az; intro az Hz
                    refine Pl.MSPF Hz rfl rfl (by exact rfl) rfl rfl ?_
                    clear Hz az; intro az Hz
                    refine Pl.MSPF Hz rfl rfl (by exact rfl) rfl rfl ?_
                    clear Hz az; intro az Hz
                    refine Pl.MXF Hz rfl rfl (by exact rfl) rfl rfl ⟨fun _ => (Only.refl _ _), (Only.refl NoF w580)⟩ ?_
                    clear Hz az; intro az Hz
                    refine Pl.MXF Hz rfl rfl (by exact rfl) rfl rfl ⟨fun _ => (Only.refl _ _), (Only.refl NoF w580)⟩ ?_
                    clear Hz az; intro az Hz
                    refine Pl.MSPF Hz rfl rfl (by exact rfl) rfl rfl ?_
                    clear Hz az; intro az Hz
                    refine Pl.MSP (b := true) (by kernel_rfl) (fun W oW => r_pick Hz rfl rfl rfl) Hz rfl rfl ?_
                    clear Hz az; intro az Hz
                    refine wpPl_nil ?_
                    refine hK579 _ _ ?_
                    refine br_false Hz rfl ?_
                    refine wp_skip ?_
                    refine hK79 _ _ ?_
                    -- law.go:70
                    refine wp_region_lit ?_
                    refine L (r_mv Hz rfl) Hz rfl ?_
                    clear Hz az; intro az Hz
                    have i582 : I64 (((i : Int) + 1)) := by unfold I64; omega
                    refine L (r_addI (r := ((i : Int) + 1)) Hz rfl rfl rfl i582) Hz rfl ?_
                    clear Hz az; intro az Hz
                    refine L (r_as Hz rfl) Hz rfl ?_
                    clear Hz az; intro az Hz
                    have O583 : Only NoF w w580 := (Only.trans' (Only.trans' (Only.trans' (Only.trans' (o_sg (Only.trans' o73 o90) s95 (size_only o73) (oneF_ge hg92)) o100) o103) o105) o581)
                    have T584 : (BothT (JO b20 D none) (KO c28 D none)) w580 F := ((BothT.good (jo_good _ _ _) (ko_good _ _ _)).only h576 o581 (fun _ _ h => h))
                    exact ⟨_, (by omega), i + 1, D, none, er, F, rfl, Hz.cut ⟨rfl, rfl, rfl, rfl, rfl, rfl, rfl, rfl, rfl, trivial⟩, (by omega), ji_none, O583, T584, hgeT⟩
                  · -- a case
                    have O586 : Only NoF w94 w104 := (Only.trans' (Only.trans' o100 o103) o105)
                    have T587 : (BothT (JO b20 D ((some (g572, g573, J574) : OO).map p1)) (KO c28 D ((some (g572, g573, J574) : OO).map p2))) w104 F := ((BothT.good (jo_good _ _ _) (ko_good _ _ _)).only ((BothT.good (jo_good _ _ _) (ko_good _ _ _)).only ((BothT.good (jo_good _ _ _) (ko_good _ _ _)).only hT o90 (fun _ _ h => h)) s95 (fun k hk (e : k = g88) => (fun h => absurd ((BothT.good (jo_good _ _ _) (ko_good _ _ _)).lt hT _ h) (Nat.not_lt.2 (Nat.le_trans (Nat.le_refl _) hg92))) (by rw [← e]; exact hk))) O586 (fun _ _ h => h))
                    have h585 : (BothT (JT b20 g572 D J574) (KT c28 g573 D J574)) w104 F := T587
                    have hj575 : JI J574 := hji _ rfl
                    refine hK571 _ _ ?_
                    refine br_false Hz rfl ?_
                    refine wp_skip ?_
                    refine hK570 _ _ ?_
                    refine wp_seq_k fun K588 hK588 => ?_
                    obtain ⟨A589, c590, hB591, hR592⟩ := kb_open h585
                    -- law.go:109
                    refine reg_p NoF 2 [8, 13] (.rd 0 (.rd 1 (.rd 2 (.rd 3 (.rd 4 (.rd 5 (.rd 6 (.rd 7 (.rd 9 (.rd 10 (.rd 11 (.rd 12 (.ex 8 (.ex 13 (.rd 14 (.rd 15 .nil)))))))))))))))) (by kernel_rfl) (by kernel_rfl) (fun _ _ _ _ _ h => h) fun w593 o594 => ?_
                    have B595 := (Blk.k hB591 o594)
                    refine Pl.MSP (b := true) (by kernel_rfl) (fun W oW => r_mv Hz rfl) Hz rfl rfl ?_
                    clear Hz az; intro az Hz
                    refine Pl.MSP (b := true) (by kernel_rfl) (fun W oW => r_neP Tryz.underlying29 Hz rfl rfl) Hz rfl rfl ?_
                    clear Hz az; intro az Hz
                    refine Pl.MSP (b := true) (by kernel_rfl) (fun W oW => r_mv Hz rfl) Hz rfl rfl ?_
                    clear Hz az; intro az Hz
                    refine Pl.MSPT (b := true) (by kernel_rfl) Hz rfl rfl (fun W oW => r_mv Hz rfl) rfl rfl ?_
                    clear Hz az; intro az Hz
                    refine Pl.MSPT (b := true) (by kernel_rfl) Hz rfl rfl (fun W oW => r_neP Tryz.underlying33 Hz rfl rfl) rfl rfl ?_
                    clear Hz az; intro az Hz
                    refine Pl.MSP (b := true) (by kernel_rfl) (fun W oW => r_pick Hz rfl rfl rfl) Hz rfl rfl ?_
                    clear Hz az; intro az Hz
                    refine Pl.MSP (b := true) (by kernel_rfl) (fun W oW => r_mv Hz rfl) Hz rfl rfl ?_
                    clear Hz az; intro az Hz
                    refine Pl.MSPT (b := true) (by kernel_rfl) Hz rfl rfl (fun W oW => r_mv Hz rfl) rfl rfl ?_
                    clear Hz az; intro az Hz
                    refine Pl.MSPT (b := true) (by kernel_rfl) Hz rfl rfl (fun W oW => r_mv Hz rfl) rfl rfl ?_
                    clear Hz az; intro az Hz
                    refine Pl.MSPT (b := true) (by kernel_rfl) Hz rfl rfl (fun W oW => r_nilP Hz rfl) rfl rfl ?_
                    clear Hz az; intro az Hz
                    refine Pl.MSPT (b := true) (by kernel_rfl) Hz rfl rfl (fun W oW => r_fa (m' := 2) Tryz.underlying49 rfl Tryz.sizeOf46 rfl Hz rfl rfl) rfl rfl ?_
                    clear Hz az; intro az Hz
                    refine Pl.MSPT (b := true) (by kernel_rfl) Hz rfl rfl (fun W oW => r_ld Tryz.isAgg46 Hz rfl ((Blk.ca (Blk.k B595 oW)) 2 _ rfl)) rfl rfl ?_
                    clear Hz az; intro az Hz
                    have T602 : (BothT (JT b20 g572 D J574) (KT c28 g573 D J574)) w593 F := ((BothT.good (jt_good _ _ _ _) (kt_good _ _ _ _)).only h585 o594 (fun _ _ h => h))
                    have okl601 := okB (jb_of T602)
                    refine Pl.MSCT Hz rfl rfl rfl rfl rfl Tryz.call25 (all_b (jb_of T602) (Nat.le_trans (JI.ll hj575) (by decide))) rfl ?_
                    rintro e w596 ⟨A597, c598, rfl, r599, o600⟩
                    refine ⟨_, rfl, ⟨fun _ => o600, (Only.trans (Only.refl NoF w593) o600 (fun _ h => h.elim))⟩, ?_⟩
                    clear Hz az; intro az Hz
                    have h603 := SliceOf.pl (Row.own KStr r599 okl601)
                    have O604 : Only NoF w104 w596 := (Only.trans' o594 o600)
                    have h605 := (SliceOf.kp hR592 O604 (fun _ _ h => h) (fun _ _ _ _ h => h))
                    refine Pl.MSGV (v := .bool (true)) Hz rfl rfl gd_t rfl rfl (fun hb => rfl) Tryz.call24 (fun hb => fix_eq (congrArg Value.bool (decide_eq_true rfl)) (SameTexts_v h603 h605)) rfl (fun w' o' => ⟨fun _ => (Only.trans' o600 o'), (Only.trans (Only.trans (Only.refl NoF w593) o600 (fun _ h => h.elim)) o' (fun _ h => h.elim))⟩) fun w606 o607 => ?_
                    clear Hz az; intro az Hz
                    refine Pl.MSPT (b := true) (by kernel_rfl) Hz rfl rfl (fun W oW => r_not Hz rfl) rfl rfl ?_
                    clear Hz az; intro az Hz
                    refine Pl.MSP (b := true) (by kernel_rfl) (fun W oW => r_pick Hz rfl rfl rfl) Hz rfl rfl ?_
                    clear Hz az; intro az Hz
                    refine wpPl_nil ?_
                    refine hK588 _ _ ?_
                    refine br_false Hz rfl ?_
                    refine wp_skip ?_
                    refine hK79 _ _ ?_
                    -- law.go:70
                    refine wp_region_lit ?_
                    refine L (r_mv Hz rfl) Hz rfl ?_
                    clear Hz az; intro az Hz
                    have i608 : I64 (((i : Int) + 1)) := by unfold I64; omega
                    refine L (r_addI (r := ((i : Int) + 1)) Hz rfl rfl rfl i608) Hz rfl ?_
                    clear Hz az; intro az Hz
                    refine L (r_as Hz rfl) Hz rfl ?_
                    clear Hz az; intro az Hz
                    have O609 : Only NoF w w606 := (Only.trans' (Only.trans' (Only.trans' (Only.trans' (Only.trans' (Only.trans' (o_sg (Only.trans' o73 o90) s95 (size_only o73) (oneF_ge hg92)) o100) o103) o105) o594) o600) o607)
                    have O610 : Only NoF w593 w606 := (Only.trans' o600 o607)
                    have T611 : (BothT (JT b20 g572 D J574) (KT c28 g573 D J574)) w606 F := ((BothT.good (jt_good _ _ _ _) (kt_good _ _ _ _)).only T602 O610 (fun _ _ h => h))
                    exact ⟨_, (by omega), i + 1, D, (some (g572, g573, J574)), er, F, rfl, Hz.cut ⟨rfl, rfl, rfl, rfl, rfl, rfl, rfl, rfl, rfl, trivial⟩, (by omega), (ji_some hj575), O609, T611, hgeT⟩
    · -- else2
      have p612 := of_decide_eq_false hc77
      refine wp_exit ?_
      refine th_exit ?_
      refine th_exit ?_
      refine ib_hit ?_
      refine hK69 _ _ ?_
      refine wp_seq_k fun K613 hK613 => ?_
      -- law.go:113
      refine wp_region_lit ?_
      refine L (r_mv Hz rfl) Hz rfl ?_
      clear Hz az; intro az Hz
      refine LC Hz rfl rfl Tryz.call22 (l_start (ko_good _ _ _) hT) rfl ?_
      rintro e w614 ⟨rfl, F615, h616, o617, fm618, fr619⟩; refine ⟨_, rfl, ?_⟩
      have hge620 := ge_next hgeT (size_only o73) fm618 fr619
      clear Hz az; intro az Hz
      refine hK613 _ _ ?_
      refine wp_seq_k fun K621 hK621 => ?_
      -- law.go:114
      refine wp_region_lit ?_
      refine L (r_mv Hz rfl) Hz rfl ?_
      clear Hz az; intro az Hz
      refine LC Hz rfl rfl Tryz.call23 (r_start (jo_good _ _ _) h616) rfl ?_
      rintro e w622 ⟨rfl, F623, h624, o625, fm626, fr627⟩; refine ⟨_, rfl, ?_⟩
      have O628 : Only NoF w w614 := (o_sg o73 o617 (Nat.le_refl _) (fun k h => hgeT k (.inl h)))
      have hge629 := ge_next hge620 (size_only O628) fm626 fr627
      clear Hz az; intro az Hz
      refine hK621 _ _ ?_
      refine wp_seq_k fun K630 hK630 => ?_
      -- law.go:115
      refine wp_region_lit ?_
      refine L (r_mv Hz rfl) Hz rfl ?_
      clear Hz az; intro az Hz
      refine L (r_mv Hz rfl) Hz rfl ?_
      clear Hz az; intro az Hz
      obtain ⟨F632, hd631⟩ := (BothT.l h624).elim fun _ q => jo_disk q
      refine LCV (v := .int .i64 (((Dsk.size (Dsk.start D) 3 : Nat) : Int))) Hz rfl rfl Tryz.call27 (size_d hd631 3) rfl fun w633 o634 => ?_
      clear Hz az; intro az Hz
      have T637 : (BothT (JO b20 (Dsk.start D) (oo.map p1)) (KO c28 (Dsk.start D) (oo.map p2))) w633 F623 := ((BothT.good (jo_good _ _ _) (ko_good _ _ _)).only h624 o634 (fun _ _ h => h))
      obtain ⟨F636, hd635⟩ := (BothT.l T637).elim fun _ q => jo_disk q
      refine LCV (v := .tuple #[strV ((Dsk.read (Dsk.start D) 3 0 ((Dsk.size (Dsk.start D) 3 : Nat) : Int)).1), .int .i64 ((Dsk.read (Dsk.start D) 3 0 ((Dsk.size (Dsk.start D) 3 : Nat) : Int)).2)]) Hz rfl rfl Tryz.call26 (read_d hd635 (by unfold I64; omega) (size_i64 hd635 _) rfl) rfl fun w638 o639 => ?_
      clear Hz az; intro az Hz
      refine L (r_mv Hz rfl) Hz rfl ?_
      clear Hz az; intro az Hz
      refine L (r_ex Hz rfl rfl) Hz rfl ?_
      clear Hz az; intro az Hz
      refine L (r_ex Hz rfl rfl) Hz rfl ?_
      clear Hz az; intro az Hz
      refine L (r_as Hz rfl) Hz rfl ?_
      clear Hz az; intro az Hz
      refine L (r_as Hz rfl) Hz rfl ?_
      clear Hz az; intro az Hz
      refine hK630 _ _ ?_
      refine wp_seq_k fun K640 hK640 => ?_
      -- law.go:116
      refine wp_region_lit ?_
      refine L (r_mv Hz rfl) Hz rfl ?_
      clear Hz az; intro az Hz
      refine L (r_mv Hz rfl) Hz rfl ?_
      clear Hz az; intro az Hz
      have T643 : (BothT (JO b20 (Dsk.start D) (oo.map p1)) (KO c28 (Dsk.start D) (oo.map p2))) w638 F623 := ((BothT.good (jo_good _ _ _) (ko_good _ _ _)).only T637 o639 (fun _ _ h => h))
      obtain ⟨F642, hr641⟩ := (BothT.r T643).elim fun _ q => ko_ref q
      refine LCV (v := .int .i64 (((Dsk.size (Dsk.start D) 3 : Nat) : Int))) Hz rfl rfl Tryz.call29 (fix_b (rSize_c hr641 3)) rfl fun w644 o645 => ?_
      clear Hz az; intro az Hz
      have T648 : (BothT (JO b20 (Dsk.start D) (oo.map p1)) (KO c28 (Dsk.start D) (oo.map p2))) w644 F623 := ((BothT.good (jo_good _ _ _) (ko_good _ _ _)).only T643 o645 (fun _ _ h => h))
      obtain ⟨F647, hr646⟩ := (BothT.r T648).elim fun _ q => ko_ref q
      refine LCV (v := .tuple #[strV ((Dsk.read (Dsk.start D) 3 0 ((Dsk.size (Dsk.start D) 3 : Nat) : Int)).1), .int .i64 ((Dsk.read (Dsk.start D) 3 0 ((Dsk.size (Dsk.start D) 3 : Nat) : Int)).2)]) Hz rfl rfl Tryz.call28 (rRead_c hr646 3 0 _ (by unfold I64; omega) (by have := ksize_le hr646 3; unfold I64; omega)) rfl fun w649 o650 => ?_
      clear Hz az; intro az Hz
      refine L (r_mv Hz rfl) Hz rfl ?_
      clear Hz az; intro az Hz
      refine L (r_ex Hz rfl rfl) Hz rfl ?_
      clear Hz az; intro az Hz
      refine L (r_ex Hz rfl rfl) Hz rfl ?_
      clear Hz az; intro az Hz
      refine L (r_as Hz rfl) Hz rfl ?_
      clear Hz az; intro az Hz
      refine L (r_as Hz rfl) Hz rfl ?_
      clear Hz az; intro az Hz
      refine hK640 _ _ ?_
      refine wp_seq_k fun K651 hK651 => ?_
      -- law.go:117
      refine wp_region_lit ?_
      refine L (r_mv Hz rfl) Hz rfl ?_
      clear Hz az; intro az Hz
      refine L (r_mv Hz rfl) Hz rfl ?_
      clear Hz az; intro az Hz
      refine LT Hz rfl rfl (r_mv Hz rfl) rfl ?_
      clear Hz az; intro az Hz
      refine LT Hz rfl rfl (r_mv Hz rfl) rfl ?_
      clear Hz az; intro az Hz
      refine LT Hz rfl rfl (r_eqSh Hz rfl rfl rfl) rfl ?_
      clear Hz az; intro az Hz
      refine L (r_pick Hz rfl rfl rfl) Hz rfl ?_
      clear Hz az; intro az Hz
      refine L (r_as Hz rfl) Hz rfl ?_
      clear Hz az; intro az Hz
      refine hK651 _ _ ?_
      refine wp_ret ?_
      show bodyPost _ _ _ .ret _ _
      refine ret_of (vs := [.bool (true)]) Hz Tryz.results3 ⟨rfl, trivial⟩ ?_
      have O652 : Only NoF w w649 := (Only.trans' (Only.trans' (Only.trans' (Only.trans' (o_sg O628 o625 (Nat.le_refl _) (fun k h => hge620 k (.inl h))) o634) o639) o645) o650)
      exact ⟨rfl, O652⟩

theorem jtells_v {w : World} (hG : Gr w) {v : Value} {l : List OpM} (f1 : OpsV w w v l) : Calls Tryz.prog 3 #[v] w (Fix (.bool true) w) := by
  obtain ⟨A1, c1, rfl, _⟩ := SliceOf.shape f1
  exact jtells_v_ hG f1
end
end Go.Proofs.YtlnadcihnfppaaaGreatDoor
