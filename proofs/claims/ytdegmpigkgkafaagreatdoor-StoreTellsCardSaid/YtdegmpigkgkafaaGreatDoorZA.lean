/-
  The journal's reference in memory. No condition.
  The journal's reference: Sum, Form, Forms, Records, walked. Condition: strings of at most 16,777,216 bytes.
  The journal's reference: Open, Append, Sync, walked. Condition for Append: a record of at most 900,000 bytes.
  The journal and its reference side by side, as JournalTells calls them. No condition beyond those that each names.
  JournalTells, walked: it returns true. No condition but the listed variables.
-/
import Derived.Test.YtdegmpigkgkafaaGreatDoorJA
import Derived.Test.YtdegmpigkgkafaaGreatDoorRF
import Derived.Test.YtdegmpigkgkafaaGreatDoorJB
import Derived.Test.YtdegmpigkgkafaaGreatDoorWR
import Derived.Test.YtdegmpigkgkafaaGreatDoorJC
namespace Go.Proofs.YtdegmpigkgkafaaGreatDoor
set_option maxHeartbeats 4000000
set_option maxRecDepth 20000
set_option linter.unusedVariables false
set_option linter.unusedSimpArgs false
set_option linter.unusedSectionVars false
section
open Go.RowKit
abbrev RefT (b : Nat) (D : Dsk) : Thing := fun w F => IsRef w b D F
theorem refT_good (b : Nat) (D : Dsk) : Good (RefT b D) := ⟨fun h ho hG => IsRef.only h ho hG, fun h => by obtain ⟨x, i, rfl⟩ := h; exact i.foot_lt⟩
abbrev kjCells (b : Nat) (J : Jn) (A : Option Addr) (c : Nat) : Array Value := #[.pointer (some ⟨b, 0, none⟩), .int .i64 J.f, .slice A J.l.length c, .bool J.bad]
def KB (b g : Nat) (J : Jn) : Thing := fun w F => ∃ A c, Blk w g 79 (kjCells b J A c) ∧ w.ownsRow 0 9 1 (.slice A J.l.length c) J.l.length (J.l.flatMap KStr.cells) ∧ (∀ z ∈ J.l, KStr.ok z) ∧ F = ⟨fun k => k = g ∨ ownF (.slice A J.l.length c) k, fun _ => False⟩
theorem kb_good (b g : Nat) (J : Jn) : Good (KB b g J) where
 only := by
  rintro w w' F G ⟨A, c, h1, h2, h3, rfl⟩ ho hG
  exact ⟨A, c, h1.only ho (hG g (.inl (.inl rfl))), ow_only h2 ho fun k hk => hG k (.inl (.inr hk)), h3, rfl⟩
 lt := by
  rintro w F ⟨A, c, h1, h2, h3, rfl⟩ k ((rfl | hk) | hk)
  · exact Blk.lt h1
  · exact ownF_lt h2 k hk
  · exact hk.elim
abbrev KT (b g : Nat) (D : Dsk) (J : Jn) : Thing := BothT (KB b g J) (RefT b D)
theorem kt_good (b g : Nat) (D : Dsk) (J : Jn) : Good (KT b g D J) := BothT.good (kb_good b g J) (refT_good b D)
section
variable {w : World} {b g : Nat} {D : Dsk} {J : Jn} {F : Foot}
theorem KT.make {A : Option Addr} {c base : Nat} (h1 : Blk w g 79 (kjCells b J A c)) (h2 : w.ownsRow base 9 1 (.slice A J.l.length c) J.l.length (J.l.flatMap KStr.cells)) (h3 : ∀ z ∈ J.l, KStr.ok z) (h4 : IsRef w b D F) (s1 : ¬ F.all g) (s2 : ∀ k, ownF (.slice A J.l.length c) k → ¬ F.all k) :
 KT b g D J w ⟨fun k => (k = g ∨ ownF (.slice A J.l.length c) k) ∨ F.m k, fun k => False ∨ F.r k⟩ :=
 ⟨⟨fun k => k = g ∨ ownF (.slice A J.l.length c) k, fun _ => False⟩, F, ⟨A, c, h1, ow_low h2 (Nat.zero_le _), h3, rfl⟩, h4, fun k hk => hk.elim (fun e => by subst e; exact s1) (s2 k), fun k hk h => h.elim (fun h => h.elim (fun e => by subst e; exact s1 (.inl hk)) (fun h => s2 k h (.inl hk))) (fun h => h.elim), rfl⟩
theorem KT.disk (h : KT b g D J w F) : ∃ F2, IsRef w b D F2 ∧ (∀ k, F2.m k → F.m k) ∧ ∀ k, F2.r k → F.r k := by
 obtain ⟨G1, G2, _, h2, _, _, rfl⟩ := h
 exact ⟨G2, h2, fun k hk => .inr hk, fun k hk => .inr hk⟩
end
/-- opening's outcome -/
def OpenKTo (b : Nat) (r : Dsk × Int × Option Jn) (w : World) (F : Foot) (e : Ending) (w' : World) : Prop :=
 (r.2.2 = none ∧ e = .returned (.tuple #[.pointer none, .int .i64 r.2.1]) ∧ ThingTo (RefT b r.1) w F w') ∨
 ∃ J g, r.2.2 = some J ∧ e = .returned (.tuple #[.pointer (some ⟨g, 0, none⟩), .int .i64 r.2.1]) ∧ ThingTo (KT b g r.1 J) w F w'
theorem refok {w : World} {b : Nat} {D : Dsk} {F : Foot} (h : IsRef w b D F) : D.Ok := by
 obtain ⟨x, i, rfl⟩ := h
 exact i.ok
theorem kread_le {w : World} {b : Nat} {D : Dsk} {F : Foot} (h : IsRef w b D F) (f a n : Int) : (D.read f a n).1.length ≤ 16777216 := by
 have := ((refok h).lens f).1
 unfold Dsk.read Dsk.readS
 split
 · simp
 · split
   · simp
   · rw [List.length_take, List.length_drop]; omega
theorem ksize_le {w : World} {b : Nat} {D : Dsk} {F : Foot} (h : IsRef w b D F) (f : Int) : D.size f ≤ 16777216 := ((refok h).lens f).1
theorem fix_b {P : Program} {w : World} {f : FuncId} {args : Array Value} {v : Value} (h : Calls P f args w fun e w' => e = .returned v ∧ Below w.heap.size w w') : Calls P f args w (Fix v w) :=
 h.mono fun _ _ ⟨he, hw⟩ => ⟨he, only_of_below hw⟩
end
section
open Go.RowKit
theorem forms_le {l : List Str} {k : Nat} {t : Str} (h : l[k]? = some t) : (forms (l.take k)).length + (form t).length ≤ (forms l).length := by
 obtain ⟨hk, rfl⟩ := List.getElem?_eq_some_iff.1 h
 have e : l = l.take k ++ (l[k] :: l.drop (k + 1)) := by rw [← List.drop_eq_getElem_cons hk, List.take_append_drop]
 have := congrArg (fun l => (forms l).length) e
 simp only [forms_app, forms_cons, List.length_append] at this
 omega
theorem rdz_bad {s : Wr.Rd} (hf : Wr.Fine s) (h : s.b = true) : s = ⟨[], true⟩ := by
 have := hf h
 cases s
 simp only at h this
 rw [h, this]
theorem numz_bad : (Wr.num ⟨[], true⟩).2.b = true := by decide +kernel
section
variable {t : Str} {k : Nat}
theorem rec_yes (h : (((Wr.num (Wr.text ⟨List.drop k t, false⟩).2).2.b || decide ((20000 : Int) < ((List.length ((Wr.text ⟨List.drop k t, false⟩).1) : Nat) : Int))) || (!decide ((Wr.num (Wr.text ⟨List.drop k t, false⟩).2).1 = (jsum (Wr.text ⟨List.drop k t, false⟩).1)))) = false) : one (t.drop k) = some (Wr.text ⟨List.drop k t, false⟩).1 ∧ List.length (Wr.text ⟨List.drop k t, false⟩).1 ≤ 20000 := by
 simp only [Bool.or_eq_false_iff, decide_eq_false_iff_not, Bool.not_eq_false', decide_eq_true_eq] at h
 obtain ⟨⟨hb, hl⟩, hn⟩ := h
 have b1 : (Wr.text ⟨List.drop k t, false⟩).2.b = false := by
  cases hh : (Wr.text ⟨List.drop k t, false⟩).2.b
  · rfl
  · rw [rdz_bad (Wr.text_fine (fun h => by cases h)) hh, numz_bad] at hb; cases hb
 have e1 := Wr.text_was ⟨List.drop k t, false⟩ b1
 have e2 := Wr.num_was (Wr.text ⟨List.drop k t, false⟩).2 hb
 rw [e2, hn] at e1
 have e3 : List.drop k t = form (Wr.text ⟨List.drop k t, false⟩).1 ++ (Wr.num (Wr.text ⟨List.drop k t, false⟩).2).2.r := by
  unfold form
  rw [List.append_assoc]; exact e1
 refine ⟨?_, by omega⟩
 have := one_form (t := (Wr.text ⟨List.drop k t, false⟩).1) (r := (Wr.num (Wr.text ⟨List.drop k t, false⟩).2).2.r) (by omega)
 rwa [← e3] at this
theorem rec_no (h : (((Wr.num (Wr.text ⟨List.drop k t, false⟩).2).2.b || decide ((20000 : Int) < ((List.length ((Wr.text ⟨List.drop k t, false⟩).1) : Nat) : Int))) || (!decide ((Wr.num (Wr.text ⟨List.drop k t, false⟩).2).1 = (jsum (Wr.text ⟨List.drop k t, false⟩).1)))) = true) : one (t.drop k) = none := by
 cases e : one (t.drop k) with
 | none => rfl
 | some a =>
  exfalso
  have hx := one_next e
  obtain ⟨ea, hl, hn, _, _⟩ := one_some e
  rw [ea] at hl hn
  rw [hx] at h
  simp only [Bool.false_or, Bool.or_eq_true, decide_eq_true_eq, Bool.not_eq_true', decide_eq_false_iff_not] at h
  rcases h with h | h
  · omega
  · exact h hn
theorem rec_end (h : decide ((0 : Int) < ((List.length ((⟨List.drop k t, false⟩ : Wr.Rd).r) : Nat) : Int)) = false) : List.drop k t = [] := by
 have := of_decide_eq_false h
 exact List.eq_nil_of_length_eq_zero (by show (List.drop k t).length = 0; have e : List.length ((⟨List.drop k t, false⟩ : Wr.Rd).r) = (List.drop k t).length := rfl; omega)
theorem rec_blk {W : World} {g : Nat} (h : one (t.drop k) = some (Wr.text ⟨List.drop k t, false⟩).1) (hB : Blk W g 136 [strV (Wr.num (Wr.text ⟨List.drop k t, false⟩).2).2.r, .bool (Wr.num (Wr.text ⟨List.drop k t, false⟩).2).2.b].toArray) : Blk W g 136 [strV (List.drop (k + List.length (form (Wr.text ⟨List.drop k t, false⟩).1)) t), .bool false].toArray := by
 rw [one_next h] at hB
 rw [← List.drop_drop]
 exact hB
end
theorem kSum_v (w : World) (t : Str) (ht : t.length ≤ 16777216) : Calls Tryz.prog 96 [strV t].toArray w (Fix (.int .i64 (jsum t)) w) := by
 refine calls_start Tryz.func96 rfl rfl ?_
 intro az Z
 rw [Tryz.ntmps96] at Z
 refine wp_seq_k fun _ k1 => wp_region_lit ?_
 refine L (r_as Z rfl) Z rfl ?_; clear Z az; intro az Z
 refine k1 _ _ (wp_seq_k fun _ k2 => wp_region_lit ?_)
 refine L (r_as Z rfl) Z rfl ?_; clear Z az; intro az Z
 refine k2 _ _ (wp_seq_k fun _ k3 => ?_)
 refine wp_seq_k fun _ k4 => wp_region_lit ?_
 refine L (r_as Z rfl) Z rfl ?_; clear Z az; intro az Z
 refine k4 _ _ ?_
 refine wp_block ?_
 refine wp_loop_m (fun mz az W => ∃ k : Nat, ∃ n : Int, mz = t.length - k ∧ Fr 21 [(0, strV (t)), (4, .int .i64 ((k : Int))), (3, .int .i64 (n))] az ∧ (k ≤ t.length) ∧ (jsum t = n + sumA k (t.drop k)) ∧ (0 ≤ n ∧ n ≤ 4278190335 * (k : Int)) ∧ Only NoF w W) ?_ ?_
 ·
  exact ⟨_, 0, 0, rfl, Z.cut ⟨rfl, rfl, rfl, trivial⟩, Nat.zero_le _, (by unfold jsum; rw [List.drop_zero]; omega), (by omega), (Only.refl NoF w)⟩
 clear Z az
 rintro mz az w5 ⟨k, n, hm7, Z, hk, hs, hn, o6⟩
 refine wp_seq_k fun _ k8 => ?_
 refine wp_seq_k fun _ k9 => wp_region_lit ?_
 refine L (r_mv Z rfl) Z rfl ?_; clear Z az; intro az Z
 refine L (r_mv Z rfl) Z rfl ?_; clear Z az; intro az Z
 refine L (r_lenS Tryz.underlying9 Z rfl) Z rfl ?_; clear Z az; intro az Z
 refine L (r_ltI Z rfl rfl) Z rfl ?_; clear Z az; intro az Z
 refine k9 _ _ ?_
 refine br Z rfl (fun hc10 => ?_) (fun hc10 => ?_)
 ·
  have p11 := of_decide_eq_true hc10
  refine wp_skip ?_
  refine k8 _ _ (wp_seq_k fun _ k12 => ?_)
  refine wp_block ?_
  refine wp_region_lit ?_
  refine L (r_mv Z rfl) Z rfl ?_; clear Z az; intro az Z
  refine L (r_mv Z rfl) Z rfl ?_; clear Z az; intro az Z
  refine L (r_mv Z rfl) Z rfl ?_; clear Z az; intro az Z
  obtain ⟨b13, hb14⟩ : ∃ b, (t)[k]? = some b := ⟨_, List.getElem?_eq_getElem (by omega)⟩
  have hbm := byte_mul b13 k (by omega)
  refine L (r_ix (k := k) Tryz.underlying9 Z rfl rfl rfl hb14) Z rfl ?_; clear Z az; intro az Z
  refine L (r_cvJ Tryz.underlying5 Tryz.underlying3 Z rfl (by have := UInt8.toNat_lt b13; omega)) Z rfl ?_; clear Z az; intro az Z
  refine L (r_mv Z rfl) Z rfl ?_; clear Z az; intro az Z
  have i15 : I64 (((k : Int) + 1)) := by unfold I64; omega
  refine L (r_addI (r := ((k : Int) + 1)) Z rfl rfl rfl i15) Z rfl ?_; clear Z az; intro az Z
  have i16 : I64 ((((b13.toNat : Nat) : Int) * ((k : Int) + 1))) := by unfold I64; omega
  refine L (r_mulI (r := (((b13.toNat : Nat) : Int) * ((k : Int) + 1))) Z rfl rfl rfl i16) Z rfl ?_; clear Z az; intro az Z
  have i17 : I64 ((n + (((b13.toNat : Nat) : Int) * ((k : Int) + 1)))) := by unfold I64; omega
  refine L (r_addI (r := (n + (((b13.toNat : Nat) : Int) * ((k : Int) + 1)))) Z rfl rfl rfl i17) Z rfl ?_; clear Z az; intro az Z
  refine L (r_as Z rfl) Z rfl ?_; clear Z az; intro az Z
  refine k12 _ _ ?_
  refine wp_region_lit ?_
  refine L (r_mv Z rfl) Z rfl ?_; clear Z az; intro az Z
  have i18 : I64 (((k : Int) + 1)) := by unfold I64; omega
  refine L (r_addI (r := ((k : Int) + 1)) Z rfl rfl rfl i18) Z rfl ?_; clear Z az; intro az Z
  refine L (r_as Z rfl) Z rfl ?_; clear Z az; intro az Z
  exact ⟨_, (by omega), k + 1, _, rfl, Z.cut ⟨rfl, rfl, rfl, trivial⟩, (by omega), (by rw [hs, sumA_step hb14]; omega), (by omega), o6⟩
 ·
  have p19 := of_decide_eq_false hc10
  refine wp_exit ?_
  refine th_exit ?_
  refine th_exit ?_
  refine ib_hit ?_
  refine k3 _ _ (wp_seq_k fun _ k20 => wp_region_lit ?_)
  refine L (r_mv Z rfl) Z rfl ?_; clear Z az; intro az Z
  refine L (r_as Z rfl) Z rfl ?_; clear Z az; intro az Z
  refine k20 _ _ ?_
  refine wp_ret ?_
  show bodyPost _ _ _ .ret _ _
  refine ret_of (vs := [.int .i64 (n)]) Z Tryz.results96 ⟨rfl, trivial⟩ ?_
  rw [List.drop_of_length_le (by omega)] at hs; rw [hs, show ∀ i, sumA i [] = 0 from fun _ => rfl, Int.add_zero]; exact ⟨rfl, o6⟩
theorem kForm_v (w : World) (t : Str) (ht : t.length ≤ 16777216) : Calls Tryz.prog 75 [strV t].toArray w (Fix (strV (form t)) w) := by
 refine calls_start Tryz.func75 rfl rfl ?_
 intro az Z
 rw [Tryz.ntmps75] at Z
 refine wp_seq_k fun _ k1 => wp_region_lit ?_
 refine L (r_as Z rfl) Z rfl ?_; clear Z az; intro az Z
 refine k1 _ _ (wp_seq_k fun _ k2 => wp_region_lit ?_)
 refine L (r_mv Z rfl) Z rfl ?_; clear Z az; intro az Z
 refine LCV (v := strV (Wr.textE t)) Z rfl rfl Tryz.call74 (vText_v _ t (by omega)) rfl fun w3 o4 => ?_; clear Z az; intro az Z
 refine L (r_mv Z rfl) Z rfl ?_; clear Z az; intro az Z
 refine LCV (v := .int .i64 ((jsum t))) Z rfl rfl Tryz.call96 (kSum_v _ t (by omega)) rfl fun w5 o6 => ?_; clear Z az; intro az Z
 refine LCV (v := strV (Wr.numE (jsum t))) Z rfl rfl Tryz.call72 (vNum_v _ (jsum t) (jsum_ok ht).1) rfl fun w7 o8 => ?_; clear Z az; intro az Z
 refine L (r_addS Z rfl rfl (by have e1 := text_size2 (s := t) (by omega); have e2 := numE_len (jsum_ok ht).1; omega)) Z rfl ?_; clear Z az; intro az Z
 refine L (r_as Z rfl) Z rfl ?_; clear Z az; intro az Z
 refine k2 _ _ ?_
 refine wp_ret ?_
 show bodyPost _ _ _ .ret _ _
 refine ret_of (vs := [strV (Wr.textE t ++ Wr.numE (jsum t))]) Z Tryz.results75 ⟨rfl, trivial⟩ ?_
 have O9 : Only NoF w w7 := (Only.trans' (Only.trans' o4 o6) o8)
 exact ⟨rfl, O9⟩
theorem kForms_v_ {w : World} {l : List Str} {A1 : Option Addr} {c1 : Nat} (f1 : StrsV w (.slice A1 l.length c1) l) (hl : (forms l).length ≤ 100000000) (hs : ∀ t ∈ l, t.length ≤ 16777216) : Calls Tryz.prog 60 [.slice A1 l.length c1].toArray w (Fix (strV (forms l)) w) := by
 have hbd1 := Nat.le_trans (SliceOf.cap_ f1) (SliceOf.lens f1).2
 refine calls_start Tryz.func60 rfl rfl ?_
 intro az Z
 rw [Tryz.ntmps60] at Z
 refine wp_seq_k fun _ k1 => wp_region_lit ?_
 refine L (r_as Z rfl) Z rfl ?_; clear Z az; intro az Z
 refine k1 _ _ (wp_seq_k fun _ k2 => wp_region_lit ?_)
 refine L (r_as Z rfl) Z rfl ?_; clear Z az; intro az Z
 refine k2 _ _ (wp_seq_k fun _ k3 => ?_)
 refine wp_seq_k fun _ k4 => wp_region_lit ?_
 refine L (r_as Z rfl) Z rfl ?_; clear Z az; intro az Z
 refine k4 _ _ ?_
 refine wp_block ?_
 refine wp_loop_m (fun mz az W => ∃ k : Nat, ∃ x : Str, mz = l.length - k ∧ Fr 19 [(0, .slice A1 (l.length) c1), (4, .int .i64 ((k : Int))), (3, strV (x))] az ∧ (k ≤ l.length) ∧ (x = forms (l.take k)) ∧ Only NoF w W) ?_ ?_
 ·
  exact ⟨_, 0, [], rfl, Z.cut ⟨rfl, rfl, rfl, trivial⟩, Nat.zero_le _, rfl, (Only.refl NoF w)⟩
 clear Z az
 rintro mz az w5 ⟨k, x, hm7, Z, hk, hx, o6⟩
 have hxl := congrArg List.length hx
 refine wp_seq_k fun _ k8 => ?_
 refine wp_seq_k fun _ k9 => wp_region_lit ?_
 refine L (r_mv Z rfl) Z rfl ?_; clear Z az; intro az Z
 refine L (r_mv Z rfl) Z rfl ?_; clear Z az; intro az Z
 refine L (r_lenL Tryz.underlying68 Z rfl) Z rfl ?_; clear Z az; intro az Z
 refine L (r_ltI Z rfl rfl) Z rfl ?_; clear Z az; intro az Z
 refine k9 _ _ ?_
 refine br Z rfl (fun hc10 => ?_) (fun hc10 => ?_)
 ·
  have p11 := of_decide_eq_true hc10
  refine wp_skip ?_
  refine k8 _ _ (wp_seq_k fun _ k12 => ?_)
  refine wp_block ?_
  refine wp_region_lit ?_
  refine L (r_mv Z rfl) Z rfl ?_; clear Z az; intro az Z
  refine L (r_mv Z rfl) Z rfl ?_; clear Z az; intro az Z
  refine L (r_mv Z rfl) Z rfl ?_; clear Z az; intro az Z
  have hk13 : k < (l).length := by omega
  have h19 := (SliceOf.kp f1 o6 (fun _ _ h => h) (fun _ _ _ _ h => h))
  obtain ⟨m14, hm15, ok16, hA17⟩ := Row.el KStr h19 hk13
  have E18 : ∀ W, Only NoF w5 W → CA W (eA A1 1 (k)) [strV (m14)] := Row.ce KStr h19 hm15 rfl
  refine L (r_ia (k := k) (size := 1) Tryz.underlying68 Tryz.sizeOf9 Z rfl rfl rfl hk13 hA17) Z rfl ?_; clear Z az; intro az Z
  refine L (r_ld Tryz.isAgg9 Z rfl (CA.first (E18 _ (Only.refl NoF w5)))) Z rfl ?_; clear Z az; intro az Z
  refine LCV (v := strV (form m14)) Z rfl rfl Tryz.call75 (kForm_v _ m14 (hs m14 (List.mem_of_getElem? hm15))) rfl fun w20 o21 => ?_; clear Z az; intro az Z
  refine L (r_addS Z rfl rfl (by have := forms_le hm15; omega)) Z rfl ?_; clear Z az; intro az Z
  refine L (r_as Z rfl) Z rfl ?_; clear Z az; intro az Z
  refine k12 _ _ ?_
  refine wp_region_lit ?_
  refine L (r_mv Z rfl) Z rfl ?_; clear Z az; intro az Z
  have i22 : I64 (((k : Int) + 1)) := by unfold I64; omega
  refine L (r_addI (r := ((k : Int) + 1)) Z rfl rfl rfl i22) Z rfl ?_; clear Z az; intro az Z
  refine L (r_as Z rfl) Z rfl ?_; clear Z az; intro az Z
  have O23 : Only NoF w w20 := (Only.trans' o6 o21)
  exact ⟨_, (by omega), k + 1, _, rfl, Z.cut ⟨rfl, rfl, rfl, trivial⟩, (by omega), (by rw [hx, take_succ_get hm15, forms_app, forms_one]), O23⟩
 ·
  have p24 := of_decide_eq_false hc10
  refine wp_exit ?_
  refine th_exit ?_
  refine th_exit ?_
  refine ib_hit ?_
  refine k3 _ _ (wp_seq_k fun _ k25 => wp_region_lit ?_)
  refine L (r_mv Z rfl) Z rfl ?_; clear Z az; intro az Z
  refine L (r_as Z rfl) Z rfl ?_; clear Z az; intro az Z
  refine k25 _ _ ?_
  refine wp_ret ?_
  show bodyPost _ _ _ .ret _ _
  refine ret_of (vs := [strV (x)]) Z Tryz.results60 ⟨rfl, trivial⟩ ?_
  rw [List.take_of_length_le (by omega)] at hx; rw [hx]; exact ⟨rfl, o6⟩
theorem kRecords_v (w : World) (t : Str) (ht : t.length ≤ 16777216) : Calls Tryz.prog 59 [strV t].toArray w (AllTo (recs t) w) := by
 refine calls_start Tryz.func59 rfl rfl ?_
 intro az Z
 rw [Tryz.ntmps59] at Z
 refine wp_seq_k fun _ k1 => wp_region_lit ?_
 refine L (r_as Z rfl) Z rfl ?_; clear Z az; intro az Z
 refine k1 _ _ (wp_seq_k fun _ k2 => wp_region_lit ?_)
 refine L (r_as Z rfl) Z rfl ?_; clear Z az; intro az Z
 refine k2 _ _ (wp_seq_k fun _ k3 => wp_region_lit ?_)
 refine L (r_mv Z rfl) Z rfl ?_; clear Z az; intro az Z
 refine LC Z rfl rfl Tryz.call92 (vOpen_v _ t) rfl ?_
 rintro e w5 ⟨g4, rfl, hg6, B7, o8⟩; refine ⟨_, rfl, ?_⟩
 clear Z az; intro az Z
 refine L (r_as Z rfl) Z rfl ?_; clear Z az; intro az Z
 refine k3 _ _ (wp_seq_k fun _ k9 => ?_)
 refine wp_block ?_
 refine wp_loop_m (fun mz az W => ∃ k : Nat, ∃ O : List Str, ∃ Ao : Option Addr, ∃ co : Nat, mz = t.length - k ∧ Fr 37 [(4, .pointer (some ((⟨g4, 0, none⟩ : Addr)))), (3, .slice Ao (O.length) co)] az ∧ (k ≤ t.length) ∧ (recs t = O ++ recs (t.drop k)) ∧ (k = (forms O).length) ∧ (∀ z ∈ O, KStr.ok z) ∧ Only (oneF g4) w5 W ∧ Blk W g4 136 [strV (List.drop k t), .bool (false)].toArray ∧ W.ownsRow w5.heap.size 9 1 (.slice Ao O.length co) O.length (List.flatMap KStr.cells O)) ?_ ?_
 ·
  exact ⟨_, 0, [], none, 0, rfl, Z.cut ⟨rfl, rfl, trivial⟩, Nat.zero_le _, rfl, rfl, (fun z hz => by cases hz), (Only.refl (oneF g4) w5), B7, (World.ownsRow_nil _ _ _ _)⟩
 clear Z az
 rintro mz az w10 ⟨k, O, Ao, co, hm12, Z, hk, hO, hkn, okO, o11, B13, rO⟩
 have hOl : O.length ≤ k := by rw [hkn]; exact forms_count O
 refine wp_seq_k fun _ k14 => ?_
 refine wp_seq_k fun _ k15 => wp_region_lit ?_
 refine L (r_mv Z rfl) Z rfl ?_; clear Z az; intro az Z
 refine LCV (v := .int .i64 (((List.length ((⟨List.drop k t, false⟩ : Wr.Rd).r) : Nat) : Int))) Z rfl rfl Tryz.call93 (vrLeft_v (s := (⟨List.drop k t, false⟩ : Wr.Rd)) B13) rfl fun w16 o17 => ?_; clear Z az; intro az Z
 refine L (r_gtI Z rfl rfl) Z rfl ?_; clear Z az; intro az Z
 refine k15 _ _ ?_
 refine br Z rfl (fun hc18 => ?_) (fun hc18 => ?_)
 ·
  have p19 := of_decide_eq_true hc18
  refine wp_skip ?_
  refine k14 _ _ ?_
  refine wp_block ?_
  refine wp_seq_k fun _ k20 => wp_region_lit ?_
  refine L (r_mv Z rfl) Z rfl ?_; clear Z az; intro az Z
  have B21 := (Blk.k B13 o17)
  refine LC Z rfl rfl Tryz.call94 (vrText_v (s := (⟨List.drop k t, false⟩ : Wr.Rd)) B21 (fun h => by cases h)) rfl ?_
  rintro e w22 ⟨rfl, B23, o24⟩; refine ⟨_, rfl, ?_⟩
  clear Z az; intro az Z
  refine L (r_as Z rfl) Z rfl ?_; clear Z az; intro az Z
  refine k20 _ _ (wp_seq_k fun _ k25 => wp_region_lit ?_)
  refine L (r_mv Z rfl) Z rfl ?_; clear Z az; intro az Z
  refine LC Z rfl rfl Tryz.call95 (vrNum_v (s := (Wr.text (⟨List.drop k t, false⟩ : Wr.Rd)).2) B23) rfl ?_
  rintro e w26 ⟨rfl, B27, o28⟩; refine ⟨_, rfl, ?_⟩
  clear Z az; intro az Z
  refine L (r_as Z rfl) Z rfl ?_; clear Z az; intro az Z
  refine k25 _ _ (wp_seq_k fun _ k29 => ?_)
  refine wp_seq_k fun _ k30 => wp_region_lit ?_
  refine L (r_mv Z rfl) Z rfl ?_; clear Z az; intro az Z
  refine L (r_nilP Z rfl) Z rfl ?_; clear Z az; intro az Z
  refine L (r_fa (m' := 1) Tryz.underlying136 rfl Tryz.sizeOf4 rfl Z rfl rfl) Z rfl ?_; clear Z az; intro az Z
  refine L (r_ld Tryz.isAgg4 Z rfl ((Blk.ca B27) 1 _ rfl)) Z rfl ?_; clear Z az; intro az Z
  refine L (r_mv Z rfl) Z rfl ?_; clear Z az; intro az Z
  refine LG Z rfl rfl gd_f (fun hb => r_mv Z rfl) rfl ?_; clear Z az; intro az Z
  refine LG Z rfl rfl gd_f (fun hb => r_lenS Tryz.underlying9 Z (evg hb rfl)) rfl ?_; clear Z az; intro az Z
  refine LG Z rfl rfl gd_f (fun hb => r_gtI Z (evg hb rfl) rfl) rfl ?_; clear Z az; intro az Z
  refine L (r_or Z rfl rfl rfl) Z rfl ?_; clear Z az; intro az Z
  refine L (r_mv Z rfl) Z rfl ?_; clear Z az; intro az Z
  refine LG Z rfl rfl gd_f (fun hb => r_mv Z rfl) rfl ?_; clear Z az; intro az Z
  refine LG Z rfl rfl gd_f (fun hb => r_mv Z rfl) rfl ?_; clear Z az; intro az Z
  refine LGV (v := .int .i64 ((jsum ((Wr.text (⟨List.drop k t, false⟩ : Wr.Rd)).1)))) Z rfl rfl gd_f rfl (fun hb => (evs_c (evg hb rfl) rfl)) Tryz.call96 (fun hb => kSum_v _ ((Wr.text (⟨List.drop k t, false⟩ : Wr.Rd)).1) (Nat.le_trans (Wr.text_val_len _) (by show (List.drop k t).length ≤ _; rw [List.length_drop]; omega))) rfl fun w31 o32 => ?_; clear Z az; intro az Z
  refine LG Z rfl rfl gd_f (fun hb => r_neI Z (evg hb rfl) (evg hb rfl)) rfl ?_; clear Z az; intro az Z
  refine L (r_or Z rfl rfl rfl) Z rfl ?_; clear Z az; intro az Z
  refine k30 _ _ ?_
  refine br Z rfl (fun hc33 => ?_) (fun hc33 => ?_)
  ·
   have d34 := hc33
   refine wp_seq_k fun _ k35 => wp_region_lit ?_
   refine L (r_mv Z rfl) Z rfl ?_; clear Z az; intro az Z
   refine L (r_as Z rfl) Z rfl ?_; clear Z az; intro az Z
   refine k35 _ _ ?_
   refine wp_ret ?_
   show bodyPost _ _ _ .ret _ _
   refine ret_of (vs := [.slice Ao (O.length) co]) Z Tryz.results59 ⟨rfl, trivial⟩ ?_
   have O36 : Only NoF w w31 := (Only.trans' (o_sg (o_sg (Only.trans' (o_sg o8 o11 (Nat.le_refl _) (oneF_ge hg6)) o17) o24 (Nat.le_refl _) (oneF_ge hg6)) o28 (Nat.le_refl _) (oneF_ge hg6)) o32)
   have hst := recs_none (rec_no hc33)
   rw [hst, List.append_nil] at hO
   have r37 := (ow_k (ow_only (ow_only (ow_k rO o17) o24 (fun k hk => ge_F (oneF_lt (Blk.lt B7)) (Nat.le_refl _) k (ownF_ge (ow_k rO o17) k hk))) o28 (fun k hk => ge_F (oneF_lt (Blk.lt B7)) (Nat.le_refl _) k (ownF_ge (ow_only (ow_k rO o17) o24 (fun k hk => ge_F (oneF_lt (Blk.lt B7)) (Nat.le_refl _) k (ownF_ge (ow_k rO o17) k hk))) k hk))) o32)
   refine ⟨Ao, co, ?_, ?_, O36⟩
   · rw [hO]; rfl
   · rw [hO]; exact (ow_low r37 (size_only o8))
  ·
   have q38 : (Wr.num ((Wr.text (⟨List.drop k t, false⟩ : Wr.Rd)).2)).2.b = false := (or_f (or_f hc33).1).1
   have p39 := of_decide_eq_false (or_f (or_f hc33).1).2
   have p40 := of_decide_eq_true (nt_f (or_f hc33).2)
   refine wp_skip ?_
   refine k29 _ _ ?_
   refine wp_region_lit ?_
   refine L (r_mv Z rfl) Z rfl ?_; clear Z az; intro az Z
   refine L (r_mv Z rfl) Z rfl ?_; clear Z az; intro az Z
   obtain ⟨A41, w42, hw, hA, r43, o44⟩ := Row.made (w := w31) KStr (e := 9) ([(Wr.text (⟨List.drop k t, false⟩ : Wr.Rd)).1] : List Str) (by simp only [List.length_cons, List.length_nil]; unfold maxLen; omega)
   refine L (r_bs (z := strV ([])) (size := 1) (vs := [(0, strV ((Wr.text (⟨List.drop k t, false⟩ : Wr.Rd)).1))]) (cs := List.flatMap KStr.cells [(Wr.text (⟨List.drop k t, false⟩ : Wr.Rd)).1]) Tryz.underlying68 Tryz.sizeOf9 Tryz.zeroValue9 rfl (Fr.evalps Z rfl) (by kernel_rfl)) Z rfl ?_
   rw [← hw, ← hA]; clear Z az; intro az Z
   clear hw hA
   have ok45 : ∀ zq ∈ ([(Wr.text (⟨List.drop k t, false⟩ : Wr.Rd)).1] : List Str), KStr.ok zq := by intro zq hx; simp only [List.mem_cons, List.not_mem_nil, or_false] at hx; rcases hx with rfl <;> first | exact (by show List.length ((Wr.text (⟨List.drop k t, false⟩ : Wr.Rd)).1) ≤ maxLen; have := (rec_yes hc33).2; unfold maxLen; omega)
   have r46 := (ow_k (ow_k (ow_only (ow_only (ow_k rO o17) o24 (fun k hk => ge_F (oneF_lt (Blk.lt B7)) (Nat.le_refl _) k (ownF_ge (ow_k rO o17) k hk))) o28 (fun k hk => ge_F (oneF_lt (Blk.lt B7)) (Nat.le_refl _) k (ownF_ge (ow_only (ow_k rO o17) o24 (fun k hk => ge_F (oneF_lt (Blk.lt B7)) (Nat.le_refl _) k (ownF_ge (ow_k rO o17) k hk))) k hk))) o32) o44)
   have h47 := Row.own KStr r43 ok45
   have h48 := SliceOf.pl h47
   have hb56 : (List.length (O) + List.length ([(Wr.text (⟨List.drop k t, false⟩ : Wr.Rd)).1])) * 16 ≤ 140737488355328 := by (simp only [List.length_cons, List.length_nil]; omega)
   have O57 := (Only.trans (Only.trans (Only.trans (Only.trans (Only.trans (Only.trans (Only.refl (fun _ => True) w5) o11 (fun _ _ => .inl trivial)) o17 (fun _ _ => .inl trivial)) o24 (fun _ _ => .inl trivial)) o28 (fun _ _ => .inl trivial)) o32 (fun _ _ => .inl trivial)) o44 (fun _ _ => .inl trivial))
   obtain ⟨A49, c50, w51, hr52, r53, o54, al55⟩ := Row.app (P := Tryz.prog) (l := O) (l2 := [(Wr.text (⟨List.drop k t, false⟩ : Wr.Rd)).1]) KStr elemStr r46 h48 hb56 (by unfold maxLen; omega) (size_only O57)
   refine L (r_app hr52 Z rfl rfl) Z rfl ?_; clear Z az; intro az Z
   have ok58 : ∀ zq ∈ (O ++ [(Wr.text (⟨List.drop k t, false⟩ : Wr.Rd)).1]), KStr.ok zq := (fun x hx => (List.mem_append.1 hx).elim (okO x) ((Row.oks KStr h48) x))
   have h59 := Row.own KStr r53 ok58
   refine L (r_as Z rfl) Z rfl ?_; clear Z az; intro az Z
   have hone := (rec_yes hc33).1
   obtain ⟨_, _, _, hfl, _⟩ := one_some hone
   have hfp := form_pos (Wr.text ⟨List.drop k t, false⟩).1
   rw [List.length_drop] at hfl
   have B60 := (Blk.only (Blk.k (Blk.k B27 o32) o44) o54 (ow_nb r46 (Blk.k (Blk.k B27 o32) o44) (by decide)))
   exact ⟨_, (by omega), k + List.length (form (Wr.text ⟨List.drop k t, false⟩).1), _, A49, c50, rfl, Z.cut ⟨rfl, rfl, trivial⟩, (by omega), (by rw [hO, recs_some hone, List.drop_drop, List.append_assoc]; rfl), (by rw [forms_app, forms_one, List.length_append, ← hkn]), ok58, (Only.trans (Only.trans (Only.trans (Only.trans (Only.trans (Only.trans (Only.trans (Only.refl (oneF g4) w5) o11 (fun _ h => .inl h)) o17 (fun _ h => h.elim)) o24 (fun _ h => .inl h)) o28 (fun _ h => .inl h)) o32 (fun _ h => h.elim)) o44 (fun _ h => h.elim)) o54 (fun k h => .inr (Nat.le_trans (Nat.le_refl _) ((ownF_ge rO) k h)))), (rec_blk hone B60), (ow_low r53 (Nat.le_refl _))⟩
 ·
  have p61 := of_decide_eq_false hc18
  refine wp_exit ?_
  refine th_exit ?_
  refine th_exit ?_
  refine ib_hit ?_
  refine k9 _ _ (wp_seq_k fun _ k62 => wp_region_lit ?_)
  refine L (r_mv Z rfl) Z rfl ?_; clear Z az; intro az Z
  refine L (r_as Z rfl) Z rfl ?_; clear Z az; intro az Z
  refine k62 _ _ ?_
  refine wp_ret ?_
  show bodyPost _ _ _ .ret _ _
  refine ret_of (vs := [.slice Ao (O.length) co]) Z Tryz.results59 ⟨rfl, trivial⟩ ?_
  have O63 : Only NoF w w16 := (Only.trans' (o_sg o8 o11 (Nat.le_refl _) (oneF_ge hg6)) o17)
  have hst : recs (t.drop k) = [] := by rw [rec_end hc18]; exact recs_nil
  rw [hst, List.append_nil] at hO
  have r64 := (ow_k rO o17)
  refine ⟨Ao, co, ?_, ?_, O63⟩
  · rw [hO]; rfl
  · rw [hO]; exact (ow_low r64 (size_only o8))
end
section
open Go.RowKit
theorem build_KJ (p : Option Addr) (f : Int) (A : Option Addr) (k c : Nat) (w : World) : (Instr.build 79 #[(0, .pointer p), (1, .int .i64 f), (2, .slice A k c)]).run Tryz.prog w = .ok (.agg #[.pointer p, .int .i64 f, .slice A k c, .bool false]) w := by kernel_rfl
theorem kOpen_v_ {w : World} {b : Nat} {D : Dsk} {F : Foot} (hd : RefT b D w F) {f : Int} : Calls Tryz.prog 31 [.pointer (some ⟨b, 0, none⟩), .int .i64 f].toArray w (OpenKTo b (openJ D f) w F) := by
 refine calls_start Tryz.func31 rfl rfl ?_
 intro az Z
 rw [Tryz.ntmps31] at Z
 refine wp_seq_k fun _ k1 => wp_region_lit ?_
 refine L (r_as Z rfl) Z rfl ?_; clear Z az; intro az Z
 refine L (r_as Z rfl) Z rfl ?_; clear Z az; intro az Z
 refine k1 _ _ (wp_seq_k fun _ k2 => ?_)
 refine wp_seq_k fun _ k3 => wp_region_lit ?_
 refine L (r_mv Z rfl) Z rfl ?_; clear Z az; intro az Z
 refine L (r_ltI Z rfl rfl) Z rfl ?_; clear Z az; intro az Z
 refine L (r_mv Z rfl) Z rfl ?_; clear Z az; intro az Z
 refine LG Z rfl rfl gd_f (fun hb => r_mv Z rfl) rfl ?_; clear Z az; intro az Z
 refine LG Z rfl rfl gd_f (fun hb => r_gtI Z (evg hb rfl) rfl) rfl ?_; clear Z az; intro az Z
 refine L (r_or Z rfl rfl rfl) Z rfl ?_; clear Z az; intro az Z
 refine k3 _ _ ?_
 refine br Z rfl (fun hc4 => ?_) (fun hc4 => ?_)
 ·
  have d5 := hc4
  refine wp_seq_k fun _ k6 => wp_region_lit ?_
  refine L (r_as Z rfl) Z rfl ?_; clear Z az; intro az Z
  refine L (r_as Z rfl) Z rfl ?_; clear Z az; intro az Z
  refine k6 _ _ ?_
  refine wp_ret ?_
  show bodyPost _ _ _ .ret _ _
  refine ret_of (vs := [.pointer none, .int .i64 (1)]) Z Tryz.results31 ⟨rfl, rfl, trivial⟩ ?_
  rw [open_0t hc4]
  exact .inl ⟨rfl, rfl, ⟨_, hd, (Only.refl _ w), (fun k hk => (.inl hk)), (fun k hk => (.inl hk))⟩⟩
 ·
  have p7 := of_decide_eq_false (or_f hc4).1
  have p8 := of_decide_eq_false (or_f hc4).2
  refine wp_skip ?_
  refine k2 _ _ (wp_seq_k fun _ k9 => wp_region_lit ?_)
  refine L (r_mv Z rfl) Z rfl ?_; clear Z az; intro az Z
  refine L (r_mv Z rfl) Z rfl ?_; clear Z az; intro az Z
  refine LC Z rfl rfl Tryz.call56 (rSync_c hd f) rfl ?_
  rintro e w10 ⟨rfl, F11, h12, o13, fm14, fr15⟩; refine ⟨_, rfl, ?_⟩
  clear Z az; intro az Z
  refine L (r_as Z rfl) Z rfl ?_; clear Z az; intro az Z
  refine k9 _ _ (wp_seq_k fun _ k16 => ?_)
  refine wp_seq_k fun _ k17 => wp_region_lit ?_
  refine L (r_mv Z rfl) Z rfl ?_; clear Z az; intro az Z
  refine L (r_neI Z rfl rfl) Z rfl ?_; clear Z az; intro az Z
  refine k17 _ _ ?_
  refine br Z rfl (fun hc18 => ?_) (fun hc18 => ?_)
  ·
   have p19 := of_decide_eq_false (nt_t hc18)
   refine wp_seq_k fun _ k20 => wp_region_lit ?_
   refine L (r_mv Z rfl) Z rfl ?_; clear Z az; intro az Z
   refine L (r_as Z rfl) Z rfl ?_; clear Z az; intro az Z
   refine L (r_as Z rfl) Z rfl ?_; clear Z az; intro az Z
   refine k20 _ _ ?_
   refine wp_ret ?_
   show bodyPost _ _ _ .ret _ _
   refine ret_of (vs := [.pointer none, .int .i64 ((D.sync f).2)]) Z Tryz.results31 ⟨rfl, rfl, trivial⟩ ?_
   rw [open_0f1t hc4 hc18]
   exact .inl ⟨rfl, rfl, ⟨_, h12, (Only.trans (Only.refl _ w) o13 (fun k h => (.inl h))), (fun k hk => ((fm14 _ hk).elim (fun h => (.inl h)) (fun h => .inr (Nat.le_trans (Nat.le_refl _) h)))), (fun k hk => ((fr15 _ hk).elim (fun h => (.inl h)) (fun h => .inr (Nat.le_trans (Nat.le_refl _) h))))⟩⟩
  ·
   have p21 := of_decide_eq_true (nt_f hc18)
   refine wp_skip ?_
   refine k16 _ _ (wp_seq_k fun _ k22 => wp_region_lit ?_)
   refine L (r_mv Z rfl) Z rfl ?_; clear Z az; intro az Z
   refine L (r_mv Z rfl) Z rfl ?_; clear Z az; intro az Z
   refine L (r_mv Z rfl) Z rfl ?_; clear Z az; intro az Z
   refine L (r_mv Z rfl) Z rfl ?_; clear Z az; intro az Z
   refine LCV (v := .int .i64 ((((D.sync f).1.size f : Nat) : Int))) Z rfl rfl Tryz.call58 (fix_b (rSize_c h12 f)) rfl fun w23 o24 => ?_; clear Z az; intro az Z
   have T25 : (RefT b (D.sync f).1) w23 F11 := ((refT_good b (D.sync f).1).only h12 o24 (fun _ _ h => h))
   refine LCV (v := .tuple #[strV (((D.sync f).1.read f 0 (((D.sync f).1.size f : Nat) : Int)).1), .int .i64 (((D.sync f).1.read f 0 (((D.sync f).1.size f : Nat) : Int)).2)]) Z rfl rfl Tryz.call57 (rRead_c T25 f 0 _ (by unfold I64; omega) (by have := ksize_le T25 f; unfold I64; omega)) rfl fun w26 o27 => ?_; clear Z az; intro az Z
   refine L (r_mv Z rfl) Z rfl ?_; clear Z az; intro az Z
   refine L (r_ex Z rfl rfl) Z rfl ?_; clear Z az; intro az Z
   refine L (r_ex Z rfl rfl) Z rfl ?_; clear Z az; intro az Z
   refine L (r_as Z rfl) Z rfl ?_; clear Z az; intro az Z
   refine L (r_as Z rfl) Z rfl ?_; clear Z az; intro az Z
   refine k22 _ _ (wp_seq_k fun _ k28 => ?_)
   refine wp_seq_k fun _ k29 => wp_region_lit ?_
   refine L (r_mv Z rfl) Z rfl ?_; clear Z az; intro az Z
   refine L (r_neI Z rfl rfl) Z rfl ?_; clear Z az; intro az Z
   refine k29 _ _ ?_
   refine br Z rfl (fun hc30 => ?_) (fun hc30 => ?_)
   ·
    have p31 := of_decide_eq_false (nt_t hc30)
    refine wp_seq_k fun _ k32 => wp_region_lit ?_
    refine L (r_mv Z rfl) Z rfl ?_; clear Z az; intro az Z
    refine L (r_as Z rfl) Z rfl ?_; clear Z az; intro az Z
    refine L (r_as Z rfl) Z rfl ?_; clear Z az; intro az Z
    refine k32 _ _ ?_
    refine wp_ret ?_
    show bodyPost _ _ _ .ret _ _
    refine ret_of (vs := [.pointer none, .int .i64 (((D.sync f).1.read f 0 (((D.sync f).1.size f : Nat) : Int)).2)]) Z Tryz.results31 ⟨rfl, rfl, trivial⟩ ?_
    have T33 : (RefT b (D.sync f).1) w26 F11 := ((refT_good b (D.sync f).1).only T25 o27 (fun _ _ h => h))
    rw [open_0f1f2t hc4 hc18 hc30]
    exact .inl ⟨rfl, rfl, ⟨_, T33, (Only.trans (Only.trans (Only.trans (Only.refl _ w) o13 (fun k h => (.inl h))) o24 (fun _ h => h.elim)) o27 (fun _ h => h.elim)), (fun k hk => ((fm14 _ hk).elim (fun h => (.inl h)) (fun h => .inr (Nat.le_trans (Nat.le_refl _) h)))), (fun k hk => ((fr15 _ hk).elim (fun h => (.inl h)) (fun h => .inr (Nat.le_trans (Nat.le_refl _) h))))⟩⟩
   ·
    have p34 := of_decide_eq_true (nt_f hc30)
    refine wp_skip ?_
    refine k28 _ _ (wp_seq_k fun _ k35 => wp_region_lit ?_)
    refine L (r_mv Z rfl) Z rfl ?_; clear Z az; intro az Z
    refine L (r_mv Z rfl) Z rfl ?_; clear Z az; intro az Z
    refine L (r_mv Z rfl) Z rfl ?_; clear Z az; intro az Z
    have T41 : (RefT b (D.sync f).1) w26 F11 := ((refT_good b (D.sync f).1).only T25 o27 (fun _ _ h => h))
    have hrl := kread_le T41 f 0 (((D.sync f).1.size f : Nat) : Int)
    refine LC Z rfl rfl Tryz.call59 (kRecords_v _ (((D.sync f).1.read f 0 (((D.sync f).1.size f : Nat) : Int)).1) hrl) rfl ?_
    rintro e w36 ⟨A37, c38, rfl, r39, o40⟩; refine ⟨_, rfl, ?_⟩
    clear Z az; intro az Z
    refine L (r_bd (v := .agg #[.pointer (some ⟨b, 0, none⟩), .int .i64 (f), .slice A37 ((recs ((D.sync f).1.read f 0 (((D.sync f).1.size f : Nat) : Int)).1).length) c38, .bool (false)]) (build_KJ _ _ _ _ _) Z rfl) Z rfl ?_; clear Z az; intro az Z
    refine LBox Z rfl rfl rfl ?_
    clear Z az; intro g42 w43 hg46 hl47 o44 B45 az Z
    refine L (r_as Z rfl) Z rfl ?_; clear Z az; intro az Z
    refine k35 _ _ (wp_seq_k fun _ k48 => wp_region_lit ?_)
    refine L (r_mv Z rfl) Z rfl ?_; clear Z az; intro az Z
    refine L (r_nilP Z rfl) Z rfl ?_; clear Z az; intro az Z
    refine L (r_fa (m' := 2) Tryz.underlying79 rfl Tryz.sizeOf68 rfl Z rfl rfl) Z rfl ?_; clear Z az; intro az Z
    refine L (r_ld Tryz.isAgg68 Z rfl ((Blk.ca B45) 2 _ rfl)) Z rfl ?_; clear Z az; intro az Z
    have r50 := (ow_k r39 o44)
    have h49 := SliceOf.pl (Row.own KStr r50 (recs_okS _))
    refine LCV (v := strV (forms (recs ((D.sync f).1.read f 0 (((D.sync f).1.size f : Nat) : Int)).1))) Z rfl rfl Tryz.call60 (kForms_v_ h49 (by have := recs_le ((D.sync f).1.read f 0 (((D.sync f).1.size f : Nat) : Int)).1; omega) (fun t ht => by have := recs_short ht; omega)) rfl fun w51 o52 => ?_; clear Z az; intro az Z
    refine L (r_lenS Tryz.underlying9 Z rfl) Z rfl ?_; clear Z az; intro az Z
    refine L (r_as Z rfl) Z rfl ?_; clear Z az; intro az Z
    refine k48 _ _ (wp_seq_k fun _ k53 => ?_)
    refine wp_seq_k fun _ k54 => wp_region_lit ?_
    refine L (r_mv Z rfl) Z rfl ?_; clear Z az; intro az Z
    refine L (r_mv Z rfl) Z rfl ?_; clear Z az; intro az Z
    refine L (r_lenS Tryz.underlying9 Z rfl) Z rfl ?_; clear Z az; intro az Z
    refine L (r_ltI Z rfl rfl) Z rfl ?_; clear Z az; intro az Z
    refine k54 _ _ ?_
    refine br Z rfl (fun hc55 => ?_) (fun hc55 => ?_)
    ·
     have p56 := of_decide_eq_true hc55
     refine wp_region_lit ?_
     refine L (r_mv Z rfl) Z rfl ?_; clear Z az; intro az Z
     refine L (r_mv Z rfl) Z rfl ?_; clear Z az; intro az Z
     refine L (r_mv Z rfl) Z rfl ?_; clear Z az; intro az Z
     have O57 : Only NoF w26 w51 := (Only.trans' (Only.trans' o40 o44) o52)
     have T58 : (RefT b (D.sync f).1) w51 F11 := ((refT_good b (D.sync f).1).only T41 O57 (fun _ _ h => h))
     refine LC Z rfl rfl Tryz.call61 (rTruncate_c T58 f _ (by have := recs_le ((D.sync f).1.read f 0 (((D.sync f).1.size f : Nat) : Int)).1; unfold I64; omega)) rfl ?_
     rintro e w59 ⟨rfl, F60, h61, o62, fm63, fr64⟩; refine ⟨_, rfl, ?_⟩
     clear Z az; intro az Z
     refine L (r_as Z rfl) Z rfl ?_; clear Z az; intro az Z
     refine k53 _ _ (wp_seq_k fun _ k65 => ?_)
     refine wp_seq_k fun _ k66 => wp_region_lit ?_
     refine L (r_mv Z rfl) Z rfl ?_; clear Z az; intro az Z
     refine L (r_neI Z rfl rfl) Z rfl ?_; clear Z az; intro az Z
     refine k66 _ _ ?_
     refine br Z rfl (fun hc67 => ?_) (fun hc67 => ?_)
     ·
      have p68 := of_decide_eq_false (nt_t hc67)
      refine wp_seq_k fun _ k69 => wp_region_lit ?_
      refine L (r_mv Z rfl) Z rfl ?_; clear Z az; intro az Z
      refine L (r_as Z rfl) Z rfl ?_; clear Z az; intro az Z
      refine L (r_as Z rfl) Z rfl ?_; clear Z az; intro az Z
      refine k69 _ _ ?_
      refine wp_ret ?_
      show bodyPost _ _ _ .ret _ _
      refine ret_of (vs := [.pointer none, .int .i64 (((D.sync f).1.truncate f (((forms (recs ((D.sync f).1.read f 0 (((D.sync f).1.size f : Nat) : Int)).1)).length : Nat) : Int)).2)]) Z Tryz.results31 ⟨rfl, rfl, trivial⟩ ?_
      rw [open_0f1f2f3t4t hc4 hc18 hc30 hc55 hc67]
      have O70 := (Only.trans (Only.trans (Only.trans (Only.trans (Only.trans (Only.trans (Only.refl (fun _ => True) w) o13 (fun _ _ => .inl trivial)) o24 (fun _ _ => .inl trivial)) o27 (fun _ _ => .inl trivial)) o40 (fun _ _ => .inl trivial)) o44 (fun _ _ => .inl trivial)) o52 (fun _ _ => .inl trivial))
      exact .inl ⟨rfl, rfl, ⟨_, h61, (Only.trans (Only.trans (Only.trans (Only.trans (Only.trans (Only.trans (Only.trans (Only.refl _ w) o13 (fun k h => (.inl h))) o24 (fun _ h => h.elim)) o27 (fun _ h => h.elim)) o40 (fun _ h => h.elim)) o44 (fun _ h => h.elim)) o52 (fun _ h => h.elim)) o62 (fun k h => ((fm14 _ h).elim (fun h => (.inl h)) (fun h => .inr (Nat.le_trans (Nat.le_refl _) h))))), (fun k hk => ((fm63 _ hk).elim (fun h => ((fm14 _ h).elim (fun h => (.inl h)) (fun h => .inr (Nat.le_trans (Nat.le_refl _) h)))) (fun h => .inr (Nat.le_trans (size_only O70) h)))), (fun k hk => ((fr64 _ hk).elim (fun h => ((fr15 _ h).elim (fun h => (.inl h)) (fun h => .inr (Nat.le_trans (Nat.le_refl _) h)))) (fun h => .inr (Nat.le_trans (size_only O70) h))))⟩⟩
     ·
      have p71 := of_decide_eq_true (nt_f hc67)
      refine wp_skip ?_
      refine k65 _ _ (wp_seq_k fun _ k72 => wp_region_lit ?_)
      refine L (r_mv Z rfl) Z rfl ?_; clear Z az; intro az Z
      refine L (r_as Z rfl) Z rfl ?_; clear Z az; intro az Z
      refine L (r_as Z rfl) Z rfl ?_; clear Z az; intro az Z
      refine k72 _ _ ?_
      refine wp_ret ?_
      show bodyPost _ _ _ .ret _ _
      refine ret_of (vs := [.pointer (some ((⟨g42, 0, none⟩ : Addr))), .int .i64 (0)]) Z Tryz.results31 ⟨rfl, rfl, trivial⟩ ?_
      rw [open_0f1f2f3t4f hc4 hc18 hc30 hc55 hc67]
      have O73 : Only NoF w10 w36 := (Only.trans' (Only.trans' o24 o27) o40)
      have B74 := (Blk.only (Blk.k B45 o52) o62 (fun h => (fun h => absurd ((refT_good b (D.sync f).1).lt h12 _ h) (Nat.not_lt.2 (Nat.le_trans (size_only O73) hg46))) (.inl h)))
      have O75 : Only NoF w10 w26 := (Only.trans' o24 o27)
      have r76 := (ow_only (ow_k r50 o52) o62 (fun k hk hF => (fun k hk h => absurd ((refT_good b (D.sync f).1).lt h12 _ h) (Nat.not_lt.2 (Nat.le_trans (size_only O75) (ownF_ge r39 k hk)))) k hk (.inl hF)))
      have sp77 : ¬ Foot.all F60 g42 := sep_next (fun h => absurd ((refT_good b (D.sync f).1).lt h12 _ h) (Nat.not_lt.2 (Nat.le_trans (size_only O73) hg46))) (Nat.lt_of_lt_of_le hl47 (size_only o52)) fm63 fr64
      have O79 : Only NoF w36 w51 := (Only.trans' o44 o52)
      have sp78 : ∀ k, ownF (.slice A37 ((recs ((D.sync f).1.read f 0 (((D.sync f).1.size f : Nat) : Int)).1).length) c38) k → ¬ Foot.all F60 k := sep_nexto (fun k hk h => absurd ((refT_good b (D.sync f).1).lt h12 _ h) (Nat.not_lt.2 (Nat.le_trans (size_only O75) (ownF_ge r39 k hk)))) (fun k hk => Nat.lt_of_lt_of_le (ownF_lt r39 k hk) (size_only O79)) fm63 fr64
      have O80 := (Only.trans (Only.trans (Only.trans (Only.trans (Only.refl (fun _ => True) w) o13 (fun _ _ => .inl trivial)) o24 (fun _ _ => .inl trivial)) o27 (fun _ _ => .inl trivial)) o40 (fun _ _ => .inl trivial))
      have O81 := (Only.trans (Only.trans (Only.trans (Only.refl (fun _ => True) w) o13 (fun _ _ => .inl trivial)) o24 (fun _ _ => .inl trivial)) o27 (fun _ _ => .inl trivial))
      have O82 := (Only.trans (Only.trans (Only.trans (Only.trans (Only.trans (Only.trans (Only.refl (fun _ => True) w) o13 (fun _ _ => .inl trivial)) o24 (fun _ _ => .inl trivial)) o27 (fun _ _ => .inl trivial)) o40 (fun _ _ => .inl trivial)) o44 (fun _ _ => .inl trivial)) o52 (fun _ _ => .inl trivial))
      refine .inr ⟨_, g42, rfl, rfl, ?_⟩
      refine ⟨_, KT.make (J := ⟨f, recs ((D.sync f).1.read f 0 (((D.sync f).1.size f : Nat) : Int)).1, (forms (recs ((D.sync f).1.read f 0 (((D.sync f).1.size f : Nat) : Int)).1)).length, false⟩) B74 r76 (recs_okS _) h61 sp77 sp78, ?_, ?_, ?_⟩
      · exact (Only.trans (Only.trans (Only.trans (Only.trans (Only.trans (Only.trans (Only.trans (Only.refl _ w) o13 (fun k h => (.inl h))) o24 (fun _ h => h.elim)) o27 (fun _ h => h.elim)) o40 (fun _ h => h.elim)) o44 (fun _ h => h.elim)) o52 (fun _ h => h.elim)) o62 (fun k h => ((fm14 _ h).elim (fun h => (.inl h)) (fun h => .inr (Nat.le_trans (Nat.le_refl _) h)))))
      · intro k hk; rcases hk with (hk | hk) | hk
        · exact .inr (by rw [hk]; exact Nat.le_trans (size_only O80) hg46)
        · exact .inr (Nat.le_trans (size_only O81) (ownF_ge r76 k hk))
        · exact ((fm63 _ hk).elim (fun h => ((fm14 _ h).elim (fun h => (.inl h)) (fun h => .inr (Nat.le_trans (Nat.le_refl _) h)))) (fun h => .inr (Nat.le_trans (size_only O82) h)))
      · intro k hk; rcases hk with hk | hk
        · exact hk.elim
        · exact ((fr64 _ hk).elim (fun h => ((fr15 _ h).elim (fun h => (.inl h)) (fun h => .inr (Nat.le_trans (Nat.le_refl _) h)))) (fun h => .inr (Nat.le_trans (size_only O82) h)))
    ·
     have p83 := of_decide_eq_false hc55
     refine wp_skip ?_
     refine k53 _ _ (wp_seq_k fun _ k84 => ?_)
     refine wp_seq_k fun _ k85 => wp_region_lit ?_
     refine L (r_mv Z rfl) Z rfl ?_; clear Z az; intro az Z
     refine L (r_neI Z rfl rfl) Z rfl ?_; clear Z az; intro az Z
     refine k85 _ _ ?_
     refine br Z rfl (fun hc86 => ?_) (fun hc86 => ?_)
     ·
      have p87 := of_decide_eq_false (nt_t hc86)
      refine wp_seq_k fun _ k88 => wp_region_lit ?_
      refine L (r_mv Z rfl) Z rfl ?_; clear Z az; intro az Z
      refine L (r_as Z rfl) Z rfl ?_; clear Z az; intro az Z
      refine L (r_as Z rfl) Z rfl ?_; clear Z az; intro az Z
      refine k88 _ _ ?_
      refine wp_ret ?_
      show bodyPost _ _ _ .ret _ _
      refine ret_of (vs := [.pointer none, .int .i64 (((D.sync f).1.read f 0 (((D.sync f).1.size f : Nat) : Int)).2)]) Z Tryz.results31 ⟨rfl, rfl, trivial⟩ ?_
      have O89 : Only NoF w26 w51 := (Only.trans' (Only.trans' o40 o44) o52)
      have T90 : (RefT b (D.sync f).1) w51 F11 := ((refT_good b (D.sync f).1).only T41 O89 (fun _ _ h => h))
      rw [hc30] at hc86; cases hc86
     ·
      have p91 := of_decide_eq_true (nt_f hc86)
      refine wp_skip ?_
      refine k84 _ _ (wp_seq_k fun _ k92 => wp_region_lit ?_)
      refine L (r_mv Z rfl) Z rfl ?_; clear Z az; intro az Z
      refine L (r_as Z rfl) Z rfl ?_; clear Z az; intro az Z
      refine L (r_as Z rfl) Z rfl ?_; clear Z az; intro az Z
      refine k92 _ _ ?_
      refine wp_ret ?_
      show bodyPost _ _ _ .ret _ _
      refine ret_of (vs := [.pointer (some ((⟨g42, 0, none⟩ : Addr))), .int .i64 (0)]) Z Tryz.results31 ⟨rfl, rfl, trivial⟩ ?_
      have O93 : Only NoF w26 w51 := (Only.trans' (Only.trans' o40 o44) o52)
      have T94 : (RefT b (D.sync f).1) w51 F11 := ((refT_good b (D.sync f).1).only T41 O93 (fun _ _ h => h))
      rw [open_0f1f2f3f hc4 hc18 hc30 hc55]
      have B95 := (Blk.k B45 o52)
      have r96 := (ow_k r50 o52)
      have O97 : Only NoF w10 w36 := (Only.trans' (Only.trans' o24 o27) o40)
      have O98 : Only NoF w10 w26 := (Only.trans' o24 o27)
      have O99 := (Only.trans (Only.trans (Only.trans (Only.trans (Only.refl (fun _ => True) w) o13 (fun _ _ => .inl trivial)) o24 (fun _ _ => .inl trivial)) o27 (fun _ _ => .inl trivial)) o40 (fun _ _ => .inl trivial))
      have O100 := (Only.trans (Only.trans (Only.trans (Only.refl (fun _ => True) w) o13 (fun _ _ => .inl trivial)) o24 (fun _ _ => .inl trivial)) o27 (fun _ _ => .inl trivial))
      refine .inr ⟨_, g42, rfl, rfl, ?_⟩
      refine ⟨_, KT.make (J := ⟨f, recs ((D.sync f).1.read f 0 (((D.sync f).1.size f : Nat) : Int)).1, (forms (recs ((D.sync f).1.read f 0 (((D.sync f).1.size f : Nat) : Int)).1)).length, false⟩) B95 r96 (recs_okS _) T94 (fun h => absurd ((refT_good b (D.sync f).1).lt h12 _ h) (Nat.not_lt.2 (Nat.le_trans (size_only O97) hg46))) (fun k hk h => absurd ((refT_good b (D.sync f).1).lt h12 _ h) (Nat.not_lt.2 (Nat.le_trans (size_only O98) (ownF_ge r39 k hk)))), ?_, ?_, ?_⟩
      · exact (Only.trans (Only.trans (Only.trans (Only.trans (Only.trans (Only.trans (Only.refl _ w) o13 (fun k h => (.inl h))) o24 (fun _ h => h.elim)) o27 (fun _ h => h.elim)) o40 (fun _ h => h.elim)) o44 (fun _ h => h.elim)) o52 (fun _ h => h.elim))
      · intro k hk; rcases hk with (hk | hk) | hk
        · exact .inr (by rw [hk]; exact Nat.le_trans (size_only O99) hg46)
        · exact .inr (Nat.le_trans (size_only O100) (ownF_ge r96 k hk))
        · exact ((fm14 _ hk).elim (fun h => (.inl h)) (fun h => .inr (Nat.le_trans (Nat.le_refl _) h)))
      · intro k hk; rcases hk with hk | hk
        · exact hk.elim
        · exact ((fr15 _ hk).elim (fun h => (.inl h)) (fun h => .inr (Nat.le_trans (Nat.le_refl _) h)))
theorem kAppend_v_ {w : World} {b g : Nat} {D : Dsk} {J : Jn} {A : Option Addr} {c : Nat} {F : Foot} (hB : Blk w g 79 (kjCells b J A c)) (rO : w.ownsRow 0 9 1 (.slice A J.l.length c) J.l.length (J.l.flatMap KStr.cells)) (okO : ∀ z ∈ J.l, KStr.ok z) (hd : RefT b D w F) (s1 : ¬ F.all g) (s2 : ∀ k, ownF (.slice A J.l.length c) k → ¬ F.all k) {t : Str} (ht : t.length ≤ 900000) (hn : J.n = (forms J.l).length) (hn2 : J.n ≤ 100000000) (hll : J.l.length ≤ 100000000) (hsm : ∀ t ∈ J.l, t.length ≤ 20000) : Calls Tryz.prog 42 [.pointer (some ⟨g, 0, none⟩), strV t].toArray w (TurnTo (.int .i64 (J.append D t).2.2) (KT b g (J.append D t).1 (J.append D t).2.1) w (⟨fun k => (k = g ∨ ownF (.slice A J.l.length c) k) ∨ F.m k, fun k => False ∨ F.r k⟩ : Foot)) := by
 have htk : KStr.ok t := by show t.length ≤ maxLen; unfold maxLen; omega
 have hfl := form_len (t := t) (by omega)
 refine calls_start Tryz.func42 rfl rfl ?_
 intro az Z
 rw [Tryz.ntmps42] at Z
 refine wp_seq_k fun _ k1 => wp_region_lit ?_
 refine L (r_as Z rfl) Z rfl ?_; clear Z az; intro az Z
 refine k1 _ _ (wp_seq_k fun _ k2 => ?_)
 refine wp_seq_k fun _ k3 => wp_region_lit ?_
 refine L (r_mv Z rfl) Z rfl ?_; clear Z az; intro az Z
 refine L (r_nilP Z rfl) Z rfl ?_; clear Z az; intro az Z
 refine L (r_fa (m' := 3) Tryz.underlying79 rfl Tryz.sizeOf4 rfl Z rfl rfl) Z rfl ?_; clear Z az; intro az Z
 refine L (r_ld Tryz.isAgg4 Z rfl ((Blk.ca hB) 3 _ rfl)) Z rfl ?_; clear Z az; intro az Z
 refine k3 _ _ ?_
 refine br Z rfl (fun hc4 => ?_) (fun hc4 => ?_)
 ·
  have q5 : J.bad = true := hc4
  refine wp_seq_k fun _ k6 => wp_region_lit ?_
  refine L (r_as Z rfl) Z rfl ?_; clear Z az; intro az Z
  refine k6 _ _ ?_
  refine wp_ret ?_
  show bodyPost _ _ _ .ret _ _
  refine ret_of (vs := [.int .i64 (7)]) Z Tryz.results42 ⟨rfl, trivial⟩ ?_
  rw [app_0t hc4]; refine ⟨by first | rfl | (rw [hn]; rfl) | rw [hn], ?_⟩
  try rw [hn]
  refine ⟨_, KT.make (J := J) hB rO okO hd s1 s2, ?_, ?_, ?_⟩
  · exact (Only.refl _ w)
  · intro k hk; rcases hk with (hk | hk) | hk
    · exact .inl (.inl (.inl hk))
    · exact .inl (.inl (.inr hk))
    · exact ((.inl hk) : F.m k ∨ w.heap.size ≤ k).imp .inr id
  · intro k hk; rcases hk with hk | hk
    · exact hk.elim
    · exact ((.inl hk) : F.r k ∨ w.heap.size ≤ k).imp .inr id
 ·
  have q7 : J.bad = false := hc4
  refine wp_skip ?_
  refine k2 _ _ (wp_seq_k fun _ k8 => ?_)
  refine wp_seq_k fun _ k9 => wp_region_lit ?_
  refine L (r_mv Z rfl) Z rfl ?_; clear Z az; intro az Z
  refine L (r_lenS Tryz.underlying9 Z rfl) Z rfl ?_; clear Z az; intro az Z
  refine L (r_gtI Z rfl rfl) Z rfl ?_; clear Z az; intro az Z
  refine k9 _ _ ?_
  refine br Z rfl (fun hc10 => ?_) (fun hc10 => ?_)
  ·
   have p11 := of_decide_eq_true hc10
   refine wp_seq_k fun _ k12 => wp_region_lit ?_
   refine L (r_as Z rfl) Z rfl ?_; clear Z az; intro az Z
   refine k12 _ _ ?_
   refine wp_ret ?_
   show bodyPost _ _ _ .ret _ _
   refine ret_of (vs := [.int .i64 (3)]) Z Tryz.results42 ⟨rfl, trivial⟩ ?_
   rw [app_0f1t hc4 hc10]; refine ⟨by first | rfl | (rw [hn]; rfl) | rw [hn], ?_⟩
   try rw [hn]
   refine ⟨_, KT.make (J := J) hB rO okO hd s1 s2, ?_, ?_, ?_⟩
   · exact (Only.refl _ w)
   · intro k hk; rcases hk with (hk | hk) | hk
     · exact .inl (.inl (.inl hk))
     · exact .inl (.inl (.inr hk))
     · exact ((.inl hk) : F.m k ∨ w.heap.size ≤ k).imp .inr id
   · intro k hk; rcases hk with hk | hk
     · exact hk.elim
     · exact ((.inl hk) : F.r k ∨ w.heap.size ≤ k).imp .inr id
  ·
   have p13 := of_decide_eq_false hc10
   refine wp_skip ?_
   refine k8 _ _ (wp_seq_k fun _ k14 => wp_region_lit ?_)
   refine L (r_mv Z rfl) Z rfl ?_; clear Z az; intro az Z
   refine L (r_nilP Z rfl) Z rfl ?_; clear Z az; intro az Z
   refine L (r_fa (m' := 2) Tryz.underlying79 rfl Tryz.sizeOf68 rfl Z rfl rfl) Z rfl ?_; clear Z az; intro az Z
   refine L (r_ld Tryz.isAgg68 Z rfl ((Blk.ca hB) 2 _ rfl)) Z rfl ?_; clear Z az; intro az Z
   have h15 := SliceOf.pl (Row.own KStr rO okO)
   refine LCV (v := strV (forms J.l)) Z rfl rfl Tryz.call60 (kForms_v_ h15 (by omega) (fun t ht => by have := hsm t ht; omega)) rfl fun w16 o17 => ?_; clear Z az; intro az Z
   refine L (r_lenS Tryz.underlying9 Z rfl) Z rfl ?_; clear Z az; intro az Z
   refine L (r_as Z rfl) Z rfl ?_; clear Z az; intro az Z
   refine k14 _ _ (wp_seq_k fun _ k18 => ?_)
   refine wp_seq_k fun _ k19 => wp_region_lit ?_
   refine L (r_mv Z rfl) Z rfl ?_; clear Z az; intro az Z
   refine L (r_mv Z rfl) Z rfl ?_; clear Z az; intro az Z
   refine LCV (v := strV (form t)) Z rfl rfl Tryz.call75 (kForm_v _ t (by omega)) rfl fun w20 o21 => ?_; clear Z az; intro az Z
   refine L (r_lenS Tryz.underlying9 Z rfl) Z rfl ?_; clear Z az; intro az Z
   have i22 : I64 ((((List.length (forms J.l) : Nat) : Int) + ((List.length (form t) : Nat) : Int))) := by unfold I64; omega
   refine L (r_addI (r := (((List.length (forms J.l) : Nat) : Int) + ((List.length (form t) : Nat) : Int))) Z rfl rfl rfl i22) Z rfl ?_; clear Z az; intro az Z
   refine L (r_gtI Z rfl rfl) Z rfl ?_; clear Z az; intro az Z
   refine k19 _ _ ?_
   refine br Z rfl (fun hc23 => ?_) (fun hc23 => ?_)
   ·
    have p24 := of_decide_eq_true hc23
    refine wp_seq_k fun _ k25 => wp_region_lit ?_
    refine L (r_as Z rfl) Z rfl ?_; clear Z az; intro az Z
    refine k25 _ _ ?_
    refine wp_ret ?_
    show bodyPost _ _ _ .ret _ _
    refine ret_of (vs := [.int .i64 (6)]) Z Tryz.results42 ⟨rfl, trivial⟩ ?_
    rw [app_0f1f2t hc4 hc10 (by rw [hn]; exact hc23)]; refine ⟨by first | rfl | (rw [hn]; rfl) | rw [hn], ?_⟩
    try rw [hn]
    have O26 : Only NoF w w20 := (Only.trans' o17 o21)
    have T27 : (RefT b D) w20 F := ((refT_good b D).only hd O26 (fun _ _ h => h))
    have B28 := (Blk.k (Blk.k hB o17) o21)
    have r29 := (ow_k (ow_k rO o17) o21)
    refine ⟨_, KT.make (J := J) B28 r29 okO T27 s1 s2, ?_, ?_, ?_⟩
    · exact (Only.trans (Only.trans (Only.refl _ w) o17 (fun _ h => h.elim)) o21 (fun _ h => h.elim))
    · intro k hk; rcases hk with (hk | hk) | hk
      · exact .inl (.inl (.inl hk))
      · exact .inl (.inl (.inr hk))
      · exact ((.inl hk) : F.m k ∨ w.heap.size ≤ k).imp .inr id
    · intro k hk; rcases hk with hk | hk
      · exact hk.elim
      · exact ((.inl hk) : F.r k ∨ w.heap.size ≤ k).imp .inr id
   ·
    have p30 := of_decide_eq_false hc23
    refine wp_skip ?_
    refine k18 _ _ (wp_seq_k fun _ k31 => ?_)
    refine reg_p F.m 1 [10, 11] (.rd 0 (.rd 1 (.rd 2 (.rd 3 (.rd 4 (.rd 5 (.rd 6 (.rd 7 (.rd 8 (.rd 9 (.ex 10 (.ex 11 (.rd 12 .nil))))))))))))) (by kernel_rfl) (by kernel_rfl) (fun _ _ _ _ _ h => h) fun w32 o33 => ?_
    have B34 := (Blk.k (Blk.k (Blk.k hB o17) o21) o33)
    refine Pl.MSP (b := false) (by kernel_rfl) (fun W oW => r_mv Z rfl) Z rfl rfl ?_; clear Z az; intro az Z
    refine Pl.MSP (b := false) (by kernel_rfl) (fun W oW => r_nilP Z rfl) Z rfl rfl ?_; clear Z az; intro az Z
    refine Pl.MSP (b := false) (by kernel_rfl) (fun W oW => r_fa (m' := 0) Tryz.underlying79 rfl Tryz.sizeOf27 rfl Z rfl rfl) Z rfl rfl ?_; clear Z az; intro az Z
    refine Pl.MSP (b := true) (by kernel_rfl) (fun W oW => r_ld Tryz.isAgg27 Z rfl ((Blk.ca (Blk.k B34 oW)) 0 _ rfl)) Z rfl rfl ?_; clear Z az; intro az Z
    refine Pl.MSP (b := false) (by kernel_rfl) (fun W oW => r_mv Z rfl) Z rfl rfl ?_; clear Z az; intro az Z
    refine Pl.MSP (b := false) (by kernel_rfl) (fun W oW => r_nilP Z rfl) Z rfl rfl ?_; clear Z az; intro az Z
    refine Pl.MSP (b := false) (by kernel_rfl) (fun W oW => r_fa (m' := 1) Tryz.underlying79 rfl Tryz.sizeOf3 rfl Z rfl rfl) Z rfl rfl ?_; clear Z az; intro az Z
    refine Pl.MSP (b := true) (by kernel_rfl) (fun W oW => r_ld Tryz.isAgg3 Z rfl ((Blk.ca (Blk.k B34 oW)) 1 _ rfl)) Z rfl rfl ?_; clear Z az; intro az Z
    refine Pl.MSP (b := true) (by kernel_rfl) (fun W oW => r_mv Z rfl) Z rfl rfl ?_; clear Z az; intro az Z
    refine Pl.MSP (b := true) (by kernel_rfl) (fun W oW => r_mv Z rfl) Z rfl rfl ?_; clear Z az; intro az Z
    refine Pl.MSV (v := strV (form t)) Z rfl rfl rfl Tryz.call75 (kForm_v _ t (by omega)) rfl (fun w' o' => ⟨fun _ => o', (Only.trans (Only.refl F.m w32) o' (fun _ h => h.elim))⟩) fun w35 o36 => ?_; clear Z az; intro az Z
    have O37 : Only NoF w w35 := (Only.trans' (Only.trans' (Only.trans' o17 o21) o33) o36)
    have T38 : (RefT b D) w35 F := ((refT_good b D).only hd O37 (fun _ _ h => h))
    refine Pl.MSC Z rfl rfl rfl Tryz.call76 (rWrite_c T38 J.f _ (form t) (by unfold I64; omega) (by omega)) rfl ?_
    rintro e w39 ⟨rfl, F40, h41, o42, fm43, fr44⟩
    refine ⟨_, rfl, ⟨fun h => absurd h (by decide), (Only.trans (Only.trans (Only.refl F.m w32) o36 (fun _ h => h.elim)) o42 (fun _ h => .inl h))⟩, ?_⟩
    clear Z az; intro az Z
    refine Pl.MSP (b := false) (by kernel_rfl) (fun W oW => r_as Z rfl) Z rfl rfl ?_; clear Z az; intro az Z
    refine wpPl_nil ?_
    refine k31 _ _ (wp_seq_k fun _ k45 => ?_)
    refine wp_seq_k fun _ k46 => wp_region_lit ?_
    refine L (r_mv Z rfl) Z rfl ?_; clear Z az; intro az Z
    refine L (r_neI Z rfl rfl) Z rfl ?_; clear Z az; intro az Z
    refine k46 _ _ ?_
    refine br Z rfl (fun hc47 => ?_) (fun hc47 => ?_)
    ·
     have p48 := of_decide_eq_false (nt_t hc47)
     refine wp_seq_k fun _ k49 => wp_region_lit ?_
     refine L (r_mv Z rfl) Z rfl ?_; clear Z az; intro az Z
     refine L (r_nilP Z rfl) Z rfl ?_; clear Z az; intro az Z
     refine L (r_fa (m' := 3) Tryz.underlying79 rfl Tryz.sizeOf4 rfl Z rfl rfl) Z rfl ?_; clear Z az; intro az Z
     have B50 := (Blk.only (Blk.k B34 o36) o42 (fun h => s1 (.inl h)))
     refine LSt (cs' := [.pointer (some ⟨b, 0, none⟩), .int .i64 (J.f), .slice A (J.l.length) c, .bool (true)]) Tryz.sizeOf4 Z rfl rfl rfl rfl rfl ⟨rfl, trivial⟩ B50 rfl rfl fun w51 s52 B53 => ?_
     refine k49 _ _ (wp_seq_k fun _ k54 => wp_region_lit ?_)
     refine L (r_mv Z rfl) Z rfl ?_; clear Z az; intro az Z
     refine L (r_as Z rfl) Z rfl ?_; clear Z az; intro az Z
     refine k54 _ _ ?_
     refine wp_ret ?_
     show bodyPost _ _ _ .ret _ _
     refine ret_of (vs := [.int .i64 ((D.write J.f ((List.length (forms J.l) : Nat) : Int) (form t)).2)]) Z Tryz.results42 ⟨rfl, trivial⟩ ?_
     rw [app_0f1f2f3t hc4 hc10 (by rw [hn]; exact hc23) (by rw [hn]; exact hc47)]; refine ⟨by first | rfl | (rw [hn]; rfl) | rw [hn], ?_⟩
     try rw [hn]
     have sp55 : ¬ Foot.all F40 g := sep_next s1 (Nat.lt_of_lt_of_le (Blk.lt hB) (size_only O37)) fm43 fr44
     have T56 : (RefT b (D.write J.f ((List.length (forms J.l) : Nat) : Int) (form t)).1) w51 F40 := ((refT_good b (D.write J.f ((List.length (forms J.l) : Nat) : Int) (form t)).1).only h41 s52 (fun k hk (e : k = g) => sp55 (by rw [← e]; exact hk)))
     have r57 := (ow_only (ow_only (ow_k (ow_k (ow_k (ow_k rO o17) o21) o33) o36) o42 (fun k hk hF => s2 k hk (.inl hF))) s52 (fun k hk hF => ow_nb (ow_only (ow_k (ow_k (ow_k (ow_k rO o17) o21) o33) o36) o42 (fun k hk hF => s2 k hk (.inl hF))) B50 (by decide) (by rw [show k = g from hF] at hk; exact hk)))
     have sp58 : ∀ k, ownF (.slice A (J.l.length) c) k → ¬ Foot.all F40 k := sep_nexto s2 (fun k hk => Nat.lt_of_lt_of_le (ownF_lt rO k hk) (size_only O37)) fm43 fr44
     refine ⟨_, KT.make (J := { J with bad := true }) B53 r57 okO T56 sp55 sp58, ?_, ?_, ?_⟩
     · exact (Only.trans (Only.trans (Only.trans (Only.trans (Only.trans (Only.trans (Only.refl _ w) o17 (fun _ h => h.elim)) o21 (fun _ h => h.elim)) o33 (fun _ h => h.elim)) o36 (fun _ h => h.elim)) o42 (fun k h => (.inl (.inr h)))) s52 (fun k h => .inl (.inl (.inl h))))
     · intro k hk; rcases hk with (hk | hk) | hk
       · exact .inl (.inl (.inl hk))
       · exact .inl (.inl (.inr hk))
       · exact (((fm43 _ hk).elim (fun h => (.inl h)) (fun h => .inr (Nat.le_trans (size_only O37) h))) : F.m k ∨ w.heap.size ≤ k).imp .inr id
     · intro k hk; rcases hk with hk | hk
       · exact hk.elim
       · exact (((fr44 _ hk).elim (fun h => (.inl h)) (fun h => .inr (Nat.le_trans (size_only O37) h))) : F.r k ∨ w.heap.size ≤ k).imp .inr id
    ·
     have p59 := of_decide_eq_true (nt_f hc47)
     refine wp_skip ?_
     refine k45 _ _ (wp_seq_k fun _ k60 => wp_region_lit ?_)
     refine L (r_mv Z rfl) Z rfl ?_; clear Z az; intro az Z
     obtain ⟨A61, w62, hw, hA, r63, o64⟩ := made0 (w := w39) (e := 9) (size := 1)
     refine L (r_bs0 Tryz.underlying68 Tryz.sizeOf9) Z rfl ?_
     rw [← hw, ← hA]; clear Z az; intro az Z
     clear hw hA
     refine L (r_mv Z rfl) Z rfl ?_; clear Z az; intro az Z
     refine L (r_nilP Z rfl) Z rfl ?_; clear Z az; intro az Z
     refine L (r_fa (m' := 2) Tryz.underlying79 rfl Tryz.sizeOf68 rfl Z rfl rfl) Z rfl ?_; clear Z az; intro az Z
     have B65 := (Blk.k (Blk.only (Blk.k B34 o36) o42 (fun h => s1 (.inl h))) o64)
     refine L (r_ld Tryz.isAgg68 Z rfl ((Blk.ca B65) 2 _ rfl)) Z rfl ?_; clear Z az; intro az Z
     have r67 := (ow_k (ow_only (ow_k (ow_k (ow_k (ow_k rO o17) o21) o33) o36) o42 (fun k hk hF => s2 k hk (.inl hF))) o64)
     have h66 := SliceOf.pl (Row.own KStr r67 okO)
     have hb75 : (List.length (([] : List Str)) + List.length (J.l)) * 16 ≤ 140737488355328 := by (simp only [List.length_append, List.length_cons, List.length_nil]; omega)
     obtain ⟨A68, c69, w70, hr71, r72, o73, al74⟩ := Row.app (P := Tryz.prog) (l := ([] : List Str)) (l2 := J.l) KStr elemStr r63 h66 hb75 (by unfold maxLen; omega) (size_only o64)
     simp only [List.nil_append, List.append_nil] at hr71 r72 al74
     refine L (r_app hr71 Z rfl rfl) Z rfl ?_; clear Z az; intro az Z
     have ok76 : ∀ zq ∈ J.l, KStr.ok zq := (Row.oks KStr h66)
     have h77 := Row.own KStr r72 ok76
     refine L (r_mv Z rfl) Z rfl ?_; clear Z az; intro az Z
     obtain ⟨A78, w79, hw, hA, r80, o81⟩ := Row.made (w := w70) KStr (e := 9) ([t] : List Str) (by simp only [List.length_cons, List.length_nil]; unfold maxLen; omega)
     refine L (r_bs (z := strV ([])) (size := 1) (vs := [(0, strV (t))]) (cs := List.flatMap KStr.cells [t]) Tryz.underlying68 Tryz.sizeOf9 Tryz.zeroValue9 rfl (Fr.evalps Z rfl) (by kernel_rfl)) Z rfl ?_
     rw [← hw, ← hA]; clear Z az; intro az Z
     clear hw hA
     have ok82 : ∀ zq ∈ ([t] : List Str), KStr.ok zq := by intro zq hx; simp only [List.mem_cons, List.not_mem_nil, or_false] at hx; rcases hx with rfl <;> first | exact htk
     have r83 := (ow_k r72 o81)
     have h84 := SliceOf.pl (Row.own KStr r80 ok82)
     have hb92 : (List.length (J.l) + List.length ([t])) * 16 ≤ 140737488355328 := by (simp only [List.length_append, List.length_cons, List.length_nil]; omega)
     have O93 : Only NoF w39 w79 := (Only.trans' (o_sg o64 o73 (Nat.le_refl _) (ownF_ge r63)) o81)
     obtain ⟨A85, c86, w87, hr88, r89, o90, al91⟩ := Row.app (P := Tryz.prog) (l := J.l) (l2 := [t]) KStr elemStr r83 h84 hb92 (by unfold maxLen; omega) (size_only O93)
     refine L (r_app hr88 Z rfl rfl) Z rfl ?_; clear Z az; intro az Z
     have ok94 : ∀ zq ∈ (J.l ++ [t]), KStr.ok zq := (fun x hx => (List.mem_append.1 hx).elim (ok76 x) ((Row.oks KStr h84) x))
     have h95 := Row.own KStr r89 ok94
     refine L (r_nilP Z rfl) Z rfl ?_; clear Z az; intro az Z
     refine L (r_fa (m' := 2) Tryz.underlying79 rfl Tryz.sizeOf68 rfl Z rfl rfl) Z rfl ?_; clear Z az; intro az Z
     have B96 := (Blk.only (Blk.k (Blk.only B65 o73 (ow_nb r63 B65 (by decide))) o81) o90 (ow_nb r83 (Blk.k (Blk.only B65 o73 (ow_nb r63 B65 (by decide))) o81) (by decide)))
     refine LSt (cs' := [.pointer (some ⟨b, 0, none⟩), .int .i64 (J.f), .slice A85 (((J.l ++ [t])).length) c86, .bool (J.bad)]) Tryz.sizeOf68 Z rfl rfl rfl rfl rfl ⟨rfl, trivial⟩ B96 rfl rfl fun w97 s98 B99 => ?_
     refine k60 _ _ (wp_seq_k fun _ k100 => wp_region_lit ?_)
     refine L (r_as Z rfl) Z rfl ?_; clear Z az; intro az Z
     refine k100 _ _ ?_
     refine wp_ret ?_
     show bodyPost _ _ _ .ret _ _
     refine ret_of (vs := [.int .i64 (0)]) Z Tryz.results42 ⟨rfl, trivial⟩ ?_
     rw [app_0f1f2f3f hc4 hc10 (by rw [hn]; exact hc23) (by rw [hn]; exact hc47)]; refine ⟨by first | rfl | (rw [hn]; rfl) | rw [hn], ?_⟩
     try rw [hn]
     have sp101 : ¬ Foot.all F40 g := sep_next s1 (Nat.lt_of_lt_of_le (Blk.lt hB) (size_only O37)) fm43 fr44
     have T102 : (RefT b (D.write J.f ((List.length (forms J.l) : Nat) : Int) (form t)).1) w97 F40 := ((refT_good b (D.write J.f ((List.length (forms J.l) : Nat) : Int) (form t)).1).only ((refT_good b (D.write J.f ((List.length (forms J.l) : Nat) : Int) (form t)).1).only ((refT_good b (D.write J.f ((List.length (forms J.l) : Nat) : Int) (form t)).1).only ((refT_good b (D.write J.f ((List.length (forms J.l) : Nat) : Int) (form t)).1).only ((refT_good b (D.write J.f ((List.length (forms J.l) : Nat) : Int) (form t)).1).only h41 o64 (fun _ _ h => h)) o73 (fun k hk e => (fun k hk h => absurd ((refT_good b (D.write J.f ((List.length (forms J.l) : Nat) : Int) (form t)).1).lt h41 _ h) (Nat.not_lt.2 (Nat.le_trans (Nat.le_refl _) (ownF_ge r63 k hk)))) k e hk)) o81 (fun _ _ h => h)) o90 (fun k hk e => (fun k hk h => absurd ((refT_good b (D.write J.f ((List.length (forms J.l) : Nat) : Int) (form t)).1).lt h41 _ h) (Nat.not_lt.2 (Nat.le_trans (Nat.le_refl _) (ownF_ge r72 k hk)))) k e hk)) s98 (fun k hk (e : k = g) => sp101 (by rw [← e]; exact hk)))
     have O103 := (Only.trans (Only.trans (Only.trans (Only.trans (Only.trans (Only.refl (fun _ => True) w) o17 (fun _ _ => .inl trivial)) o21 (fun _ _ => .inl trivial)) o33 (fun _ _ => .inl trivial)) o36 (fun _ _ => .inl trivial)) o42 (fun _ _ => .inl trivial))
     have r104 := (ow_only r89 s98 (fun k hk => ge_F (oneF_lt (Blk.lt hB)) (size_only O103) k (ownF_ge r89 k hk)))
     refine ⟨_, KT.make (J := ⟨J.f, J.l ++ [t], (forms J.l).length + (form t).length, J.bad⟩) B99 r104 ok94 T102 sp101 (fun k hk h => absurd ((refT_good b (D.write J.f ((List.length (forms J.l) : Nat) : Int) (form t)).1).lt h41 _ h) (Nat.not_lt.2 (Nat.le_trans (Nat.le_refl _) (ownF_ge r89 k hk)))), ?_, ?_, ?_⟩
     · exact (Only.trans (Only.trans (Only.trans (Only.trans (Only.trans (Only.trans (Only.trans (Only.trans (Only.trans (Only.trans (Only.refl _ w) o17 (fun _ h => h.elim)) o21 (fun _ h => h.elim)) o33 (fun _ h => h.elim)) o36 (fun _ h => h.elim)) o42 (fun k h => (.inl (.inr h)))) o64 (fun _ h => h.elim)) o73 (fun k h => .inr (Nat.le_trans (size_only O103) ((ownF_ge r63) k h)))) o81 (fun _ h => h.elim)) o90 (fun k h => .inr (Nat.le_trans (size_only O103) ((ownF_ge r72) k h)))) s98 (fun k h => .inl (.inl (.inl h))))
     · intro k hk; rcases hk with (hk | hk) | hk
       · exact .inl (.inl (.inl hk))
       · exact .inr (Nat.le_trans (size_only O103) (ownF_ge r104 k hk))
       · exact (((fm43 _ hk).elim (fun h => (.inl h)) (fun h => .inr (Nat.le_trans (size_only O37) h))) : F.m k ∨ w.heap.size ≤ k).imp .inr id
     · intro k hk; rcases hk with hk | hk
       · exact hk.elim
       · exact (((fr44 _ hk).elim (fun h => (.inl h)) (fun h => .inr (Nat.le_trans (size_only O37) h))) : F.r k ∨ w.heap.size ≤ k).imp .inr id
theorem kSync_v_ {w : World} {b g : Nat} {D : Dsk} {J : Jn} {A : Option Addr} {c : Nat} {F : Foot} (hB : Blk w g 79 (kjCells b J A c)) (rO : w.ownsRow 0 9 1 (.slice A J.l.length c) J.l.length (J.l.flatMap KStr.cells)) (okO : ∀ z ∈ J.l, KStr.ok z) (hd : RefT b D w F) (s1 : ¬ F.all g) (s2 : ∀ k, ownF (.slice A J.l.length c) k → ¬ F.all k) : Calls Tryz.prog 44 [.pointer (some ⟨g, 0, none⟩)].toArray w (TurnTo (.int .i64 (J.sync D).2.2) (KT b g (J.sync D).1 (J.sync D).2.1) w (⟨fun k => (k = g ∨ ownF (.slice A J.l.length c) k) ∨ F.m k, fun k => False ∨ F.r k⟩ : Foot)) := by
 refine calls_start Tryz.func44 rfl rfl ?_
 intro az Z
 rw [Tryz.ntmps44] at Z
 refine wp_seq_k fun _ k1 => wp_region_lit ?_
 refine L (r_as Z rfl) Z rfl ?_; clear Z az; intro az Z
 refine k1 _ _ (wp_seq_k fun _ k2 => ?_)
 refine wp_seq_k fun _ k3 => wp_region_lit ?_
 refine L (r_mv Z rfl) Z rfl ?_; clear Z az; intro az Z
 refine L (r_nilP Z rfl) Z rfl ?_; clear Z az; intro az Z
 refine L (r_fa (m' := 3) Tryz.underlying79 rfl Tryz.sizeOf4 rfl Z rfl rfl) Z rfl ?_; clear Z az; intro az Z
 refine L (r_ld Tryz.isAgg4 Z rfl ((Blk.ca hB) 3 _ rfl)) Z rfl ?_; clear Z az; intro az Z
 refine k3 _ _ ?_
 refine br Z rfl (fun hc4 => ?_) (fun hc4 => ?_)
 ·
  have q5 : J.bad = true := hc4
  refine wp_seq_k fun _ k6 => wp_region_lit ?_
  refine L (r_as Z rfl) Z rfl ?_; clear Z az; intro az Z
  refine k6 _ _ ?_
  refine wp_ret ?_
  show bodyPost _ _ _ .ret _ _
  refine ret_of (vs := [.int .i64 (7)]) Z Tryz.results44 ⟨rfl, trivial⟩ ?_
  rw [syn_0t hc4]; refine ⟨rfl, ?_⟩
  refine ⟨_, KT.make (J := J) hB rO okO hd s1 s2, ?_, ?_, ?_⟩
  · exact (Only.refl _ w)
  · intro k hk; rcases hk with (hk | hk) | hk
    · exact .inl (.inl (.inl hk))
    · exact .inl (.inl (.inr hk))
    · exact ((.inl hk) : F.m k ∨ w.heap.size ≤ k).imp .inr id
  · intro k hk; rcases hk with hk | hk
    · exact hk.elim
    · exact ((.inl hk) : F.r k ∨ w.heap.size ≤ k).imp .inr id
 ·
  have q7 : J.bad = false := hc4
  refine wp_skip ?_
  refine k2 _ _ (wp_seq_k fun _ k8 => ?_)
  refine reg_p F.m 0 [8] (.rd 0 (.rd 1 (.rd 2 (.rd 3 (.rd 4 (.rd 5 (.rd 6 (.rd 7 (.ex 8 (.rd 9 .nil)))))))))) (by kernel_rfl) (by kernel_rfl) (fun _ _ _ _ _ h => h) fun w9 o10 => ?_
  have B11 := (Blk.k hB o10)
  refine Pl.MSP (b := false) (by kernel_rfl) (fun W oW => r_mv Z rfl) Z rfl rfl ?_; clear Z az; intro az Z
  refine Pl.MSP (b := false) (by kernel_rfl) (fun W oW => r_nilP Z rfl) Z rfl rfl ?_; clear Z az; intro az Z
  refine Pl.MSP (b := false) (by kernel_rfl) (fun W oW => r_fa (m' := 0) Tryz.underlying79 rfl Tryz.sizeOf27 rfl Z rfl rfl) Z rfl rfl ?_; clear Z az; intro az Z
  refine Pl.MSP (b := true) (by kernel_rfl) (fun W oW => r_ld Tryz.isAgg27 Z rfl ((Blk.ca (Blk.k B11 oW)) 0 _ rfl)) Z rfl rfl ?_; clear Z az; intro az Z
  refine Pl.MSP (b := false) (by kernel_rfl) (fun W oW => r_mv Z rfl) Z rfl rfl ?_; clear Z az; intro az Z
  refine Pl.MSP (b := false) (by kernel_rfl) (fun W oW => r_nilP Z rfl) Z rfl rfl ?_; clear Z az; intro az Z
  refine Pl.MSP (b := false) (by kernel_rfl) (fun W oW => r_fa (m' := 1) Tryz.underlying79 rfl Tryz.sizeOf3 rfl Z rfl rfl) Z rfl rfl ?_; clear Z az; intro az Z
  refine Pl.MSP (b := true) (by kernel_rfl) (fun W oW => r_ld Tryz.isAgg3 Z rfl ((Blk.ca (Blk.k B11 oW)) 1 _ rfl)) Z rfl rfl ?_; clear Z az; intro az Z
  have T12 : (RefT b D) w9 F := ((refT_good b D).only hd o10 (fun _ _ h => h))
  refine Pl.MSC Z rfl rfl rfl Tryz.call56 (rSync_c T12 J.f) rfl ?_
  rintro e w13 ⟨rfl, F14, h15, o16, fm17, fr18⟩
  refine ⟨_, rfl, ⟨fun h => absurd h (by decide), (Only.trans (Only.refl F.m w9) o16 (fun _ h => .inl h))⟩, ?_⟩
  clear Z az; intro az Z
  refine Pl.MSP (b := false) (by kernel_rfl) (fun W oW => r_as Z rfl) Z rfl rfl ?_; clear Z az; intro az Z
  refine wpPl_nil ?_
  refine k8 _ _ (wp_seq_k fun _ k19 => wp_region_lit ?_)
  refine L (r_mv Z rfl) Z rfl ?_; clear Z az; intro az Z
  refine L (r_mv Z rfl) Z rfl ?_; clear Z az; intro az Z
  refine L (r_neI Z rfl rfl) Z rfl ?_; clear Z az; intro az Z
  refine L (r_nilP Z rfl) Z rfl ?_; clear Z az; intro az Z
  refine L (r_fa (m' := 3) Tryz.underlying79 rfl Tryz.sizeOf4 rfl Z rfl rfl) Z rfl ?_; clear Z az; intro az Z
  have B20 := (Blk.only B11 o16 (fun h => s1 (.inl h)))
  refine LSt (cs' := [.pointer (some ⟨b, 0, none⟩), .int .i64 (J.f), .slice A (J.l.length) c, .bool ((!(decide ((D.sync J.f).2 = 0))))]) Tryz.sizeOf4 Z rfl rfl rfl rfl rfl ⟨rfl, trivial⟩ B20 rfl rfl fun w21 s22 B23 => ?_
  refine k19 _ _ (wp_seq_k fun _ k24 => wp_region_lit ?_)
  refine L (r_mv Z rfl) Z rfl ?_; clear Z az; intro az Z
  refine L (r_as Z rfl) Z rfl ?_; clear Z az; intro az Z
  refine k24 _ _ ?_
  refine wp_ret ?_
  show bodyPost _ _ _ .ret _ _
  refine ret_of (vs := [.int .i64 ((D.sync J.f).2)]) Z Tryz.results44 ⟨rfl, trivial⟩ ?_
  rw [syn_0f hc4]; refine ⟨rfl, ?_⟩
  have sp25 : ¬ Foot.all F14 g := sep_next s1 (Nat.lt_of_lt_of_le (Blk.lt hB) (size_only o10)) fm17 fr18
  have T26 : (RefT b (D.sync J.f).1) w21 F14 := ((refT_good b (D.sync J.f).1).only h15 s22 (fun k hk (e : k = g) => sp25 (by rw [← e]; exact hk)))
  have r27 := (ow_only (ow_only (ow_k rO o10) o16 (fun k hk hF => s2 k hk (.inl hF))) s22 (fun k hk hF => ow_nb (ow_only (ow_k rO o10) o16 (fun k hk hF => s2 k hk (.inl hF))) B20 (by decide) (by rw [show k = g from hF] at hk; exact hk)))
  have sp28 : ∀ k, ownF (.slice A (J.l.length) c) k → ¬ Foot.all F14 k := sep_nexto s2 (fun k hk => Nat.lt_of_lt_of_le (ownF_lt rO k hk) (size_only o10)) fm17 fr18
  refine ⟨_, KT.make (J := { J with bad := !decide ((D.sync J.f).2 = 0) }) B23 r27 okO T26 sp25 sp28, ?_, ?_, ?_⟩
  · exact (Only.trans (Only.trans (Only.trans (Only.refl _ w) o10 (fun _ h => h.elim)) o16 (fun k h => (.inl (.inr h)))) s22 (fun k h => .inl (.inl (.inl h))))
  · intro k hk; rcases hk with (hk | hk) | hk
    · exact .inl (.inl (.inl hk))
    · exact .inl (.inl (.inr hk))
    · exact (((fm17 _ hk).elim (fun h => (.inl h)) (fun h => .inr (Nat.le_trans (size_only o10) h))) : F.m k ∨ w.heap.size ≤ k).imp .inr id
  · intro k hk; rcases hk with hk | hk
    · exact hk.elim
    · exact (((fr18 _ hk).elim (fun h => (.inl h)) (fun h => .inr (Nat.le_trans (size_only o10) h))) : F.r k ∨ w.heap.size ≤ k).imp .inr id
end
section
open Go.RowKit
def KO (c : Nat) (D : Dsk) : Option (Nat × Jn) → Thing
 | none => RefT c D
 | some (g, J) => KT c g D J
def p1 (x : Nat × Nat × Jn) : Nat × Jn := (x.1, x.2.2)
def p2 (x : Nat × Nat × Jn) : Nat × Jn := (x.2.1, x.2.2)
section
variable {w w' : World} {b c g g2 : Nat} {D D2 : Dsk} {J : Jn} {F G G1 G2 : Foot} {X X' Y Y' : Thing} {oj ok : Option (Nat × Jn)} {v : Value}
theorem BothT.combl (gY : Good Y) (h2 : Y w G2) (s1 : ∀ k, G1.m k → ¬ G2.all k) (s2 : ∀ k, G2.m k → ¬ G1.all k) (ht : ThingTo X' w G1 w') : ThingTo (BothT X' Y) w ⟨fun k => G1.m k ∨ G2.m k, fun k => G1.r k ∨ G2.r k⟩ w' := by
 obtain ⟨F', h', o, fm, fr⟩ := ht
 have hlt := gY.lt h2
 have hy := gY.only h2 o fun k hk hF => s1 k hF hk
 refine ⟨_, ⟨F', G2, h', hy, fun k hk hF => ?_, fun k hk hF => ?_, rfl⟩, o.mono fun k hk => .inl hk, fun k hk => ?_, fun k hk => ?_⟩
 · rcases fm k hk with h | h
   · exact s1 k h hF
   · have := hlt k hF; omega
 · rcases hF with hF | hF
   · rcases fm k hF with h | h
     · exact s2 k hk (.inl h)
     · have := hlt k (.inl hk); omega
   · rcases fr k hF with h | h
     · exact s2 k hk (.inr h)
     · have := hlt k (.inl hk); omega
 · rcases hk with hk | hk
   · exact (fm k hk).imp .inl id
   · exact .inl (.inr hk)
 · rcases hk with hk | hk
   · exact (fr k hk).imp .inl id
   · exact .inl (.inr hk)
theorem BothT.calll (gY : Good Y) (h : BothT X Y w G) {f : FuncId} {args : Array Value}
 (hc : ∀ G1, X w G1 → (∀ k, G1.m k → G.m k) → Calls Tryz.prog f args w (TurnTo v X' w G1)) : Calls Tryz.prog f args w (TurnTo v (BothT X' Y) w G) := by
 obtain ⟨G1, G2, h1, h2, s1, s2, rfl⟩ := h
 exact (hc G1 h1 (fun k hk => .inl hk)).mono fun e w' ⟨he, ht⟩ => ⟨he, BothT.combl gY h2 s1 s2 ht⟩
/-! ### the program's side -/
/-! ### the reference's side -/
/-- both are made -/
theorem both_new {wm : World} (h1 : JO b D none w G1) (hg : ∀ k, G1.all k → wm.heap.size ≤ k) (hw : wm.heap.size ≤ w.heap.size) (h2 : IsRef w' c D2 G2) (o : Only NoF w w') (hn : ∀ k, G2.all k → w.heap.size ≤ k) : BothT (JO b D none) (KO c D2 none) w' ⟨fun k => G1.m k ∨ G2.m k, fun k => G1.r k ∨ G2.r k⟩ ∧ ∀ k, Foot.all ⟨fun k => G1.m k ∨ G2.m k, fun k => G1.r k ∨ G2.r k⟩ k → wm.heap.size ≤ k := by
 have hlt := (jo_good b D none).lt h1
 refine ⟨⟨G1, G2, (jo_good _ _ _).only h1 o (fun _ _ h => h), h2, fun k hk hF => ?_, fun k hk hF => ?_, rfl⟩, fun k hk => ?_⟩
 · have := hlt k (.inl hk); have := hn k hF; omega
 · have := hlt k hF; have := hn k (.inl hk); omega
 · rcases hk with (hk | hk) | (hk | hk)
   · exact hg k (.inl hk)
   · exact Nat.le_trans hw (hn k (.inl hk))
   · exact hg k (.inr hk)
   · exact Nat.le_trans hw (hn k (.inr hk))
end
/-! ### what a journal's numbers are -/
def JI (J : Jn) : Prop := J.n = (forms J.l).length ∧ (∀ t ∈ J.l, t.length ≤ 20000) ∧ J.n ≤ 16777216
theorem JI.ll {J : Jn} (h : JI J) : J.l.length ≤ 16777216 := by
 have := forms_count J.l
 obtain ⟨h1, _, h3⟩ := h
 omega
theorem JI.sync {J : Jn} (h : JI J) (D : Dsk) : JI (J.sync D).2.1 := by
 unfold Jn.sync
 split
 · exact h
 · exact h
theorem ji_rd {D : Dsk} (hD : D.Ok) (f : Int) : ((D.sync f).1.read f 0 (((D.sync f).1.size f : Nat) : Int)).1.length ≤ 16777216 := by
 have hs : (D.sync f).1.Ok := hD.tock.sync0 f
 have := (hs.lens f).1
 unfold Dsk.read Dsk.readS
 split
 · simp
 · split
   · simp
   · rw [List.length_take, List.length_drop]; omega
theorem ji_recs {s : Str} (hs : s.length ≤ 16777216) (f : Int) : JI ⟨f, recs s, (forms (recs s)).length, false⟩ :=
 ⟨rfl, fun _ ht => recs_short ht, Nat.le_trans (recs_le s) hs⟩
theorem ji_open {D : Dsk} (hD : D.Ok) {f : Int} {J : Jn} (h : (openJ D f).2.2 = some J) : JI J := by
 have hr := ji_rd hD f
 unfold openJ at h
 split at h
 · cases h
 split at h
 · cases h
 split at h
 · cases h
 split at h
 · split at h
   · cases h
   · rw [← Option.some.inj h]; exact ji_recs hr f
 · rw [← Option.some.inj h]; exact ji_recs hr f
end
section
open Go.RowKit
theorem eq_ptrN {P : Program} {w : World} {t e : TypeId} (hu : P.underlying t = some (.pointer e)) : (Op.equal t (.pointer none) (.pointer none)).run P w = .ok true w := by
 exact eq_ptr0 hu
theorem r_eqNN {P : Program} {w : World} {n : Nat} {l : List (Nat × Value)} {a : Act} {dst : Option Tmp} {ty : TypeId} {pos : String} {aft : Array Edge} {g : Option (Nat × Bool)} {x y : Operand} {t yt e : TypeId} (hu : P.underlying t = some (.pointer e)) (H : Fr n l a) (hx : ev l x = some (.pointer none)) (hy : ev l y = some (.pointer none)) : (execOp a.eval ⟨dst, .binOp .eql t x y yt, ty, pos, aft, g⟩).run P w = .ok (.value (.bool true)) w := by
 have hg : (eqGuard .eql t x y (.pointer none) (.pointer none)).run P w = .ok () w := by simp [eqGuard]
 simp only [execOp, H.eval hx, H.eval hy, Sem.run_bind, hg, Result.andThen_ok, binOp, eq_ptrN hu, Sem.run_pure]
theorem r_neBs {P : Program} {w : World} {n : Nat} {l : List (Nat × Value)} {a : Act} {dst : Option Tmp} {ty : TypeId} {pos : String} {aft : Array Edge} {g : Option (Nat × Bool)} {x y : Operand} {t yt : TypeId} {b : Bool} (hu : P.underlying t = some .bool) (H : Fr n l a) (hx : ev l x = some (.bool b)) (hy : ev l y = some (.bool b)) : (execOp a.eval ⟨dst, .binOp .neq t x y yt, ty, pos, aft, g⟩).run P w = .ok (.value (.bool false)) w := by
 have h : (binOp .neq t (.bool b) (.bool b)).run P w = .ok (.bool false) w := by
  have := eq_bool (P := P) (w := w) (t := t) (b := b) (c := b) hu
  simp only [binOp, Sem.run_bind, this, Result.andThen_ok]
  simp
 simp [execOp, H.eval hx, H.eval hy, eqGuard, h]
theorem kb_ev {l : List (Nat × Value)} {x : Operand} {b c : Bool} (p : ev l x = some (.bool b)) (h : b = c) : ev l x = some (.bool c) := h ▸ p
section
variable {P : Program} {ops : Array Oper} {Q : Exit → Act → World → Prop} {a : Act} {w w1 : World} {n : Nat} {l : List (Nat × Value)} {d : Nat} {ty : TypeId} {pos : String} {aft : Array Edge} {xs : List Operand} {ats : Array TypeId} {f : FuncId} {vs : List Value} {fo : Operand} {j dj : Nat} {want c : Bool} {u : Value} {T : List Nat} {k i : Nat} {r : Plan} {F : Nat → Prop} {m : Nat}
end
end
end Go.Proofs.YtdegmpigkgkafaaGreatDoor
