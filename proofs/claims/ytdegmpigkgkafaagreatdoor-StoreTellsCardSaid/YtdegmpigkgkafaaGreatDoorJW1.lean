/-
  The journal: its records in the bytes of a file, as plain data; Sum, form, read, walked. Condition: strings of at most 16,777,216 bytes.
-/
import Derived.Test.YtdegmpigkgkafaaGreatDoorWW2
import Derived.Test.YtdegmpigkgkafaaGreatDoorWir5
import Derived.Test.YtdegmpigkgkafaaGreatDoorWir4
namespace Go.Proofs.YtdegmpigkgkafaaGreatDoor
set_option maxHeartbeats 4000000
set_option maxRecDepth 20000
set_option linter.unusedVariables false
set_option linter.unusedSimpArgs false
set_option linter.unusedSectionVars false
open Go.RowKit
def sumA (i : Nat) : Str → Int
 | [] => 0
 | b :: t => ((b.toNat : Nat) : Int) * ((i : Int) + 1) + sumA (i + 1) t
def jsum (t : Str) : Int := sumA 0 t
def form (t : Str) : Str := Wr.textE t ++ Wr.numE (jsum t)
theorem sumA_step {t : Str} {k : Nat} {b : UInt8} (h : t[k]? = some b) : sumA k (t.drop k) = ((b.toNat : Nat) : Int) * ((k : Int) + 1) + sumA (k + 1) (t.drop (k + 1)) := by
 obtain ⟨hk, rfl⟩ := List.getElem?_eq_some_iff.1 h
 rw [List.drop_eq_getElem_cons hk]; rfl
theorem byte_mul (b : UInt8) (k : Nat) (hk : k ≤ 16777216) : 0 ≤ ((b.toNat : Nat) : Int) * ((k : Int) + 1) ∧ ((b.toNat : Nat) : Int) * ((k : Int) + 1) ≤ 4278190335 := by
 have hb : b.toNat < 256 := b.toNat_lt
 have h1 : b.toNat * (k + 1) ≤ 255 * 16777217 := Nat.mul_le_mul (by omega) (by omega)
 have e : ((b.toNat : Nat) : Int) * ((k : Int) + 1) = ((b.toNat * (k + 1) : Nat) : Int) := by simp
 rw [e]; omega
theorem sumA_bound : ∀ (t : Str) (i : Nat), i + t.length ≤ 16777216 → 0 ≤ sumA i t ∧ sumA i t ≤ 4278190335 * (t.length : Int)
 | [], i, _ => by simp [sumA]
 | b :: t, i, h => by
  simp only [List.length_cons] at h
  have h1 := byte_mul b i (by omega)
  have h2 := sumA_bound t (i + 1) (by omega)
  unfold sumA
  simp only [List.length_cons]
  omega
theorem jsum_ok {t : Str} (h : t.length ≤ 16777216) : Wr.Ok (jsum t) ∧ 0 ≤ jsum t := by
 have := sumA_bound t 0 (by omega)
 unfold jsum Wr.Ok; omega
theorem form_pos (t : Str) : 0 < (form t).length := by
 unfold form Wr.textE
 simp only [List.length_append, List.length_singleton]; omega
/-- the record whose form stands first in the bytes -/
def one (s : Str) : Option Str :=
 if 20000 < (Wr.text ⟨s, false⟩).1.length then none
 else if (Wr.num (Wr.text ⟨s, false⟩).2).1 ≠ jsum (Wr.text ⟨s, false⟩).1 then none
 else if s.length < (form (Wr.text ⟨s, false⟩).1).length then none
 else if s.take (form (Wr.text ⟨s, false⟩).1).length ≠ form (Wr.text ⟨s, false⟩).1 then none
 else some (Wr.text ⟨s, false⟩).1
def recsF : Nat → Str → List Str
 | 0, _ => []
 | n + 1, s => match one s with
  | none => []
  | some t => t :: recsF n (s.drop (form t).length)
def recs (s : Str) : List Str := recsF s.length s
theorem one_some {s t : Str} (h : one s = some t) : t = (Wr.text ⟨s, false⟩).1 ∧ t.length ≤ 20000 ∧ (Wr.num (Wr.text ⟨s, false⟩).2).1 = jsum t ∧ (form t).length ≤ s.length ∧ s.take (form t).length = form t := by
 unfold one at h
 by_cases h1 : 20000 < (Wr.text ⟨s, false⟩).1.length
 · rw [if_pos h1] at h; cases h
 rw [if_neg h1] at h
 by_cases h2 : (Wr.num (Wr.text ⟨s, false⟩).2).1 ≠ jsum (Wr.text ⟨s, false⟩).1
 · rw [if_pos h2] at h; cases h
 rw [if_neg h2] at h
 by_cases h3 : s.length < (form (Wr.text ⟨s, false⟩).1).length
 · rw [if_pos h3] at h; cases h
 rw [if_neg h3] at h
 by_cases h4 : s.take (form (Wr.text ⟨s, false⟩).1).length ≠ form (Wr.text ⟨s, false⟩).1
 · rw [if_pos h4] at h; cases h
 rw [if_neg h4] at h
 obtain rfl := Option.some.inj h
 exact ⟨rfl, by omega, Decidable.of_not_not h2, by omega, Decidable.of_not_not h4⟩
theorem one_nil : one [] = none := by
 unfold one
 rw [if_neg (by decide +kernel), if_neg (by decide +kernel), if_pos (show ([] : Str).length < (form (Wr.text ⟨[], false⟩).1).length from form_pos _)]
theorem recsF_more : ∀ (n m : Nat) (s : Str), s.length ≤ n → s.length ≤ m → recsF n s = recsF m s
 | 0, 0, s, _, _ => rfl
 | 0, m + 1, s, h, _ => by
  obtain rfl : s = [] := List.eq_nil_of_length_eq_zero (by omega)
  unfold recsF; rw [one_nil]
 | n + 1, 0, s, _, h => by
  obtain rfl : s = [] := List.eq_nil_of_length_eq_zero (by omega)
  unfold recsF; rw [one_nil]
 | n + 1, m + 1, s, h, h' => by
  unfold recsF
  cases e : one s with
  | none => rfl
  | some t =>
   have h1 := form_pos t
   obtain ⟨_, _, _, h2, _⟩ := one_some e
   simp only
   rw [recsF_more n m _ (by rw [List.length_drop]; omega) (by rw [List.length_drop]; omega)]
theorem recs_some {s t : Str} (h : one s = some t) : recs s = t :: recs (s.drop (form t).length) := by
 obtain ⟨_, _, _, h2, _⟩ := one_some h
 have h1 := form_pos t
 unfold recs
 obtain ⟨n, hn⟩ : ∃ n, s.length = n + 1 := ⟨s.length - 1, by omega⟩
 rw [hn]
 show (match one s with | none => [] | some t => t :: recsF n (s.drop (form t).length)) = _
 rw [h]
 simp only
 rw [recsF_more n _ _ (by rw [List.length_drop]; omega) (Nat.le_refl _)]
theorem recs_none {s : Str} (h : one s = none) : recs s = [] := by
 unfold recs
 cases e : s.length with
 | zero => rfl
 | succ n =>
  show (match one s with | none => [] | some t => t :: recsF n (s.drop (form t).length)) = _
  rw [h]
theorem recs_nil : recs [] = [] := rfl
/-- a record's form, whatever follows -/
theorem one_form {t r : Str} (ht : t.length ≤ 20000) : one (form t ++ r) = some t := by
 obtain ⟨ok, h0⟩ := jsum_ok (t := t) (by omega)
 have e1 : Wr.text ⟨form t ++ r, false⟩ = (t, ⟨Wr.numE (jsum t) ++ r, false⟩) := by
  unfold form
  rw [List.append_assoc]
  exact Wr.text_ok (by omega) _
 have e2 : Wr.num ⟨Wr.numE (jsum t) ++ r, false⟩ = (jsum t, ⟨r, false⟩) := Wr.num_ok ok h0 r false
 unfold one
 rw [e1]
 simp only
 rw [e2, if_neg (by omega), if_neg (fun h => h rfl), if_neg (by rw [List.length_append]; omega), if_neg (by rw [List.take_left]; exact fun h => h rfl)]
/-- the reader behind a record -/
theorem one_next {s t : Str} (h : one s = some t) : (Wr.num (Wr.text ⟨s, false⟩).2).2 = ⟨s.drop (form t).length, false⟩ := by
 obtain ⟨_, hl, _, _, hf⟩ := one_some h
 obtain ⟨ok, h0⟩ := jsum_ok (t := t) (by omega)
 have es : s = form t ++ s.drop (form t).length := by
  conv => lhs; rw [← List.take_append_drop (form t).length s, hf]
 have e1 : Wr.text ⟨s, false⟩ = (t, ⟨Wr.numE (jsum t) ++ s.drop (form t).length, false⟩) := by
  conv => lhs; rw [es]
  unfold form
  rw [List.append_assoc]
  exact Wr.text_ok (by omega) _
 rw [e1]
 simp only
 rw [Wr.num_ok ok h0]
def forms (l : List Str) : Str := l.flatMap form
theorem forms_cons (t : Str) (l : List Str) : forms (t :: l) = form t ++ forms l := rfl
theorem forms_app (l l2 : List Str) : forms (l ++ l2) = forms l ++ forms l2 := by unfold forms; rw [List.flatMap_append]
theorem forms_one (t : Str) : forms [t] = form t := by unfold forms; simp
theorem recs_forms : ∀ (l : List Str), (∀ t ∈ l, t.length ≤ 20000) → recs (forms l) = l
 | [], _ => rfl
 | t :: l, h => by
  rw [forms_cons, recs_some (one_form (h t (by simp))), List.drop_left, recs_forms l fun x hx => h x (by simp [hx])]
theorem recs_len : ∀ (n : Nat) (s : Str), s.length ≤ n → (∀ t ∈ recs s, t.length ≤ 20000) ∧ s.take (forms (recs s)).length = forms (recs s)
 | n, s, hn => by
  cases e : one s with
  | none => rw [recs_none e]; exact ⟨fun t h => by (cases h), rfl⟩
  | some t =>
   obtain ⟨_, hl, _, h2, hf⟩ := one_some e
   have h1 := form_pos t
   cases n with
   | zero => omega
   | succ n =>
    obtain ⟨a, b⟩ := recs_len n (s.drop (form t).length) (by rw [List.length_drop]; omega)
    rw [recs_some e]
    refine ⟨fun x hx => ?_, ?_⟩
    · rcases List.mem_cons.1 hx with rfl | hx
      · exact hl
      · exact a x hx
    · rw [forms_cons, List.length_append, List.take_add, hf, b]
theorem recs_short {s t : Str} (h : t ∈ recs s) : t.length ≤ 20000 := (recs_len _ s (Nat.le_refl _)).1 t h
theorem recs_take (s : Str) : s.take (forms (recs s)).length = forms (recs s) := (recs_len _ s (Nat.le_refl _)).2
theorem recs_le (s : Str) : (forms (recs s)).length ≤ s.length := by
 have := congrArg List.length (recs_take s)
 rw [List.length_take] at this; omega
theorem text_size2 {s : Str} (h : s.length ≤ 1000000000) : (Wr.textE s).length ≤ s.length + 22 := by
 have := itoa_len ((s.length : Nat) : Int) (by omega) (by omega)
 simp only [Wr.textE, List.length_append, List.length_singleton]; omega
theorem intE_len {n : Int} (h : Wr.Ok n) : (Wr.intE n).length ≤ 21 := by
 have := itoa_len n h.1 h.2
 unfold Wr.intE; rw [List.length_append, List.length_singleton]; omega
theorem numE_len {n : Int} (h : Wr.Ok n) : (Wr.numE n).length ≤ 21 := by
 unfold Wr.numE
 split
 · simp
 · exact intE_len h
theorem form_len {t : Str} (h : t.length ≤ 16777216) : (form t).length ≤ t.length + 43 := by
 have e1 := text_size2 (s := t) (by omega)
 have e2 := numE_len (jsum_ok h).1
 unfold form; rw [List.length_append]; omega
theorem rest_le {s : Wr.Rd} (hf : Wr.Fine s) : (Wr.text s).2.r.length ≤ s.r.length := by
 cases h : (Wr.text s).2.b
 · have := congrArg List.length (Wr.text_was s h)
   rw [List.length_append] at this; omega
 · rw [Wr.text_fine (s := s) hf h]; simp
theorem forms_count : ∀ (l : List Str), l.length ≤ (forms l).length
 | [] => Nat.le_refl _
 | t :: l => by
  have := forms_count l
  have h1 := form_pos t
  rw [forms_cons, List.length_append, List.length_cons]; omega
section
variable {t : Str} {k : Nat}
theorem one_no1 (h : decide ((20000 : Int) < ((List.length (Wr.text ⟨List.drop k t, false⟩).1 : Nat) : Int)) = true) : one (t.drop k) = none := by
 unfold one; rw [if_pos (by have := of_decide_eq_true h; omega)]
theorem one_no2 (h : (!decide ((Wr.num (Wr.text ⟨List.drop k t, false⟩).2).1 = jsum (Wr.text ⟨List.drop k t, false⟩).1)) = true) : one (t.drop k) = none := by
 unfold one
 split
 · rfl
 · rw [if_pos (of_decide_eq_false (nt_t h))]
theorem one_no3 (hk : k ≤ t.length) (h : decide ((((List.length t : Nat) : Int) - (k : Int)) < ((List.length (form (Wr.text ⟨List.drop k t, false⟩).1) : Nat) : Int)) = true) : one (t.drop k) = none := by
 unfold one
 split
 · rfl
 split
 · rfl
 · rw [if_pos (by have := of_decide_eq_true h; rw [List.length_drop]; omega)]
theorem one_no4 (h : (!decide (List.take (List.length (form (Wr.text ⟨List.drop k t, false⟩).1)) (List.drop k t) = form (Wr.text ⟨List.drop k t, false⟩).1)) = true) : one (t.drop k) = none := by
 unfold one
 split
 · rfl
 split
 · rfl
 split
 · rfl
 · rw [if_pos (of_decide_eq_false (nt_t h))]
theorem one_ok (hk : k ≤ t.length) (h1 : decide ((20000 : Int) < ((List.length (Wr.text ⟨List.drop k t, false⟩).1 : Nat) : Int)) = false) (h2 : (!decide ((Wr.num (Wr.text ⟨List.drop k t, false⟩).2).1 = jsum (Wr.text ⟨List.drop k t, false⟩).1)) = false) (h3 : decide ((((List.length t : Nat) : Int) - (k : Int)) < ((List.length (form (Wr.text ⟨List.drop k t, false⟩).1) : Nat) : Int)) = false) (h4 : (!decide (List.take (List.length (form (Wr.text ⟨List.drop k t, false⟩).1)) (List.drop k t) = form (Wr.text ⟨List.drop k t, false⟩).1)) = false) : one (t.drop k) = some (Wr.text ⟨List.drop k t, false⟩).1 := by
 unfold one
 rw [if_neg (by have := of_decide_eq_false h1; omega), if_neg (fun h => h (of_decide_eq_true (nt_f h2))), if_neg (by have := of_decide_eq_false h3; rw [List.length_drop]; omega), if_neg (fun h => h (of_decide_eq_true (nt_f h4)))]
end
def ReadTo (t : Str) (w : World) (e : Ending) (w' : World) : Prop := ∃ A c, e = .returned (.tuple #[.slice A (recs t).length c, .int .i64 (((forms (recs t)).length : Nat) : Int)]) ∧ w'.ownsRow w.heap.size 9 1 (.slice A (recs t).length c) (recs t).length ((recs t).flatMap KStr.cells) ∧ Only NoF w w'
theorem Sum_v (w : World) (t : Str) (ht : t.length ≤ 16777216) : Calls Tryz.prog 84 [strV t].toArray w (Fix (.int .i64 (jsum t)) w) := by
 refine calls_start Tryz.func84 rfl rfl ?_
 intro az Z
 rw [Tryz.ntmps84] at Z
 refine wp_seq_k fun _ k1 => wp_region_lit ?_
 refine L (r_as Z rfl) Z rfl ?_; clear Z az; intro az Z
 refine k1 _ _ (wp_seq_k fun _ k2 => wp_region_lit ?_)
 refine L (r_as Z rfl) Z rfl ?_; clear Z az; intro az Z
 refine k2 _ _ (wp_seq_k fun _ k3 => ?_)
 refine wp_seq_k fun _ k4 => wp_region_lit ?_
 refine L (r_mv Z rfl) Z rfl ?_; clear Z az; intro az Z
 refine L (r_lenS Tryz.underlying9 Z rfl) Z rfl ?_; clear Z az; intro az Z
 refine L (r_mv Z rfl) Z rfl ?_; clear Z az; intro az Z
 refine k4 _ _ ?_
 refine wp_block ?_
 refine wp_loop_m (fun mz az W => ∃ k : Nat, ∃ n : Int, mz = t.length - k ∧ Fr 21 [(0, strV (t)), (6, .int .i64 (((List.length (t) : Nat) : Int))), (7, .int .i64 ((k : Int))), (3, .int .i64 (n))] az ∧ (k ≤ t.length) ∧ (jsum t = n + sumA k (t.drop k)) ∧ (0 ≤ n ∧ n ≤ 4278190335 * (k : Int)) ∧ Only NoF w W) ?_ ?_
 ·
  exact ⟨_, 0, 0, rfl, Z.cut ⟨rfl, rfl, rfl, rfl, trivial⟩, Nat.zero_le _, (by unfold jsum; rw [List.drop_zero]; omega), (by omega), (Only.refl NoF w)⟩
 clear Z az
 rintro mz az w5 ⟨k, n, hm7, Z, hk, hs, hn, o6⟩
 refine wp_seq_k fun _ k8 => wp_region_lit ?_
 refine L (r_ltI Z rfl rfl) Z rfl ?_; clear Z az; intro az Z
 refine k8 _ _ (wp_seq_k fun _ k9 => ?_)
 refine br Z rfl (fun hc10 => ?_) (fun hc10 => ?_)
 ·
  have p11 := of_decide_eq_true hc10
  refine wp_skip ?_
  refine k9 _ _ (wp_seq_k fun _ k12 => ?_)
  refine wp_block ?_
  refine wp_seq_k fun _ k13 => wp_region_lit ?_
  refine L (r_mv Z rfl) Z rfl ?_; clear Z az; intro az Z
  refine L (r_as Z rfl) Z rfl ?_; clear Z az; intro az Z
  refine k13 _ _ ?_
  refine wp_region_lit ?_
  refine L (r_mv Z rfl) Z rfl ?_; clear Z az; intro az Z
  refine L (r_mv Z rfl) Z rfl ?_; clear Z az; intro az Z
  refine L (r_mv Z rfl) Z rfl ?_; clear Z az; intro az Z
  obtain ⟨b14, hb15⟩ : ∃ b, (t)[k]? = some b := ⟨_, List.getElem?_eq_getElem (by omega)⟩
  have hbm := byte_mul b14 k (by omega)
  refine L (r_ix (k := k) Tryz.underlying9 Z rfl rfl rfl hb15) Z rfl ?_; clear Z az; intro az Z
  refine L (r_cvJ Tryz.underlying5 Tryz.underlying3 Z rfl (by have := UInt8.toNat_lt b14; omega)) Z rfl ?_; clear Z az; intro az Z
  refine L (r_mv Z rfl) Z rfl ?_; clear Z az; intro az Z
  have i16 : I64 (((k : Int) + 1)) := by unfold I64; omega
  refine L (r_addI (r := ((k : Int) + 1)) Z rfl rfl rfl i16) Z rfl ?_; clear Z az; intro az Z
  have i17 : I64 ((((b14.toNat : Nat) : Int) * ((k : Int) + 1))) := by unfold I64; omega
  refine L (r_mulI (r := (((b14.toNat : Nat) : Int) * ((k : Int) + 1))) Z rfl rfl rfl i17) Z rfl ?_; clear Z az; intro az Z
  have i18 : I64 ((n + (((b14.toNat : Nat) : Int) * ((k : Int) + 1)))) := by unfold I64; omega
  refine L (r_addI (r := (n + (((b14.toNat : Nat) : Int) * ((k : Int) + 1)))) Z rfl rfl rfl i18) Z rfl ?_; clear Z az; intro az Z
  refine L (r_as Z rfl) Z rfl ?_; clear Z az; intro az Z
  refine k12 _ _ ?_
  refine wp_region_lit ?_
  have i19 : I64 (((k : Int) + 1)) := by unfold I64; omega
  refine L (r_addI (r := ((k : Int) + 1)) Z rfl rfl rfl i19) Z rfl ?_; clear Z az; intro az Z
  refine L (r_mv Z rfl) Z rfl ?_; clear Z az; intro az Z
  exact ⟨_, (by omega), k + 1, _, rfl, Z.cut ⟨rfl, rfl, rfl, rfl, trivial⟩, (by omega), (by rw [hs, sumA_step hb15]; omega), (by omega), o6⟩
 ·
  have p20 := of_decide_eq_false hc10
  refine wp_exit ?_
  refine th_exit ?_
  refine th_exit ?_
  refine ib_hit ?_
  refine k3 _ _ (wp_seq_k fun _ k21 => wp_region_lit ?_)
  refine L (r_mv Z rfl) Z rfl ?_; clear Z az; intro az Z
  refine L (r_as Z rfl) Z rfl ?_; clear Z az; intro az Z
  refine k21 _ _ ?_
  refine wp_ret ?_
  show bodyPost _ _ _ .ret _ _
  refine ret_of (vs := [.int .i64 (n)]) Z Tryz.results84 ⟨rfl, trivial⟩ ?_
  rw [List.drop_of_length_le (by omega)] at hs; rw [hs, show ∀ i, sumA i [] = 0 from fun _ => rfl, Int.add_zero]; exact ⟨rfl, o6⟩
theorem form_v {w : World} (hG : Gr w) (t : Str) (ht : t.length ≤ 16777216) : Calls Tryz.prog 70 [strV t].toArray w (Fix (strV (form t)) w) := by
 refine calls_start Tryz.func70 rfl rfl ?_
 intro az Z
 rw [Tryz.ntmps70] at Z
 refine wp_seq_k fun _ k1 => wp_region_lit ?_
 refine L (r_as Z rfl) Z rfl ?_; clear Z az; intro az Z
 refine k1 _ _ (wp_seq_k fun _ k2 => wp_region_lit ?_)
 refine L (r_mv Z rfl) Z rfl ?_; clear Z az; intro az Z
 have G3 := Gr.k hG (Only.refl NoF w)
 refine LCV (v := strV (Wr.textE t)) Z rfl rfl Tryz.call69 (Text_v G3 t (by omega)) rfl fun w4 o5 => ?_; clear Z az; intro az Z
 refine L (r_mv Z rfl) Z rfl ?_; clear Z az; intro az Z
 refine LCV (v := .int .i64 ((jsum t))) Z rfl rfl Tryz.call84 (Sum_v _ t (by omega)) rfl fun w6 o7 => ?_; clear Z az; intro az Z
 have O9 : Only NoF w w6 := (Only.trans' o5 o7)
 have G8 := Gr.k hG O9
 refine LCV (v := strV (Wr.numE (jsum t))) Z rfl rfl Tryz.call67 (Num_v G8 (jsum t) (jsum_ok ht).1) rfl fun w10 o11 => ?_; clear Z az; intro az Z
 refine L (r_addS Z rfl rfl (by have e1 := text_size2 (s := t) (by omega); have e2 := numE_len (jsum_ok ht).1; omega)) Z rfl ?_; clear Z az; intro az Z
 refine L (r_as Z rfl) Z rfl ?_; clear Z az; intro az Z
 refine k2 _ _ ?_
 refine wp_ret ?_
 show bodyPost _ _ _ .ret _ _
 refine ret_of (vs := [strV (Wr.textE t ++ Wr.numE (jsum t))]) Z Tryz.results70 ⟨rfl, trivial⟩ ?_
 have O12 : Only NoF w w10 := (Only.trans' O9 o11)
 exact ⟨rfl, O12⟩
theorem read_v {w : World} (hG : Gr w) (t : Str) (ht : t.length ≤ 16777216) : Calls Tryz.prog 51 [strV t].toArray w (ReadTo t w) := by
 refine calls_start Tryz.func51 rfl rfl ?_
 intro az Z
 rw [Tryz.ntmps51] at Z
 refine wp_seq_k fun _ k1 => wp_region_lit ?_
 refine L (r_as Z rfl) Z rfl ?_; clear Z az; intro az Z
 refine L (r_as Z rfl) Z rfl ?_; clear Z az; intro az Z
 refine k1 _ _ ?_
 refine wp_scope_straight ?_
 refine wp_seq_k fun _ k2 => wp_region_lit ?_
 refine L (r_as Z rfl) Z rfl ?_; clear Z az; intro az Z
 refine k2 _ _ (wp_seq_k fun _ k3 => wp_region_lit ?_)
 refine L (r_as Z rfl) Z rfl ?_; clear Z az; intro az Z
 refine k3 _ _ (wp_seq_k fun _ k4 => ?_)
 refine wp_label ?_
 refine k4 _ _ (wp_seq_k fun _ k5 => ?_)
 refine wp_block ?_
 refine wp_loop_m (fun mz az W => ∃ k : Nat, ∃ O : List Str, ∃ Ao : Option Addr, ∃ co : Nat, mz = t.length - k ∧ Fr 58 [(0, strV (t)), (5, .int .i64 ((k : Int))), (4, .slice Ao (O.length) co)] az ∧ (k ≤ t.length) ∧ (recs t = O ++ recs (t.drop k)) ∧ (k = (forms O).length) ∧ (∀ z ∈ O, KStr.ok z) ∧ Only NoF w W ∧ W.ownsRow w.heap.size 9 1 (.slice Ao O.length co) O.length (List.flatMap KStr.cells O)) ?_ ?_
 ·
  exact ⟨_, 0, [], none, 0, rfl, Z.cut ⟨rfl, rfl, rfl, trivial⟩, Nat.zero_le _, rfl, rfl, (fun z hz => by cases hz), (Only.refl NoF w), (World.ownsRow_nil _ _ _ _)⟩
 clear Z az
 rintro mz az w6 ⟨k, O, Ao, co, hm8, Z, hk, hO, hkn, okO, o7, rO⟩
 have hOl : O.length ≤ k := by rw [hkn]; exact forms_count O
 refine wp_seq_k fun _ k9 => ?_
 refine wp_seq_k fun _ k10 => wp_region_lit ?_
 refine L (r_mv Z rfl) Z rfl ?_; clear Z az; intro az Z
 refine L (r_mv Z rfl) Z rfl ?_; clear Z az; intro az Z
 refine L (r_lenS Tryz.underlying9 Z rfl) Z rfl ?_; clear Z az; intro az Z
 refine L (r_ltI Z rfl rfl) Z rfl ?_; clear Z az; intro az Z
 refine k10 _ _ ?_
 refine br Z rfl (fun hc11 => ?_) (fun hc11 => ?_)
 ·
  have p12 := of_decide_eq_true hc11
  rw [hc11] at Z
  refine wp_skip ?_
  refine k9 _ _ ?_
  refine wp_block ?_
  refine wp_seq_k fun _ k13 => wp_region_lit ?_
  refine L (r_mv Z rfl) Z rfl ?_; clear Z az; intro az Z
  refine L (r_mv Z rfl) Z rfl ?_; clear Z az; intro az Z
  have le14 : k ≤ List.length (t) := by omega
  refine L (r_ssl (lo := k) Tryz.underlying9 Z rfl rfl rfl le14) Z rfl ?_; clear Z az; intro az Z
  refine LC Z rfl rfl Tryz.call81 (Open_v _ (List.drop k t)) rfl ?_
  rintro e w16 ⟨g15, rfl, hg17, B18, o19⟩; refine ⟨_, rfl, ?_⟩
  clear Z az; intro az Z
  refine L (r_as Z rfl) Z rfl ?_; clear Z az; intro az Z
  refine k13 _ _ (wp_seq_k fun _ k20 => wp_region_lit ?_)
  refine L (r_mv Z rfl) Z rfl ?_; clear Z az; intro az Z
  have O22 : Only NoF w w16 := (Only.trans' o7 o19)
  have G21 := Gr.k hG O22
  refine LC Z rfl rfl Tryz.call82 (rText_v (s := (⟨List.drop k t, false⟩ : Wr.Rd)) G21 B18 (Nat.le_trans hG.1 (Nat.le_trans (size_only o7) hg17)) (by show (List.drop k t).length ≤ _; rw [List.length_drop]; omega)) rfl ?_
  rintro e w23 ⟨rfl, B24, o25⟩; refine ⟨_, rfl, ?_⟩
  clear Z az; intro az Z
  refine L (r_as Z rfl) Z rfl ?_; clear Z az; intro az Z
  refine k20 _ _ (wp_seq_k fun _ k26 => wp_region_lit ?_)
  refine L (r_mv Z rfl) Z rfl ?_; clear Z az; intro az Z
  have O28 : Only NoF w w23 := (o_sg O22 o25 (size_only o7) (oneF_ge hg17))
  have G27 := Gr.k hG O28
  refine LC Z rfl rfl Tryz.call83 (rNum_v (s := (Wr.text (⟨List.drop k t, false⟩ : Wr.Rd)).2) G27 B24 (Nat.le_trans hG.1 (Nat.le_trans (size_only o7) hg17)) (Nat.le_trans (Nat.le_trans (rest_le (fun h => by cases h)) (by show (List.drop k t).length ≤ _; exact Nat.le_refl _)) (by rw [List.length_drop]; omega))) rfl ?_
  rintro e w29 ⟨rfl, B30, o31⟩; refine ⟨_, rfl, ?_⟩
  clear Z az; intro az Z
  refine L (r_as Z rfl) Z rfl ?_; clear Z az; intro az Z
  refine k26 _ _ (wp_seq_k fun _ k32 => wp_region_lit ?_)
  refine L (r_mv Z rfl) Z rfl ?_; clear Z az; intro az Z
  have O34 : Only NoF w w29 := (o_sg O28 o31 (size_only o7) (oneF_ge hg17))
  have G33 := Gr.k hG O34
  refine LCV (v := strV (form ((Wr.text (⟨List.drop k t, false⟩ : Wr.Rd)).1))) Z rfl rfl Tryz.call70 (form_v G33 ((Wr.text (⟨List.drop k t, false⟩ : Wr.Rd)).1) (Nat.le_trans (Wr.text_val_len _) (by show (List.drop k t).length ≤ _; rw [List.length_drop]; omega))) rfl fun w35 o36 => ?_; clear Z az; intro az Z
  refine L (r_as Z rfl) Z rfl ?_; clear Z az; intro az Z
  refine k32 _ _ (wp_seq_k fun _ k37 => ?_)
  refine wp_block ?_
  refine wp_seq_k fun _ k38 => ?_
  refine wp_seq_k fun _ k39 => wp_region_lit ?_
  refine L (r_mv Z rfl) Z rfl ?_; clear Z az; intro az Z
  refine L (r_lenS Tryz.underlying9 Z rfl) Z rfl ?_; clear Z az; intro az Z
  refine L (r_gtI Z rfl rfl) Z rfl ?_; clear Z az; intro az Z
  refine L (r_as Z rfl) Z rfl ?_; clear Z az; intro az Z
  refine k39 _ _ ?_
  refine br Z rfl (fun hc40 => ?_) (fun hc40 => ?_)
  ·
   have p41 := of_decide_eq_true hc40
   rw [hc40] at Z
   refine wp_skip ?_
   refine k38 _ _ ?_
   refine br_true Z rfl ?_
   refine wp_exit ?_
   refine ib_miss rfl ?_
   refine th_exit ?_
   refine ib_miss rfl ?_
   refine th_exit ?_
   refine ib_hit ?_
   refine k5 _ _ (wp_seq_k fun _ k42 => wp_region_lit ?_)
   refine L (r_mv Z rfl) Z rfl ?_; clear Z az; intro az Z
   refine L (r_mv Z rfl) Z rfl ?_; clear Z az; intro az Z
   refine L (r_as Z rfl) Z rfl ?_; clear Z az; intro az Z
   refine L (r_as Z rfl) Z rfl ?_; clear Z az; intro az Z
   refine k42 _ _ ?_
   refine wp_ret ?_
   show bodyPost _ _ _ .ret _ _
   refine ret_of (vs := [.slice Ao (O.length) co, .int .i64 ((k : Int))]) Z Tryz.results51 ⟨rfl, rfl, trivial⟩ ?_
   have O43 : Only NoF w w35 := (Only.trans' O34 o36)
   have hst := recs_none (one_no1 hc40)
   rw [hst, List.append_nil] at hO
   refine ⟨Ao, co, ?_, ?_, O43⟩
   · rw [hO, hkn]; rfl
   have r44 := (ow_k (ow_only (ow_only (ow_k rO o19) o25 (fun k hk => lt_F (oneF_ge hg17) (Nat.le_refl _) k (ownF_lt rO k hk))) o31 (fun k hk => lt_F (oneF_ge hg17) (Nat.le_refl _) k (ownF_lt rO k hk))) o36)
   · rw [hO]; exact r44
  ·
   have p45 := of_decide_eq_false hc40
   rw [hc40] at Z
   refine wp_seq_k fun _ k46 => wp_region_lit ?_
   refine L (r_mv Z rfl) Z rfl ?_; clear Z az; intro az Z
   refine L (r_mv Z rfl) Z rfl ?_; clear Z az; intro az Z
   refine LCV (v := .int .i64 ((jsum ((Wr.text (⟨List.drop k t, false⟩ : Wr.Rd)).1)))) Z rfl rfl Tryz.call84 (Sum_v _ ((Wr.text (⟨List.drop k t, false⟩ : Wr.Rd)).1) (Nat.le_trans (Wr.text_val_len _) (by show (List.drop k t).length ≤ _; rw [List.length_drop]; omega))) rfl fun w47 o48 => ?_; clear Z az; intro az Z
   refine L (r_neI Z rfl rfl) Z rfl ?_; clear Z az; intro az Z
   refine L (r_as Z rfl) Z rfl ?_; clear Z az; intro az Z
   refine k46 _ _ ?_
   refine br Z rfl (fun hc49 => ?_) (fun hc49 => ?_)
   ·
    have p50 := of_decide_eq_false (nt_t hc49)
    rw [hc49] at Z
    refine wp_skip ?_
    refine k38 _ _ ?_
    refine br_true Z rfl ?_
    refine wp_exit ?_
    refine ib_miss rfl ?_
    refine th_exit ?_
    refine ib_miss rfl ?_
    refine th_exit ?_
    refine ib_hit ?_
    refine k5 _ _ (wp_seq_k fun _ k51 => wp_region_lit ?_)
    refine L (r_mv Z rfl) Z rfl ?_; clear Z az; intro az Z
    refine L (r_mv Z rfl) Z rfl ?_; clear Z az; intro az Z
    refine L (r_as Z rfl) Z rfl ?_; clear Z az; intro az Z
    refine L (r_as Z rfl) Z rfl ?_; clear Z az; intro az Z
    refine k51 _ _ ?_
    refine wp_ret ?_
    show bodyPost _ _ _ .ret _ _
    refine ret_of (vs := [.slice Ao (O.length) co, .int .i64 ((k : Int))]) Z Tryz.results51 ⟨rfl, rfl, trivial⟩ ?_
    have O52 : Only NoF w w47 := (Only.trans' (Only.trans' O34 o36) o48)
    have hst := recs_none (one_no2 hc49)
    rw [hst, List.append_nil] at hO
    refine ⟨Ao, co, ?_, ?_, O52⟩
    · rw [hO, hkn]; rfl
    have r53 := (ow_k (ow_k (ow_only (ow_only (ow_k rO o19) o25 (fun k hk => lt_F (oneF_ge hg17) (Nat.le_refl _) k (ownF_lt rO k hk))) o31 (fun k hk => lt_F (oneF_ge hg17) (Nat.le_refl _) k (ownF_lt rO k hk))) o36) o48)
    · rw [hO]; exact r53
   ·
    have p54 := of_decide_eq_true (nt_f hc49)
    rw [hc49] at Z
    refine wp_seq_k fun _ k55 => wp_region_lit ?_
    refine L (r_mv Z rfl) Z rfl ?_; clear Z az; intro az Z
    refine L (r_lenS Tryz.underlying9 Z rfl) Z rfl ?_; clear Z az; intro az Z
    refine L (r_mv Z rfl) Z rfl ?_; clear Z az; intro az Z
    have i56 : I64 ((((List.length (t) : Nat) : Int) - (k : Int))) := by unfold I64; omega
    refine L (r_subI (r := (((List.length (t) : Nat) : Int) - (k : Int))) Z rfl rfl rfl i56) Z rfl ?_; clear Z az; intro az Z
    refine L (r_mv Z rfl) Z rfl ?_; clear Z az; intro az Z
    refine L (r_lenS Tryz.underlying9 Z rfl) Z rfl ?_; clear Z az; intro az Z
    refine L (r_ltI Z rfl rfl) Z rfl ?_; clear Z az; intro az Z
    refine L (r_as Z rfl) Z rfl ?_; clear Z az; intro az Z
    refine k55 _ _ ?_
    refine br Z rfl (fun hc57 => ?_) (fun hc57 => ?_)
    ·
     have p58 := of_decide_eq_true hc57
     rw [hc57] at Z
     refine wp_skip ?_
     refine k38 _ _ ?_
     refine br_true Z rfl ?_
     refine wp_exit ?_
     refine ib_miss rfl ?_
     refine th_exit ?_
     refine ib_miss rfl ?_
     refine th_exit ?_
     refine ib_hit ?_
     refine k5 _ _ (wp_seq_k fun _ k59 => wp_region_lit ?_)
     refine L (r_mv Z rfl) Z rfl ?_; clear Z az; intro az Z
     refine L (r_mv Z rfl) Z rfl ?_; clear Z az; intro az Z
     refine L (r_as Z rfl) Z rfl ?_; clear Z az; intro az Z
     refine L (r_as Z rfl) Z rfl ?_; clear Z az; intro az Z
     refine k59 _ _ ?_
     refine wp_ret ?_
     show bodyPost _ _ _ .ret _ _
     refine ret_of (vs := [.slice Ao (O.length) co, .int .i64 ((k : Int))]) Z Tryz.results51 ⟨rfl, rfl, trivial⟩ ?_
     have O60 : Only NoF w w47 := (Only.trans' (Only.trans' O34 o36) o48)
     have hst := recs_none (one_no3 hk hc57)
     rw [hst, List.append_nil] at hO
     refine ⟨Ao, co, ?_, ?_, O60⟩
     · rw [hO, hkn]; rfl
     have r61 := (ow_k (ow_k (ow_only (ow_only (ow_k rO o19) o25 (fun k hk => lt_F (oneF_ge hg17) (Nat.le_refl _) k (ownF_lt rO k hk))) o31 (fun k hk => lt_F (oneF_ge hg17) (Nat.le_refl _) k (ownF_lt rO k hk))) o36) o48)
     · rw [hO]; exact r61
    ·
     have p62 := of_decide_eq_false hc57
     rw [hc57] at Z
     refine wp_region_lit ?_
     refine L (r_mv Z rfl) Z rfl ?_; clear Z az; intro az Z
     refine L (r_mv Z rfl) Z rfl ?_; clear Z az; intro az Z
     refine L (r_mv Z rfl) Z rfl ?_; clear Z az; intro az Z
     refine L (r_mv Z rfl) Z rfl ?_; clear Z az; intro az Z
     refine L (r_lenS Tryz.underlying9 Z rfl) Z rfl ?_; clear Z az; intro az Z
     have i63 : I64 (((k : Int) + ((List.length (form ((Wr.text (⟨List.drop k t, false⟩ : Wr.Rd)).1)) : Nat) : Int))) := by unfold I64; omega
     refine L (r_addI (r := ((k : Int) + ((List.length (form ((Wr.text (⟨List.drop k t, false⟩ : Wr.Rd)).1)) : Nat) : Int))) Z rfl rfl rfl i63) Z rfl ?_; clear Z az; intro az Z
     refine L (r_ss (lo := k) (m := List.length (form ((Wr.text (⟨List.drop k t, false⟩ : Wr.Rd)).1))) Tryz.underlying9 Z rfl rfl rfl rfl (by omega) (by omega)) Z rfl ?_; clear Z az; intro az Z
     refine L (r_mv Z rfl) Z rfl ?_; clear Z az; intro az Z
     refine L (r_neS Z rfl rfl) Z rfl ?_; clear Z az; intro az Z
     refine L (r_as Z rfl) Z rfl ?_; clear Z az; intro az Z
     refine k38 _ _ ?_
     refine br Z rfl (fun hc64 => ?_) (fun hc64 => ?_)
     ·
      have p65 := of_decide_eq_false (nt_t hc64)
      rw [hc64] at Z
      refine wp_exit ?_
      refine ib_miss rfl ?_
      refine th_exit ?_
      refine ib_miss rfl ?_
      refine th_exit ?_
      refine ib_hit ?_
      refine k5 _ _ (wp_seq_k fun _ k66 => wp_region_lit ?_)
      refine L (r_mv Z rfl) Z rfl ?_; clear Z az; intro az Z
      refine L (r_mv Z rfl) Z rfl ?_; clear Z az; intro az Z
      refine L (r_as Z rfl) Z rfl ?_; clear Z az; intro az Z
      refine L (r_as Z rfl) Z rfl ?_; clear Z az; intro az Z
      refine k66 _ _ ?_
      refine wp_ret ?_
      show bodyPost _ _ _ .ret _ _
      refine ret_of (vs := [.slice Ao (O.length) co, .int .i64 ((k : Int))]) Z Tryz.results51 ⟨rfl, rfl, trivial⟩ ?_
      have O67 : Only NoF w w47 := (Only.trans' (Only.trans' O34 o36) o48)
      have hst := recs_none (one_no4 hc64)
      rw [hst, List.append_nil] at hO
      refine ⟨Ao, co, ?_, ?_, O67⟩
      · rw [hO, hkn]; rfl
      have r68 := (ow_k (ow_k (ow_only (ow_only (ow_k rO o19) o25 (fun k hk => lt_F (oneF_ge hg17) (Nat.le_refl _) k (ownF_lt rO k hk))) o31 (fun k hk => lt_F (oneF_ge hg17) (Nat.le_refl _) k (ownF_lt rO k hk))) o36) o48)
      · rw [hO]; exact r68
     ·
      have p69 := of_decide_eq_true (nt_f hc64)
      rw [hc64] at Z
      refine wp_skip ?_
      refine k37 _ _ ?_
      refine wp_region_lit ?_
      refine L (r_mv Z rfl) Z rfl ?_; clear Z az; intro az Z
      refine L (r_mv Z rfl) Z rfl ?_; clear Z az; intro az Z
      obtain ⟨A70, w71, hw, hA, r72, o73⟩ := Row.made (w := w47) KStr (e := 9) ([(Wr.text (⟨List.drop k t, false⟩ : Wr.Rd)).1] : List Str) (by simp only [List.length_cons, List.length_nil]; unfold maxLen; omega)
      refine L (r_bs (z := strV ([])) (size := 1) (vs := [(0, strV ((Wr.text (⟨List.drop k t, false⟩ : Wr.Rd)).1))]) (cs := List.flatMap KStr.cells [(Wr.text (⟨List.drop k t, false⟩ : Wr.Rd)).1]) Tryz.underlying68 Tryz.sizeOf9 Tryz.zeroValue9 rfl (Fr.evalps Z rfl) (by kernel_rfl)) Z rfl ?_
      rw [← hw, ← hA]; clear Z az; intro az Z
      clear hw hA
      have ok74 : ∀ zq ∈ ([(Wr.text (⟨List.drop k t, false⟩ : Wr.Rd)).1] : List Str), KStr.ok zq := by intro zq hx; simp only [List.mem_cons, List.not_mem_nil, or_false] at hx; rcases hx with rfl <;> first | exact (by show List.length ((Wr.text (⟨List.drop k t, false⟩ : Wr.Rd)).1) ≤ maxLen; unfold maxLen; omega)
      have r75 := (ow_k (ow_k (ow_k (ow_only (ow_only (ow_k rO o19) o25 (fun k hk => lt_F (oneF_ge hg17) (Nat.le_refl _) k (ownF_lt rO k hk))) o31 (fun k hk => lt_F (oneF_ge hg17) (Nat.le_refl _) k (ownF_lt rO k hk))) o36) o48) o73)
      have h76 := Row.own KStr r72 ok74
      have h77 := SliceOf.pl h76
      have hb85 : (List.length (O) + List.length ([(Wr.text (⟨List.drop k t, false⟩ : Wr.Rd)).1])) * 16 ≤ 140737488355328 := by (simp only [List.length_cons, List.length_nil]; omega)
      have O86 : Only NoF w w71 := (Only.trans' (Only.trans' (Only.trans' O34 o36) o48) o73)
      obtain ⟨A78, c79, w80, hr81, r82, o83, al84⟩ := Row.app (P := Tryz.prog) (l := O) (l2 := [(Wr.text (⟨List.drop k t, false⟩ : Wr.Rd)).1]) KStr elemStr r75 h77 hb85 (by unfold maxLen; omega) (size_only O86)
      refine L (r_app hr81 Z rfl rfl) Z rfl ?_; clear Z az; intro az Z
      have ok87 : ∀ zq ∈ (O ++ [(Wr.text (⟨List.drop k t, false⟩ : Wr.Rd)).1]), KStr.ok zq := (fun x hx => (List.mem_append.1 hx).elim (okO x) ((Row.oks KStr h77) x))
      have h88 := Row.own KStr r82 ok87
      refine L (r_mv Z rfl) Z rfl ?_; clear Z az; intro az Z
      refine L (r_mv Z rfl) Z rfl ?_; clear Z az; intro az Z
      refine L (r_lenS Tryz.underlying9 Z rfl) Z rfl ?_; clear Z az; intro az Z
      have i89 : I64 (((k : Int) + ((List.length (form ((Wr.text (⟨List.drop k t, false⟩ : Wr.Rd)).1)) : Nat) : Int))) := by unfold I64; omega
      refine L (r_addI (r := ((k : Int) + ((List.length (form ((Wr.text (⟨List.drop k t, false⟩ : Wr.Rd)).1)) : Nat) : Int))) Z rfl rfl rfl i89) Z rfl ?_; clear Z az; intro az Z
      refine L (r_as Z rfl) Z rfl ?_; clear Z az; intro az Z
      refine L (r_as Z rfl) Z rfl ?_; clear Z az; intro az Z
      have hone := one_ok hk hc40 hc49 hc57 hc64
      obtain ⟨_, _, _, hfl, _⟩ := one_some hone
      have O90 : Only NoF w w80 := (o_sg O86 o83 (Nat.le_refl _) (ownF_ge rO))
      exact ⟨_, (by have := form_pos (Wr.text ⟨List.drop k t, false⟩).1; rw [List.length_drop] at hfl; omega), k + List.length (form (Wr.text ⟨List.drop k t, false⟩).1), _, A78, c79, rfl, Z.cut ⟨rfl, rfl, rfl, trivial⟩, (by rw [List.length_drop] at hfl; omega), (by rw [hO, recs_some hone, List.drop_drop, List.append_assoc]; rfl), (by rw [hkn, forms_app, forms_one, List.length_append]), ok87, O90, (ow_low r82 (Nat.le_refl _))⟩
 ·
  have p91 := of_decide_eq_false hc11
  rw [hc11] at Z
  refine wp_exit ?_
  refine th_exit ?_
  refine th_exit ?_
  refine ib_hit ?_
  refine k5 _ _ (wp_seq_k fun _ k92 => wp_region_lit ?_)
  refine L (r_mv Z rfl) Z rfl ?_; clear Z az; intro az Z
  refine L (r_mv Z rfl) Z rfl ?_; clear Z az; intro az Z
  refine L (r_as Z rfl) Z rfl ?_; clear Z az; intro az Z
  refine L (r_as Z rfl) Z rfl ?_; clear Z az; intro az Z
  refine k92 _ _ ?_
  refine wp_ret ?_
  show bodyPost _ _ _ .ret _ _
  refine ret_of (vs := [.slice Ao (O.length) co, .int .i64 ((k : Int))]) Z Tryz.results51 ⟨rfl, rfl, trivial⟩ ?_
  have hst : recs (t.drop k) = [] := by rw [List.drop_of_length_le (by omega)]; exact recs_nil
  rw [hst, List.append_nil] at hO
  refine ⟨Ao, co, ?_, ?_, o7⟩
  · rw [hO, hkn]; rfl
  · rw [hO]; exact rO
end Go.Proofs.YtdegmpigkgkafaaGreatDoor
