/-
  The reference's reader: what its parts compute against the wire's model. No condition but those written.
-/
import Derived.Test.YtdcbjedkddgfkaaDoorWir3
import Derived.Test.YtdcbjedkddgfkaaDoorWir2
namespace Go.Proofs.YtdcbjedkddgfkaaDoor
set_option linter.unusedVariables false
set_option linter.unusedSimpArgs false
set_option linter.unusedSectionVars false
open Go.RowKit
namespace Wr
def bstep (n : Int) (c : UInt8) : Int := IntKind.i64.wrap (IntKind.i64.wrap (10 * n) - ((c.toNat : Int) - 48))
theorem wrap_ok (n : Int) : Ok (IntKind.i64.wrap n) := by
 unfold Ok IntKind.wrap
 simp only [IntKind.signed, IntKind.bits, Bool.true_and, decide_eq_true_eq, show (2 : Int) ^ (64 - 1) = 9223372036854775808 by decide]
 have h1 := Int.emod_nonneg n (show (2 : Int) ^ 64 ≠ 0 by decide)
 have h2 := Int.emod_lt_of_pos n (show (0 : Int) < 2 ^ 64 by decide)
 constructor <;> split <;> omega
theorem wrap_in {n : Int} (h : Ok n) : IntKind.i64.wrap n = n := IntWalk.i64_in _ h
theorem fold_dec (u : Nat) : u ≤ 9223372036854775808 → (Lib.decDigits u).foldl bstep 0 = -(u : Int) := by
 induction u using Nat.strongRecOn
 rename_i u ih
 intro h
 have key : ∀ a d : Nat, d < 10 → a * 10 + d ≤ 9223372036854775808 → bstep (-(a : Int)) (UInt8.ofNat (48 + d)) = -((a * 10 + d : Nat) : Int) := by
  intro a d hd hle
  unfold bstep
  rw [dig_byte d hd, wrap_in (n := 10 * -(a : Int)) (by unfold Ok; omega), wrap_in (by unfold Ok; omega)]
  omega
 by_cases hu : u < 10
 · rw [dec_small hu]
   have := key 0 u hu (by omega)
   simpa using this
 · rw [dec_big hu, List.foldl_append, ih (u / 10) (by omega) (by omega)]
   have := key (u / 10) (u % 10) (Nat.mod_lt _ (by decide)) (by omega)
   rw [show u / 10 * 10 + u % 10 = u by omega] at this
   simpa using this
def Sgn (p : Str) (F : Nat) : Prop := (F = 1 ∧ ∃ q, p = 45 :: q) ∨ (F = 0 ∧ ∀ q, p ≠ 45 :: q)
theorem sgn1 {p : Str} (h : (decide ((0 : Int) < ((p.length : Nat) : Int)) && decide ((((List.getD p 0 0).toNat : Nat) : Int) = 45)) = true) : Sgn p 1 := by
 simp only [Bool.and_eq_true, decide_eq_true_eq] at h
 obtain ⟨h1, h2⟩ := h
 cases p with
 | nil => simp at h1
 | cons x q =>
  refine .inl ⟨rfl, q, ?_⟩
  have : x = 45 := UInt8.toNat_inj.1 (by simp at h2; show x.toNat = 45; omega)
  rw [this]
theorem sgn0 {p : Str} (h : (decide ((0 : Int) < ((p.length : Nat) : Int)) && decide ((((List.getD p 0 0).toNat : Nat) : Int) = 45)) = false) : Sgn p 0 := by
 refine .inr ⟨rfl, fun q e => ?_⟩
 subst e
 simp at h
theorem itoa_case {p : Str} {F : Nat} {m : Int} (hF : Sgn p F) (hm : Lib.itoa m = p) : (F = 1 ∧ m < 0 ∧ p = 45 :: Lib.decDigits m.natAbs) ∨ (F = 0 ∧ ¬ m < 0 ∧ p = Lib.decDigits m.toNat) := by
 unfold Lib.itoa at hm
 rcases hF with ⟨rfl, q, rfl⟩ | ⟨rfl, h⟩
 · split at hm
   · exact .inl ⟨rfl, by assumption, hm.symm⟩
   · exfalso
     have := dec_digit m.toNat 45 (by rw [hm]; simp)
     revert this; decide
 · split at hm
   · exact absurd hm.symm (h _)
   · exact .inr ⟨rfl, by assumption, hm.symm⟩
theorem back_bad {p : Str} {F i : Nat} (hF : Sgn p F) (hi : F ≤ i) (hl : i < p.length)
 (hc : ((decide ((((List.getD p i 0).toNat : Nat) : Int) < 48) || decide (57 < (((List.getD p i 0).toNat : Nat) : Int))) || decide (20 < (i : Int))) = true) : parse p = none := by
 rcases hp : parse p with _ | m
 · rfl
 · exfalso
   obtain ⟨h1, h2⟩ := parse_iff.1 hp
   have hlen := itoa_len m h1.1 h1.2
   rw [h2] at hlen
   have hd : 48 ≤ (List.getD p i 0).toNat ∧ (List.getD p i 0).toNat ≤ 57 := by
    rw [List.getD_eq_getElem?_getD, List.getElem?_eq_getElem hl]
    show 48 ≤ (p[i]).toNat ∧ (p[i]).toNat ≤ 57
    rcases itoa_case hF h2 with ⟨rfl, _, h3⟩ | ⟨rfl, _, h3⟩
    · obtain ⟨j, rfl⟩ : ∃ j, i = j + 1 := ⟨i - 1, by omega⟩
      subst h3
      exact dec_digit m.natAbs _ (by simp only [List.getElem_cons_succ]; exact List.getElem_mem _)
    · subst h3
      exact dec_digit m.toNat _ (List.getElem_mem _)
   simp only [Bool.or_eq_true, decide_eq_true_eq] at hc
   omega
theorem back_good {i : Nat} {p : Str} (hc : ((decide ((((List.getD p i 0).toNat : Nat) : Int) < 48) || decide (57 < (((List.getD p i 0).toNat : Nat) : Int))) || decide (20 < (i : Int))) = false) : 48 ≤ (List.getD p i 0).toNat ∧ (List.getD p i 0).toNat ≤ 57 ∧ i ≤ 20 := by
 simp only [Bool.or_eq_false_iff, decide_eq_false_iff_not] at hc
 omega
theorem fold_next {p : Str} {F i : Nat} {N : Int} (hi : F ≤ i) (hl : i < p.length) (hN : N = ((p.drop F).take (i - F)).foldl bstep 0) : bstep N (List.getD p i 0) = ((p.drop F).take (i + 1 - F)).foldl bstep 0 := by
 have h : (p.drop F)[i - F]? = some (List.getD p i 0) := by
  rw [List.getElem?_drop, show F + (i - F) = i by omega, List.getD_eq_getElem?_getD, List.getElem?_eq_getElem hl]; rfl
 rw [show i + 1 - F = (i - F) + 1 by omega, take_succ_get h, List.foldl_append, ← hN]
 rfl
theorem intE_cancel {n : Int} {p : Str} : intE n = p ++ [59] ↔ Lib.itoa n = p := by
 unfold intE
 constructor
 · intro h; exact List.append_cancel_right h
 · intro h; rw [h]
theorem back_yes {n : Int} {p : Str} (hn : Ok n) (h : decide (intE n = p ++ [59]) = true) : parse p = some n := parse_iff.2 ⟨hn, intE_cancel.1 (of_decide_eq_true h)⟩
theorem back_no1 {p : Str} {i : Nat} {N : Int} (hF : Sgn p 1) (hi : p.length ≤ i) (hN : N = ((p.drop 1).take (i - 1)).foldl bstep 0) (h : decide (intE N = p ++ [59]) = false) : parse p = none := by
 rcases hp : parse p with _ | m
 · rfl
 · exfalso
   obtain ⟨h1, h2⟩ := parse_iff.1 hp
   rcases itoa_case hF h2 with ⟨_, h3, h4⟩ | ⟨h3, _⟩
   · rw [List.take_of_length_le (by rw [List.length_drop]; omega), h4, List.drop_succ_cons, List.drop_zero, fold_dec _ (by have := h1.1; omega)] at hN
     have : N = m := by omega
     subst this
     exact of_decide_eq_false h (intE_cancel.2 h2)
   · cases h3
theorem back_no0 {p : Str} {i : Nat} {N : Int} (hF : Sgn p 0) (hi : p.length ≤ i) (hN : N = ((p.drop 0).take (i - 0)).foldl bstep 0) (h : decide (intE (IntKind.i64.wrap (-N)) = p ++ [59]) = false) : parse p = none := by
 rcases hp : parse p with _ | m
 · rfl
 · exfalso
   obtain ⟨h1, h2⟩ := parse_iff.1 hp
   rcases itoa_case hF h2 with ⟨h3, _⟩ | ⟨_, h3, h4⟩
   · cases h3
   · rw [List.take_of_length_le (by rw [List.length_drop]; omega), h4, List.drop_zero, fold_dec _ (by have := h1.2; omega)] at hN
     have : IntKind.i64.wrap (-N) = m := by rw [wrap_in (by unfold Ok; have := h1.2; omega)]; omega
     rw [this] at h
     exact of_decide_eq_false h (intE_cancel.2 h2)
/-! ### ahead -/
abbrev Min : Int := -9223372036854775808
def NoE (r : Str) (e : UInt8) (k : Nat) : Prop := ∀ c ∈ r.take k, c ≠ e
theorem noE_next {r : Str} {e : UInt8} {k : Nat} {b : Bool} (h : NoE r e k) (hk : k < r.length) (hc : (b && (!decide ((((List.getD r k 0).toNat : Nat) : Int) = ((e.toNat : Nat) : Int)))) = true) : NoE r e (k + 1) := by
 intro c hm
 have hx : r[k]? = some (List.getD r k 0) := by rw [List.getD_eq_getElem?_getD, List.getElem?_eq_getElem hk]; rfl
 rw [take_succ_get hx, List.mem_append] at hm
 rcases hm with hm | hm
 · exact h c hm
 · simp only [List.mem_singleton] at hm
   subst hm
   intro he
   rw [he] at hc
   simp at hc
theorem head_no {r : Str} {e : UInt8} {k : Nat} (h : NoE r e k) (hk : k ≤ r.length) : k ≤ (head e r).length := by
 have e1 : r = r.take k ++ r.drop k := (List.take_append_drop k r).symm
 have e2 : head e r = r.take k ++ head e (r.drop k) := by
  conv => lhs; rw [e1]
  unfold head
  exact List.takeWhile_append_of_pos fun c hm => by simpa using h c hm
 rw [e2, List.length_append, List.length_take]; omega
theorem ah_none {s : Rd} {e : UInt8} {L : Int} (h : parse (head e s.r) = none) : number s e L = (0, failed) := by unfold number; rw [h]
theorem ah_long {s : Rd} {e : UInt8} {L : Int} {k : Nat} (h : NoE s.r e k) (hk : k ≤ s.r.length) (h2 : 21 ≤ k) : number s e L = (0, failed) := by
 have := head_no h hk
 refine ah_none ?_
 rcases hp : parse (head e s.r) with _ | m
 · rfl
 · obtain ⟨h1, h3⟩ := parse_iff.1 hp
   have := itoa_len m h1.1 h1.2
   rw [h3] at this; omega
theorem ah_end {s : Rd} {e : UInt8} {L : Int} {k : Nat} (h : NoE s.r e k) (hk : k ≤ s.r.length) (h2 : decide (((s.r.length : Nat) : Int) ≤ (k : Int)) = true) : number s e L = (0, failed) := by
 have := head_no h hk
 have h2 := of_decide_eq_true h2
 unfold number
 split
 · rw [if_neg (by omega)]
 · rfl
theorem ah_at {r : Str} {e : UInt8} {k : Nat} (h : NoE r e k) (hk : k < r.length) (hc : (!decide ((((List.getD r k 0).toNat : Nat) : Int) = ((e.toNat : Nat) : Int))) = false) : head e r = r.take k ∧ (head e r).length = k := by
 have hc' := of_decide_eq_true (nt_f hc)
 have hx : List.getD r k 0 = e := UInt8.toNat_inj.1 (by omega)
 have hx2 : r[k] = e := by rw [← hx, List.getD_eq_getElem?_getD, List.getElem?_eq_getElem hk]; rfl
 have e1 : r = r.take k ++ e :: r.drop (k + 1) := by
  conv => lhs; rw [← List.take_append_drop k r, List.drop_eq_getElem_cons hk, hx2]
 have e2 : head e r = r.take k := by
  conv => lhs; rw [e1]
  exact head_append h
 exact ⟨e2, by rw [e2, List.length_take]; omega⟩
theorem ah_bad {s : Rd} {e : UInt8} {L : Int} {k : Nat} (h : NoE s.r e k) (hk : k < s.r.length) (hc : (!decide ((((List.getD s.r k 0).toNat : Nat) : Int) = ((e.toNat : Nat) : Int))) = false) (hp : parse (s.r.take k) = none) : number s e L = (0, failed) := by
 obtain ⟨h1, _⟩ := ah_at h hk hc
 exact ah_none (by rw [h1, hp])
theorem ah_ok {s : Rd} {e : UInt8} {k : Nat} {n : Int} (h : NoE s.r e k) (hk : k < s.r.length) (hc : (!decide ((((List.getD s.r k 0).toNat : Nat) : Int) = ((e.toNat : Nat) : Int))) = false) (hp : parse (s.r.take k) = some n) : number s e Min = (n, ⟨s.r.drop (k + 1), s.b⟩) := by
 obtain ⟨h1, h2⟩ := ah_at h hk hc
 unfold number
 rw [h1, hp]
 rw [h1] at h2
 simp only [h2]
 rw [if_pos ⟨hk, (parse_iff.1 hp).1.1⟩]
theorem ah_cut {s : Rd} {e : UInt8} {L : Int} {k : Nat} (h : NoE s.r e k) (hk : k < s.r.length)
 (h0 : ((decide ((k : Int) < ((s.r.length : Nat) : Int)) && decide ((k : Int) < 21)) && (!decide ((((List.getD s.r k 0).toNat : Nat) : Int) = ((e.toNat : Nat) : Int)))) = false)
 (hc : (!decide ((((List.getD s.r k 0).toNat : Nat) : Int) = ((e.toNat : Nat) : Int))) = true) : number s e L = (0, failed) := by
 rw [hc, Bool.and_true] at h0
 simp only [Bool.and_eq_false_iff, decide_eq_false_iff_not] at h0
 exact ah_long h (by omega) (by omega)
theorem num_neg {s : Rd} {e : UInt8} (h : (number s e Min).1 < 0) : number s e 0 = (0, failed) := by
 unfold number at h ⊢
 split
 · rename_i n hn
   simp only [hn] at h
   split at h
   · rw [if_neg (by simp only at h; omega)]
   · simp at h
 · rfl
theorem num_pos {s : Rd} {e : UInt8} (h : ¬ (number s e Min).1 < 0) : number s e 0 = number s e Min := by
 unfold number at h ⊢
 split
 · rename_i n hn
   simp only [hn] at h
   by_cases hx : (head e s.r).length < s.r.length ∧ Min ≤ n
   · rw [if_pos hx] at h ⊢
     rw [if_pos ⟨hx.1, by simp only at h; omega⟩]
   · rw [if_neg hx, if_neg (fun h' => hx ⟨h'.1, by have := h'.2; unfold Min; omega⟩)]
 · rfl
/-! ### close, text -/
def closeB (s : Rd) (c : UInt8) : Bool := match s.r with | x :: _ => decide (x = c) | [] => false
theorem close_nil {s : Rd} {c : UInt8} (h : decide (((s.r.length : Nat) : Int) = 0) = true) : closeB s c = false ∧ close s c = failed := by
 have h := of_decide_eq_true h
 have : s.r = [] := List.eq_nil_of_length_eq_zero (by omega)
 unfold closeB close; rw [this]; exact ⟨rfl, rfl⟩
theorem close_ne {s : Rd} {c : UInt8} (h0 : decide (((s.r.length : Nat) : Int) = 0) = false) (h : (!decide ((((List.getD s.r 0 0).toNat : Nat) : Int) = ((c.toNat : Nat) : Int))) = true) : closeB s c = false ∧ close s c = failed := by
 unfold closeB close
 rcases hr : s.r with _ | ⟨x, r⟩
 · exact ⟨rfl, rfl⟩
 · rw [hr] at h
   have hx : x ≠ c := fun e => by subst e; simp at h
   simp only [hx, if_false, decide_false]; exact ⟨trivial, trivial⟩
theorem close_eq1 {s : Rd} {c : UInt8} (h0 : decide (((s.r.length : Nat) : Int) = 0) = false) (h : (!decide ((((List.getD s.r 0 0).toNat : Nat) : Int) = ((c.toNat : Nat) : Int))) = false) : closeB s c = true ∧ close s c = ⟨s.r.drop 1, s.b⟩ := by
 unfold closeB close
 rcases hr : s.r with _ | ⟨x, r⟩
 · rw [hr] at h0; simp at h0
 · rw [hr] at h
   have h := of_decide_eq_true (nt_f h)
   have hx : x = c := UInt8.toNat_inj.1 (by simp at h; omega)
   subst hx
   simp
theorem closeB_f {s : Rd} {c : UInt8} (h : closeB s c = false) : close s c = failed := by
 unfold closeB at h; unfold close
 rcases hr : s.r with _ | ⟨x, r⟩
 · rfl
 · rw [hr] at h
   simp only [decide_eq_false_iff_not] at h
   simp only [h, if_false]
theorem closeB_t {s : Rd} {c : UInt8} (h : closeB s c = true) : close s c = ⟨s.r.drop 1, s.b⟩ := by
 unfold closeB at h; unfold close
 rcases hr : s.r with _ | ⟨x, r⟩
 · rw [hr] at h; cases h
 · rw [hr] at h
   simp only [decide_eq_true_eq] at h
   simp [h]
theorem close_failed (c : UInt8) : close failed c = failed := rfl
theorem vtext_f {s : Rd} (hf : Fine s) (h : ((number s 58 0).2.b || decide ((((number s 58 0).2.r.length : Nat) : Int) ≤ (number s 58 0).1)) = true) : text s = ([], failed) := by
 have hfn := number_fine 58 0 hf
 have hle := number_least s 58 0 (Int.le_refl _)
 unfold text
 split
 · rfl
 · rename_i hx
   have hd : (number s 58 0).2.r.drop (number s 58 0).1.toNat = [] := by
    simp only [Bool.or_eq_true, decide_eq_true_eq] at h
    rcases h with h | h
    · rw [hfn h]; simp
    · exact List.drop_of_length_le (by omega)
   rw [hd]
   rfl
theorem vtext_cond {s : Rd} (h : ((number s 58 0).2.b || decide ((((number s 58 0).2.r.length : Nat) : Int) ≤ (number s 58 0).1)) = false) : (number s 58 0).2.b = false ∧ (number s 58 0).1 < (((number s 58 0).2.r.length : Nat) : Int) := by
 simp only [Bool.or_eq_false_iff, decide_eq_false_iff_not] at h
 exact ⟨h.1, by omega⟩
theorem vtext_2 {s : Rd} {q : Nat} (h : ((number s 58 0).2.b || decide ((((number s 58 0).2.r.length : Nat) : Int) ≤ (number s 58 0).1)) = false) (hq : (number s 58 0).1 = (q : Int)) (hc : closeB ⟨(number s 58 0).2.r.drop q, (number s 58 0).2.b⟩ 44 = false) :
 text s = ([], close ⟨(number s 58 0).2.r.drop q, (number s 58 0).2.b⟩ 44) := by
 obtain ⟨h1, h2⟩ := vtext_cond h
 have e : (number s 58 0).1.toNat = q := by omega
 have e2 := closeB_f hc
 unfold text; rw [if_neg (by omega), e, if_pos (by rw [e2]; rfl)]
theorem vtext_3 {s : Rd} {q : Nat} (h : ((number s 58 0).2.b || decide ((((number s 58 0).2.r.length : Nat) : Int) ≤ (number s 58 0).1)) = false) (hq : (number s 58 0).1 = (q : Int)) (hc : closeB ⟨(number s 58 0).2.r.drop q, (number s 58 0).2.b⟩ 44 = true) :
 text s = ((number s 58 0).2.r.take q, close ⟨(number s 58 0).2.r.drop q, (number s 58 0).2.b⟩ 44) := by
 obtain ⟨h1, h2⟩ := vtext_cond h
 have e : (number s 58 0).1.toNat = q := by omega
 have e2 := closeB_t hc
 unfold text; rw [if_neg (by omega), e, if_neg (by rw [e2, h1]; decide)]
end Wr
theorem ixb {k n : Nat} {b : Bool} (h : (decide ((k : Int) < ((n : Nat) : Int)) && b) = true) : k < n := by
 simp only [Bool.and_eq_true, decide_eq_true_eq] at h; omega
section
variable {P : Program} {w : World} {n : Nat} {l : List (Nat × Value)} {a : Act} {dst : Option Tmp} {ty : TypeId} {pos : String} {aft : Array Edge} {g : Option (Nat × Bool)} {x y : Operand}
theorem r_ixD {t : TypeId} {s : Str} {k : Nat} {z : Int} (hu : P.underlying t = some .string) (H : Fr n l a) (hx : ev l x = some (strV s)) (hy : ev l y = some (.int .i64 z)) (hz : z = (k : Int)) (hk : k < s.length) :
 (execOp a.eval ⟨dst, .index t x y, ty, pos, aft, g⟩).run P w = .ok (.value (.int .u8 (((List.getD s k 0).toNat : Nat) : Int))) w :=
 r_ix hu H hx hy hz (by rw [List.getD_eq_getElem?_getD, List.getElem?_eq_getElem hk]; rfl)
theorem r_mulW {p q : Int} {t yt : TypeId} (H : Fr n l a) (hx : ev l x = some (.int .i64 p)) (hy : ev l y = some (.int .i64 q)) : (execOp a.eval ⟨dst, .binOp .mul t x y yt, ty, pos, aft, g⟩).run P w = .ok (.value (.int .i64 (IntKind.i64.wrap (p * q)))) w := by
 simp [execOp, H.eval hx, H.eval hy, eqGuard, binOp, Op.intArith]
theorem r_subW {p q : Int} {t yt : TypeId} (H : Fr n l a) (hx : ev l x = some (.int .i64 p)) (hy : ev l y = some (.int .i64 q)) : (execOp a.eval ⟨dst, .binOp .sub t x y yt, ty, pos, aft, g⟩).run P w = .ok (.value (.int .i64 (IntKind.i64.wrap (p - q)))) w := by
 simp [execOp, H.eval hx, H.eval hy, eqGuard, binOp, Op.intArith]
theorem r_subU {p q : Int} {t yt : TypeId} (H : Fr n l a) (hx : ev l x = some (.int .u8 p)) (hy : ev l y = some (.int .u8 q)) (hb : 0 ≤ p - q ∧ p - q < 256) : (execOp a.eval ⟨dst, .binOp .sub t x y yt, ty, pos, aft, g⟩).run P w = .ok (.value (.int .u8 (p - q))) w := by
 have : IntKind.u8.wrap (p - q) = p - q := by simp [IntKind.wrap, IntKind.signed, IntKind.bits]; omega
 simp [execOp, H.eval hx, H.eval hy, eqGuard, binOp, Op.intArith, this]
theorem r_negW {p : Int} {t : TypeId} (H : Fr n l a) (hx : ev l x = some (.int .i64 p)) : (execOp a.eval ⟨dst, .unOp .neg t x, ty, pos, aft, g⟩).run P w = .ok (.value (.int .i64 (IntKind.i64.wrap (-p)))) w := by
 simp [execOp, H.eval hx, Op.unary, Op.intArith]
theorem r_cvJ {src dt : TypeId} {u : TypeDesc} {p : Int} (hs : P.underlying src = some u) (hd : P.underlying dt = some (.int .i64)) (H : Fr n l a) (hx : ev l x = some (.int .u8 p)) (hp : 0 ≤ p ∧ p < 256) :
 (execOp a.eval ⟨dst, .convert src dt x, ty, pos, aft, g⟩).run P w = .ok (.value (.int .i64 p)) w := by
 have h := run_convert_int w src dt .u8 p (by rw [hs]; rfl) (by unfold Program.intKind; rw [hd])
 have e : P.intKind dt = .i64 := by unfold Program.intKind; rw [hd]
 have e2 : IntKind.i64.wrap p = p := IntWalk.i64_in _ ⟨by omega, by omega⟩
 rw [e, e2] at h
 simp [execOp, H.eval hx, h]
theorem r_eqL {k : IntKind} {p q : Int} {b : Bool} {t yt : TypeId} (H : Fr n l a) (hx : ev l x = some (.int k p)) (hy : ev l y = some (.int k q)) (hb : decide (p = q) = b) : (execOp a.eval ⟨dst, .binOp .eql t x y yt, ty, pos, aft, g⟩).run P w = .ok (.value (.bool b)) w := by
 subst hb
 exact r_eqI H hx hy
end
theorem tf (b : Bool) : b = false ∨ b = true := by cases b <;> simp
def BackTo (p : Str) (w : World) (e : Ending) (w' : World) : Prop := ∃ n b, e = .returned (.tuple #[.int .i64 n, .bool b]) ∧ Wr.Ok n ∧ (b = true → Wr.parse p = some n) ∧ (b = false → Wr.parse p = none) ∧ Only NoF w w'
end Go.Proofs.YtdcbjedkddgfkaaDoor
