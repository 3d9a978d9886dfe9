/-
  The wire's encodings and its reader (chapter 1) as plain data, and the laws of the two. No condition: definitions and plain lemmas.
-/
import Derived.Test.YtdcbjedkddgfkaaGreatDoorMem
import Derived.Lib.ItoaLen
import Derived.Lib.AtoiAll
import Derived.Lib.AtoiAllCases
namespace Go.Proofs.YtdcbjedkddgfkaaGreatDoor
set_option linter.unusedVariables false
set_option linter.unusedSimpArgs false
set_option linter.unusedSectionVars false
/-! ### numerals -/
theorem dig_byte (d : Nat) (h : d < 10) : (UInt8.ofNat (48 + d)).toNat = 48 + d := by
 rw [UInt8.toNat_ofNat']; omega
theorem dec_small {u : Nat} (h : u < 10) : Lib.decDigits u = [UInt8.ofNat (48 + u)] := by rw [Lib.decDigits, dif_pos h]
theorem dec_big {u : Nat} (h : ¬ u < 10) : Lib.decDigits u = Lib.decDigits (u / 10) ++ [UInt8.ofNat (48 + u % 10)] := by rw [Lib.decDigits, dif_neg h]
theorem dec_digit (u : Nat) : ∀ c ∈ Lib.decDigits u, 48 ≤ c.toNat ∧ c.toNat ≤ 57 := by
 induction u using Nat.strongRecOn with
 | _ u ih =>
  intro c hc
  by_cases h : u < 10
  · rw [dec_small h] at hc
    rw [List.mem_singleton.1 hc, dig_byte u h]; omega
  · rw [dec_big h] at hc
    rcases List.mem_append.1 hc with hc | hc
    · exact ih (u / 10) (by omega) c hc
    · rw [List.mem_singleton.1 hc, dig_byte _ (Nat.mod_lt _ (by omega))]; omega
theorem dec_ne (u : Nat) : Lib.decDigits u ≠ [] := by
 by_cases h : u < 10
 · rw [dec_small h]; simp
 · rw [dec_big h]; simp
/-- the digits are read back -/
theorem parse_dec (u : Nat) : ∀ (acc k : Nat) (r : List UInt8), k = acc * 10 ^ (Lib.decDigits u).length + u → k < 18446744073709551616 → Lib.parseUint10 acc (Lib.decDigits u ++ r) = Lib.parseUint10 k r := by
 induction u using Nat.strongRecOn with
 | _ u ih =>
  intro acc k r hk hlt
  by_cases h : u < 10
  · rw [dec_small h] at hk ⊢
    simp only [List.length_singleton, Nat.pow_one] at hk
    have hb := dig_byte u h
    simp only [List.cons_append, List.nil_append, Lib.parseUint10, hb]
    rw [if_pos (by omega), if_neg (by omega), if_neg (by omega)]
    congr 1
    omega
  · rw [dec_big h] at hk ⊢
    rw [List.append_assoc]
    rw [List.length_append, List.length_singleton, Nat.pow_succ] at hk
    have hb := dig_byte (u % 10) (Nat.mod_lt _ (by omega))
    obtain ⟨k', hk'⟩ : ∃ k', k' = acc * 10 ^ (Lib.decDigits (u / 10)).length + u / 10 := ⟨_, rfl⟩
    have e : k = k' * 10 + u % 10 := by
     rw [hk, hk', Nat.add_mul, ← Nat.mul_assoc]; omega
    rw [ih (u / 10) (by omega) acc k' ([UInt8.ofNat (48 + u % 10)] ++ r) hk' (by omega)]
    simp only [List.cons_append, List.nil_append, Lib.parseUint10, hb]
    rw [if_pos (by omega), if_neg (by omega), if_neg (by omega)]
    congr 1
    omega
theorem mag_dec (u : Nat) (h : u < 18446744073709551616) : Lib.parseMag (Lib.decDigits u) = .ok u := by
 unfold Lib.parseMag
 rw [if_neg (dec_ne u)]
 have := parse_dec u 0 u [] (by simp) h
 rwa [List.append_nil] at this
theorem atoi_itoa (n : Int) (h0 : -9223372036854775808 ≤ n) (h1 : n ≤ 9223372036854775807) : Lib.atoiAll (Lib.itoa n) = .ok n := by
 unfold Lib.itoa
 by_cases hn : n < 0
 · rw [if_pos hn, Lib.atoiAll_minus, mag_dec _ (by omega)]
   unfold Lib.signed
   dsimp only
   rw [if_neg (by omega)]
   congr 1
   omega
 · rw [if_neg hn]
   obtain ⟨c, r, hc⟩ := List.exists_cons_of_ne_nil (dec_ne n.toNat)
   have hd := dec_digit n.toNat c (by rw [hc]; simp)
   rw [hc, Lib.atoiAll_plain c r (by omega) (by omega), ← hc, mag_dec _ (by omega)]
   unfold Lib.signless
   dsimp only
   rw [if_neg (by omega)]
   congr 1
   omega
theorem itoa_inj {n m : Int} (h : Lib.itoa n = Lib.itoa m) (hn : -9223372036854775808 ≤ n ∧ n ≤ 9223372036854775807) (hm : -9223372036854775808 ≤ m ∧ m ≤ 9223372036854775807) : n = m := by
 have h1 := atoi_itoa n hn.1 hn.2
 rw [h, atoi_itoa m hm.1 hm.2] at h1
 injection h1 with h1
 exact h1.symm
theorem itoa_byte (n : Int) : ∀ c ∈ Lib.itoa n, c = 45 ∨ (48 ≤ c.toNat ∧ c.toNat ≤ 57) := by
 intro c hc
 unfold Lib.itoa at hc
 split at hc
 · rcases List.mem_cons.1 hc with rfl | hc
   · exact .inl rfl
   · exact .inr (dec_digit _ c hc)
 · exact .inr (dec_digit _ c hc)
theorem dec_len (u k : Nat) (h : u < 10 ^ (k + 1)) : (Lib.decDigits u).length ≤ k + 1 := by
 induction k generalizing u with
 | zero => rw [dec_small (by simpa using h)]; simp
 | succ k ih =>
  by_cases hu : u < 10
  · rw [dec_small hu]; simp
  · rw [dec_big hu, List.length_append, List.length_singleton]
    have := ih (u / 10) (by rw [Nat.pow_succ] at h; omega)
    omega
theorem itoa_len (n : Int) (h0 : -9223372036854775808 ≤ n) (h1 : n ≤ 9223372036854775807) : (Lib.itoa n).length ≤ 20 := by
 unfold Lib.itoa
 split
 · have := dec_len n.natAbs 18 (by have : (10 : Nat) ^ 19 = 10000000000000000000 := by decide
                                   omega)
   rw [List.length_cons]; omega
 · have := dec_len n.toNat 18 (by have : (10 : Nat) ^ 19 = 10000000000000000000 := by decide
                                  omega)
   omega
namespace Wr
/-- an int -/
def Ok (n : Int) : Prop := -9223372036854775808 ≤ n ∧ n ≤ 9223372036854775807
/-- a byte that no numeral has -/
def Sep (c : UInt8) : Prop := c ≠ 45 ∧ (c.toNat < 48 ∨ 57 < c.toNat)
def intE (n : Int) : Str := Lib.itoa n ++ [59]
def numE (n : Int) : Str := if n < 0 then [] else intE n
def textE (s : Str) : Str := Lib.itoa (s.length : Int) ++ [58] ++ s ++ [44]
def listE {α : Type} (one : α → Str) (l : List α) : Str := Lib.itoa (l.length : Int) ++ [91] ++ l.flatMap one ++ [93]
def numsE (l : List Int) : Str := listE intE l
/-! ### the reader -/
structure Rd where
 r : Str
 b : Bool
deriving DecidableEq
def failed : Rd := ⟨[], true⟩
def parse (p : Str) : Option Int := match Lib.atoiAll p with | .ok n => if Lib.itoa n = p then some n else none | _ => none
theorem parse_iff {p : Str} {n : Int} : parse p = some n ↔ Ok n ∧ Lib.itoa n = p := by
 unfold parse
 constructor
 · intro h
   rcases ha : Lib.atoiAll p with m | _ | _
   · rw [ha] at h
     simp only at h
     split at h
     · obtain rfl := Option.some.inj h
       exact ⟨Lib.atoiAll_bounds ha, by assumption⟩
     · cases h
   · rw [ha] at h; cases h
   · rw [ha] at h; cases h
 · rintro ⟨h1, rfl⟩
   rw [atoi_itoa n h1.1 h1.2]
   simp
def head (e : UInt8) (r : Str) : Str := r.takeWhile (· != e)
def number (s : Rd) (e : UInt8) (least : Int) : Int × Rd :=
 match parse (head e s.r) with
 | some n => if (head e s.r).length < s.r.length ∧ least ≤ n then (n, ⟨s.r.drop ((head e s.r).length + 1), s.b⟩) else (0, failed)
 | none => (0, failed)
def close (s : Rd) (c : UInt8) : Rd := match s.r with | x :: r => if x = c then ⟨r, s.b⟩ else failed | [] => failed
def num (s : Rd) : Int × Rd := number s 59 0
def int (s : Rd) : Int × Rd := number s 59 (-9223372036854775808)
def text (s : Rd) : Str × Rd :=
 if ((number s 58 0).2.r.length : Int) < (number s 58 0).1 then ([], failed)
 else if (close ⟨(number s 58 0).2.r.drop (number s 58 0).1.toNat, (number s 58 0).2.b⟩ 44).b = true then ([], close ⟨(number s 58 0).2.r.drop (number s 58 0).1.toNat, (number s 58 0).2.b⟩ 44)
 else ((number s 58 0).2.r.take (number s 58 0).1.toNat, close ⟨(number s 58 0).2.r.drop (number s 58 0).1.toNat, (number s 58 0).2.b⟩ 44)
def items {α : Type} (one : Rd → α × Rd) : Nat → Rd → List α × Rd
 | 0, s => ([], s)
 | n + 1, s => if s.b = true then ([], s) else ((one s).1 :: (items one n (one s).2).1, (items one n (one s).2).2)
def list {α : Type} (one : Rd → α × Rd) (s : Rd) : List α × Rd :=
 if (close (items one (number s 91 0).1.toNat (number s 91 0).2).2 93).b = true then ([], close (items one (number s 91 0).1.toNat (number s 91 0).2).2 93)
 else ((items one (number s 91 0).1.toNat (number s 91 0).2).1, close (items one (number s 91 0).1.toNat (number s 91 0).2).2 93)
def nums (s : Rd) : List Int × Rd := list int s
def texts (s : Rd) : List Str × Rd := list text s
def done (s : Rd) : Bool := !s.b && decide (s.r = [])
/-! ### what reads do to a reader -/
theorem head_append {e : UInt8} {p r : Str} (h : ∀ c ∈ p, c ≠ e) : head e (p ++ e :: r) = p := by
 induction p with
 | nil => simp [head]
 | cons x p ih =>
  have hx : (x != e) = true := by simpa using h x (by simp)
  show List.takeWhile _ (x :: (p ++ e :: r)) = _
  rw [List.takeWhile_cons, hx, if_pos rfl]
  exact congrArg (x :: ·) (ih fun c hc => h c (by simp [hc]))
theorem head_sep {e : UInt8} {n : Int} {r : Str} (he : Sep e) : head e (Lib.itoa n ++ e :: r) = Lib.itoa n := by
 refine head_append fun c hc h => ?_
 subst h
 rcases itoa_byte n c hc with h | h
 · exact he.1 h
 · have := he.2; omega
theorem head_split {e : UInt8} {r : Str} (h : (head e r).length < r.length) : r = head e r ++ e :: r.drop ((head e r).length + 1) := by
 induction r with
 | nil => simp at h
 | cons x r ih =>
  unfold head at h ⊢
  rw [List.takeWhile_cons] at h ⊢
  by_cases hx : (x != e) = true
  · rw [if_pos hx] at h ⊢
    simp only [List.length_cons, List.cons_append, List.drop_succ_cons] at h ⊢
    have := ih (by simpa [head] using h)
    exact congrArg (x :: ·) this
  · rw [if_neg hx]
    have : x = e := by simpa using hx
    simp [this]
theorem number_ok {n : Int} {e : UInt8} {least : Int} {r : Str} {b : Bool} (hn : Ok n) (he : Sep e) (hl : least ≤ n) : number ⟨Lib.itoa n ++ e :: r, b⟩ e least = (n, ⟨r, b⟩) := by
 unfold number
 have hh := head_sep (n := n) (r := r) he
 have hp : parse (Lib.itoa n) = some n := parse_iff.2 ⟨hn, rfl⟩
 simp only [hh, hp]
 rw [if_pos ⟨by simp, hl⟩]
 congr 2
 rw [← List.drop_drop, List.drop_left]
 rfl
theorem number_cases (s : Rd) (e : UInt8) (least : Int) : (number s e least = (0, failed) ∧ ∀ n, ¬ (Ok n ∧ least ≤ n ∧ head e s.r = Lib.itoa n ∧ (head e s.r).length < s.r.length)) ∨
 ∃ n, Ok n ∧ least ≤ n ∧ (head e s.r).length < s.r.length ∧ head e s.r = Lib.itoa n ∧ number s e least = (n, ⟨s.r.drop ((head e s.r).length + 1), s.b⟩) ∧ s.r = Lib.itoa n ++ e :: s.r.drop ((head e s.r).length + 1) := by
 unfold number
 cases hp : parse (head e s.r) with
 | none =>
  refine .inl ⟨rfl, fun n hn => ?_⟩
  rw [parse_iff.2 ⟨hn.1, hn.2.2.1.symm⟩] at hp; cases hp
 | some n =>
  obtain ⟨h1, h2⟩ := parse_iff.1 hp
  by_cases hc : (head e s.r).length < s.r.length ∧ least ≤ n
  · refine .inr ⟨n, h1, hc.2, hc.1, h2.symm, by simp only; rw [if_pos hc], ?_⟩
    have := head_split hc.1
    rw [← h2] at this ⊢
    exact this
  · refine .inl ⟨by simp only; rw [if_neg hc], fun m hm => hc ⟨hm.2.2.2, ?_⟩⟩
    have : n = m := itoa_inj (h2.trans hm.2.2.1) h1 hm.1
    rw [this]; exact hm.2.1
theorem number_len (s : Rd) (e : UInt8) (least : Int) : (number s e least).2.r.length ≤ s.r.length ∧ ((number s e least).2.b = false → (number s e least).2.r.length + 1 ≤ s.r.length) := by
 rcases number_cases s e least with ⟨h, -⟩ | ⟨n, _, _, h1, _, h, _⟩
 · rw [h]; exact ⟨Nat.zero_le _, fun h => by cases h⟩
 · rw [h]
   simp only [List.length_drop]
   omega
theorem number_least (s : Rd) (e : UInt8) (least : Int) (hl : least ≤ 0) : least ≤ (number s e least).1 := by
 rcases number_cases s e least with ⟨h, -⟩ | ⟨n, h0, h3, h1, _, h2, _⟩
 · rw [h]; exact hl
 · rw [h2]; exact h3
end Wr
end Go.Proofs.YtdcbjedkddgfkaaGreatDoor
