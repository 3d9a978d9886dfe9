/-
  The low bits of a number. No condition.
-/
import Derived.Laws.BitsLemmas
namespace Go.Proofs.YtlnadcihnfppaaaGreatDoor
set_option linter.unusedVariables false
set_option linter.unusedSimpArgs false
set_option linter.unusedSectionVars false
theorem bits_low (x : Int) (i : Nat) (hi : i ≤ 62) : bits .and .i64 x (2 ^ i - 1) = x % 2 ^ i := by
  have hpos : 0 < 2 ^ i := Nat.two_pow_pos i
  have hle : 2 ^ i ≤ 2 ^ 62 := Nat.pow_le_pow_right (by decide) hi
  have hc : ((2 : Int) ^ i - 1) = ((2 ^ i - 1 : Nat) : Int) := by
    rw [Int.natCast_sub hpos]; simp
  have hd : ((2 : Int) ^ i) ∣ 2 ^ 64 := ⟨2 ^ (64 - i), by rw [← Int.pow_add]; congr 1; omega⟩
  rw [hc]
  simp only [bits, BitVec.toNat_and, BitVec.ofInt_natCast, BitVec.toNat_ofNat, BitVec.toNat_ofInt]
  rw [show IntKind.i64.bits = 64 from rfl]
  have hm : (2 ^ i - 1) % 2 ^ 64 = 2 ^ i - 1 := Nat.mod_eq_of_lt (by omega)
  rw [hm, Nat.and_two_pow_sub_one_eq_mod]
  have h0 : 0 ≤ x % ((2 ^ 64 : Nat) : Int) := Int.emod_nonneg _ (by decide)
  have e : (((x % ((2 ^ 64 : Nat) : Int)).toNat % 2 ^ i : Nat) : Int) = x % 2 ^ i := by
    rw [Int.natCast_emod, Int.toNat_of_nonneg h0]
    have : (((2 : Nat) ^ i : Nat) : Int) = 2 ^ i := by simp
    rw [this]
    exact Int.emod_emod_of_dvd _ hd
  rw [e]
  have h1 : 0 ≤ x % 2 ^ i := Int.emod_nonneg _ (by have : (0 : Int) < 2 ^ i := by exact_mod_cast hpos
                                                   omega)
  have h2 : x % 2 ^ i < 2 ^ i := Int.emod_lt_of_pos _ (by exact_mod_cast hpos)
  have hle2 : 2 ^ i ≤ 4611686018427387904 := hle
  have h4 : ((2 : Int) ^ i) = ((2 ^ i : Nat) : Int) := by simp
  have h3 : (2 : Int) ^ i ≤ 4611686018427387904 := by rw [h4]; omega
  rw [IntKind.wrap_i64]
  omega
theorem bits_1 (x : Int) : bits .and .i64 x 1 = x % 2 := bits_low x 1 (by decide)
theorem bits_7 (x : Int) : bits .and .i64 x 7 = x % 8 := bits_low x 3 (by decide)
theorem bits_3 (x : Int) : bits .and .i64 x 3 = x % 4 := bits_low x 2 (by decide)

end Go.Proofs.YtlnadcihnfppaaaGreatDoor
