/- Bits of whole numbers without a sign. No condition. -/
import Derived.Test.YtpbmapaafnnoiaaGreatDoorPBase
namespace Go.Proofs.YtpbmapaafnnoiaaGreatDoor.Ev
open Go Go.RowKit
set_option linter.unusedSimpArgs false
set_option linter.unusedVariables false
theorem wu (n : Int) (h0 : 0 ≤ n) (h1 : n < 18446744073709551616) : IntKind.wrap .u64 n = n := by rw [IntKind.wrap_u64]; omega
theorem wu_mod (n : Int) : IntKind.wrap .u64 n = n % 18446744073709551616 := by rw [IntKind.wrap_u64]
theorem fdiv_pos (a b : Int) (h : 0 ≤ b) : Int.fdiv a b = a / b := Int.fdiv_eq_ediv_of_nonneg a h
theorem tmod_nn (a b : Int) (h : 0 ≤ a) : Int.tmod a b = a % b := Int.tmod_eq_emod_of_nonneg h
theorem tdiv_nn (a b : Int) (h : 0 ≤ a) : Int.tdiv a b = a / b := Int.tdiv_eq_ediv_of_nonneg h
theorem ofInt_toNat (n : Nat) (h : n < 18446744073709551616) : (BitVec.ofInt 64 (n : Int)).toNat = n := by
  rw [BitVec.toNat_ofInt]
  omega
theorem band_nat (x y : Nat) (hx : x < 18446744073709551616) (hy : y < 18446744073709551616) : band .u64 (x : Int) (y : Int) = ((x &&& y : Nat) : Int) := by
  unfold band
  show IntKind.wrap .u64 (((BitVec.ofInt 64 (x : Int) &&& BitVec.ofInt 64 (y : Int)).toNat : Nat) : Int) = _
  rw [BitVec.toNat_and, ofInt_toNat x hx, ofInt_toNat y hy]
  have : x &&& y ≤ x := Nat.and_le_left
  exact wu _ (by omega) (by omega)
theorem bor_nat (x y : Nat) (hx : x < 18446744073709551616) (hy : y < 18446744073709551616) : bor .u64 (x : Int) (y : Int) = ((x ||| y : Nat) : Int) := by
  unfold bor
  show IntKind.wrap .u64 (((BitVec.ofInt 64 (x : Int) ||| BitVec.ofInt 64 (y : Int)).toNat : Nat) : Int) = _
  rw [BitVec.toNat_or, ofInt_toNat x hx, ofInt_toNat y hy]
  have : x ||| y < 2 ^ 64 := Nat.or_lt_two_pow hx hy
  exact wu _ (by omega) (by omega)
/-- The lowest bits. -/
theorem band_mask (x : Int) (m : Nat) (hm : m ≤ 63) (h0 : 0 ≤ x) (h1 : x < 18446744073709551616) : band .u64 x (((2 ^ m - 1 : Nat)) : Int) = x % ((2 ^ m : Nat) : Int) := by
  obtain ⟨n, rfl⟩ := Int.eq_ofNat_of_zero_le h0
  have hp : 2 ^ m ≤ 2 ^ 63 := Nat.pow_le_pow_right (by decide) hm
  rw [band_nat n (2 ^ m - 1) (by omega) (by omega), Nat.and_two_pow_sub_one_eq_mod]
  exact Int.natCast_emod n (2 ^ m)
theorem mask32 (x : Int) (h0 : 0 ≤ x) (h1 : x < 18446744073709551616) : band .u64 x 4294967295 = x % 4294967296 := by
  have := band_mask x 32 (by decide) h0 h1
  exact this
theorem mask1 (x : Int) (h0 : 0 ≤ x) (h1 : x < 18446744073709551616) : band .u64 x 1 = x % 2 := by
  have := band_mask x 1 (by decide) h0 h1
  exact this
/-- High bits and low bits together. -/
theorem bor_add (a : Int) (i : Nat) (b : Int) (ha : 0 ≤ a) (hb : 0 ≤ b) (hb1 : b < ((2 ^ i : Nat) : Int)) (h : ((2 ^ i : Nat) : Int) * a + b < 18446744073709551616) : bor .u64 (((2 ^ i : Nat) : Int) * a) b = ((2 ^ i : Nat) : Int) * a + b := by
  obtain ⟨x, rfl⟩ := Int.eq_ofNat_of_zero_le ha
  obtain ⟨y, rfl⟩ := Int.eq_ofNat_of_zero_le hb
  have e : ((2 ^ i : Nat) : Int) * ((x : Nat) : Int) = ((2 ^ i * x : Nat) : Int) := (Int.natCast_mul _ _).symm
  have hy : y < 2 ^ i := Int.ofNat_lt.1 hb1
  rw [e] at h ⊢
  rw [bor_nat _ _ (by omega) (by omega), ← Nat.two_pow_add_eq_or_of_lt hy]
  omega
theorem bor_comm (x y : Int) : bor .u64 x y = bor .u64 y x := by
  unfold bor
  rw [BitVec.or_comm]
end Go.Proofs.YtpbmapaafnnoiaaGreatDoor.Ev
