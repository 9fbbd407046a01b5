/- The letters and the texts of references, by both. No condition. -/
import Derived.Test.YtpanhndkcnojpaaDoorPPad
import Derived.Test.YtpanhndkcnojpaaDoorPIn
namespace Go.Proofs.YtpanhndkcnojpaaDoor.Ev
open Go Go.RowKit
set_option linter.unusedSimpArgs false
set_option linter.unusedVariables false
def L24 : ByteArray := ⟨#[65, 66, 67, 68, 69, 70, 71, 72, 74, 75, 76, 77, 78, 80, 81, 82, 83, 84, 85, 86, 87, 88, 89, 90]⟩
theorem L24_size : (L24.size : Int) = 24 := rfl
/-- Two letters. -/
def pair (x y : Int) : ByteArray := bytesD [[.i (bt L24 x)], [.i (bt L24 y)]]
theorem pair_size (x y : Int) : (pair x y).size = 2 := rfl
theorem letters_some (k : Nat) (x y : Int) (h : 0 ≤ x ∧ x < 24) (g : 0 ≤ y ∧ y < 24) : impl_georefText_1 k x y = some [.s (pair x y)] := by
  show (bif inR x (L24.size : Int) then bif inR y (L24.size : Int) then some [D.s (pair x y)] else none else none) = _
  rw [L24_size, bif_t (inR_t h.1 h.2), bif_t (inR_t g.1 g.2)]
theorem append_none (a : ByteArray) : a ++ (⟨#[]⟩ : ByteArray) = a := by
  apply ByteArray.ext
  rw [ByteArray.data_append]
  simp
theorem parts (x p : Int) (hp : 1 ≤ p ∧ p ≤ 600) (h0 : 0 ≤ x) (h1 : x < 360 * p) : IntKind.wrap .i64 (Int.tdiv x p) = x / p ∧ 0 ≤ x / p ∧ x / p < 360 ∧ Int.tmod (x / p) 15 = x / p % 15 ∧ 0 ≤ x / p % 15 ∧ x / p % 15 < 15 ∧ IntKind.wrap .i64 (Int.tdiv (x / p) 15) = x / p / 15 ∧ 0 ≤ x / p / 15 ∧ x / p / 15 < 24 ∧ Int.tmod x p = x % p ∧ 0 ≤ x % p ∧ x % p < p := by
  have a0 : 0 ≤ x / p := Int.ediv_nonneg h0 (by omega)
  have a1 : x / p < 360 := Int.ediv_lt_of_lt_mul (by omega) h1
  have b0 := Int.emod_nonneg x (show p ≠ 0 by omega)
  have b1 := Int.emod_lt_of_pos x (show 0 < p by omega)
  refine ⟨?_, a0, a1, tmod_pos _ _ a0, by omega, by omega, ?_, by omega, by omega, tmod_pos _ _ h0, b0, b1⟩
  · rw [tdiv_pos _ _ h0, wr _ (by omega) (by omega)]
  · rw [tdiv_pos _ _ a0, wr _ (by omega) (by omega)]
theorem impl_high (K : Nat) (i k lvl p m n : Int) (d : Nat) (eg : impl_georefParts K lvl = some [.i p, .i (d : Int)]) (hd : 1 ≤ d ∧ d ≤ 3) (hp : 1 ≤ p ∧ p ≤ 600) (hpd : p.toNat ≤ 10 ^ d)
    (i0 : 0 ≤ i) (i1 : i < 360 * p) (k0 : 0 ≤ k) (k1 : k < 360 * p) :
    impl_georefText K i k m n lvl = some [.s (pair (i / p / 15) (k / p / 15) ++ (pair (i / p % 15) (k / p % 15) ++ (bs (dig d (i % p).toNat) ++ bs (dig d (k % p).toNat))))] := by
  obtain ⟨a1, a2, a3, a4, a5, a6, a7, a8, a9, a10, a11, a12⟩ := parts i p hp i0 i1
  obtain ⟨b1, b2, b3, b4, b5, b6, b7, b8, b9, b10, b11, b12⟩ := parts k p hp k0 k1
  have s1 : impl_padded K (i % p) d = some [.s (bs (dig d (i % p).toNat))] := by
    have := implPad_some K (i % p).toNat d hd.1 (by omega) (by omega)
    rwa [Int.toNat_of_nonneg a11] at this
  have s2 : impl_padded K (k % p) d = some [.s (bs (dig d (k % p).toNat))] := by
    have := implPad_some K (k % p).toNat d hd.1 (by omega) (by omega)
    rwa [Int.toNat_of_nonneg b11] at this
  have hl := dig_length d
  unfold impl_georefText
  rw [eg, Option.bind_some]
  simp only [gi0, giS]
  rw [bif_f (beq_f (by omega)), bif_f (eqI_f (by omega)), bif_f (eqI_f (by omega)), a1, b1, a4, b4, a7, b7, a10, b10, letters_some K _ _ ⟨a8, a9⟩ ⟨b8, b9⟩, Option.bind_some, letters_some K _ _ ⟨a5, by omega⟩ ⟨b5, by omega⟩, Option.bind_some]
  simp only [gs0]
  rw [bif_t (leN_t (by rw [pair_size, pair_size]; omega)), bif_f (beq_f (by omega)), bif_f (eqI_f (by omega)), s1, Option.bind_some]
  simp only [gs0]
  rw [bif_t (leN_t (by rw [ByteArray.size_append, pair_size, pair_size, bs_size, hl]; omega)), bif_f (eqI_f (by omega)), s2, Option.bind_some]
  simp only [gs0]
  rw [bif_t (leN_t (by rw [ByteArray.size_append, ByteArray.size_append, pair_size, pair_size, bs_size, bs_size, hl, hl]; omega)), ByteArray.append_assoc, ByteArray.append_assoc]
/-- The parts of a level: columns, rows. -/
def mOf (lvl : Int) : Int := if lvl = 1 then 24 else if lvl = 2 then 360 else if lvl = 3 then 21600 else 216000
end Go.Proofs.YtpanhndkcnojpaaDoor.Ev
