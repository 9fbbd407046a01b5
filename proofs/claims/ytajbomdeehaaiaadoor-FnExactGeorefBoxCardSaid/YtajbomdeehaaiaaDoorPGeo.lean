/- The letters and the texts of references, by both. No condition. -/
import Derived.Test.YtajbomdeehaaiaaDoorPDec
namespace Go.Proofs.YtajbomdeehaaiaaDoor.Ev
open Go Go.RowKit
set_option linter.unusedSimpArgs false
set_option linter.unusedVariables false
theorem in_some (k : Nat) (a b c : Int) : spec_l00In k a b c = some [.b (leI b a && leI a c)] := by
  unfold spec_l00In; cases leI b a <;> rfl
theorem within_some (k : Nat) (a b c : Int) : impl_within k a b c = some [.b (leI b a && leI a c)] := in_some k a b c
def L24 : ByteArray := ⟨#[65, 66, 67, 68, 69, 70, 71, 72, 74, 75, 76, 77, 78, 80, 81, 82, 83, 84, 85, 86, 87, 88, 89, 90]⟩
theorem L24_size : (L24.size : Int) = 24 := rfl
/-- Two letters. -/
def pair (x y : Int) : ByteArray := bytesD [[.i (bt L24 x)], [.i (bt L24 y)]]
theorem pair_size (x y : Int) : (pair x y).size = 2 := rfl
theorem letters_some (k : Nat) (x y : Int) (h : 0 ≤ x ∧ x < 24) (g : 0 ≤ y ∧ y < 24) : impl_georefText_1 k x y = some [.s (pair x y)] := by
  show (bif inR x (L24.size : Int) then bif inR y (L24.size : Int) then some [D.s (pair x y)] else none else none) = _
  rw [L24_size, bif_t (inR_t h.1 h.2), bif_t (inR_t g.1 g.2)]
theorem append_none (a : ByteArray) : a ++ (⟨#[]⟩ : ByteArray) = a := by
  apply ByteArray.ext
  rw [ByteArray.data_append]
  simp
theorem parts (x p : Int) (hp : 1 ≤ p ∧ p ≤ 600) (h0 : 0 ≤ x) (h1 : x < 360 * p) : IntKind.wrap .i64 (Int.tdiv x p) = x / p ∧ 0 ≤ x / p ∧ x / p < 360 ∧ Int.tmod (x / p) 15 = x / p % 15 ∧ 0 ≤ x / p % 15 ∧ x / p % 15 < 15 ∧ IntKind.wrap .i64 (Int.tdiv (x / p) 15) = x / p / 15 ∧ 0 ≤ x / p / 15 ∧ x / p / 15 < 24 ∧ Int.tmod x p = x % p ∧ 0 ≤ x % p ∧ x % p < p := by
  have a0 : 0 ≤ x / p := Int.ediv_nonneg h0 (by omega)
  have a1 : x / p < 360 := Int.ediv_lt_of_lt_mul (by omega) h1
  have b0 := Int.emod_nonneg x (show p ≠ 0 by omega)
  have b1 := Int.emod_lt_of_pos x (show 0 < p by omega)
  refine ⟨?_, a0, a1, tmod_pos _ _ a0, by omega, by omega, ?_, by omega, by omega, tmod_pos _ _ h0, b0, b1⟩
  · rw [tdiv_pos _ _ h0, wr _ (by omega) (by omega)]
  · rw [tdiv_pos _ _ a0, wr _ (by omega) (by omega)]
theorem letters_eq (k : Nat) : spec_l26Letters k = some [.s L24] := rfl
theorem spec_high (i k lvl p : Int) (d : Nat) (K : Nat) (hK : 20 ≤ K) (h2 : 2 < lvl) (e0 : inR (IntKind.wrap .i64 (lvl - 3)) 2 = true) (er : ri [[.i 60], [.i 600]] (IntKind.wrap .i64 (lvl - 3)) 0 = p) (ed : IntKind.wrap .i64 (lvl - 1) = d) (hd : 1 ≤ d ∧ d ≤ 3) (hp : 1 ≤ p ∧ p ≤ 600) (hpd : p.toNat ≤ 10 ^ d)
    (i0 : 0 ≤ i) (i1 : i < 360 * p) (k0 : 0 ≤ k) (k1 : k < 360 * p) :
    spec_l26Georef K i k lvl = some [.s (pair (i / p / 15) (k / p / 15) ++ (pair (i / p % 15) (k / p % 15) ++ (bs (dig d (i % p).toNat) ++ bs (dig d (k % p).toNat))))] := by
  obtain ⟨a1, a2, a3, a4, a5, a6, a7, a8, a9, a10, a11, a12⟩ := parts i p hp i0 i1
  obtain ⟨b1, b2, b3, b4, b5, b6, b7, b8, b9, b10, b11, b12⟩ := parts k p hp k0 k1
  have s1 : spec_l26Digits K (i % p) d = some [.s (bs (dig d (i % p).toNat))] := by
    have := specPad_some (i % p).toNat d hd.1 (by omega) (by omega) K hK
    rwa [Int.toNat_of_nonneg a11] at this
  have s2 : spec_l26Digits K (k % p) d = some [.s (bs (dig d (k % p).toNat))] := by
    have := specPad_some (k % p).toNat d hd.1 (by omega) (by omega) K hK
    rwa [Int.toNat_of_nonneg b11] at this
  have hl := dig_length d
  unfold spec_l26Georef
  rw [bif_t (ltI_t h2), show ((List.length (α := List D) [[.i 60], [.i 600]] : Nat) : Int) = 2 from rfl, bif_t e0, er]
  dsimp only
  rw [bif_f (eqI_f (by omega)), ed, a10, s1, Option.bind_some, bif_f (eqI_f (by omega)), b10, s2, Option.bind_some]
  simp only [gs0]
  rw [bif_t (leN_t (by rw [bs_size, bs_size, hl, hl]; omega)), bif_f (eqI_f (by omega)), bif_f (eqI_f (by omega)), letters_eq, Option.bind_some]
  simp only [gs0, L24_size]
  rw [a1, b1, a4, b4, a7, b7, bif_t (ltI_t (by omega)), bif_t (inR_t a5 (by omega)), bif_t (inR_t b5 (by omega)), show bytesD [[.i (bt L24 (i / p % 15))], [.i (bt L24 (k / p % 15))]] = pair (i / p % 15) (k / p % 15) from rfl,
    bif_t (leN_t (by rw [pair_size, ByteArray.size_append, bs_size, bs_size, hl, hl]; omega)), bif_t (inR_t a8 a9), bif_t (inR_t b8 b9), show bytesD [[.i (bt L24 (i / p / 15))], [.i (bt L24 (k / p / 15))]] = pair (i / p / 15) (k / p / 15) from rfl,
    bif_t (leN_t (by rw [pair_size, ByteArray.size_append, pair_size, ByteArray.size_append, bs_size, bs_size, hl, hl]; omega))]
theorem impl_high (K : Nat) (i k lvl p m n : Int) (d : Nat) (eg : impl_georefParts K lvl = some [.i p, .i (d : Int)]) (hd : 1 ≤ d ∧ d ≤ 3) (hp : 1 ≤ p ∧ p ≤ 600) (hpd : p.toNat ≤ 10 ^ d)
    (i0 : 0 ≤ i) (i1 : i < 360 * p) (k0 : 0 ≤ k) (k1 : k < 360 * p) :
    impl_georefText K i k m n lvl = some [.s (pair (i / p / 15) (k / p / 15) ++ (pair (i / p % 15) (k / p % 15) ++ (bs (dig d (i % p).toNat) ++ bs (dig d (k % p).toNat))))] := by
  obtain ⟨a1, a2, a3, a4, a5, a6, a7, a8, a9, a10, a11, a12⟩ := parts i p hp i0 i1
  obtain ⟨b1, b2, b3, b4, b5, b6, b7, b8, b9, b10, b11, b12⟩ := parts k p hp k0 k1
  have s1 : impl_padded K (i % p) d = some [.s (bs (dig d (i % p).toNat))] := by
    have := implPad_some K (i % p).toNat d hd.1 (by omega) (by omega)
    rwa [Int.toNat_of_nonneg a11] at this
  have s2 : impl_padded K (k % p) d = some [.s (bs (dig d (k % p).toNat))] := by
    have := implPad_some K (k % p).toNat d hd.1 (by omega) (by omega)
    rwa [Int.toNat_of_nonneg b11] at this
  have hl := dig_length d
  unfold impl_georefText
  rw [eg, Option.bind_some]
  simp only [gi0, giS]
  rw [bif_f (beq_f (by omega)), bif_f (eqI_f (by omega)), bif_f (eqI_f (by omega)), a1, b1, a4, b4, a7, b7, a10, b10, letters_some K _ _ ⟨a8, a9⟩ ⟨b8, b9⟩, Option.bind_some, letters_some K _ _ ⟨a5, by omega⟩ ⟨b5, by omega⟩, Option.bind_some]
  simp only [gs0]
  rw [bif_t (leN_t (by rw [pair_size, pair_size]; omega)), bif_f (beq_f (by omega)), bif_f (eqI_f (by omega)), s1, Option.bind_some]
  simp only [gs0]
  rw [bif_t (leN_t (by rw [ByteArray.size_append, pair_size, pair_size, bs_size, hl]; omega)), bif_f (eqI_f (by omega)), s2, Option.bind_some]
  simp only [gs0]
  rw [bif_t (leN_t (by rw [ByteArray.size_append, ByteArray.size_append, pair_size, pair_size, bs_size, bs_size, hl, hl]; omega)), ByteArray.append_assoc, ByteArray.append_assoc]
/-- The parts of a level: columns, rows. -/
def mOf (lvl : Int) : Int := if lvl = 1 then 24 else if lvl = 2 then 360 else if lvl = 3 then 21600 else 216000
theorem grid_some (K : Nat) (lvl : Int) (h : 1 ≤ lvl ∧ lvl ≤ 4) : spec_l26Grid K lvl = some [.i (mOf lvl), .i (mOf lvl / 2)] := by
  have hc : lvl = 1 ∨ lvl = 2 ∨ lvl = 3 ∨ lvl = 4 := by omega
  rcases hc with rfl | rfl | rfl | rfl <;> rfl
theorem text_same (K : Nat) (hK : 20 ≤ K) (i k lvl m n : Int) (hl : 1 ≤ lvl ∧ lvl ≤ 4) (i0 : 0 ≤ i) (i1 : i < mOf lvl) (k0 : 0 ≤ k) (k1 : k < mOf lvl / 2) : ∃ t, spec_l26Georef K i k lvl = some [.s t] ∧ impl_georefText K i k m n lvl = some [.s t] := by
  have hc : lvl = 1 ∨ lvl = 2 ∨ lvl = 3 ∨ lvl = 4 := by omega
  rcases hc with rfl | rfl | rfl | rfl
  · have e : mOf 1 = 24 := rfl
    rw [e] at i1 k1
    refine ⟨pair i k, ?_, ?_⟩
    · unfold spec_l26Georef
      rw [bif_f (ltI_f (by omega)), letters_eq, Option.bind_some]
      simp only [gs0, L24_size]
      rw [bif_f (ltI_f (by omega)), bif_t (inR_t i0 i1), bif_t (inR_t k0 (by omega)), append_none, bif_t (leN_t (by show (2 + 0 : Nat) ≤ 140737488355328; decide))]
      rfl
    · unfold impl_georefText
      rw [show impl_georefParts K 1 = some [.i 0, .i 0] from rfl, Option.bind_some]
      simp only [gi0]
      rw [bif_t (beq_t rfl), letters_some K _ _ ⟨i0, i1⟩ ⟨k0, by omega⟩]
      rfl
  · have e : mOf 2 = 360 := rfl
    rw [e] at i1 k1
    obtain ⟨a1, a2, a3, a4, a5, a6, a7, a8, a9, a10, a11, a12⟩ := parts i 1 ⟨by omega, by omega⟩ i0 (by omega)
    obtain ⟨b1, b2, b3, b4, b5, b6, b7, b8, b9, b10, b11, b12⟩ := parts k 1 ⟨by omega, by omega⟩ k0 (by omega)
    rw [Int.ediv_one] at *
    refine ⟨pair (i / 15) (k / 15) ++ pair (i % 15) (k % 15), ?_, ?_⟩
    · unfold spec_l26Georef
      rw [bif_f (ltI_f (by omega)), letters_eq, Option.bind_some]
      simp only [gs0, L24_size]
      rw [a4, b4, a7, b7, bif_t (ltI_t (by omega)), bif_t (inR_t a5 (by omega)), bif_t (inR_t b5 (by omega)), append_none, bif_t (leN_t (by show (2 + 0 : Nat) ≤ 140737488355328; decide)), bif_t (inR_t a8 a9), bif_t (inR_t b8 b9), bif_t (leN_t (by show (2 + 2 : Nat) ≤ 140737488355328; decide))]
      rfl
    · unfold impl_georefText
      rw [show impl_georefParts K 2 = some [.i 1, .i 0] from rfl, Option.bind_some]
      simp only [gi0, giS]
      rw [bif_f (beq_f (by omega)), bif_f (eqI_f (by omega)), bif_f (eqI_f (by omega)), a1, b1, a4, b4, a7, b7, letters_some K _ _ ⟨a8, a9⟩ ⟨b8, b9⟩, Option.bind_some, letters_some K _ _ ⟨a5, by omega⟩ ⟨b5, by omega⟩, Option.bind_some]
      simp only [gs0]
      rw [bif_t (leN_t (by rw [pair_size, pair_size]; omega)), bif_t (beq_t rfl)]
  · have e : mOf 3 = 21600 := rfl
    rw [e] at i1 k1
    exact ⟨_, spec_high i k 3 60 2 K hK (by omega) (by decide +kernel) (by decide +kernel) (by decide +kernel) ⟨by omega, by omega⟩ ⟨by omega, by omega⟩ (by decide) i0 (by omega) k0 (by omega), impl_high K i k 3 60 m n 2 rfl ⟨by omega, by omega⟩ ⟨by omega, by omega⟩ (by decide) i0 (by omega) k0 (by omega)⟩
  · have e : mOf 4 = 216000 := rfl
    rw [e] at i1 k1
    exact ⟨_, spec_high i k 4 600 3 K hK (by omega) (by decide +kernel) (by decide +kernel) (by decide +kernel) ⟨by omega, by omega⟩ ⟨by omega, by omega⟩ (by decide) i0 (by omega) k0 (by omega), impl_high K i k 4 600 m n 3 rfl ⟨by omega, by omega⟩ ⟨by omega, by omega⟩ (by decide) i0 (by omega) k0 (by omega)⟩
end Go.Proofs.YtajbomdeehaaiaaDoor.Ev
