/- Division of two halves by a whole word, as the library does it. No condition. -/
import Derived.Test.YtpbmapaafnnoiaaGreatDoorPWideD
namespace Go.Proofs.YtpbmapaafnnoiaaGreatDoor.Ev
open Go Go.RowKit
set_option linter.unusedSimpArgs false
set_option linter.unusedVariables false
/-- A quotient's digit is at most another number. -/
theorem dig_le {Q q Y R U : Int} (h : Q * Y + R = U) (hR : R < Y) (hY : 0 < Y) (hq : q * Y ≤ U) : q ≤ Q := by
  apply Int.le_of_not_gt
  intro hlt
  have h1 : (Q + 1) * Y ≤ q * Y := Int.mul_le_mul_of_nonneg_right (by omega) (by omega)
  rw [Int.add_mul, Int.one_mul] at h1
  omega
theorem dig_lt {Q q Y R U : Int} (h : Q * Y + R = U) (hR : 0 ≤ R) (hY : 0 < Y) (hq : U < q * Y) : Q < q := by
  apply Int.lt_of_not_ge
  intro hle
  have h1 : q * Y ≤ Q * Y := Int.mul_le_mul_of_nonneg_right hle (by omega)
  omega
structure Knu (Y y1 y0 u v Q R : Int) : Prop where
  hY : Y = y1 * 4294967296 + y0
  h1 : 2147483648 ≤ y1 ∧ y1 < 4294967296
  h0 : 0 ≤ y0 ∧ y0 < 4294967296
  hu : 0 ≤ u ∧ u < Y
  hv : 0 ≤ v ∧ v < 4294967296
  hQ : Q * Y + R = u * 4294967296 + v
  hR : 0 ≤ R ∧ R < Y
theorem Knu.small {Y y1 y0 u v Q R : Int} (h : Knu Y y1 y0 u v Q R) : 0 ≤ Q ∧ Q < 4294967296 := by
  obtain ⟨hY, h1, h0, hu, hv, hQ, hR⟩ := h
  constructor
  · apply Int.le_of_not_gt
    intro hlt
    have h1 : Q * Y ≤ (-1) * Y := Int.mul_le_mul_of_nonneg_right (by omega) (by omega)
    omega
  · refine dig_lt hQ hR.1 (by omega) ?_
    rw [Int.mul_comm]; omega
/-- One look of the loop. -/
theorem Knu.look {Y y1 y0 u v Q R q r : Int} (h : Knu Y y1 y0 u v Q R) (hq : q * y1 + r = u) (hr : 0 ≤ r ∧ r < 4294967296) (hQq : Q ≤ q) (hqb : q ≤ 4294967297) :
    (4294967296 ≤ q → Q ≤ q - 1) ∧ (q < 4294967296 → (0 ≤ q * y0 ∧ q * y0 < 18446744073709551616) ∧ (4294967296 * r + v < q * y0 → Q ≤ q - 1) ∧ (q * y0 ≤ 4294967296 * r + v → q = Q)) ∧ (4294967296 ≤ r + y1 → Q ≤ q - 1 → q - 1 = Q) := by
  have hs := h.small
  obtain ⟨hY, h1, h0, hu, hv, hQ, hR⟩ := h
  have e : q * Y = (u - r) * 4294967296 + q * y0 := by rw [hY, ← hq]; grind
  refine ⟨fun _ => by omega, fun hlt => ?_, fun hb hle => ?_⟩
  · have hp := mul_bd (a := q) (b := y0) (A := 4294967295) (B := 4294967295) ⟨by omega, by omega⟩ ⟨h0.1, by omega⟩
    refine ⟨⟨hp.1, by omega⟩, fun hc => ?_, fun hc => ?_⟩
    · have := dig_lt (q := q) hQ hR.1 (by omega) (by rw [e, Int.sub_mul]; omega)
      omega
    · have := dig_le (q := q) hQ hR.2 (by omega) (by rw [e, Int.sub_mul]; omega)
      omega
  · have hp := mul_bd (a := q - 1) (b := y0) (A := 4294967296) (B := 4294967295) ⟨by omega, by omega⟩ ⟨h0.1, by omega⟩
    have e' : (q - 1) * Y = (u - (r + y1)) * 4294967296 + (q - 1) * y0 := by rw [hY, ← hq]; grind
    have := dig_le (q := q - 1) hQ hR.2 (by omega) (by rw [e', Int.sub_mul]; omega)
    omega
theorem div_l0 (k : Nat) {Y y1 y0 u v Q R : Int} (h : Knu Y y1 y0 u v Q R) (x1 x2 x3 x8 : Int) : ∀ (n f : Nat) (q r : Int), 4294967296 ≤ r + (n : Int) * y1 → q * y1 + r = u → 0 ≤ r → r < 4294967296 → Q ≤ q → q ≤ 4294967297 →
    ∃ z, bits_Div64_l0 k (n + f) Y x1 x2 x3 y1 y0 u v x8 q r = some [.i 0, .i Y, .i x1, .i x2, .i x3, .i y1, .i y0, .i u, .i v, .i x8, .i Q, .i z]
  | 0, f, q, r, hm, hq, h0, h1, hQq, hqb => by simp at hm; omega
  | n + 1, f, q, r, hm, hq, h0, h1, hQq, hqb => by
    obtain ⟨k1, k2, k3⟩ := h.look hq ⟨h0, h1⟩ hQq hqb
    have hs := h.small
    have hy := h.h1
    have hv := h.hv
    have hm' : 4294967296 ≤ (r + y1) + (n : Int) * y1 := by
      rw [show ((n + 1 : Nat) : Int) = (n : Int) + 1 by omega, Int.add_mul, Int.one_mul] at hm; omega
    have hq' : (q - 1) * y1 + (r + y1) = u := by rw [Int.sub_mul, Int.one_mul]; omega
    have ih := fun hlt hle => div_l0 k h x1 x2 x3 x8 n f (q - 1) (r + y1) hm' hq' (by omega) hlt hle (by omega)
    rw [show n + 1 + f = (n + f) + 1 by omega, bits_Div64_l0]
    have w1 : IntKind.wrap .u64 (r + y1) = r + y1 := wu _ (by omega) (by omega)
    have down : Q ≤ q - 1 → IntKind.wrap .u64 (q - 1) = q - 1 := fun hle => wu _ (by omega) (by omega)
    by_cases c1 : 4294967296 ≤ q
    · have hle := k1 c1
      rw [bif_t (leI_t c1), w1, down hle]
      by_cases c2 : 4294967296 ≤ r + y1
      · rw [leI_t c2]
        dsimp only
        rw [cond_true, k3 c2 hle]
        exact ⟨_, rfl⟩
      · rw [leI_f (by omega)]
        exact ih (by omega) hle
    · obtain ⟨⟨m0, m1⟩, m2, m3⟩ := k2 (by omega)
      rw [bif_f (leI_f (by omega)), wu (4294967296 * r) (by omega) (by omega), wu (4294967296 * r + v) (by omega) (by omega), wu (q * y0) m0 m1]
      dsimp only
      by_cases c3 : 4294967296 * r + v < q * y0
      · have hle := m2 c3
        rw [bif_t (ltI_t c3), w1, down hle]
        by_cases c2 : 4294967296 ≤ r + y1
        · rw [leI_t c2, cond_true, k3 c2 hle]
          exact ⟨_, rfl⟩
        · rw [leI_f (by omega)]
          exact ih (by omega) hle
      · rw [bif_f (ltI_f (by omega)), m3 (by omega)]
        exact ⟨_, rfl⟩
theorem div_l2 (k : Nat) {Y y1 y0 u v Q R : Int} (h : Knu Y y1 y0 u v Q R) (x1 x2 x3 x7 : Int) : ∀ (n f : Nat) (q r : Int), 4294967296 ≤ r + (n : Int) * y1 → q * y1 + r = u → 0 ≤ r → r < 4294967296 → Q ≤ q → q ≤ 4294967297 →
    ∃ z, bits_Div64_l2 k (n + f) Y x1 x2 x3 y1 y0 v x7 r u q = some [.i 0, .i Y, .i x1, .i x2, .i x3, .i y1, .i y0, .i v, .i x7, .i z, .i u, .i Q]
  | 0, f, q, r, hm, hq, h0, h1, hQq, hqb => by simp at hm; omega
  | n + 1, f, q, r, hm, hq, h0, h1, hQq, hqb => by
    obtain ⟨k1, k2, k3⟩ := h.look hq ⟨h0, h1⟩ hQq hqb
    have hs := h.small
    have hy := h.h1
    have hv := h.hv
    have hm' : 4294967296 ≤ (r + y1) + (n : Int) * y1 := by
      rw [show ((n + 1 : Nat) : Int) = (n : Int) + 1 by omega, Int.add_mul, Int.one_mul] at hm; omega
    have hq' : (q - 1) * y1 + (r + y1) = u := by rw [Int.sub_mul, Int.one_mul]; omega
    have ih := fun hlt hle => div_l2 k h x1 x2 x3 x7 n f (q - 1) (r + y1) hm' hq' (by omega) hlt hle (by omega)
    rw [show n + 1 + f = (n + f) + 1 by omega, bits_Div64_l2]
    have w1 : IntKind.wrap .u64 (r + y1) = r + y1 := wu _ (by omega) (by omega)
    have down : Q ≤ q - 1 → IntKind.wrap .u64 (q - 1) = q - 1 := fun hle => wu _ (by omega) (by omega)
    by_cases c1 : 4294967296 ≤ q
    · have hle := k1 c1
      rw [bif_t (leI_t c1), w1, down hle]
      by_cases c2 : 4294967296 ≤ r + y1
      · rw [leI_t c2]
        dsimp only
        rw [cond_true, k3 c2 hle]
        exact ⟨_, rfl⟩
      · rw [leI_f (by omega)]
        exact ih (by omega) hle
    · obtain ⟨⟨m0, m1⟩, m2, m3⟩ := k2 (by omega)
      rw [bif_f (leI_f (by omega)), wu (4294967296 * r) (by omega) (by omega), wu (4294967296 * r + v) (by omega) (by omega), wu (q * y0) m0 m1]
      dsimp only
      by_cases c3 : 4294967296 * r + v < q * y0
      · have hle := m2 c3
        rw [bif_t (ltI_t c3), w1, down hle]
        by_cases c2 : 4294967296 ≤ r + y1
        · rw [leI_t c2, cond_true, k3 c2 hle]
          exact ⟨_, rfl⟩
        · rw [leI_f (by omega)]
          exact ih (by omega) hle
      · rw [bif_f (ltI_f (by omega)), m3 (by omega)]
        exact ⟨_, rfl⟩
/-- The first guess. -/
theorem Knu.start {Y y1 y0 u v Q R : Int} (h : Knu Y y1 y0 u v Q R) : (u / y1) * y1 + (u - (u / y1) * y1) = u ∧ (0 ≤ u - (u / y1) * y1 ∧ u - (u / y1) * y1 < 4294967296) ∧ Q ≤ u / y1 ∧ u / y1 ≤ 4294967297 ∧ 0 ≤ u / y1 := by
  have hs := h.small
  obtain ⟨hY, h1, h0, hu, hv, hQ, hR⟩ := h
  have e1 := Int.mul_ediv_add_emod u y1
  have e2 := Int.emod_nonneg u (show y1 ≠ 0 by omega)
  have e3 := Int.emod_lt_of_pos u (show 0 < y1 by omega)
  have e4 : u / y1 * y1 = y1 * (u / y1) := Int.mul_comm _ _
  refine ⟨by omega, by omega, ?_, ?_, Int.ediv_nonneg hu.1 (by omega)⟩
  · refine dig_le (Q := u / y1) (q := Q) (Y := y1) (R := u % y1) (U := u) (by omega) e3 (by omega) ?_
    have : Q * Y = Q * y1 * 4294967296 + Q * y0 := by rw [hY]; grind
    have hq0 := Int.mul_nonneg hs.1 h0.1
    omega
  · have : u / y1 < 4294967298 := by
      refine dig_lt (Q := u / y1) (q := 4294967298) (Y := y1) (R := u % y1) (U := u) (by omega) e2 (by omega) ?_
      omega
    omega
/-- What is left, as the library reckons it. -/
theorem Knu.rest {Y y1 y0 u v Q R : Int} (h : Knu Y y1 y0 u v Q R) (hYM : Y < 18446744073709551616) : IntKind.wrap .u64 (IntKind.wrap .u64 (IntKind.wrap .u64 (u * 4294967296) + v) - IntKind.wrap .u64 (Q * Y)) = R := by
  obtain ⟨hY, h1, h0, hu, hv, hQ, hR⟩ := h
  rw [wu_mod, wu_mod, wu_mod, wu_mod]
  generalize Q * Y = P at *
  omega
end Go.Proofs.YtpbmapaafnnoiaaGreatDoor.Ev
