/- The library's division of two words by one, and the bits of a word. No condition. -/
import Derived.Test.YtpbmapaafnnoiaaGreatDoorPKnuth
namespace Go.Proofs.YtpbmapaafnnoiaaGreatDoor.Ev
open Go Go.RowKit
set_option linter.unusedSimpArgs false
set_option linter.unusedVariables false
theorem p16 : (2 : Int) ^ min (Int.toNat 16) 64 = 65536 := by decide
theorem p8 : (2 : Int) ^ min (Int.toNat 8) 64 = 256 := by decide
def Tb8 : ByteArray := ⟨#[0, 1, 2, 2, 3, 3, 3, 3, 4, 4, 4, 4, 4, 4, 4, 4, 5, 5, 5, 5, 5, 5, 5, 5, 5, 5, 5, 5, 5, 5, 5, 5, 6, 6, 6, 6, 6, 6, 6, 6, 6, 6, 6, 6, 6, 6, 6, 6, 6, 6, 6, 6, 6, 6, 6, 6, 6, 6, 6, 6, 6, 6, 6, 6, 7, 7, 7, 7, 7, 7, 7, 7, 7, 7, 7, 7, 7, 7, 7, 7, 7, 7, 7, 7, 7, 7, 7, 7, 7, 7, 7, 7, 7, 7, 7, 7, 7, 7, 7, 7, 7, 7, 7, 7, 7, 7, 7, 7, 7, 7, 7, 7, 7, 7, 7, 7, 7, 7, 7, 7, 7, 7, 7, 7, 7, 7, 7, 7, 8, 8, 8, 8, 8, 8, 8, 8, 8, 8, 8, 8, 8, 8, 8, 8, 8, 8, 8, 8, 8, 8, 8, 8, 8, 8, 8, 8, 8, 8, 8, 8, 8, 8, 8, 8, 8, 8, 8, 8, 8, 8, 8, 8, 8, 8, 8, 8, 8, 8, 8, 8, 8, 8, 8, 8, 8, 8, 8, 8, 8, 8, 8, 8, 8, 8, 8, 8, 8, 8, 8, 8, 8, 8, 8, 8, 8, 8, 8, 8, 8, 8, 8, 8, 8, 8, 8, 8, 8, 8, 8, 8, 8, 8, 8, 8, 8, 8, 8, 8, 8, 8, 8, 8, 8, 8, 8, 8, 8, 8, 8, 8, 8, 8, 8, 8, 8, 8, 8, 8, 8, 8, 8, 8, 8, 8, 8, 8]⟩
theorem T8_size : ((ByteArray.size Tb8 : Nat) : Int) = 256 := by kernel_rfl
/-- How many bits a byte has. -/
def Bits8 (l v : Int) : Prop := (l = 1 ∧ 1 ≤ v ∧ v < 2) ∨ (l = 2 ∧ 2 ≤ v ∧ v < 4) ∨ (l = 3 ∧ 4 ≤ v ∧ v < 8) ∨ (l = 4 ∧ 8 ≤ v ∧ v < 16) ∨ (l = 5 ∧ 16 ≤ v ∧ v < 32) ∨ (l = 6 ∧ 32 ≤ v ∧ v < 64) ∨ (l = 7 ∧ 64 ≤ v ∧ v < 128) ∨ (l = 8 ∧ 128 ≤ v ∧ v < 256)
instance (l v : Int) : Decidable (Bits8 l v) := by unfold Bits8; infer_instance
theorem t8_nat : ∀ v : Nat, v < 256 → 0 < v → Bits8 (bt Tb8 (v : Int)) (v : Int) := by decide +kernel
theorem t8_some (v : Int) (h : 1 ≤ v ∧ v < 256) : Bits8 (bt Tb8 v) v := by
  obtain ⟨n, rfl⟩ := Int.eq_ofNat_of_zero_le (show 0 ≤ v by omega)
  exact t8_nat n (by omega) (by omega)
/-- One end of the search for the highest bit. -/
def leaf (v c : Int) : Option (List D) := bif inR (IntKind.wrap .u8 v) ((ByteArray.size Tb8 : Nat) : Int) then some [.i (IntKind.wrap .i64 (c + IntKind.wrap .i64 (bt Tb8 (IntKind.wrap .u8 v))))] else none
theorem leaf_some (v c : Int) (h : 1 ≤ v ∧ v < 256) (hc : 0 ≤ c ∧ c ≤ 64) : ∃ l, leaf v c = some [.i (c + l)] ∧ Bits8 l v := by
  have hb := t8_some v h
  have hl : 1 ≤ bt Tb8 v ∧ bt Tb8 v ≤ 8 := by unfold Bits8 at hb; omega
  refine ⟨bt Tb8 v, ?_, hb⟩
  unfold leaf
  rw [show IntKind.wrap .u8 v = v by rw [IntKind.wrap_u8]; omega, T8_size, bif_t (inR_t (by omega) h.2), wr (bt Tb8 v) (by omega) (by omega), wr _ (by omega) (by omega)]
/-- A number of n bits. -/
def BitsN (n : Nat) (y : Int) : Prop := 1 ≤ n ∧ n ≤ 64 ∧ ((2 ^ (n - 1) : Nat) : Int) ≤ y ∧ y < ((2 ^ n : Nat) : Int)
theorem bitsN_of {l v y : Int} (t : Nat) (ht : t ≤ 56) (h : Bits8 l v) (h1 : v * ((2 ^ t : Nat) : Int) ≤ y) (h2 : y < (v + 1) * ((2 ^ t : Nat) : Int)) : ∃ n : Nat, (t : Int) + l = (n : Int) ∧ BitsN n y := by
  have hp : (0 : Int) < ((2 ^ t : Nat) : Int) := by have := Nat.one_le_two_pow (n := t); omega
  have key : ∀ m : Nat, 1 ≤ m → m ≤ 8 → ((2 ^ (m - 1) : Nat) : Int) ≤ v → v + 1 ≤ ((2 ^ m : Nat) : Int) → BitsN (t + m) y := by
    intro m m1 m8 a b
    refine ⟨by omega, by omega, ?_, ?_⟩
    · rw [show t + m - 1 = (m - 1) + t by omega, Nat.pow_add, Int.natCast_mul]
      exact Int.le_trans (Int.mul_le_mul_of_nonneg_right a (by omega)) h1
    · rw [Nat.add_comm, Nat.pow_add, Int.natCast_mul]
      exact Int.lt_of_lt_of_le h2 (Int.mul_le_mul_of_nonneg_right b (by omega))
  rcases h with ⟨rfl, a, b⟩ | ⟨rfl, a, b⟩ | ⟨rfl, a, b⟩ | ⟨rfl, a, b⟩ | ⟨rfl, a, b⟩ | ⟨rfl, a, b⟩ | ⟨rfl, a, b⟩ | ⟨rfl, a, b⟩
  · exact ⟨t + 1, rfl, key 1 (by decide) (by decide) (by simp; omega) (by simp; omega)⟩
  · exact ⟨t + 2, rfl, key 2 (by decide) (by decide) (by simp; omega) (by simp; omega)⟩
  · exact ⟨t + 3, rfl, key 3 (by decide) (by decide) (by simp; omega) (by simp; omega)⟩
  · exact ⟨t + 4, rfl, key 4 (by decide) (by decide) (by simp; omega) (by simp; omega)⟩
  · exact ⟨t + 5, rfl, key 5 (by decide) (by decide) (by simp; omega) (by simp; omega)⟩
  · exact ⟨t + 6, rfl, key 6 (by decide) (by decide) (by simp; omega) (by simp; omega)⟩
  · exact ⟨t + 7, rfl, key 7 (by decide) (by decide) (by simp; omega) (by simp; omega)⟩
  · exact ⟨t + 8, rfl, key 8 (by decide) (by decide) (by simp; omega) (by simp; omega)⟩
theorem len_eq (k : Nat) (y : Int) : bits_Len64 k y = (bif leI 4294967296 y then (bif leI 65536 (Int.fdiv y 4294967296) then (bif leI 256 (Int.fdiv (Int.fdiv y 4294967296) 65536) then leaf (Int.fdiv (Int.fdiv (Int.fdiv y 4294967296) 65536) 256) 56 else leaf (Int.fdiv (Int.fdiv y 4294967296) 65536) 48) else (bif leI 256 (Int.fdiv y 4294967296) then leaf (Int.fdiv (Int.fdiv y 4294967296) 256) 40 else leaf (Int.fdiv y 4294967296) 32)) else (bif leI 65536 y then (bif leI 256 (Int.fdiv y 65536) then leaf (Int.fdiv (Int.fdiv y 65536) 256) 24 else leaf (Int.fdiv y 65536) 16) else (bif leI 256 y then leaf (Int.fdiv y 256) 8 else leaf y 0))) := by kernel_rfl
theorem len_some (k : Nat) (y : Int) (h : 0 < y ∧ y < 18446744073709551616) : ∃ n : Nat, bits_Len64 k y = some [.i (n : Int)] ∧ BitsN n y := by
  have fin : ∀ (v : Int) (t : Nat), t ≤ 56 → 1 ≤ v → v < 256 → v * ((2 ^ t : Nat) : Int) ≤ y → y < (v + 1) * ((2 ^ t : Nat) : Int) → ∃ n : Nat, leaf v (t : Int) = some [.i (n : Int)] ∧ BitsN n y := by
    intro v t ht h1 h2 h3 h4
    obtain ⟨l, e, hb⟩ := leaf_some v (t : Int) ⟨h1, h2⟩ ⟨by omega, by omega⟩
    obtain ⟨n, en, hn⟩ := bitsN_of t ht hb h3 h4
    exact ⟨n, by rw [e, en], hn⟩
  rw [len_eq]
  simp only [fdiv_pos _ 4294967296 (by decide), fdiv_pos _ 65536 (by decide), fdiv_pos _ 256 (by decide)]
  by_cases c1 : 4294967296 ≤ y
  · rw [bif_t (leI_t c1)]
    by_cases c2 : 65536 ≤ y / 4294967296
    · rw [bif_t (leI_t c2)]
      by_cases c3 : 256 ≤ y / 4294967296 / 65536
      · rw [bif_t (leI_t c3)]
        exact fin (y / 4294967296 / 65536 / 256) 56 (by decide) (by omega) (by omega) (by simp; omega) (by simp; omega)
      · rw [bif_f (leI_f (by omega))]
        exact fin (y / 4294967296 / 65536) 48 (by decide) (by omega) (by omega) (by simp; omega) (by simp; omega)
    · rw [bif_f (leI_f (by omega))]
      by_cases c3 : 256 ≤ y / 4294967296
      · rw [bif_t (leI_t c3)]
        exact fin (y / 4294967296 / 256) 40 (by decide) (by omega) (by omega) (by simp; omega) (by simp; omega)
      · rw [bif_f (leI_f (by omega))]
        exact fin (y / 4294967296) 32 (by decide) (by omega) (by omega) (by simp; omega) (by simp; omega)
  · rw [bif_f (leI_f (by omega))]
    by_cases c2 : 65536 ≤ y
    · rw [bif_t (leI_t c2)]
      by_cases c3 : 256 ≤ y / 65536
      · rw [bif_t (leI_t c3)]
        exact fin (y / 65536 / 256) 24 (by decide) (by omega) (by omega) (by simp; omega) (by simp; omega)
      · rw [bif_f (leI_f (by omega))]
        exact fin (y / 65536) 16 (by decide) (by omega) (by omega) (by simp; omega) (by simp; omega)
    · rw [bif_f (leI_f (by omega))]
      by_cases c3 : 256 ≤ y
      · rw [bif_t (leI_t c3)]
        exact fin (y / 256) 8 (by decide) (by omega) (by omega) (by simp; omega) (by simp; omega)
      · rw [bif_f (leI_f (by omega))]
        exact fin y 0 (by decide) (by omega) (by omega) (by simp) (by simp; omega)
theorem pow_lit (s : Nat) (h : s ≤ 64) : (2 : Int) ^ min (Int.toNat (s : Int)) 64 = ((2 ^ s : Nat) : Int) := by
  rw [Int.toNat_natCast, Nat.min_eq_left h, Int.natCast_pow]; rfl
theorem bits_le {n : Nat} {y : Int} (h : BitsN n y) (hy : y < 9223372036854775808) : n ≤ 63 := by
  obtain ⟨h1, h2, h3, h4⟩ := h
  by_cases e : n = 64
  · subst e
    have : ((2 ^ (64 - 1) : Nat) : Int) = 9223372036854775808 := rfl
    omega
  · omega
theorem div64_some (k : Nat) (hk : 4 ≤ k) (hi lo y : Int) (h1 : 0 ≤ hi ∧ hi < y) (h2 : 0 ≤ lo ∧ lo < 18446744073709551616) (h3 : 0 < y ∧ y < 9223372036854775808) :
    ∃ q r, bits_Div64 k hi lo y = some [.i q, .i r] ∧ q * y + r = hi * 18446744073709551616 + lo ∧ (0 ≤ q ∧ q < 18446744073709551616) ∧ 0 ≤ r ∧ r < y := by
  obtain ⟨f, rfl⟩ : ∃ f, k = 2 + f := ⟨k - 2, by omega⟩
  unfold bits_Div64
  rw [bif_f (beq_f (by omega)), bif_f (leI_f (by omega))]
  by_cases hz : hi = 0
  · have e1 := Int.mul_ediv_add_emod lo y
    have e2 := Int.emod_nonneg lo (show y ≠ 0 by omega)
    have e3 := Int.emod_lt_of_pos lo h3.1
    have e4 := Int.ediv_nonneg h2.1 (show 0 ≤ y by omega)
    have e5 := Int.ediv_le_self y h2.1
    rw [bif_t (beq_t hz), bif_f (eqI_f (by omega)), bif_f (eqI_f (by omega)), tdiv_nn _ _ h2.1, tmod_nn _ _ h2.1, wu _ e4 (by omega)]
    exact ⟨_, _, rfl, by rw [Int.mul_comm]; omega, ⟨e4, by omega⟩, e2, e3⟩
  · obtain ⟨n, en, hn⟩ := len_some (2 + f) y ⟨h3.1, by omega⟩
    have hn63 := bits_le hn h3.2
    obtain ⟨n1, n2, n3, n4⟩ := hn
    obtain ⟨s, hs⟩ : ∃ s : Nat, s + n = 64 := ⟨64 - n, by omega⟩
    have hST : ((2 ^ s : Nat) : Int) * ((2 ^ n : Nat) : Int) = 18446744073709551616 := by
      rw [← Int.natCast_mul, ← Nat.pow_add, hs]; rfl
    have hST2 : ((2 ^ s : Nat) : Int) * ((2 ^ (n - 1) : Nat) : Int) = 9223372036854775808 := by
      rw [← Int.natCast_mul, ← Nat.pow_add, show s + (n - 1) = 63 by omega]; rfl
    have hlz : bits_LeadingZeros64 (2 + f) y = some [.i (s : Int)] := by
      unfold bits_LeadingZeros64
      rw [en, Option.bind_some, gi0, wr _ (by omega) (by omega), show (64 : Int) - (n : Int) = (s : Int) by omega]
    have ws : IntKind.wrap .u64 (s : Int) = (s : Int) := wu _ (by omega) (by omega)
    have wn : IntKind.wrap .u64 (64 - (s : Int)) = (n : Int) := by rw [wu _ (by omega) (by omega)]; omega
    have ps := pow_lit s (by omega)
    have pn := pow_lit n (by omega)
    have hSp : (1 : Int) ≤ ((2 ^ s : Nat) : Int) := by have := Nat.one_le_two_pow (n := s); omega
    have hTp : (1 : Int) ≤ ((2 ^ n : Nat) : Int) := by have := Nat.one_le_two_pow (n := n); omega
    have hlo2 : lo / ((2 ^ n : Nat) : Int) < ((2 ^ s : Nat) : Int) := Int.ediv_lt_of_lt_mul (by omega) (by omega)
    have hbor : ∀ b : Int, 0 ≤ b → b < ((2 ^ s : Nat) : Int) → ((2 ^ s : Nat) : Int) * hi + b < 18446744073709551616 → bor .u64 (hi * ((2 ^ s : Nat) : Int)) b = ((2 ^ s : Nat) : Int) * hi + b := by
      intro b b0 b1 b2
      rw [Int.mul_comm hi]
      exact bor_add hi s b h1.1 b0 b1 b2
    generalize hS : ((2 ^ s : Nat) : Int) = S at *
    generalize hT : ((2 ^ n : Nat) : Int) = T at *
    generalize hP : ((2 ^ (n - 1) : Nat) : Int) = P at *
    have hYlo : 9223372036854775808 ≤ y * S := by
      have := Int.mul_le_mul_of_nonneg_left n3 (show 0 ≤ S by omega)
      rw [Int.mul_comm y]; omega
    have hYhi : y * S < 18446744073709551616 := by
      have := Int.mul_lt_mul_of_pos_left n4 (show 0 < S by omega)
      rw [Int.mul_comm y]; omega
    have hhi1 : (hi + 1) * S ≤ y * S := Int.mul_le_mul_of_nonneg_right (by omega) (by omega)
    have hhi0 : 0 ≤ hi * S := Int.mul_nonneg h1.1 (by omega)
    have hhi2 : hi * S + S ≤ y * S := by rw [Int.add_mul, Int.one_mul] at hhi1; exact hhi1
    have elo := Int.mul_ediv_add_emod lo T
    have elo1 := Int.emod_nonneg lo (show T ≠ 0 by omega)
    have elo2 := Int.emod_lt_of_pos lo (show 0 < T by omega)
    have elo3 := Int.ediv_nonneg h2.1 (show 0 ≤ T by omega)
    generalize hA : lo / T = A at *
    generalize hC : lo % T = C at *
    have hCS : 0 ≤ C * S ∧ C * S < 18446744073709551616 := by
      refine ⟨Int.mul_nonneg elo1 (by omega), ?_⟩
      have := Int.mul_lt_mul_of_pos_right elo2 (show 0 < S by omega)
      rw [Int.mul_comm T] at this; omega
    have hun10 : lo * S % 18446744073709551616 = C * S := by
      have : lo * S = A * 18446744073709551616 + C * S := by rw [← elo, ← hST]; grind
      rw [this]; omega
    have hcomm : S * hi = hi * S := Int.mul_comm _ _
    have hbor' := hbor A elo3 hlo2 (by omega)
    rw [bif_f (beq_f hz), hlz, Option.bind_some]
    simp only [gi0]
    rw [ws, bif_f (ltI_f (by omega)), ps, wu (y * S) (by omega) hYhi, bif_f (ltI_f (by omega)), wu (hi * S) hhi0 (by omega), wn, bif_f (ltI_f (by omega)), pn, fdiv_pos lo T (by omega), hA, bif_f (ltI_f (by omega)), wu_mod (lo * S), hun10, p32, fdiv_pos (y * S) _ (by decide), fdiv_pos (C * S) _ (by decide), mask32 (y * S) (by omega) hYhi, mask32 (C * S) hCS.1 hCS.2, hbor', hcomm]
    have hu0 : 0 ≤ hi * S + A ∧ hi * S + A < y * S := ⟨by omega, by omega⟩
    generalize hU : hi * S + A = u at *
    generalize hYY : y * S = Y at *
    generalize hX : C * S = X at *
    have y1b : 2147483648 ≤ Y / 4294967296 ∧ Y / 4294967296 < 4294967296 := by omega
    have hk1 : Knu Y (Y / 4294967296) (Y % 4294967296) u (X / 4294967296) ((u * 4294967296 + X / 4294967296) / Y) ((u * 4294967296 + X / 4294967296) % Y) := by
      refine ⟨by omega, y1b, by omega, hu0, by omega, ?_, Int.emod_nonneg _ (by omega), Int.emod_lt_of_pos _ (by omega)⟩
      rw [Int.mul_comm]; exact Int.mul_ediv_add_emod _ _
    generalize (u * 4294967296 + X / 4294967296) / Y = Q1 at *
    generalize (u * 4294967296 + X / 4294967296) % Y = R1 at *
    have hk2 : Knu Y (Y / 4294967296) (Y % 4294967296) R1 (X % 4294967296) ((R1 * 4294967296 + X % 4294967296) / Y) ((R1 * 4294967296 + X % 4294967296) % Y) := by
      refine ⟨by omega, y1b, by omega, hk1.hR, by omega, ?_, Int.emod_nonneg _ (by omega), Int.emod_lt_of_pos _ (by omega)⟩
      rw [Int.mul_comm]; exact Int.mul_ediv_add_emod _ _
    generalize (R1 * 4294967296 + X % 4294967296) / Y = Q2 at *
    generalize (R1 * 4294967296 + X % 4294967296) % Y = R2 at *
    obtain ⟨s1, s2, s3, s4, s5⟩ := hk1.start
    obtain ⟨t1, t2, t3, t4, t5⟩ := hk2.start
    obtain ⟨z1, l1⟩ := div_l0 (2 + f) hk1 0 0 (s : Int) (X % 4294967296) 2 f _ _ (by omega) s1 s2.1 s2.2 s3 s4
    obtain ⟨z2, l2⟩ := div_l2 (2 + f) hk2 0 0 (s : Int) Q1 2 f _ _ (by omega) t1 t2.1 t2.2 t3 t4
    have r1 := hk1.rest hYhi
    have r2 := hk2.rest hYhi
    have q1s := hk1.small
    have q2s := hk2.small
    have k1R := hk1.hR
    have k1Q := hk1.hQ
    have k2R := hk2.hR
    have k2Q := hk2.hQ
    rw [bif_f (eqI_f (by omega)), tdiv_nn u _ hu0.1, wu (u / (Y / 4294967296)) s5 (by omega), wu (u / (Y / 4294967296) * (Y / 4294967296)) (Int.mul_nonneg s5 (by omega)) (by omega), wu (u - u / (Y / 4294967296) * (Y / 4294967296)) (by omega) (by omega), l1, Option.bind_some]
    simp only [gi0, giS]
    rw [r1, bif_f (eqI_f (by omega)), tdiv_nn R1 _ k1R.1, wu (R1 / (Y / 4294967296)) t5 (by omega), wu (R1 / (Y / 4294967296) * (Y / 4294967296)) (Int.mul_nonneg t5 (by omega)) (by omega), wu (R1 - R1 / (Y / 4294967296) * (Y / 4294967296)) (by omega) (by omega), l2, Option.bind_some]
    simp only [gi0, giS]
    rw [r2, wu (Q1 * 4294967296) (by omega) (by omega), wu (Q1 * 4294967296 + Q2) (by omega) (by omega), bif_f (ltI_f (by omega)), ps, fdiv_pos R2 S (by omega)]
    have hfin : (Q1 * 4294967296 + Q2) * Y + R2 = S * (hi * 18446744073709551616 + lo) := by
      have a1 : (Q1 * 4294967296 + Q2) * Y = (Q1 * Y) * 4294967296 + Q2 * Y := by grind
      have a2 : S * (hi * 18446744073709551616 + lo) = u * 18446744073709551616 + X := by rw [← hU, ← hX, ← elo, ← hST]; grind
      rw [a1, a2]
      omega
    generalize hQ : Q1 * 4294967296 + Q2 = Q at *
    have hr : R2 = S * (hi * 18446744073709551616 + lo - Q * y) := by
      have : Q * Y = S * (Q * y) := by rw [← hYY]; grind
      rw [Int.mul_sub]; omega
    have hdiv : R2 / S = hi * 18446744073709551616 + lo - Q * y := by rw [hr]; exact Int.mul_ediv_cancel_left _ (by omega)
    refine ⟨Q, _, rfl, by rw [hdiv]; omega, ⟨by omega, by omega⟩, Int.ediv_nonneg k2R.1 (by omega), ?_⟩
    refine Int.ediv_lt_of_lt_mul (by omega) ?_
    rw [hYY]; exact k2R.2
end Go.Proofs.YtpbmapaafnnoiaaGreatDoor.Ev
