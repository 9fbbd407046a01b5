/- Wide numbers, by the reference: what its operations compute. No condition. -/
import Derived.Test.YtaimjfippclbcaaGreatRunStepF
import Derived.Test.YtaimjfippclbcaaGreatPBits
namespace Go.Proofs.YtaimjfippclbcaaGreat.Ev
open Go Go.RowKit
set_option linter.unusedSimpArgs false
set_option linter.unusedVariables false
theorem p32 : (2 : Int) ^ min (Int.toNat 32) 64 = 4294967296 := by decide
theorem p63 : (2 : Int) ^ min (Int.toNat 63) 64 = 9223372036854775808 := by decide
theorem p1 : (2 : Int) ^ min (Int.toNat 1) 64 = 2 := by decide
def Wd (hi lo N : Int) : Prop := hi * 18446744073709551616 + lo = N ∧ (0 ≤ lo ∧ lo < 18446744073709551616) ∧ -9223372036854775808 ≤ hi ∧ hi < 9223372036854775808
def I64 (x : Int) : Prop := -9223372036854775808 ≤ x ∧ x ≤ 9223372036854775807
theorem mul_bd {a b A B : Int} (ha : 0 ≤ a ∧ a ≤ A) (hb : 0 ≤ b ∧ b ≤ B) : 0 ≤ a * b ∧ a * b ≤ A * B := ⟨Int.mul_nonneg ha.1 hb.1, Int.mul_le_mul ha.2 hb.2 hb.1 (Int.le_trans ha.1 ha.2)⟩
theorem halves (a1 a0 b1 b0 : Int) : (a1 * 4294967296 + a0) * (b1 * 4294967296 + b0) = (a1 * b1) * 18446744073709551616 + (a1 * b0) * 4294967296 + (a0 * b1) * 4294967296 + a0 * b0 := by grind
theorem times_some (k : Nat) (a b : Int) (ha : 0 ≤ a ∧ a < 18446744073709551616) (hb : 0 ≤ b ∧ b < 18446744073709551616) : ∃ hi lo, spec_l02Times k a b = some [.i hi, .i lo] ∧ hi * 18446744073709551616 + lo = a * b ∧ 0 ≤ hi ∧ 0 ≤ lo ∧ lo < 18446744073709551616 := by
 unfold spec_l02Times
 simp only [p32, fdiv_pos _ 4294967296 (by decide)]
 rw [mask32 a ha.1 ha.2, mask32 b hb.1 hb.2]
 have e1 : a = (a / 4294967296) * 4294967296 + a % 4294967296 := by omega
 have e2 : b = (b / 4294967296) * 4294967296 + b % 4294967296 := by omega
 have hab := halves (a / 4294967296) (a % 4294967296) (b / 4294967296) (b % 4294967296)
 rw [← e1, ← e2] at hab
 have a1 : 0 ≤ a / 4294967296 ∧ a / 4294967296 ≤ 4294967295 := by omega
 have a0 : 0 ≤ a % 4294967296 ∧ a % 4294967296 ≤ 4294967295 := by omega
 have b1 : 0 ≤ b / 4294967296 ∧ b / 4294967296 ≤ 4294967295 := by omega
 have b0 : 0 ≤ b % 4294967296 ∧ b % 4294967296 ≤ 4294967295 := by omega
 have p00 := mul_bd a0 b0
 have p10 := mul_bd a1 b0
 have p01 := mul_bd a0 b1
 have p11 := mul_bd a1 b1
 have hpp := mul_bd ⟨ha.1, (by omega : a ≤ 18446744073709551615)⟩ ⟨hb.1, (by omega : b ≤ 18446744073709551615)⟩
 generalize a / 4294967296 * (b / 4294967296) = P11 at *
 generalize a / 4294967296 * (b % 4294967296) = P10 at *
 generalize a % 4294967296 * (b / 4294967296) = P01 at *
 generalize a % 4294967296 * (b % 4294967296) = P00 at *
 rw [wu P00 (by omega) (by omega), wu P10 (by omega) (by omega), wu P01 (by omega) (by omega), wu P11 (by omega) (by omega), wu (P10 + P00 / 4294967296) (by omega) (by omega), mask32 _ (by omega) (by omega)]
 rw [wu (P01 + (P10 + P00 / 4294967296) % 4294967296) (by omega) (by omega), wu (P11 + (P10 + P00 / 4294967296) / 4294967296) (by omega) (by omega), wu _ (by omega) (by omega), wu_mod]
 exact ⟨_, _, rfl, by omega, by omega, by omega, by omega⟩
theorem bnot (x : Int) (h : I64 x) : bxor .i64 (-1) x = -1 - x := by
 unfold bxor
 show IntKind.wrap .i64 (((BitVec.ofInt 64 (-1) ^^^ BitVec.ofInt 64 x).toNat : Nat) : Int) = _
 rw [show BitVec.ofInt 64 (-1) = BitVec.allOnes 64 from rfl, BitVec.allOnes_xor, BitVec.toNat_not, BitVec.toNat_ofInt, IntKind.wrap_i64]
 obtain ⟨h1, h2⟩ := h
 omega
theorem minus_some (k : Nat) (hi lo N : Int) (h : Wd hi lo N) (hN : -170141183460469231731687303715884105728 < N) : ∃ hi' lo', spec_l02Minus k hi lo = some [.i hi', .i lo'] ∧ Wd hi' lo' (-N) := by
 obtain ⟨h1, ⟨h2, h3⟩, h4, h5⟩ := h
 unfold spec_l02Minus
 by_cases h0 : lo = 0
 ·rw [bif_t (beq_t h0), wr _ (by omega) (by omega), wu_mod]
  exact ⟨_, _, rfl, by omega, by omega, by omega, by omega⟩
 ·rw [bif_f (beq_f h0), bnot hi ⟨h4, by omega⟩, wu_mod]
  exact ⟨_, _, rfl, by omega, by omega, by omega, by omega⟩
theorem size_some (k : Nat) (n : Int) (h : I64 n) : spec_l02Size k n = some [.i (if n < 0 then -n else n)] := by
 obtain ⟨h1, h2⟩ := h
 unfold spec_l02Size
 by_cases h0 : n < 0
 ·rw [bif_t (ltI_t h0), if_pos h0, wu_mod, wu_mod]
  dsimp only
  rw [show (0 - n % 18446744073709551616) % 18446744073709551616 = -n by omega]
 ·rw [bif_f (ltI_f (by omega)), if_neg h0, wu n (by omega) (by omega)]
theorem mul_some (k : Nat) (a b : Int) (ha : I64 a) (hb : I64 b) : ∃ hi lo, spec_l02Mul k a b = some [.i hi, .i lo] ∧ Wd hi lo (a * b) ∧ -85070591730234615865843651857942052864 ≤ a * b ∧ a * b ≤ 85070591730234615865843651857942052864 := by
 unfold spec_l02Mul
 rw [size_some k a ha, size_some k b hb]
 simp only [Option.bind_some, gi0]
 have hA : 0 ≤ (if a < 0 then -a else a) ∧ (if a < 0 then -a else a) ≤ 9223372036854775808 := by obtain ⟨h1, h2⟩ := ha; split <;> omega
 have hB : 0 ≤ (if b < 0 then -b else b) ∧ (if b < 0 then -b else b) ≤ 9223372036854775808 := by obtain ⟨h1, h2⟩ := hb; split <;> omega
 have hAB := mul_bd hA hB
 obtain ⟨hi, lo, e, h1, h2, h3, h4⟩ := times_some k (if a < 0 then -a else a) (if b < 0 then -b else b) (by omega) (by omega)
 rw [e]
 simp only [Option.bind_some, gi0, giS]
 have hw : IntKind.wrap .i64 hi = hi := wr _ (by omega) (by omega)
 rw [hw]
 have hW : Wd hi lo ((if a < 0 then -a else a) * (if b < 0 then -b else b)) := ⟨h1, ⟨h3, h4⟩, by omega, by omega⟩
 by_cases ca : a < 0 <;> by_cases cb : b < 0
 ·rw [ltI_t ca, ltI_t cb, beq_self_eq_true, Bool.not_true, cond_false]
  rw [if_pos ca, if_pos cb, Int.neg_mul_neg] at hW hAB
  exact ⟨hi, lo, rfl, hW, by omega, by omega⟩
 ·rw [ltI_t ca, ltI_f (by omega), show (!(true == false)) = true from rfl, cond_true]
  rw [if_pos ca, if_neg cb, Int.neg_mul] at hW hAB
  obtain ⟨hi', lo', e', w'⟩ := minus_some k hi lo _ hW (by omega)
  rw [e', Int.neg_neg] at *
  exact ⟨hi', lo', rfl, w', by omega, by omega⟩
 ·rw [ltI_f (by omega), ltI_t cb, show (!(false == true)) = true from rfl, cond_true]
  rw [if_neg ca, if_pos cb, Int.mul_neg] at hW hAB
  obtain ⟨hi', lo', e', w'⟩ := minus_some k hi lo _ hW (by omega)
  rw [e', Int.neg_neg] at *
  exact ⟨hi', lo', rfl, w', by omega, by omega⟩
 ·rw [ltI_f (by omega), ltI_f (by omega), beq_self_eq_true, Bool.not_true, cond_false]
  rw [if_neg ca, if_neg cb] at hW hAB
  exact ⟨hi, lo, rfl, hW, by omega, by omega⟩
def intR (N : Int) : List D := if -9223372036854775808 ≤ N ∧ N ≤ 9223372036854775807 then [.i N, .b true] else [.i 0, .b false]
theorem of_some (k : Nat) (n : Int) (h : I64 n) : spec_l02Of k n = some [.i (if n < 0 then -1 else 0), .i (n % 18446744073709551616)] := by
 unfold spec_l02Of
 rw [wu_mod]
 by_cases h0 : n < 0
 ·rw [bif_t (ltI_t h0), if_pos h0]
 ·rw [bif_f (ltI_f (by omega)), if_neg h0]
theorem wr_range (n : Int) : I64 (IntKind.wrap .i64 n) := by rw [IntKind.wrap_i64]; exact ⟨by omega, by omega⟩
theorem int_some (k : Nat) (hi lo N : Int) (h : Wd hi lo N) : spec_l02Int k hi lo = some (intR N) := by
 obtain ⟨h1, ⟨h2, h3⟩, h4, h5⟩ := h
 unfold spec_l02Int
 rw [of_some k _ (wr_range lo)]
 simp only [Option.bind_some, gi0, giS]
 have hw : IntKind.wrap .i64 lo = if lo < 9223372036854775808 then lo else lo - 18446744073709551616 := by rw [IntKind.wrap_i64]; split <;> omega
 have hm : IntKind.wrap .i64 lo % 18446744073709551616 = lo := by rw [hw]; split <;> omega
 rw [hm, beq_self_eq_true, Bool.true_and, Bool.and_true]
 unfold intR
 by_cases hq : (if IntKind.wrap .i64 lo < 0 then -1 else 0) = hi
 ·rw [beq_t hq, Bool.not_true, cond_false, if_pos (by rw [hw] at hq; split at hq <;> split at hq <;> omega), show N = IntKind.wrap .i64 lo by rw [hw] at hq ⊢; split at hq <;> split at hq <;> split <;> omega]
 ·rw [beq_f hq, Bool.not_false, cond_true, if_neg (by rw [hw] at hq; split at hq <;> split at hq <;> omega)]
theorem shift32_some (k : Nat) (hi lo N : Int) (h : Wd hi lo N) : ∃ hi' lo', spec_l02Shift k hi lo 32 = some [.i hi', .i lo'] ∧ Wd hi' lo' (N / 4294967296) := by
 obtain ⟨h1, ⟨h2, h3⟩, h4, h5⟩ := h
 refine ⟨hi / 4294967296, (4294967296 * (hi % 4294967296)) + lo / 4294967296, ?_, by omega, ⟨by omega, by omega⟩, by omega, by omega⟩
 refine (show spec_l02Shift k hi lo 32 = some [.i (Int.fdiv hi 4294967296), .i (bor .u64 (Int.fdiv lo 4294967296) (IntKind.wrap .u64 (IntKind.wrap .u64 hi * 4294967296)))] from rfl).trans ?_
 rw [fdiv_pos _ 4294967296 (by decide), fdiv_pos _ 4294967296 (by decide), wu_mod, wu_mod, show hi % 18446744073709551616 * 4294967296 % 18446744073709551616 = ((2 ^ 32 : Nat) : Int) * (hi % 4294967296) by omega, bor_comm, bor_add _ 32 _ (by omega) (by omega) (by omega) (by omega)]
 rfl
theorem shift30_some (k : Nat) (hi lo N : Int) (h : Wd hi lo N) : ∃ hi' lo', spec_l02Shift k hi lo 30 = some [.i hi', .i lo'] ∧ Wd hi' lo' (N / 1073741824) := by
 obtain ⟨h1, ⟨h2, h3⟩, h4, h5⟩ := h
 refine ⟨hi / 1073741824, (17179869184 * (hi % 1073741824)) + lo / 1073741824, ?_, by omega, ⟨by omega, by omega⟩, by omega, by omega⟩
 refine (show spec_l02Shift k hi lo 30 = some [.i (Int.fdiv hi 1073741824), .i (bor .u64 (Int.fdiv lo 1073741824) (IntKind.wrap .u64 (IntKind.wrap .u64 hi * 17179869184)))] from rfl).trans ?_
 rw [fdiv_pos _ 1073741824 (by decide), fdiv_pos _ 1073741824 (by decide), wu_mod, wu_mod, show hi % 18446744073709551616 * 17179869184 % 18446744073709551616 = ((2 ^ 34 : Nat) : Int) * (hi % 1073741824) by omega, bor_comm, bor_add _ 34 _ (by omega) (by omega) (by omega) (by omega)]
 rfl
theorem mulFloor32_some (k : Nat) (a b : Int) (ha : I64 a) (hb : I64 b) : spec_MulFloor k a b 32 = some (intR (a * b / 4294967296)) := by
 obtain ⟨hi, lo, e, w, _, _⟩ := mul_some k a b ha hb
 obtain ⟨hi', lo', e', w'⟩ := shift32_some k hi lo _ w
 unfold spec_MulFloor
 rw [show spec_l00In k 32 0 126 = some [.b true] from rfl]
 simp only [Option.bind_some, gb0, Bool.not_true, cond_false, e, gi0, giS, e', int_some k _ _ _ w']
 unfold intR
 split <;> rfl
theorem mulFloor30_some (k : Nat) (a b : Int) (ha : I64 a) (hb : I64 b) : spec_MulFloor k a b 30 = some (intR (a * b / 1073741824)) := by
 obtain ⟨hi, lo, e, w, _, _⟩ := mul_some k a b ha hb
 obtain ⟨hi', lo', e', w'⟩ := shift30_some k hi lo _ w
 unfold spec_MulFloor
 rw [show spec_l00In k 30 0 126 = some [.b true] from rfl]
 simp only [Option.bind_some, gb0, Bool.not_true, cond_false, e, gi0, giS, e', int_some k _ _ _ w']
 unfold intR
 split <;> rfl
theorem bit_next (lo m : Nat) : lo % 2 ^ (m + 1) = lo / 2 ^ m % 2 * 2 ^ m + lo % 2 ^ m := by
 rw [Nat.pow_succ, Nat.mod_mul, Nat.mul_comm (2 ^ m), Nat.add_comm]
theorem shr_nat (lo m : Nat) (hm : m ≤ 63) : Int.fdiv (lo : Int) (2 ^ min (Int.toNat (IntKind.wrap .u64 ((m : Nat) : Int))) 64) = ((lo / 2 ^ m : Nat) : Int) := by
 rw [wu _ (by omega) (by omega), Int.toNat_natCast, Nat.min_eq_left (by omega), show ((2 : Int) ^ m) = ((2 ^ m : Nat) : Int) by rw [Int.natCast_pow]; rfl, fdiv_pos _ _ (Int.natCast_nonneg _)]
 exact (Int.natCast_ediv _ _).symm
theorem divide_l0 (k : Nat) (lo d : Nat) (hlo : lo < 18446744073709551616) (hd : 0 < d ∧ d < 9223372036854775808) (x2 x3 x4 x5 : Int) : ∀ (m f q rest : Nat), m ≤ 64 → rest < d → (q + 1) * 2 ^ m ≤ 18446744073709551616 →
  ∃ (q' rest' : Nat) (z : Int), spec_l02Divide_l0 k (m + 1 + f) lo d x2 x3 x4 x5 rest q ((m : Int) - 1) = some [.i 0, .i lo, .i d, .i x2, .i x3, .i x4, .i x5, .i rest', .i q', .i z] ∧ q' * d + rest' = (q * d + rest) * 2 ^ m + lo % 2 ^ m ∧ rest' < d ∧ q' < 18446744073709551616
 | 0, f, q, rest, _, hr, hq => by
  refine ⟨q, rest, -1, ?_, by simp; omega, hr, by simp at hq; omega⟩
  rw [show 0 + 1 + f = f + 1 by omega, spec_l02Divide_l0, bif_f (leI_f (by omega))]
  rfl
 | m + 1, f, q, rest, hm, hr, hq => by
  have hp : 1 ≤ 2 ^ m := Nat.one_le_two_pow
  have hq2 : (2 * q + 2) * 2 ^ m ≤ 18446744073709551616 := by
   have : (q + 1) * 2 ^ (m + 1) = (2 * q + 2) * 2 ^ m := by rw [Nat.pow_succ]; grind
   omega
  have hq3 : 2 * q + 2 ≤ 18446744073709551616 := Nat.le_trans (Nat.le_mul_of_pos_right _ hp) hq2
  have hb : lo / 2 ^ m % 2 < 2 := Nat.mod_lt _ (by decide)
  have hsh : lo / 2 ^ m ≤ lo := Nat.div_le_self _ _
  have hshr := shr_nat lo m (by omega)
  have hbn := bit_next lo m
  generalize lo / 2 ^ m = w at hb hsh hshr hbn
  have e1 : (((m + 1 : Nat) : Int) - 1) = (m : Int) := by omega
  have e2 : IntKind.wrap .u64 ((rest : Int) * 2) = ((2 * rest : Nat) : Int) := by rw [wu _ (by omega) (by omega)]; omega
  have e3 : IntKind.wrap .u64 ((q : Int) * 2) = ((2 * q : Nat) : Int) := by rw [wu _ (by omega) (by omega)]; omega
  have e4 : band .u64 ((w : Nat) : Int) 1 = ((w % 2 : Nat) : Int) := by rw [mask1 _ (by omega) (by omega)]; omega
  have e5 : bor .u64 ((2 * rest : Nat) : Int) ((w % 2 : Nat) : Int) = ((2 * rest + w % 2 : Nat) : Int) := by
   have := bor_add (rest : Int) 1 ((w % 2 : Nat) : Int) (by omega) (by omega) (by omega) (by omega)
   rw [show ((2 ^ 1 : Nat) : Int) * (rest : Int) = ((2 * rest : Nat) : Int) by omega] at this
   rw [this]; omega
  have e6 : bor .u64 ((2 * q : Nat) : Int) 1 = ((2 * q + 1 : Nat) : Int) := by
   have := bor_add (q : Int) 1 1 (by omega) (by omega) (by omega) (by omega)
   rw [show ((2 ^ 1 : Nat) : Int) * (q : Int) = ((2 * q : Nat) : Int) by omega] at this
   rw [this]; omega
  have e7 : (Int.fdiv (rest : Int) 9223372036854775808 == 1) = false := by rw [fdiv_pos _ _ (by decide)]; exact beq_f (by omega)
  have e8 : IntKind.wrap .i64 ((m : Int) - 1) = (m : Int) - 1 := wr _ (by omega) (by omega)
  have stp : spec_l02Divide_l0 k (m + 1 + 1 + f) lo d x2 x3 x4 x5 rest q (((m + 1 : Nat) : Int) - 1) = if d ≤ 2 * rest + w % 2 then spec_l02Divide_l0 k (m + 1 + f) lo d x2 x3 x4 x5 ((2 * rest + w % 2 - d : Nat) : Int) ((2 * q + 1 : Nat) : Int) ((m : Int) - 1) else spec_l02Divide_l0 k (m + 1 + f) lo d x2 x3 x4 x5 ((2 * rest + w % 2 : Nat) : Int) ((2 * q : Nat) : Int) ((m : Int) - 1) := by
   rw [show m + 1 + 1 + f = (m + 1 + f) + 1 by omega, spec_l02Divide_l0, e1, bif_t (leI_t (by omega))]
   simp only [p1, p63]
   rw [e2, e3, bif_f (ltI_f (by rw [wu _ (by omega) (by omega)]; omega)), hshr, e4, e5, e6, e7, cond_false, e8]
   by_cases h : d ≤ 2 * rest + w % 2
   ·rw [if_pos h, bif_t (leI_t (by omega)), wu _ (by omega) (by omega), show ((2 * rest + w % 2 : Nat) : Int) - (d : Int) = ((2 * rest + w % 2 - d : Nat) : Int) by omega]
   ·rw [if_neg h, bif_f (leI_f (by omega))]
  have hq4 : (2 * q + 1 + 1) * 2 ^ m ≤ 18446744073709551616 := hq2
  rw [stp]
  by_cases h : d ≤ 2 * rest + w % 2
  ·rw [if_pos h]
   obtain ⟨q', rest', z, i1, i2, i3, i4⟩ := divide_l0 k lo d hlo hd x2 x3 x4 x5 m f (2 * q + 1) (2 * rest + w % 2 - d) (by omega) (by omega) hq4
   refine ⟨q', rest', z, i1, ?_, i3, i4⟩
   rw [i2, hbn, Nat.pow_succ]
   have : (2 * q + 1) * d + (2 * rest + w % 2 - d) = 2 * (q * d + rest) + w % 2 := by
    have : (2 * q + 1) * d = 2 * (q * d) + d := by grind
    omega
   rw [this]
   grind
  ·rw [if_neg h]
   obtain ⟨q', rest', z, i1, i2, i3, i4⟩ := divide_l0 k lo d hlo hd x2 x3 x4 x5 m f (2 * q) (2 * rest + w % 2) (by omega) (by omega) (Nat.le_trans (Nat.mul_le_mul_right _ (by omega)) hq2)
   refine ⟨q', rest', z, i1, ?_, i3, i4⟩
   rw [i2, hbn, Nat.pow_succ]
   have : 2 * q * d + (2 * rest + w % 2) = 2 * (q * d + rest) + w % 2 := by
    have : 2 * q * d = 2 * (q * d) := by grind
    omega
   rw [this]
   grind
theorem divide_some (k : Nat) (hk : 66 ≤ k) (hi lo d : Int) (h1 : 0 ≤ hi ∧ hi < 18446744073709551616) (h2 : 0 ≤ lo ∧ lo < 18446744073709551616) (h3 : 0 < d ∧ d < 9223372036854775808) :
  ∃ q r, spec_l02Divide k hi lo d = some [.i (hi / d), .i q, .i r] ∧ ((hi / d) * 18446744073709551616 + q) * d + r = hi * 18446744073709551616 + lo ∧ (0 ≤ q ∧ q < 18446744073709551616) ∧ 0 ≤ r ∧ r < d := by
 obtain ⟨f, hf⟩ : ∃ f, k = 64 + 1 + f := ⟨k - 65, by omega⟩
 obtain ⟨l, rfl⟩ := Int.eq_ofNat_of_zero_le h2.1
 obtain ⟨e, rfl⟩ := Int.eq_ofNat_of_zero_le (show 0 ≤ d by omega)
 have hm0 := Int.emod_nonneg hi (show (e : Int) ≠ 0 by omega)
 have hm1 := Int.emod_lt_of_pos hi (show 0 < (e : Int) by omega)
 obtain ⟨r0, hr0⟩ := Int.eq_ofNat_of_zero_le hm0
 have hdv : hi / (e : Int) ≤ hi := Int.ediv_le_self _ h1.1
 have hdn : 0 ≤ hi / (e : Int) := Int.ediv_nonneg h1.1 (by omega)
 obtain ⟨q', rest', z, i1, i2, i3, i4⟩ := divide_l0 k l e (by omega) ⟨by omega, by omega⟩ 0 0 0 (hi / (e : Int)) 64 f 0 r0 (by omega) (by omega) (by omega)
 refine ⟨(q' : Int), (rest' : Int), ?_, ?_, ⟨by omega, by omega⟩, by omega, by omega⟩
 ·unfold spec_l02Divide
  rw [bif_f (eqI_f (by omega)), bif_f (eqI_f (by omega)), tdiv_nn _ _ h1.1, tmod_nn _ _ h1.1, wu _ hdn (by omega), hr0, show spec_l02Divide_l0 k k = spec_l02Divide_l0 k (64 + 1 + f) by rw [← hf]]
  have i1' : spec_l02Divide_l0 k (64 + 1 + f) (l : Int) (e : Int) 0 0 0 (hi / (e : Int)) (r0 : Int) 0 63 = _ := i1
  rw [i1']
  rfl
 ·have hmod : l % 2 ^ 64 = l := Nat.mod_eq_of_lt (by omega)
  rw [hmod] at i2
  have i2' : (q' : Int) * (e : Int) + (rest' : Int) = (r0 : Int) * 18446744073709551616 + (l : Int) := by
   have := congrArg (fun n : Nat => (n : Int)) i2
   simp only [Int.natCast_add, Int.natCast_mul] at this
   rw [this]
   simp
  have hh := Int.mul_ediv_add_emod hi (e : Int)
  rw [hr0] at hh
  generalize hi / (e : Int) = Q at *
  grind
end Go.Proofs.YtaimjfippclbcaaGreat.Ev
