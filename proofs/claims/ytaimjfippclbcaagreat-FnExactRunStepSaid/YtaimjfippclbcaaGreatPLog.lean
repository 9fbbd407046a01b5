/- Logarithms, by both. No condition. -/
import Derived.Test.YtaimjfippclbcaaGreatPVl
namespace Go.Proofs.YtaimjfippclbcaaGreat.Ev
open Go Go.RowKit
set_option linter.unusedSimpArgs false
set_option linter.unusedVariables false
theorem shift29_some (k : Nat) (hi lo N : Int) (h : Wd hi lo N) : ∃ hi' lo', spec_l02Shift k hi lo 29 = some [.i hi', .i lo'] ∧ Wd hi' lo' (N / 536870912) := by
 obtain ⟨h1, ⟨h2, h3⟩, h4, h5⟩ := h
 refine ⟨hi / 536870912, (34359738368 * (hi % 536870912)) + lo / 536870912, ?_, by omega, ⟨by omega, by omega⟩, by omega, by omega⟩
 refine (show spec_l02Shift k hi lo 29 = some [.i (Int.fdiv hi 536870912), .i (bor .u64 (Int.fdiv lo 536870912) (IntKind.wrap .u64 (IntKind.wrap .u64 hi * 34359738368)))] from rfl).trans ?_
 rw [fdiv_pos _ 536870912 (by decide), fdiv_pos _ 536870912 (by decide), wu_mod, wu_mod, show hi % 18446744073709551616 * 34359738368 % 18446744073709551616 = ((2 ^ 35 : Nat) : Int) * (hi % 536870912) by omega, bor_comm, bor_add _ 35 _ (by omega) (by omega) (by omega) (by omega)]
 rfl
theorem mulFloor29_some (k : Nat) (a b : Int) (ha : I64 a) (hb : I64 b) : spec_MulFloor k a b 29 = some (intR (a * b / 536870912)) := by
 obtain ⟨hi, lo, e, w, _, _⟩ := mul_some k a b ha hb
 obtain ⟨hi', lo', e', w'⟩ := shift29_some k hi lo _ w
 unfold spec_MulFloor
 rw [show spec_l00In k 29 0 126 = some [.b true] from rfl]
 simp only [Option.bind_some, gb0, Bool.not_true, cond_false, e, gi0, giS, e', int_some k _ _ _ w']
 unfold intR
 split <;> rfl
theorem implMulFloor29_some (k : Nat) (a b : Int) (ha : I64 a) (hb : I64 b) : impl_MulFloor k a b 29 = some (intR (a * b / 536870912)) := by
 obtain ⟨hi, lo, e, w⟩ := wideMul_some k a b ha hb
 obtain ⟨hi', lo', e', w'⟩ := shift29_some k hi lo _ w
 unfold impl_MulFloor
 rw [show impl_within k 29 0 126 = some [.b true] from rfl]
 simp only [Option.bind_some, gb0, Bool.not_true, cond_false, e, gi0, giS, show impl_WideShift k hi lo 29 = spec_l02Shift k hi lo 29 from rfl, e', wideInt_eq, int_some k _ _ _ w']
 unfold intR
 split <;> rfl
def ln2 (n : Int) : Int × Int := (n * 1598288580650331957 / 536870912, -(-n * 1598288580650331958 / 536870912))
theorem ln2_bd (n : Int) (h : 0 ≤ n ∧ n ≤ 64) : 0 ≤ (ln2 n).1 ∧ (ln2 n).1 ≤ (ln2 n).2 ∧ (ln2 n).2 ≤ 200000000000 := by
 unfold ln2
 dsimp only
 omega
theorem logTwo_pos (k j : Nat) (n : Int) (h : 0 ≤ n ∧ n ≤ 64) : spec_LogTwoI k (j + 1) n = some (pv (ln2 n)) ∧ impl_LogTwoI k (j + 1) n = some (pv (ln2 n)) := by
 have hb := ln2_bd n h
 have h1 := mulFloor29_some k n 1598288580650331957 ⟨by omega, by omega⟩ ⟨by decide, by decide⟩
 have h2 := implMulFloor29_some k n 1598288580650331957 ⟨by omega, by omega⟩ ⟨by decide, by decide⟩
 have h3 := mulFloor29_some k (-n) 1598288580650331958 ⟨by omega, by omega⟩ ⟨by decide, by decide⟩
 have h4 := implMulFloor29_some k (-n) 1598288580650331958 ⟨by omega, by omega⟩ ⟨by decide, by decide⟩
 rw [intR_in (by omega) (by omega)] at h1 h2 h3 h4
 rw [spec_LogTwoI, impl_LogTwoI, in_some, within_some, leI_t (by omega), leI_t (by omega)]
 simp only [Option.bind_some, gb0, Bool.and_self, Bool.not_true, cond_false]
 rw [bif_f (ltI_f (by omega)), bif_f (ltI_f (by omega)), wr (0 - n) (by omega) (by omega), show 0 - n = -n by omega, h1, h2, h3, h4]
 simp only [Option.bind_some, gi0]
 rw [make_some, wr (0 - _) (by omega) (by omega), show 0 - -n * 1598288580650331958 / 536870912 = -(-n * 1598288580650331958 / 536870912) by omega]
 unfold ln2 at hb
 dsimp only at hb
 rw [mkIv_t (ivB_iff.2 ⟨by omega, by omega, by omega⟩)]
 exact ⟨rfl, rfl⟩
noncomputable def vLn2 (k : Nat) (n : Int) : Int × Int := iv (spec_LogTwoI k k n)
theorem ln2r {k : Nat} (hk : 700 ≤ k) (n : Int) : spec_LogTwoI k k n = some (pv (vLn2 k n)) ∧ impl_LogTwoI k k n = some (pv (vLn2 k n)) := by
 refine same_rule ?_
 obtain ⟨j, hj⟩ : ∃ j, k = j + 1 + 1 := ⟨k - 2, by omega⟩
 rw [show spec_LogTwoI k k = spec_LogTwoI k (j + 1 + 1) from by rw [← hj], show impl_LogTwoI k k = impl_LogTwoI k (j + 1 + 1) from by rw [← hj]]
 by_cases h : -64 ≤ n ∧ n ≤ 64
 ·by_cases h0 : n < 0
  ·obtain ⟨e1, e2⟩ := logTwo_pos k j (-n) (by omega)
   rw [spec_LogTwoI, impl_LogTwoI, in_some, within_some, leI_t (by omega), leI_t (by omega)]
   simp only [Option.bind_some, gb0, Bool.and_self, Bool.not_true, cond_false]
   rw [bif_t (ltI_t h0), bif_t (ltI_t h0), wr (0 - n) (by omega) (by omega), show 0 - n = -n by omega, e1, e2]
   simp only [ivr hk, Option.bind_some, pv0, pv1, gi0, giS, gb0, gbS, cond_true, cond_false, Bool.not_true, Bool.not_false, pair_eta]
   exact same_refl _
  ·obtain ⟨e1, e2⟩ := logTwo_pos k (j + 1) n (by omega)
   rw [e1, e2]
   exact same_refl _
 ·have : (leI (-64) n && leI n 64) = false := by
   rw [Bool.and_eq_false_iff]
   by_cases h1 : -64 ≤ n
   ·exact .inr (leI_f (by omega))
   ·exact .inl (leI_f (by omega))
  rw [spec_LogTwoI, impl_LogTwoI, in_some, within_some, this]
  exact ⟨wv, rfl, rfl⟩
theorem wu_id (n : Int) (h : 0 ≤ n ∧ n < 18446744073709551616) : IntKind.wrap .u64 n = n := by rw [IntKind.wrap_u64]; omega
theorem shr_some (x : Int) (e : Nat) (h : e ≤ 64) : Int.fdiv x (2 ^ min (Int.toNat (e : Int)) 64) = x / ((2 ^ e : Nat) : Int) := by
 rw [pow_lit e h, fdiv_pos _ _ (by have := Nat.two_pow_pos e; omega)]
theorem half_pow (n : Int) (e : Nat) : n / ((2 ^ (e + 1) : Nat) : Int) = n / ((2 ^ e : Nat) : Int) / 2 := by
 rw [Nat.pow_succ, Int.natCast_mul, ← Int.ediv_ediv_of_nonneg (Int.natCast_nonneg _)]; rfl
theorem twos_l0 (k : Nat) (n : Int) (hn : 1 ≤ n ∧ n ≤ 1152921504606846976) : ∀ (d e f g : Nat), e + d ≤ 61 → n / ((2 ^ e : Nat) : Int) < ((2 ^ d : Nat) : Int) → (e = 0 ∨ 3221225472 ≤ n / ((2 ^ e : Nat) : Int)) →
  ∃ e' : Nat, e' ≤ 61 ∧ (e' = 0 ∨ 3221225472 ≤ n / ((2 ^ e' : Nat) : Int)) ∧ n / ((2 ^ e' : Nat) : Int) < 6442450944 ∧
   spec_LogAt_l0 k (d + 1 + f) n 0 0 e (n / ((2 ^ e : Nat) : Int)) (-(-n / ((2 ^ e : Nat) : Int))) = some [.i 0, .i n, .i 0, .i 0, .i e', .i (n / ((2 ^ e' : Nat) : Int)), .i (-(-n / ((2 ^ e' : Nat) : Int)))] ∧
   impl_twosOf_l0 k (d + 1 + g) n 0 e = some [.i 0, .i n, .i 0, .i e'] := by
 intro d
 induction d with
 | zero =>
  intro e f g he h0 hi
  have hp : ((2 ^ 0 : Nat) : Int) = 1 := rfl
  refine ⟨e, by omega, hi, by omega, ?_, ?_⟩
  ·rw [show 0 + 1 + f = f + 1 by omega, spec_LogAt_l0, bif_f (leI_f (by omega))]
  ·rw [show 0 + 1 + g = g + 1 by omega, impl_twosOf_l0, bif_f (ltI_f (by omega))]
   dsimp only
   rw [shr_some _ _ (by omega), bif_f (leI_f (by omega))]
 | succ d ih =>
  intro e f g he h0 hi
  rw [show d + 1 + 1 + f = (d + 1 + f) + 1 by omega, show d + 1 + 1 + g = (d + 1 + g) + 1 by omega, spec_LogAt_l0, impl_twosOf_l0, bif_f (b := ltI (e : Int) 0) (ltI_f (by omega))]
  dsimp only
  rw [shr_some _ _ (by omega)]
  by_cases hc : 6442450944 ≤ n / ((2 ^ e : Nat) : Int)
  ·rw [bif_t (leI_t hc), bif_t (leI_t hc), wr ((e : Int) + 1) (by omega) (by omega), show (e : Int) + 1 = ((e + 1 : Nat) : Int) by omega, wu_id _ (by omega), bif_f (ltI_f (by omega)), wr (0 - n) (by omega) (by omega), bif_f (ltI_f (by omega)), shr_some _ _ (by omega), shr_some _ _ (by omega), show 0 - n = -n by omega]
   have hh := half_pow n e
   have hneg : -(9223372036854775807 : Int) ≤ -n / ((2 ^ (e + 1) : Nat) : Int) ∧ -n / ((2 ^ (e + 1) : Nat) : Int) ≤ 0 := by
    have hp : 0 < ((2 ^ (e + 1) : Nat) : Int) := by have := Nat.two_pow_pos (e + 1); omega
    constructor
    ·exact Int.le_trans (by omega) (Int.le_ediv_of_mul_le hp (show (-n) * ((2 ^ (e + 1) : Nat) : Int) ≤ -n by
      have := Int.mul_le_mul_of_nonneg_left (show (1 : Int) ≤ ((2 ^ (e + 1) : Nat) : Int) by omega) (show 0 ≤ n by omega)
      rw [Int.neg_mul]; omega))
    ·have := Int.ediv_le_of_le_mul (a := -n) (b := 0) hp (by omega)
     exact this
   rw [wr (0 - _) (by omega) (by omega), show 0 - -n / ((2 ^ (e + 1) : Nat) : Int) = -(-n / ((2 ^ (e + 1) : Nat) : Int)) by omega]
   have hp2 : ((2 ^ (d + 1) : Nat) : Int) = 2 * ((2 ^ d : Nat) : Int) := by rw [Nat.pow_succ]; omega
   exact ih (e + 1) f g (by omega) (by omega) (.inr (by omega))
  ·rw [bif_f (leI_f (by omega)), bif_f (leI_f (by omega))]
   exact ⟨e, by omega, hi, by omega, rfl, rfl⟩
theorem shl_some (x : Int) (e : Nat) (h : e ≤ 64) : x * 2 ^ min (Int.toNat (e : Int)) 64 = x * ((2 ^ e : Nat) : Int) := by rw [pow_lit e h]
theorem dbl_pow (n : Int) (e : Nat) : n * ((2 ^ (e + 1) : Nat) : Int) = 2 * (n * ((2 ^ e : Nat) : Int)) := by
 rw [Nat.pow_succ, Int.natCast_mul, ← Int.mul_assoc]; omega
theorem twos_l2 (k : Nat) (n : Int) (hn : 1 ≤ n) : ∀ (d j f g : Nat), j + d = 32 → ((2 ^ j : Nat) : Int) ≤ n * ((2 ^ j : Nat) : Int) → n * ((2 ^ j : Nat) : Int) < 6442450944 →
  ∃ j' : Nat, j' ≤ 32 ∧ n * ((2 ^ j' : Nat) : Int) < 6442450944 ∧ 0 < n * ((2 ^ j' : Nat) : Int) ∧
   spec_LogAt_l2 k (d + 1 + f) n 0 0 (-(j : Int)) (n * ((2 ^ j : Nat) : Int)) (n * ((2 ^ j : Nat) : Int)) = some [.i 0, .i n, .i 0, .i 0, .i (-(j' : Int)), .i (n * ((2 ^ j' : Nat) : Int)), .i (n * ((2 ^ j' : Nat) : Int))] ∧
   impl_twosOf_l2 k (d + 1 + g) n 0 (-(j : Int)) = some [.i 0, .i n, .i 0, .i (-(j' : Int))] := by
 intro d
 induction d with
 | zero =>
  intro j f g he h0 h1
  obtain rfl : j = 32 := by omega
  have hp : ((2 ^ 32 : Nat) : Int) = 4294967296 := rfl
  refine ⟨32, by omega, h1, by omega, ?_, ?_⟩
  ·rw [show 0 + 1 + f = f + 1 by omega, spec_LogAt_l2, bif_f (ltI_f (by omega))]
  ·rw [show 0 + 1 + g = g + 1 by omega, impl_twosOf_l2, bif_t (leI_t (by omega)), wr _ (by omega) (by omega), bif_f (ltI_f (by omega))]
   dsimp only
   rw [show (0 : Int) - -((32 : Nat) : Int) = ((32 : Nat) : Int) by omega, shl_some _ _ (by omega), wr _ (by omega) (by omega), bif_f (ltI_f (by omega))]
 | succ d ih =>
  intro j f g he h0 h1
  have hj : 0 < ((2 ^ j : Nat) : Int) := by have := Nat.two_pow_pos j; omega
  rw [show d + 1 + 1 + f = (d + 1 + f) + 1 by omega, show d + 1 + 1 + g = (d + 1 + g) + 1 by omega, spec_LogAt_l2, impl_twosOf_l2, bif_t (b := leI (-(j : Int)) 0) (leI_t (by omega)), wr (0 - -(j : Int)) (by omega) (by omega), show (0 : Int) - -(j : Int) = (j : Int) by omega, bif_f (b := ltI (j : Int) 0) (ltI_f (by omega))]
  dsimp only
  rw [shl_some _ j (by omega), wr (n * ((2 ^ j : Nat) : Int)) (by omega) (by omega)]
  by_cases hc : n * ((2 ^ j : Nat) : Int) < 3221225472
  ·have hd := dbl_pow n j
   rw [bif_t (ltI_t hc), bif_t (ltI_t hc), wr (-(j : Int) - 1) (by omega) (by omega), show -(j : Int) - 1 = -((j + 1 : Nat) : Int) by omega, wr (0 - _) (by omega) (by omega), show (0 : Int) - -((j + 1 : Nat) : Int) = ((j + 1 : Nat) : Int) by omega, wu_id _ (by omega), bif_f (b := ltI ((j + 1 : Nat) : Int) 0) (ltI_f (by omega)), shl_some _ (j + 1) (by omega), wr (n * ((2 ^ (j + 1) : Nat) : Int)) (by omega) (by omega), bif_f (b := ltI ((j + 1 : Nat) : Int) 0) (ltI_f (by omega))]
   refine ih (j + 1) f g (by omega) ?_ (by omega)
   have : ((2 ^ (j + 1) : Nat) : Int) = 2 * ((2 ^ j : Nat) : Int) := by rw [Nat.pow_succ]; omega
   omega
  ·rw [bif_f (ltI_f (by omega)), bif_f (ltI_f (by omega))]
   exact ⟨j, by omega, h1, by omega, rfl, rfl⟩
theorem twos_some (k : Nat) (hk : 700 ≤ k) (n : Int) (hn : 1 ≤ n ∧ n ≤ 1152921504606846976) : ∃ e a b, impl_twosOf k n = some [.i e] ∧
  ((spec_LogAt_l0 k k n 0 0 0 n n).bind fun t174 => spec_LogAt_l2 k k (gi t174 1) (gi t174 2) (gi t174 3) (gi t174 4) (gi t174 5) (gi t174 6)) = some [.i 0, .i n, .i 0, .i 0, .i e, .i a, .i b] ∧
  (0 < e ∧ e ≤ 61 ∧ Int.fdiv n (2 ^ min (Int.toNat e) 64) = a ∧ IntKind.wrap .i64 (0 - Int.fdiv (IntKind.wrap .i64 (0 - n)) (2 ^ min (Int.toNat e) 64)) = b ∨ e ≤ 0 ∧ -32 ≤ e ∧ a = b ∧ IntKind.wrap .i64 (n * 2 ^ min (Int.toNat (IntKind.wrap .i64 (0 - e))) 64) = a) := by
 obtain ⟨f, hf⟩ : ∃ f, k = 61 + 1 + f := ⟨k - 62, by omega⟩
 obtain ⟨f2, hf2⟩ : ∃ f, k = 32 + 1 + f := ⟨k - 33, by omega⟩
 have hp0 : ((2 ^ 0 : Nat) : Int) = 1 := rfl
 obtain ⟨e, he, hlow, hup, e1, e2⟩ := twos_l0 k n hn 61 0 f f (by omega) (by rw [hp0, show ((2 ^ 61 : Nat) : Int) = 2305843009213693952 from rfl]; omega) (.inl rfl)
 rw [← hf, hp0, Int.ediv_one, Int.ediv_one, Int.neg_neg] at e1
 rw [← hf] at e2
 unfold impl_twosOf
 rw [show ((0 : Nat) : Int) = 0 from rfl] at e1 e2
 rw [e1, e2]
 simp only [Option.bind_some, gi0, giS]
 by_cases h0 : e = 0
 ·subst h0
  rw [hp0, Int.ediv_one] at hup
  rw [hp0, Int.ediv_one, Int.ediv_one, Int.neg_neg]
  obtain ⟨j, hj, h1, h2, s1, s2⟩ := twos_l2 k n hn.1 32 0 f2 f2 (by omega) (by rw [hp0]; omega) (by rw [hp0]; omega)
  rw [← hf2, hp0, Int.mul_one] at s1
  rw [← hf2] at s2
  rw [show -((0 : Nat) : Int) = ((0 : Nat) : Int) from rfl] at s1 s2
  rw [s1, s2]
  refine ⟨-(j : Int), n * ((2 ^ j : Nat) : Int), n * ((2 ^ j : Nat) : Int), rfl, rfl, .inr ⟨by omega, by omega, rfl, ?_⟩⟩
  rw [wr (0 - _) (by omega) (by omega), show (0 : Int) - -(j : Int) = (j : Int) by omega, shl_some _ _ (by omega), wr _ (by omega) (by omega)]
 ·rcases hlow with h | h
  ·exact absurd h h0
  have hp : 0 < ((2 ^ e : Nat) : Int) := by have := Nat.two_pow_pos e; omega
  refine ⟨(e : Int), n / ((2 ^ e : Nat) : Int), -(-n / ((2 ^ e : Nat) : Int)), ?_, ?_, .inl ⟨by omega, by omega, shr_some _ _ (by omega), ?_⟩⟩
  ·rw [show impl_twosOf_l2 k k n 0 (e : Int) = impl_twosOf_l2 k (32 + f2 + 1) n 0 (e : Int) by rw [show 32 + f2 + 1 = k by omega], impl_twosOf_l2, bif_f (leI_f (by omega))]; rfl
  ·rw [show spec_LogAt_l2 k k n 0 0 (e : Int) = spec_LogAt_l2 k (32 + f2 + 1) n 0 0 (e : Int) by rw [show 32 + f2 + 1 = k by omega], spec_LogAt_l2, bif_f (ltI_f h)]
  ·have h1 : -n / ((2 ^ e : Nat) : Int) ≤ 0 := Int.ediv_le_of_le_mul (a := -n) (b := 0) hp (by omega)
   have h2 : -n ≤ -n / ((2 ^ e : Nat) : Int) := Int.le_ediv_of_mul_le hp (by
    have := Int.mul_le_mul_of_nonneg_left (show (1 : Int) ≤ ((2 ^ e : Nat) : Int) by omega) (show 0 ≤ n by omega)
    rw [Int.neg_mul]; omega)
   rw [wr (0 - n) (by omega) (by omega), show 0 - n = -n by omega, shr_some _ _ (by omega), wr _ (by omega) (by omega)]
   omega
noncomputable def logSt (k : Nat) (c : Int × Int) (i : Int) (p : Int × Int) : Int × Int := vAdd k (vQuo k 1 i) (vMul k c p)
theorem logS_l4 (k : Nat) (hk : 700 ≤ k) (x2 x3 x4 a b c d p q : Int) : ∃ u, spec_LogAt_l4 k k x2 x3 x4 a b c d p q 9 = some [.i 0, .i x2, .i x3, .i x4, .i a, .i b, .i c, .i d, .i u.1, .i u.2, .i (-1)] ∧ ∀ y2 y3 y4, impl_LogAt_l0 k k y2 y3 y4 a b c d p q 9 = some [.i 0, .i y2, .i y3, .i y4, .i a, .i b, .i c, .i d, .i (Prod.fst u), .i u.2, .i (-1)] := by
 obtain ⟨n, hn⟩ : ∃ n, k = n + 6 := ⟨k - 6, by omega⟩
 have q1 := quoD hk 1 9 (by decide)
 have q2 := quoD hk 1 7 (by decide)
 have q3 := quoD hk 1 5 (by decide)
 have q4 := quoD hk 1 3 (by decide)
 have q5 := quoD hk 1 1 (by decide)
 have w1 : IntKind.wrap .i64 ((9 : Int) - 2) = 7 := rfl
 have w2 : IntKind.wrap .i64 ((7 : Int) - 2) = 5 := rfl
 have w3 : IntKind.wrap .i64 ((5 : Int) - 2) = 3 := rfl
 have w4 : IntKind.wrap .i64 ((3 : Int) - 2) = 1 := rfl
 have w5 : IntKind.wrap .i64 ((1 : Int) - 2) = -1 := rfl
 have l1 : leI 1 9 = true := rfl
 have l2 : leI 1 7 = true := rfl
 have l3 : leI 1 5 = true := rfl
 have l4 : leI 1 3 = true := rfl
 have l5 : leI 1 1 = true := rfl
 have l6 : leI 1 (-1) = false := rfl
 refine ⟨logSt k (c, d) 1 (logSt k (c, d) 3 (logSt k (c, d) 5 (logSt k (c, d) 7 (logSt k (c, d) 9 (p, q))))), ?_, fun y2 y3 y4 => ?_⟩
 ·rw [show spec_LogAt_l4 k k = spec_LogAt_l4 k (n + 6) from by rw [← hn]]
  simp only [spec_LogAt_l4, l1, l2, l3, l4, l5, l6, w1, w2, w3, w4, w5, q1.1, q2.1, q3.1, q4.1, q5.1, ivr hk, Option.bind_some, pv0, pv1, gi0, giS, gb0, gbS, cond_true, cond_false, Bool.not_true, Bool.not_false, pair_eta]
  rfl
 ·rw [show impl_LogAt_l0 k k = impl_LogAt_l0 k (n + 6) from by rw [← hn]]
  simp only [impl_LogAt_l0, l1, l2, l3, l4, l5, l6, w1, w2, w3, w4, w5, q1.2, q2.2, q3.2, q4.2, q5.2, ivr hk, Option.bind_some, pv0, pv1, gi0, giS, gb0, gbS, cond_true, cond_false, Bool.not_true, Bool.not_false, pair_eta]
  rfl
theorem widen_same {k : Nat} (hk : 700 ≤ k) (a b : Int) : Same (spec_l08Widen k a b 1) (impl_widened k a b 1) := by
 unfold spec_l08Widen impl_widened
 simp only [ivb, ivr hk, Option.bind_some, pv0, pv1, gi0, giS, gb0, gbS, cond_true, cond_false, Bool.not_true, Bool.not_false, pair_eta]
 cases ivB a b
 ·exact same_refl _
 ·simp only [ivb, ivr hk, Option.bind_some, pv0, pv1, gi0, giS, gb0, gbS, cond_true, cond_false, Bool.not_true, Bool.not_false, pair_eta]
  exact same_refl _
noncomputable def vWid (k : Nat) (a : Int × Int) : Int × Int := iv (spec_l08Widen k a.1 a.2 1)
theorem widr {k : Nat} (hk : 700 ≤ k) (a b : Int) : spec_l08Widen k a b 1 = some (pv (vWid k (a, b))) ∧ impl_widened k a b 1 = some (pv (vWid k (a, b))) := same_rule (widen_same hk a b)
theorem one8 {k : Nat} (hk : 700 ≤ k) : spec_l08One k = some (pv (vInt k 1)) := by
 have : spec_l08One k = some [.i 4294967296, .i 4294967296] := by
  unfold spec_l08One spec_l08At; rw [make_some, mkIv_t (by decide)]; rfl
 rw [this, ← (one_some k).1]; exact ((ivr hk).2.2.2.2.2.2.2.2.1 1).1
theorem logAt_same {k : Nat} (hk : 700 ≤ k) (n : Int) : Same (spec_LogAt k n) (impl_LogAt k n) := by
 unfold spec_LogAt impl_LogAt
 rw [in_some, validFix_some]
 simp only [Option.bind_some, gb0]
 by_cases h : 1 ≤ n ∧ n ≤ 1152921504606846976
 ·rw [leI_t h.1, leI_t h.2, show fixB n = true from fixB_iff.2 ⟨by omega, h.2⟩, bif_f (b := leI n 0) (leI_f (by omega))]
  obtain ⟨e, a, b, t1, t2, t3⟩ := twos_some k hk n h
  simp only [Bool.and_self, Bool.not_true, cond_false]
  rw [Option.bind_eq_some_iff] at t2
  obtain ⟨t, u1, u2⟩ := t2
  rw [u1, t1]
  simp only [Option.bind_some]
  rw [u2]
  have q1 := quoD hk 1 11 (by decide)
  simp only [Option.bind_some, gi0, giS]
  rcases t3 with ⟨h0, h1, r1, r2⟩ | ⟨h0, h1, rfl, r1⟩
  ·rw [bif_t (ltI_t h0), bif_f (ltI_f (by omega)), bif_f (ltI_f (by omega)), r1, r2]
   simp only [ivb, one8 hk, q1, ln2r hk, widr hk, ivr hk, Option.bind_some, pv0, pv1, gi0, giS, gb0, gbS, cond_true, cond_false, Bool.not_true, Bool.not_false, pair_eta]
   obtain ⟨u, l1, l2⟩ := logS_l4 k hk 0 0 e (vDiv k (vSub k (a, b) (vInt k 1)) (vAdd k (a, b) (vInt k 1))).1 (vDiv k (vSub k (a, b) (vInt k 1)) (vAdd k (a, b) (vInt k 1))).2 (vSqr k (vDiv k (vSub k (a, b) (vInt k 1)) (vAdd k (a, b) (vInt k 1)))).1 (vSqr k (vDiv k (vSub k (a, b) (vInt k 1)) (vAdd k (a, b) (vInt k 1)))).2 (vQuo k 1 11).1 (vQuo k 1 11).2
   rw [l1, l2]
   simp only [ivb, one8 hk, q1, ln2r hk, widr hk, ivr hk, Option.bind_some, pv0, pv1, gi0, giS, gb0, gbS, cond_true, cond_false, Bool.not_true, Bool.not_false, pair_eta]
   exact same_refl _
  ·rw [bif_f (ltI_f (by omega)), wr (0 - e) (by omega) (by omega), bif_f (ltI_f (by omega))]
   rw [wr (0 - e) (by omega) (by omega)] at r1
   rw [r1]
   simp only [ivb, one8 hk, q1, ln2r hk, widr hk, ivr hk, Option.bind_some, pv0, pv1, gi0, giS, gb0, gbS, cond_true, cond_false, Bool.not_true, Bool.not_false, pair_eta]
   obtain ⟨u, l1, l2⟩ := logS_l4 k hk 0 0 e (vDiv k (vSub k (a, a) (vInt k 1)) (vAdd k (a, a) (vInt k 1))).1 (vDiv k (vSub k (a, a) (vInt k 1)) (vAdd k (a, a) (vInt k 1))).2 (vSqr k (vDiv k (vSub k (a, a) (vInt k 1)) (vAdd k (a, a) (vInt k 1)))).1 (vSqr k (vDiv k (vSub k (a, a) (vInt k 1)) (vAdd k (a, a) (vInt k 1)))).2 (vQuo k 1 11).1 (vQuo k 1 11).2
   rw [l1, l2]
   simp only [ivb, one8 hk, q1, ln2r hk, widr hk, ivr hk, Option.bind_some, pv0, pv1, gi0, giS, gb0, gbS, cond_true, cond_false, Bool.not_true, Bool.not_false, pair_eta]
   exact same_refl _
 ·have e1 : (leI 1 n && leI n 1152921504606846976) = false := by
   rw [Bool.and_eq_false_iff]
   by_cases h1 : 1 ≤ n
   ·exact .inr (leI_f (by omega))
   ·exact .inl (leI_f (by omega))
  rw [e1]
  cases hf : fixB n with
  | false => exact same_refl wv
  | true =>
   have := fixB_iff.1 hf
   rw [bif_t (b := leI n 0) (leI_t (by omega))]
   exact same_refl wv
noncomputable def vLogAt (k : Nat) (n : Int) : Int × Int := iv (spec_LogAt k n)
theorem logAtr {k : Nat} (hk : 700 ≤ k) (n : Int) : spec_LogAt k n = some (pv (vLogAt k n)) ∧ impl_LogAt k n = some (pv (vLogAt k n)) := same_rule (logAt_same hk n)
theorem ends_same {k : Nat} (hk : 700 ≤ k) (p q : Int × Int) : Same (spec_l08Ends k p.1 p.2 q.1 q.2) (bif (!(ivB p.1 p.2 && ivB q.1 q.2)) then some (pv wv) else some (pv (vMk p.1 q.2))) := by
 unfold spec_l08Ends
 simp only [ivb, ivr hk, Option.bind_some, pv0, pv1, gi0, giS, gb0, gbS, cond_true, cond_false, Bool.not_true, Bool.not_false, pair_eta]
 cases ivB p.1 p.2
 ·exact same_refl _
 ·cases ivB q.1 q.2 <;> exact same_refl _
noncomputable def vEnds (k : Nat) (p q : Int × Int) : Int × Int := iv (spec_l08Ends k p.1 p.2 q.1 q.2)
theorem endsr {k : Nat} (hk : 700 ≤ k) (p q : Int × Int) : spec_l08Ends k p.1 p.2 q.1 q.2 = some (pv (vEnds k p q)) ∧ (bif (!(ivB p.1 p.2 && ivB q.1 q.2)) then some (pv wv) else some (pv (vMk p.1 q.2))) = some (pv (vEnds k p q)) := same_rule (ends_same hk p q)
theorem logI_same {k : Nat} (hk : 700 ≤ k) (a b : Int) : Same (spec_LogI k a b) (impl_LogI k a b) := by
 unfold spec_LogI impl_LogI impl_monotonic_LogAt
 simp only [ivb, logAtr hk, ivr hk, Option.bind_some, pv0, pv1, gi0, giS, gb0, gbS, cond_true, cond_false, Bool.not_true, Bool.not_false, pair_eta]
 cases ivB a b
 ·exact same_refl _
 ·simp only [pv_fold, ivr hk, Option.bind_some, pv0, pv1, gi0, giS, gb0, gbS, cond_true, cond_false, Bool.not_true, Bool.not_false, pair_eta, endsr hk]
  exact same_refl _
noncomputable def vLog (k : Nat) (a : Int × Int) : Int × Int := iv (spec_LogI k a.1 a.2)
theorem logr {k : Nat} (hk : 700 ≤ k) (a b : Int) : spec_LogI k a b = some (pv (vLog k (a, b))) ∧ impl_LogI k a b = some (pv (vLog k (a, b))) := same_rule (logI_same hk a b)
end Go.Proofs.YtaimjfippclbcaaGreat.Ev
