/- Wide numbers, by the program: what its operations compute. No condition. -/
import Derived.Test.YtpbmapaafnnoiaaGreatDoorPDiv64
namespace Go.Proofs.YtpbmapaafnnoiaaGreatDoor.Ev
open Go Go.RowKit
set_option linter.unusedSimpArgs false
set_option linter.unusedVariables false
theorem mul64_eq (k : Nat) (a b : Int) : bits_Mul64 k a b = spec_l02Times k a b := by
  unfold bits_Mul64 spec_l02Times
  dsimp only
  rw [Int.add_comm (band .u64 (IntKind.wrap .u64 (IntKind.wrap .u64 ((Int.fdiv a (2 ^ min (Int.toNat 32) 64)) * (band .u64 b 4294967295)) + Int.fdiv (IntKind.wrap .u64 ((band .u64 a 4294967295) * (band .u64 b 4294967295))) (2 ^ min (Int.toNat 32) 64))) 4294967295)]
theorem sgn_mul (a b : Int) : (a + 18446744073709551616) * (b + 18446744073709551616) = a * b + a * 18446744073709551616 + b * 18446744073709551616 + 340282366920938463463374607431768211456 := by grind
theorem wideMul_some (k : Nat) (a b : Int) (ha : I64 a) (hb : I64 b) : ∃ hi lo, impl_WideMul k a b = some [.i hi, .i lo] ∧ Wd hi lo (a * b) := by
  obtain ⟨_, _, _, _, m1, m2⟩ := mul_some k a b ha hb
  have ha' := ha
  have hb' := hb
  obtain ⟨a1, a2⟩ := ha'
  obtain ⟨b1, b2⟩ := hb'
  obtain ⟨hi, lo, e, h1, h2, h3, h4⟩ := times_some k (IntKind.wrap .u64 a) (IntKind.wrap .u64 b) (by rw [wu_mod]; omega) (by rw [wu_mod]; omega)
  unfold impl_WideMul
  rw [mul64_eq, e, Option.bind_some]
  simp only [gi0, giS]
  by_cases ca : a < 0 <;> by_cases cb : b < 0
  · rw [bif_t (ltI_t ca), bif_t (ltI_t cb)]
    rw [wu_mod, wu_mod, show a % 18446744073709551616 = a + 18446744073709551616 by omega, show b % 18446744073709551616 = b + 18446744073709551616 by omega, sgn_mul] at h1
    refine ⟨_, _, rfl, ?_, ⟨h3, h4⟩, ?_, ?_⟩ <;> (rw [wu_mod, wu_mod, wu_mod, wu_mod, IntKind.wrap_i64]; generalize a * b = p at *; omega)
  · rw [bif_t (ltI_t ca), bif_f (ltI_f (by omega))]
    rw [wu_mod, wu_mod, show a % 18446744073709551616 = a + 18446744073709551616 by omega, show b % 18446744073709551616 = b by omega, Int.add_mul] at h1
    refine ⟨_, _, rfl, ?_, ⟨h3, h4⟩, ?_, ?_⟩ <;> (rw [wu_mod, wu_mod, IntKind.wrap_i64]; generalize a * b = p at *; omega)
  · rw [bif_f (ltI_f (by omega)), bif_t (ltI_t cb)]
    rw [wu_mod, wu_mod, show b % 18446744073709551616 = b + 18446744073709551616 by omega, show a % 18446744073709551616 = a by omega, Int.mul_add] at h1
    refine ⟨_, _, rfl, ?_, ⟨h3, h4⟩, ?_, ?_⟩ <;> (rw [wu_mod, wu_mod, IntKind.wrap_i64]; generalize a * b = p at *; omega)
  · rw [bif_f (ltI_f (by omega)), bif_f (ltI_f (by omega))]
    rw [wu_mod, wu_mod, show b % 18446744073709551616 = b by omega, show a % 18446744073709551616 = a by omega] at h1
    refine ⟨_, _, rfl, ?_, ⟨h3, h4⟩, ?_, ?_⟩ <;> (rw [IntKind.wrap_i64]; generalize a * b = p at *; omega)
theorem wideOf_some (k : Nat) (n : Int) (h : I64 n) : impl_WideOf k n = some [.i (if n < 0 then -1 else 0), .i (n % 18446744073709551616)] := by
  obtain ⟨h1, h2⟩ := h
  unfold impl_WideOf
  rw [p63, fdiv_pos _ _ (by decide), wu_mod]
  split <;> (congr 2; congr 1; omega)
theorem wideInt_eq (k : Nat) (hi lo : Int) : impl_WideInt k hi lo = spec_l02Int k hi lo := by
  unfold impl_WideInt spec_l02Int
  rw [wideOf_some k _ (wr_range lo), of_some k _ (wr_range lo)]
theorem shift32_eq (k : Nat) (hi lo : Int) : impl_WideShift k hi lo 32 = spec_l02Shift k hi lo 32 := rfl
theorem shift30_eq (k : Nat) (hi lo : Int) : impl_WideShift k hi lo 30 = spec_l02Shift k hi lo 30 := rfl
theorem implMulFloor32_some (k : Nat) (a b : Int) (ha : I64 a) (hb : I64 b) : impl_MulFloor k a b 32 = some (intR (a * b / 4294967296)) := by
  obtain ⟨hi, lo, e, w⟩ := wideMul_some k a b ha hb
  obtain ⟨hi', lo', e', w'⟩ := shift32_some k hi lo _ w
  unfold impl_MulFloor
  rw [show impl_within k 32 0 126 = some [.b true] from rfl]
  simp only [Option.bind_some, gb0, Bool.not_true, cond_false, e, gi0, giS, shift32_eq, e', wideInt_eq, int_some k _ _ _ w']
  unfold intR
  split <;> rfl
theorem implMulFloor30_some (k : Nat) (a b : Int) (ha : I64 a) (hb : I64 b) : impl_MulFloor k a b 30 = some (intR (a * b / 1073741824)) := by
  obtain ⟨hi, lo, e, w⟩ := wideMul_some k a b ha hb
  obtain ⟨hi', lo', e', w'⟩ := shift30_some k hi lo _ w
  unfold impl_MulFloor
  rw [show impl_within k 30 0 126 = some [.b true] from rfl]
  simp only [Option.bind_some, gb0, Bool.not_true, cond_false, e, gi0, giS, shift30_eq, e', wideInt_eq, int_some k _ _ _ w']
  unfold intR
  split <;> rfl
theorem u64ok_t {x : Int} (h0 : 0 ≤ x) (h1 : x < 18446744073709551616) : u64ok x = true := by
  unfold u64ok; rw [decide_eq_true h0, decide_eq_true (by omega : x ≤ 18446744073709551615)]; rfl
theorem sub64_some (x y c : Int) (hx : 0 ≤ x ∧ x < 18446744073709551616) (hy : 0 ≤ y ∧ y < 18446744073709551616) (hc : 0 ≤ c ∧ c ≤ 1) : sub64 x y c = some [.i ((x - y - c) % 18446744073709551616), .i (if x < y + c then 1 else 0)] := by
  unfold sub64
  rw [u64ok_t hx.1 hx.2, u64ok_t hy.1 hy.2, decide_eq_true hc.1, decide_eq_true hc.2]; rfl
theorem add64_some (x y c : Int) (hx : 0 ≤ x ∧ x < 18446744073709551616) (hy : 0 ≤ y ∧ y < 18446744073709551616) (hc : 0 ≤ c ∧ c ≤ 1) : add64 x y c = some [.i ((x + y + c) % 18446744073709551616), .i ((x + y + c) / 18446744073709551616)] := by
  unfold add64
  rw [u64ok_t hx.1 hx.2, u64ok_t hy.1 hy.2, decide_eq_true hc.1, decide_eq_true hc.2]; rfl
theorem neg_some (k : Nat) (hi lo N : Int) (h : Wd hi lo N) (hN : -170141183460469231731687303715884105728 < N) : ∃ hi' lo', impl_Wide_negative k hi lo = some [.i hi', .i lo'] ∧ Wd hi' lo' (-N) := by
  obtain ⟨h1, ⟨h2, h3⟩, h4, h5⟩ := h
  unfold impl_Wide_negative
  rw [sub64_some 0 lo 0 (by omega) ⟨h2, h3⟩ (by omega), Option.bind_some]
  simp only [gi0, giS]
  have hb : (0 : Int) ≤ (if (0 : Int) < lo + 0 then 1 else 0) ∧ (if (0 : Int) < lo + 0 then 1 else 0 : Int) ≤ 1 := by split <;> omega
  rw [sub64_some 0 _ _ (by omega) (by rw [wu_mod]; omega) hb, Option.bind_some]
  simp only [gi0, giS]
  refine ⟨_, _, rfl, ?_, by omega, ?_, ?_⟩ <;> (rw [wu_mod, IntKind.wrap_i64]; split <;> omega)
theorem divided_some (k : Nat) (hk : 4 ≤ k) (hi lo d : Int) (h1 : 0 ≤ hi ∧ hi < 18446744073709551616) (h2 : 0 ≤ lo ∧ lo < 18446744073709551616) (h3 : 0 < d ∧ d < 9223372036854775808) :
    ∃ q r, impl_divided k hi lo d = some [.i (hi / d), .i q, .i r] ∧ ((hi / d) * 18446744073709551616 + q) * d + r = hi * 18446744073709551616 + lo ∧ (0 ≤ q ∧ q < 18446744073709551616) ∧ 0 ≤ r ∧ r < d := by
  have m0 := Int.emod_nonneg hi (show d ≠ 0 by omega)
  have m1 := Int.emod_lt_of_pos hi h3.1
  have m2 := Int.mul_ediv_add_emod hi d
  have hdv : hi / d ≤ hi := Int.ediv_le_self _ h1.1
  have hdn : 0 ≤ hi / d := Int.ediv_nonneg h1.1 (by omega)
  obtain ⟨q, r, e, e1, e2, e3⟩ := div64_some k hk (hi % d) lo d ⟨m0, m1⟩ h2 h3
  refine ⟨q, r, ?_, ?_, e2, e3⟩
  · unfold impl_divided
    rw [bif_f (eqI_f (by omega)), bif_f (eqI_f (by omega)), tmod_nn _ _ h1.1, tdiv_nn _ _ h1.1, e, Option.bind_some, wu _ hdn (by omega)]
    rfl
  · generalize hi / d = Q at *
    generalize hi % d = M at *
    grind
theorem wideDiv_some (k : Nat) (hk : 4 ≤ k) (hi lo d N : Int) (h : Wd hi lo N) (hd : 0 < d ∧ d < 9223372036854775808) (hN : -85070591730234615865843651857942052864 ≤ N ∧ N ≤ 85070591730234615865843651857942052864) : ∃ qh ql, impl_WideDiv k hi lo d = some [.i qh, .i ql, .i (N % d), .b true] ∧ Wd qh ql (N / d) := by
  have hw := h
  obtain ⟨h1, ⟨h2, h3⟩, h4, h5⟩ := h
  unfold impl_WideDiv
  rw [bif_f (leI_f (by omega)), wu d (by omega) (by omega)]
  by_cases hp : 0 ≤ hi
  · obtain ⟨q, r, e, e1, e2, e3, e4⟩ := divided_some k hk hi lo d ⟨hp, by omega⟩ ⟨h2, h3⟩ hd
    obtain ⟨u1, u2⟩ := div_uniq (e1.trans h1) e3 e4
    have hs := ediv_small hp h5 hd.1
    rw [bif_t (leI_t hp), wu hi hp (by omega), e, Option.bind_some]
    simp only [gi0, giS]
    rw [wr (hi / d) (by omega) (by omega), wr r (by omega) (by omega), u2]
    exact ⟨_, _, rfl, u1.symm, e2, by omega, by omega⟩
  · obtain ⟨h', l', m1, m2⟩ := neg_some k hi lo N hw (by omega)
    obtain ⟨c1, ⟨c2, c3⟩, c4, c5⟩ := m2
    have hp' : 0 ≤ h' := by omega
    obtain ⟨q, r, e, e1, e2, e3, e4⟩ := divided_some k hk h' l' d ⟨hp', by omega⟩ ⟨c2, c3⟩ hd
    have hs := ediv_small hp' c5 hd.1
    have hX : ((h' / d) * 18446744073709551616 + q) * d + r = -N := e1.trans c1
    generalize hQ : h' / d = Q at *
    have hXb : 0 ≤ Q * 18446744073709551616 + q ∧ Q * 18446744073709551616 + q ≤ 85070591730234615865843651857942052864 := by
      refine ⟨by omega, ?_⟩
      have : (Q * 18446744073709551616 + q) * 1 ≤ (Q * 18446744073709551616 + q) * d := Int.mul_le_mul_of_nonneg_left (by omega) (by omega)
      omega
    rw [bif_f (leI_f (by omega)), m1, Option.bind_some]
    simp only [gi0, giS]
    rw [wu h' hp' (by omega), e, Option.bind_some]
    simp only [gi0, giS]
    by_cases hr : r = 0
    · obtain ⟨n1, n2, n3, n4⟩ := neg_some k Q q _ ⟨rfl, e2, by omega, by omega⟩ (by omega)
      have hz : (-(Q * 18446744073709551616 + q)) * d + 0 = N := by rw [Int.neg_mul]; omega
      obtain ⟨u1, u2⟩ := div_uniq hz (Int.le_refl 0) hd.1
      rw [bif_t (beq_t hr), wr Q (by omega) (by omega), n3, Option.bind_some, u1, u2]
      exact ⟨_, _, rfl, n4⟩
    · have hz : (-(Q * 18446744073709551616 + q + 1)) * d + (d - r) = N := by rw [Int.neg_mul, Int.add_mul _ 1]; omega
      obtain ⟨u1, u2⟩ := div_uniq hz (by omega) (by omega)
      rw [bif_f (beq_f hr)]
      rw [add64_some q 1 0 e2 (by omega) (by omega), Option.bind_some]
      simp only [gi0, giS]
      rw [wu (Q + _) (by omega) (by omega), wr (Q + _) (by omega) (by omega)]
      obtain ⟨n1, n2, n3, n4⟩ := neg_some k (Q + (q + 1 + 0) / 18446744073709551616) ((q + 1 + 0) % 18446744073709551616) (Q * 18446744073709551616 + q + 1) ⟨by omega, by omega, by omega, by omega⟩ (by omega)
      rw [n3, Option.bind_some]
      simp only [gi0, giS]
      rw [wr r (by omega) (by omega), wr (d - r) (by omega) (by omega), u1, u2]
      exact ⟨_, _, rfl, n4⟩
theorem wideDiv_neg (k : Nat) (hi lo d : Int) (hd : d ≤ 0) : impl_WideDiv k hi lo d = some [.i 0, .i 0, .i 0, .b false] := by
  unfold impl_WideDiv
  rw [bif_t (leI_t hd)]
theorem implMulDivFloor_some (k : Nat) (hk : 4 ≤ k) (a b d : Int) (ha : I64 a) (hb : I64 b) (hd : I64 d) : impl_MulDivFloor k a b d = some (if d ≤ 0 then [.i 0, .b false] else intR (a * b / d)) := by
  obtain ⟨_, _, _, _, b1, b2⟩ := mul_some k a b ha hb
  obtain ⟨hi, lo, e, w⟩ := wideMul_some k a b ha hb
  unfold impl_MulDivFloor
  rw [e, Option.bind_some]
  simp only [gi0, giS]
  by_cases h : d ≤ 0
  · rw [wideDiv_neg k hi lo d h, if_pos h]; rfl
  · obtain ⟨qh, ql, e', w'⟩ := wideDiv_some k hk hi lo d _ w ⟨by omega, by have := hd.2; omega⟩ ⟨b1, b2⟩
    rw [if_neg h, e', Option.bind_some]
    simp only [gi0, giS, gb0, gbS, Bool.not_true, cond_false]
    rw [wideInt_eq, int_some k _ _ _ w', Option.bind_some]
    unfold intR
    split <;> rfl
/-- A quotient, rounded up. -/
def ceilR (a b d : Int) : List D := if -9223372036854775808 ≤ a * b / d ∧ a * b / d ≤ 9223372036854775807 then (if 0 < a * b % d then (if a * b / d = 9223372036854775807 then [.i 0, .b false] else [.i (a * b / d + 1), .b true]) else [.i (a * b / d), .b true]) else [.i 0, .b false]
end Go.Proofs.YtpbmapaafnnoiaaGreatDoor.Ev
