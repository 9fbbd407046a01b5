/- Wide numbers, by the reference: division with signs. No condition. -/
import Derived.Test.YtaimjfippclbcaaGreatPWideS
namespace Go.Proofs.YtaimjfippclbcaaGreat.Ev
open Go Go.RowKit
set_option linter.unusedSimpArgs false
set_option linter.unusedVariables false
theorem div_uniq {X d r N : Int} (h : X * d + r = N) (h0 : 0 ≤ r) (h1 : r < d) : N / d = X ∧ N % d = r := by
 have hd : 0 < d := by omega
 have := (Int.ediv_emod_unique hd (a := N) (r := r) (q := X)).2 ⟨by rw [← h, Int.mul_comm]; omega, h0, h1⟩
 exact this
theorem plus_some (k : Nat) (h1 l1 N1 h2 l2 N2 : Int) (w1 : Wd h1 l1 N1) (w2 : Wd h2 l2 N2) (hN : -170141183460469231731687303715884105728 ≤ N1 + N2 ∧ N1 + N2 < 170141183460469231731687303715884105728) : ∃ hi lo, spec_l02Plus k h1 l1 h2 l2 = some [.i hi, .i lo] ∧ Wd hi lo (N1 + N2) := by
 obtain ⟨a1, ⟨a2, a3⟩, a4, a5⟩ := w1
 obtain ⟨b1, ⟨b2, b3⟩, b4, b5⟩ := w2
 unfold spec_l02Plus
 rw [wu_mod]
 dsimp only
 by_cases h : (l1 + l2) % 18446744073709551616 < l1
 ·rw [bif_t (ltI_t h)]
  exact ⟨_, _, rfl, by rw [IntKind.wrap_i64, IntKind.wrap_i64]; omega, by omega, by rw [IntKind.wrap_i64, IntKind.wrap_i64]; omega, by rw [IntKind.wrap_i64, IntKind.wrap_i64]; omega⟩
 ·rw [bif_f (ltI_f (by omega))]
  exact ⟨_, _, rfl, by rw [IntKind.wrap_i64]; omega, by omega, by rw [IntKind.wrap_i64]; omega, by rw [IntKind.wrap_i64]; omega⟩
theorem ediv_small {h d : Int} (h0 : 0 ≤ h) (h1 : h < 9223372036854775808) (hd : 0 < d) : 0 ≤ h / d ∧ h / d < 9223372036854775808 := by
 have := Int.ediv_le_self d h0
 have := Int.ediv_nonneg h0 (show 0 ≤ d by omega)
 exact ⟨this, by have := Int.ediv_le_self d h0; omega⟩
theorem div_some (k : Nat) (hk : 66 ≤ k) (hi lo d N : Int) (h : Wd hi lo N) (hd : 0 < d ∧ d < 9223372036854775808) (hN : -85070591730234615865843651857942052864 ≤ N ∧ N ≤ 85070591730234615865843651857942052864) : ∃ qh ql, spec_l02Div k hi lo d = some [.i qh, .i ql, .i (N % d)] ∧ Wd qh ql (N / d) := by
 have hw := h
 obtain ⟨h1, ⟨h2, h3⟩, h4, h5⟩ := h
 unfold spec_l02Div
 rw [wu d (by omega) (by omega)]
 by_cases hp : 0 ≤ hi
 ·obtain ⟨q, r, e, e1, e2, e3, e4⟩ := divide_some k hk hi lo d ⟨hp, by omega⟩ ⟨h2, h3⟩ hd
  obtain ⟨u1, u2⟩ := div_uniq (e1.trans h1) e3 e4
  have hs := ediv_small hp h5 hd.1
  rw [bif_t (leI_t hp), wu hi hp (by omega), e, Option.bind_some]
  simp only [gi0, giS]
  rw [wr (hi / d) (by omega) (by omega), wr r (by omega) (by omega), u2]
  exact ⟨_, _, rfl, u1.symm, e2, by omega, by omega⟩
 ·obtain ⟨h', l', m1, m2⟩ := minus_some k hi lo N hw (by omega)
  obtain ⟨c1, ⟨c2, c3⟩, c4, c5⟩ := m2
  have hp' : 0 ≤ h' := by omega
  obtain ⟨q, r, e, e1, e2, e3, e4⟩ := divide_some k hk h' l' d ⟨hp', by omega⟩ ⟨c2, c3⟩ hd
  have hs := ediv_small hp' c5 hd.1
  have hX : ((h' / d) * 18446744073709551616 + q) * d + r = -N := e1.trans c1
  generalize hQ : h' / d = Q at *
  have hXb : 0 ≤ Q * 18446744073709551616 + q ∧ Q * 18446744073709551616 + q ≤ 85070591730234615865843651857942052864 := by
   refine ⟨by omega, ?_⟩
   have : (Q * 18446744073709551616 + q) * 1 ≤ (Q * 18446744073709551616 + q) * d := Int.mul_le_mul_of_nonneg_left (by omega) (by omega)
   omega
  obtain ⟨n1, n2, n3, n4⟩ := minus_some k Q q _ ⟨rfl, e2, by omega, by omega⟩ (by omega)
  rw [bif_f (leI_f (by omega)), m1, Option.bind_some]
  simp only [gi0, giS]
  rw [wu h' hp' (by omega), e, Option.bind_some]
  simp only [gi0, giS]
  rw [wr Q (by omega) (by omega), n3, Option.bind_some]
  simp only [gi0, giS]
  by_cases hr : r = 0
  ·have hz : (-(Q * 18446744073709551616 + q)) * d + 0 = N := by rw [Int.neg_mul]; omega
   obtain ⟨u1, u2⟩ := div_uniq hz (Int.le_refl 0) hd.1
   rw [bif_t (beq_t hr), u1, u2]
   exact ⟨_, _, rfl, n4⟩
  ·have hz : (-(Q * 18446744073709551616 + q) + -1) * d + (d - r) = N := by rw [Int.add_mul, Int.neg_mul]; omega
   obtain ⟨u1, u2⟩ := div_uniq hz (by omega) (by omega)
   obtain ⟨p1_, p2_, p3, p4⟩ := plus_some k n1 n2 _ (-1) 18446744073709551615 (-1) n4 ⟨by omega, by omega, by omega, by omega⟩ (by omega)
   rw [bif_f (beq_f hr), show spec_l02Of k (-1) = some [.i (-1), .i 18446744073709551615] from rfl, Option.bind_some]
   simp only [gi0, giS]
   rw [p3, Option.bind_some]
   simp only [gi0, giS]
   rw [wr r (by omega) (by omega), wr (d - r) (by omega) (by omega), u1, u2]
   exact ⟨_, _, rfl, p4⟩
theorem mulDivFloor_some (k : Nat) (hk : 66 ≤ k) (a b d : Int) (ha : I64 a) (hb : I64 b) (hd : I64 d) : spec_MulDivFloor k a b d = some (if d ≤ 0 then [.i 0, .b false] else intR (a * b / d)) := by
 unfold spec_MulDivFloor
 by_cases h : d ≤ 0
 ·rw [bif_t (leI_t h), if_pos h]
 ·obtain ⟨hi, lo, e, w, b1, b2⟩ := mul_some k a b ha hb
  obtain ⟨qh, ql, e', w'⟩ := div_some k hk hi lo d _ w ⟨by omega, by have := hd.2; omega⟩ ⟨b1, b2⟩
  rw [bif_f (leI_f (by omega)), if_neg h, e, Option.bind_some]
  simp only [gi0, giS]
  rw [e', Option.bind_some]
  simp only [gi0, giS]
  rw [int_some k _ _ _ w', Option.bind_some]
  unfold intR
  split <;> rfl
end Go.Proofs.YtaimjfippclbcaaGreat.Ev
