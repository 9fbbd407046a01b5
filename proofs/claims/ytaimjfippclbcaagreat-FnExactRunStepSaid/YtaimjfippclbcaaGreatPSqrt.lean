/- Square roots, by both. No condition. -/
import Derived.Test.YtaimjfippclbcaaGreatPVl
namespace Go.Proofs.YtaimjfippclbcaaGreat.Ev
open Go Go.RowKit
set_option linter.unusedSimpArgs false
set_option linter.unusedVariables false
theorem wd_uniq {h l h' l' N : Int} (w : Wd h l N) (w' : Wd h' l' N) : h = h' ∧ l = l' := by
 obtain ⟨h1, ⟨h2, h3⟩, _, _⟩ := w
 obtain ⟨g1, ⟨g2, g3⟩, _, _⟩ := w'
 omega
theorem wd_eq {h l N h' l' M : Int} (w : Wd h l N) (w' : Wd h' l' M) : ((h == h') && ((l == l') && true)) = decide (N = M) := by
 obtain ⟨h1, ⟨h2, h3⟩, _, _⟩ := w
 obtain ⟨g1, ⟨g2, g3⟩, _, _⟩ := w'
 by_cases e : N = M
 ·rw [beq_t (show h = h' by omega), beq_t (show l = l' by omega), decide_eq_true e]; rfl
 ·rw [decide_eq_false e]
  by_cases e1 : h = h'
  ·rw [beq_t e1, beq_f (show l ≠ l' by omega)]; rfl
  ·rw [beq_f e1]; rfl
theorem root_l0 (k : Nat) (hi lo N : Int) (w : Wd hi lo N) (h0 : 0 ≤ hi) : ∀ (d f g : Nat) (q : Int), d ≤ 64 → 0 ≤ q → ((2 ^ d : Nat) : Int) * q + ((2 ^ d : Nat) : Int) ≤ 18446744073709551616 → (((2 ^ d : Nat) : Int) * q) * (((2 ^ d : Nat) : Int) * q) ≤ N → N < (((2 ^ d : Nat) : Int) * q + ((2 ^ d : Nat) : Int)) * (((2 ^ d : Nat) : Int) * q + ((2 ^ d : Nat) : Int)) →
  ∃ r, 0 ≤ r ∧ r * r ≤ N ∧ N < (r + 1) * (r + 1) ∧ spec_l02Root_l0 k (d + 1 + f) hi lo 0 (((2 ^ d : Nat) : Int) * q) ((d : Int) - 1) = some [.i 0, .i hi, .i lo, .i 0, .i r, .i (-1)] ∧ impl_WideSqrt_l0 k (d + 1 + g) hi lo 0 false (((2 ^ d : Nat) : Int) * q) ((d : Int) - 1) = some [.i 0, .i hi, .i lo, .i 0, .b false, .i r, .i (-1)] := by
 obtain ⟨w1, ⟨w2, w3⟩, w4, w5⟩ := w
 intro d
 induction d with
 | zero =>
  intro f g q hd hq hs hN hM
  rw [show ((2 ^ 0 : Nat) : Int) = 1 from rfl, Int.one_mul] at *
  refine ⟨q, hq, hN, hM, ?_, ?_⟩
  ·rw [show 0 + 1 + f = f + 1 by omega, spec_l02Root_l0, bif_f (leI_f (by omega))]; rfl
  ·rw [show 0 + 1 + g = g + 1 by omega, impl_WideSqrt_l0, bif_f (leI_f (by omega))]; rfl
 | succ d ih =>
  intro f g q hd hq hs hN hM
  have e1 : ((d + 1 : Nat) : Int) - 1 = (d : Int) := by omega
  have hp : 1 ≤ ((2 ^ d : Nat) : Int) := by have := Nat.two_pow_pos d; omega
  have e2 : ((2 ^ (d + 1) : Nat) : Int) = 2 * ((2 ^ d : Nat) : Int) := by rw [Nat.pow_succ]; omega
  have e3 : ((2 ^ (d + 1) : Nat) : Int) * q = ((2 ^ d : Nat) : Int) * (2 * q) := by rw [e2, Int.mul_comm 2, Int.mul_assoc]
  have e4 : ((2 ^ d : Nat) : Int) * (2 * q + 1) = ((2 ^ d : Nat) : Int) * (2 * q) + ((2 ^ d : Nat) : Int) := by rw [Int.mul_add, Int.mul_one]
  have hx0 : 0 ≤ ((2 ^ (d + 1) : Nat) : Int) * q := Int.mul_nonneg (by omega) hq
  have hbor : bor .u64 (((2 ^ (d + 1) : Nat) : Int) * q) ((2 ^ d : Nat) : Int) = ((2 ^ (d + 1) : Nat) : Int) * q + ((2 ^ d : Nat) : Int) := bor_add q (d + 1) _ hq (by omega) (by omega) (by omega)
  rw [e1, show d + 1 + 1 + f = (d + 1 + f) + 1 by omega, show d + 1 + 1 + g = (d + 1 + g) + 1 by omega, spec_l02Root_l0, impl_WideSqrt_l0, bif_t (leI_t (by omega)), bif_t (leI_t (by omega)), wu (d : Int) (by omega) (by omega), bif_f (b := ltI (d : Int) 0) (ltI_f (by omega)), bif_f (b := ltI (d : Int) 0) (ltI_f (by omega)), wr ((d : Int) - 1) (by omega) (by omega)]
  dsimp only
  rw [mul64_eq, show IntKind.wrap .u64 (1 * 2 ^ min (Int.toNat (d : Int)) 64) = ((2 ^ d : Nat) : Int) by rw [pow_lit d (by omega), Int.one_mul, wu _ (by omega) (by omega)], hbor]
  obtain ⟨p, s, t1, t2, t3, t4, t5⟩ := times_some k (((2 ^ (d + 1) : Nat) : Int) * q + ((2 ^ d : Nat) : Int)) (((2 ^ (d + 1) : Nat) : Int) * q + ((2 ^ d : Nat) : Int)) ⟨by omega, by omega⟩ ⟨by omega, by omega⟩
  rw [t1, wu hi h0 (by omega)]
  simp only [Option.bind_some, gi0, giS]
  have up : ((2 ^ (d + 1) : Nat) : Int) * q + ((2 ^ (d + 1) : Nat) : Int) = ((2 ^ d : Nat) : Int) * (2 * q + 1) + ((2 ^ d : Nat) : Int) := by rw [e3, e4, e2]; omega
  rw [up] at hM hs
  have yes := ih f g (2 * q + 1) (by omega) (by omega) hs
  have no := ih f g (2 * q) (by omega) (by omega) (by omega)
  rw [← e3] at no
  rw [e4, ← e3] at yes hM
  generalize ((2 ^ (d + 1) : Nat) : Int) * q = x at *
  generalize ((2 ^ d : Nat) : Int) = y at *
  by_cases c1 : p < hi
  ·rw [bif_t (ltI_t c1), bif_t (ltI_t c1)]
   exact yes (by omega) hM
  ·rw [bif_f (ltI_f (by omega)), bif_f (ltI_f (by omega))]
   by_cases c2 : p = hi
   ·rw [bif_t (beq_t c2), bif_t (beq_t c2)]
    by_cases c3 : s ≤ lo
    ·rw [bif_t (leI_t c3), bif_t (leI_t c3)]
     exact yes (by omega) hM
    ·rw [bif_f (leI_f (by omega)), bif_f (leI_f (by omega))]
     exact no hN (by omega)
   ·rw [bif_f (beq_f c2), bif_f (beq_f c2)]
    exact no hN (by omega)
theorem root_some (k : Nat) (hk : 700 ≤ k) (hi lo N : Int) (w : Wd hi lo N) (h0 : 0 ≤ hi) : ∃ r, 0 ≤ r ∧ r * r ≤ N ∧ N < (r + 1) * (r + 1) ∧ spec_l02Root_l0 k k hi lo 0 0 63 = some [.i 0, .i hi, .i lo, .i 0, .i r, .i (-1)] ∧ impl_WideSqrt_l0 k k hi lo 0 false 0 63 = some [.i 0, .i hi, .i lo, .i 0, .b false, .i r, .i (-1)] := by
 obtain ⟨n, hn⟩ : ∃ n, k = 64 + 1 + n := ⟨k - 65, by omega⟩
 have hw := w
 obtain ⟨u1, ⟨u2, u3⟩, _, _⟩ := hw
 have e : ((2 ^ 64 : Nat) : Int) = 18446744073709551616 := rfl
 obtain ⟨r, r0, r1, r2, s1, s2⟩ := root_l0 k hi lo N w h0 64 n n 0 (by omega) (by omega) (by rw [e]; omega) (by rw [e]; omega) (by rw [e]; omega)
 rw [← hn, show ((64 : Nat) : Int) - 1 = 63 from rfl, Int.mul_zero] at s1 s2
 exact ⟨r, r0, r1, r2, s1, s2⟩
theorem sqrtFloor_same {k : Nat} (hk : 700 ≤ k) (a b : Int) (ha : 0 ≤ a ∧ a ≤ 9223372036854775807) (hb : 0 ≤ b ∧ b ≤ 9223372036854775807) : ∃ r, 0 ≤ r ∧ r * r ≤ a * b ∧ spec_SqrtFloor k a b = some [.i (IntKind.wrap .i64 r), .b true] ∧ impl_SqrtFloor k a b = some [.i (IntKind.wrap .i64 r), .b true] := by
 obtain ⟨hi, lo, e1, w1, _⟩ := mul_some k a b ⟨by omega, by omega⟩ ⟨by omega, by omega⟩
 obtain ⟨hi', lo', e2, w2⟩ := wideMul_some k a b ⟨by omega, by omega⟩ ⟨by omega, by omega⟩
 obtain ⟨rfl, rfl⟩ := wd_uniq w1 w2
 have hp : 0 ≤ a * b := Int.mul_nonneg ha.1 hb.1
 have hw := w1
 obtain ⟨u1, ⟨u2, u3⟩, _, _⟩ := hw
 obtain ⟨r, r0, r1, _, s1, s2⟩ := root_some k hk hi lo (a * b) w1 (by omega)
 refine ⟨r, r0, r1, ?_, ?_⟩
 ·unfold spec_SqrtFloor spec_l02Root
  rw [bif_f (ltI_f ha.1), bif_f (ltI_f hb.1), e1, Option.bind_some]
  simp only [gi0, giS]
  rw [s1]; rfl
 ·unfold impl_SqrtFloor impl_WideSqrt
  rw [bif_f (ltI_f ha.1), bif_f (ltI_f hb.1), e2, Option.bind_some]
  simp only [gi0, giS]
  rw [bif_f (ltI_f (show 0 ≤ hi by omega)), s2]; rfl
theorem sq_le {r : Int} (h0 : 0 ≤ r) (B : Int) (hB : 0 ≤ B) (h : r * r ≤ B * B) : r ≤ B := by
 by_cases c : r ≤ B
 ·exact c
 ·have h1 : (B + 1) * (B + 1) ≤ r * r := Int.mul_le_mul (by omega) (by omega) (by omega) h0
  have h2 : (B + 1) * (B + 1) = B * B + B + B + 1 := by rw [Int.mul_add, Int.add_mul]; omega
  omega
theorem sqrtDown_pos {k : Nat} (hk : 700 ≤ k) (a : Int) (h : 0 ≤ a ∧ a ≤ 1152921504606846976) : ∃ r, (0 ≤ r ∧ r ≤ 70368744177664) ∧ r * r ≤ a * 4294967296 ∧ spec_l03SqrtDown k a = some [.i r, .b true] ∧ impl_SqrtDown k a = some [.i r, .b true] := by
 obtain ⟨r, r0, r1, s1, s2⟩ := sqrtFloor_same hk a 4294967296 (by omega) (by omega)
 have hr := sq_le r0 70368744177664 (by decide) (by omega)
 rw [wr r (by omega) (by omega)] at s1 s2
 refine ⟨r, ⟨r0, hr⟩, r1, ?_, ?_⟩
 ·unfold spec_l03SqrtDown
  rw [in_some, leI_t h.1, leI_t h.2, s1]; rfl
 ·unfold impl_SqrtDown
  rw [validFix_some, show fixB a = true from fixB_iff.2 ⟨by omega, h.2⟩, s2]
  simp only [Option.bind_some, gb0, gi0, gbS, Bool.not_true, cond_false, fixed_some]
  unfold endR
  rw [show fixB r = true from fixB_iff.2 ⟨by omega, by omega⟩]; rfl
theorem band_i64 (x : Int) : band .i64 x 4294967295 = x % 4294967296 := by
 unfold band
 show IntKind.wrap .i64 (((BitVec.ofInt 64 x &&& BitVec.ofInt 64 4294967295).toNat : Nat) : Int) = _
 rw [BitVec.toNat_and, show (BitVec.ofInt 64 4294967295).toNat = 2 ^ 32 - 1 from rfl, Nat.and_two_pow_sub_one_eq_mod, BitVec.toNat_ofInt, IntKind.wrap_i64]
 omega
theorem sqrtUp_pos {k : Nat} (hk : 700 ≤ k) (a : Int) (h : 0 ≤ a ∧ a ≤ 1152921504606846976) : ∃ r, fixB r = true ∧ spec_l03SqrtUp k a = some [.i r, .b true] ∧ impl_SqrtUp k a = some [.i r, .b true] := by
 obtain ⟨r, ⟨r0, r1⟩, r2, s1, s2⟩ := sqrtDown_pos hk a h
 obtain ⟨h1, l1, m1, w1⟩ := wideMul_some k r r ⟨by omega, by omega⟩ ⟨by omega, by omega⟩
 obtain ⟨h2, l2, m2, w2⟩ := wideMul_some k a 4294967296 ⟨by omega, by omega⟩ ⟨by omega, by omega⟩
 have hm := mulFloor32_some k r r ⟨by omega, by omega⟩ ⟨by omega, by omega⟩
 have hb := mul_bd (show 0 ≤ r ∧ r ≤ 70368744177664 from ⟨r0, r1⟩) (show 0 ≤ r ∧ r ≤ 70368744177664 from ⟨r0, r1⟩)
 rw [intR_in (by omega) (by omega)] at hm
 unfold spec_l03SqrtUp impl_SqrtUp
 rw [s1, s2]
 simp only [Option.bind_some, gb0, gi0, giS, gbS, Bool.not_true, cond_false, cond_true]
 rw [hm, m1, m2]
 simp only [Option.bind_some, gb0, gi0, giS, gbS]
 rw [wd_eq w1 w2, wr (r + 1) (by omega) (by omega), band_i64, fixed_some, fixed_some]
 unfold endR
 rw [show fixB r = true from fixB_iff.2 ⟨by omega, by omega⟩, show fixB (r + 1) = true from fixB_iff.2 ⟨by omega, by omega⟩]
 have hw : IntKind.wrap .i64 (r * r) % 4294967296 = (r * r) % 4294967296 := by rw [IntKind.wrap_i64]; omega
 rw [hw]
 by_cases e : r * r = a * 4294967296
 ·rw [decide_eq_true e, bif_f (bne_f (by omega)), bif_f (bne_f (by omega))]
  exact ⟨r, fixB_iff.2 ⟨by omega, by omega⟩, rfl, rfl⟩
 ·rw [decide_eq_false e]
  refine ⟨r + 1, fixB_iff.2 ⟨by omega, by omega⟩, ?_, rfl⟩
  by_cases e1 : r * r / 4294967296 = a
  ·rw [bif_f (bne_f e1), bif_t (bne_t (by omega))]
  ·rw [bif_t (bne_t e1)]
theorem sqrtI_same {k : Nat} (hk : 700 ≤ k) (a b : Int) : Same (spec_SqrtI k a b) (impl_SqrtI k a b) := by
 unfold spec_SqrtI impl_SqrtI
 simp only [ivb, ivr hk, Option.bind_some, pv0, pv1, gi0, giS, gb0, gbS, cond_true, cond_false, Bool.not_true, Bool.not_false, pair_eta]
 cases hv : ivB a b
 ·exact same_refl _
 ·have hv' := ivB_iff.1 hv
  simp only [ivr hk, Option.bind_some, pv0, pv1, gi0, giS, gb0, gbS, cond_true, cond_false, Bool.not_true, Bool.not_false, pair_eta]
  by_cases h : a < 0
  ·rw [bif_t (ltI_t h), bif_t (ltI_t h)]
   exact same_refl _
  ·rw [bif_f (ltI_f (by omega)), bif_f (ltI_f (by omega))]
   obtain ⟨r, _, _, s1, s2⟩ := sqrtDown_pos hk a (by omega)
   obtain ⟨q, _, t1, t2⟩ := sqrtUp_pos hk b (by omega)
   rw [s1, s2, t1, t2]
   simp only [ivb, ivr hk, Option.bind_some, pv0, pv1, gi0, giS, gb0, gbS, cond_true, cond_false, Bool.not_true, Bool.not_false, pair_eta]
   exact same_refl _
noncomputable def vSqrt (k : Nat) (a : Int × Int) : Int × Int := iv (spec_SqrtI k a.1 a.2)
theorem sqrtr {k : Nat} (hk : 700 ≤ k) (a b : Int) : spec_SqrtI k a b = some (pv (vSqrt k (a, b))) ∧ impl_SqrtI k a b = some (pv (vSqrt k (a, b))) := same_rule (sqrtI_same hk a b)
end Go.Proofs.YtaimjfippclbcaaGreat.Ev
