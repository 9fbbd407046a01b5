/- Cosines, lengths of vectors, by both. No condition. -/
import Derived.Test.YtaimjfippclbcaaGreatPDir
namespace Go.Proofs.YtaimjfippclbcaaGreat.Ev
open Go Go.RowKit
set_option linter.unusedSimpArgs false
set_option linter.unusedVariables false
theorem cos_same {k : Nat} (hk : 700 ≤ k) (a b : Int) : Same (spec_CosI k a b) (impl_CosI k a b) := by
 obtain ⟨x, y, e1, e2⟩ := over_same k hk a b 1
 unfold spec_CosI impl_CosI
 rw [e1, e2]
 exact same_refl (x, y)
noncomputable def vCos (k : Nat) (a : Int × Int) : Int × Int := iv (spec_CosI k a.1 a.2)
theorem cosr {k : Nat} (hk : 700 ≤ k) (a b : Int) : spec_CosI k a b = some (pv (vCos k (a, b))) ∧ impl_CosI k a b = some (pv (vCos k (a, b))) := same_rule (cos_same hk a b)
theorem bxor_nn {x y : Int} (hx : 0 ≤ x ∧ x < 9223372036854775808) (hy : 0 ≤ y ∧ y < 9223372036854775808) : 0 ≤ bxor .i64 x y ∧ bxor .i64 x y < 9223372036854775808 := by
 obtain ⟨a, rfl⟩ := Int.eq_ofNat_of_zero_le hx.1
 obtain ⟨b, rfl⟩ := Int.eq_ofNat_of_zero_le hy.1
 unfold bxor
 have e : IntKind.wrap .i64 (((BitVec.ofInt 64 (a : Int) ^^^ BitVec.ofInt 64 (b : Int)).toNat : Nat) : Int) = ((a ^^^ b : Nat) : Int) := by
  rw [BitVec.toNat_xor, ofInt_toNat a (by omega), ofInt_toNat b (by omega)]
  have : a ^^^ b < 2 ^ 63 := Nat.xor_lt_two_pow (by omega) (by omega)
  exact wr _ (by omega) (by omega)
 have : a ^^^ b < 2 ^ 63 := Nat.xor_lt_two_pow (by omega) (by omega)
 show 0 ≤ IntKind.wrap .i64 (((BitVec.ofInt 64 (a : Int) ^^^ BitVec.ofInt 64 (b : Int)).toNat : Nat) : Int) ∧ IntKind.wrap .i64 (((BitVec.ofInt 64 (a : Int) ^^^ BitVec.ofInt 64 (b : Int)).toNat : Nat) : Int) < 9223372036854775808
 rw [e]
 omega
theorem band_nn {x y : Int} (hx : 0 ≤ x ∧ x < 9223372036854775808) (hy : 0 ≤ y ∧ y < 9223372036854775808) : 0 ≤ band .i64 x y := by
 obtain ⟨a, rfl⟩ := Int.eq_ofNat_of_zero_le hx.1
 obtain ⟨b, rfl⟩ := Int.eq_ofNat_of_zero_le hy.1
 unfold band
 show 0 ≤ IntKind.wrap .i64 (((BitVec.ofInt 64 (a : Int) &&& BitVec.ofInt 64 (b : Int)).toNat : Nat) : Int)
 rw [BitVec.toNat_and, ofInt_toNat a (by omega), ofInt_toNat b (by omega)]
 have : a &&& b ≤ a := Nat.and_le_left
 rw [wr _ (by omega) (by omega)]
 omega
theorem wideAdd_pos (k : Nat) (h1 l1 N1 h2 l2 N2 : Int) (w1 : Wd h1 l1 N1) (w2 : Wd h2 l2 N2) (p1 : 0 ≤ N1) (p2 : 0 ≤ N2) (hN : N1 + N2 < 170141183460469231731687303715884105728) : ∃ hi lo, impl_WideAdd k h1 l1 h2 l2 = some [.i hi, .i lo, .b true] ∧ Wd hi lo (N1 + N2) := by
 obtain ⟨a1, ⟨a2, a3⟩, a4, a5⟩ := w1
 obtain ⟨b1, ⟨b2, b3⟩, b4, b5⟩ := w2
 unfold impl_WideAdd
 rw [add64_some l1 l2 0 ⟨a2, a3⟩ ⟨b2, b3⟩ (by decide), wu h1 (by omega) (by omega), wu h2 (by omega) (by omega)]
 simp only [Option.bind_some, gi0, giS]
 rw [add64_some h1 h2 ((l1 + l2 + 0) / 18446744073709551616) ⟨by omega, by omega⟩ ⟨by omega, by omega⟩ (by omega)]
 simp only [Option.bind_some, gi0, giS]
 have hb : 0 ≤ h1 + h2 + (l1 + l2 + 0) / 18446744073709551616 ∧ h1 + h2 + (l1 + l2 + 0) / 18446744073709551616 < 9223372036854775808 := by omega
 rw [Int.emod_eq_of_lt hb.1 (by omega), wr _ (by omega) (by omega)]
 have x1 := bxor_nn (show 0 ≤ h1 ∧ h1 < 9223372036854775808 by omega) hb
 have x2 := bxor_nn (show 0 ≤ h2 ∧ h2 < 9223372036854775808 by omega) hb
 have x3 := band_nn x1 x2
 rw [bif_f (ltI_f x3)]
 exact ⟨_, _, rfl, by omega, ⟨by omega, by omega⟩, by omega, by omega⟩
def sq3 (a b c : Int) : Int := a * a + b * b + c * c
theorem sqB {a : Int} (h : 0 ≤ a ∧ a < 1152921504606846976) : 0 ≤ a * a ∧ a * a ≤ 1329227995784915872903807060280344576 := by
 have := mul_bd (show 0 ≤ a ∧ a ≤ 1152921504606846976 by omega) (show 0 ≤ a ∧ a ≤ 1152921504606846976 by omega)
 omega
theorem root_bd {r N : Int} (h0 : 0 ≤ r) (h : r * r ≤ N) (hN : N ≤ 21267647932558653966460912964485513216) : r ≤ 4611686018427387904 := sq_le h0 4611686018427387904 (by decide) (by omega)
theorem sumS (k : Nat) {a b c : Int} (ha : 0 ≤ a ∧ a < 1152921504606846976) (hb : 0 ≤ b ∧ b < 1152921504606846976) (hc : 0 ≤ c ∧ c < 1152921504606846976) : ∃ hi lo, spec_l10Sum k a b c = some [.i hi, .i lo] ∧ Wd hi lo (sq3 a b c) := by
 have qa := sqB ha
 have qb := sqB hb
 have qc := sqB hc
 obtain ⟨h1, l1, m1, w1, _⟩ := mul_some k a a ⟨by omega, by omega⟩ ⟨by omega, by omega⟩
 obtain ⟨h2, l2, m2, w2, _⟩ := mul_some k b b ⟨by omega, by omega⟩ ⟨by omega, by omega⟩
 obtain ⟨h3, l3, m3, w3, _⟩ := mul_some k c c ⟨by omega, by omega⟩ ⟨by omega, by omega⟩
 obtain ⟨h4, l4, m4, w4⟩ := plus_some k h1 l1 _ h2 l2 _ w1 w2 (by omega)
 obtain ⟨h5, l5, m5, w5⟩ := plus_some k h4 l4 _ h3 l3 _ w4 w3 (by omega)
 refine ⟨h5, l5, ?_, w5⟩
 unfold spec_l10Sum
 rw [m1, m2]
 simp only [Option.bind_some, gi0, giS]
 rw [m4, m3]
 simp only [Option.bind_some, gi0, giS]
 rw [m5]; rfl
theorem rootsI (k : Nat) (hk : 700 ≤ k) {a b c : Int} (ha : 0 ≤ a ∧ a < 1152921504606846976) (hb : 0 ≤ b ∧ b < 1152921504606846976) (hc : 0 ≤ c ∧ c < 1152921504606846976) : ∃ hi lo r, spec_l10Sum k a b c = some [.i hi, .i lo] ∧ Wd hi lo (sq3 a b c) ∧ (0 ≤ r ∧ r ≤ 4611686018427387904) ∧ r * r ≤ sq3 a b c ∧ sq3 a b c < (r + 1) * (r + 1) ∧ spec_l02Root k hi lo = some [.i r] ∧ impl_rootOfSquares k a b c = some [.i r, .i (bif decide (r * r = sq3 a b c) then r else r + 1)] := by
 have qa := sqB ha
 have qb := sqB hb
 have qc := sqB hc
 obtain ⟨hi, lo, s, w⟩ := sumS k ha hb hc
 have hN : 0 ≤ sq3 a b c ∧ sq3 a b c ≤ 21267647932558653966460912964485513216 := by unfold sq3; omega
 have hw := w
 obtain ⟨u1, ⟨u2, u3⟩, _, _⟩ := hw
 obtain ⟨r, r0, r1, r2, s1, s2⟩ := root_some k hk hi lo _ w (by omega)
 have rb := root_bd r0 r1 hN.2
 refine ⟨hi, lo, r, s, w, ⟨r0, rb⟩, r1, r2, ?_, ?_⟩
 ·unfold spec_l02Root
  rw [s1]; rfl
 ·obtain ⟨h1, l1, m1, w1⟩ := wideMul_some k a a ⟨by omega, by omega⟩ ⟨by omega, by omega⟩
  obtain ⟨h2, l2, m2, w2⟩ := wideMul_some k b b ⟨by omega, by omega⟩ ⟨by omega, by omega⟩
  obtain ⟨h3, l3, m3, w3⟩ := wideMul_some k c c ⟨by omega, by omega⟩ ⟨by omega, by omega⟩
  obtain ⟨h4, l4, m4, w4⟩ := wideAdd_pos k h1 l1 _ h2 l2 _ w1 w2 qa.1 qb.1 (by omega)
  obtain ⟨h5, l5, m5, w5⟩ := wideAdd_pos k h4 l4 _ h3 l3 _ w4 w3 (by omega) qc.1 (by omega)
  obtain ⟨h6, l6, m6, w6⟩ := wideMul_some k r r ⟨by omega, by omega⟩ ⟨by omega, by omega⟩
  obtain ⟨e1, e2⟩ := wd_uniq w w5
  subst e1; subst e2
  unfold impl_rootOfSquares impl_WideSqrt
  rw [m1, m2]
  simp only [Option.bind_some, gi0, giS]
  rw [m4, m3]
  simp only [Option.bind_some, gi0, giS]
  rw [m5]
  simp only [Option.bind_some, gi0, giS]
  rw [bif_f (ltI_f (show 0 ≤ hi by omega)), s2]
  simp only [Option.bind_some, gi0, giS]
  rw [wr r (by omega) (by omega), m6]
  simp only [Option.bind_some, gi0, giS]
  rw [wd_eq w6 w, wr (r + 1) (by omega) (by omega)]
  cases decide (r * r = sq3 a b c) <;> rfl
theorem sAbs_some (k : Nat) (a b p q : Int) (h : ivB a b = true) (e : spec_l04Ends k a b = some [.i p, .i q]) (hp : 0 ≤ p) (hpq : p ≤ q) (hq : q < 1152921504606846976) : spec_l10Ends k a b = some [.i p, .i q] := by
 unfold spec_l10Ends spec_AbsI
 rw [l04Ok_some, h, e]
 simp only [Option.bind_some, gb0, gi0, giS, Bool.not_true, cond_false]
 rw [make_some, mkIv_t (ivB_iff.2 ⟨by omega, hpq, hq⟩)]
 rfl
theorem norm_full {k : Nat} (hk : 700 ≤ k) (a b c d e f : Int) : ∃ p : Int × Int, spec_NormV k a b c d e f = some (pv p) ∧ impl_NormV k a b c d e f = some (pv p) ∧ (ivB p.1 p.2 = true ∨ p = wv) := by
 unfold spec_NormV impl_NormV
 simp only [ivb, ivr hk, Option.bind_some, pv0, pv1, gi0, giS, gb0, gbS, cond_true, cond_false, Bool.not_true, Bool.not_false, pair_eta]
 cases hA : ivB a b
 ·exact ⟨wv, rfl, rfl, .inr rfl⟩
 cases hB : ivB c d
 ·exact ⟨wv, rfl, rfl, .inr rfl⟩
 cases hC : ivB e f
 ·exact ⟨wv, rfl, rfl, .inr rfl⟩
 obtain ⟨p1, q1, s1, i1, g1, g2, _, g3⟩ := absI_some k a b hA
 obtain ⟨p2, q2, s2, i2, g4, g5, _, g6⟩ := absI_some k c d hB
 obtain ⟨p3, q3, s3, i3, g7, g8, _, g9⟩ := absI_some k e f hC
 rw [sAbs_some k a b p1 q1 hA s1 g1 g2 g3, sAbs_some k c d p2 q2 hB s2 g4 g5 g6, sAbs_some k e f p3 q3 hC s3 g7 g8 g9, i1, i2, i3]
 simp only [ivr hk, Option.bind_some, pv0, pv1, gi0, giS, gb0, gbS, cond_true, cond_false, Bool.not_true, Bool.not_false, pair_eta, Bool.and_self]
 obtain ⟨h1, l1, r1, t1, w1, rb1, ru1, rv1, ro1, rr1⟩ := rootsI k hk (a := p1) (b := p2) (c := p3) ⟨g1, by omega⟩ ⟨g4, by omega⟩ ⟨g7, by omega⟩
 obtain ⟨h2, l2, r2, t2, w2, rb2, ru2, rv2, ro2, rr2⟩ := rootsI k hk (a := q1) (b := q2) (c := q3) ⟨by omega, g3⟩ ⟨by omega, g6⟩ ⟨by omega, g9⟩
 rw [t1, t2, rr1, rr2]
 simp only [ivr hk, Option.bind_some, pv0, pv1, gi0, giS, gb0, gbS, cond_true, cond_false, Bool.not_true, Bool.not_false, pair_eta]
 rw [ro1, ro2]
 simp only [ivr hk, Option.bind_some, pv0, pv1, gi0, giS, gb0, gbS, cond_true, cond_false, Bool.not_true, Bool.not_false, pair_eta]
 obtain ⟨h6, l6, m6, w6, _⟩ := mul_some k r2 r2 ⟨by omega, by omega⟩ ⟨by omega, by omega⟩
 rw [wr r1 (by omega) (by omega), wr r2 (by omega) (by omega), m6]
 simp only [ivr hk, Option.bind_some, pv0, pv1, gi0, giS, gb0, gbS, cond_true, cond_false, Bool.not_true, Bool.not_false, pair_eta, ivb]
 rw [wd_eq w6 w2, wr (r2 + 1) (by omega) (by omega)]
 have hmono : sq3 p1 p2 p3 ≤ sq3 q1 q2 q3 := by
  have x1 : p1 * p1 ≤ q1 * q1 := Int.mul_le_mul g2 g2 g1 (by omega)
  have x2 : p2 * p2 ≤ q2 * q2 := Int.mul_le_mul g5 g5 g4 (by omega)
  have x3 : p3 * p3 ≤ q3 * q3 := Int.mul_le_mul g8 g8 g7 (by omega)
  unfold sq3; omega
 have hle : r1 ≤ r2 := by
  by_cases hh : r1 ≤ r2
  ·exact hh
  ·have : (r2 + 1) * (r2 + 1) ≤ r1 * r1 := Int.mul_le_mul (by omega) (by omega) (by omega) (by omega)
   omega
 have fin : ∀ u : Int, r1 ≤ u → ∃ p : Int × Int, (bif leI 1152921504606846976 u then some [D.i wv.1, .i wv.2] else some [.i r1, .i u]) = some (pv p) ∧ (some [D.i (vMk r1 u).1, .i (vMk r1 u).2]) = some (pv p) ∧ (ivB p.1 p.2 = true ∨ p = wv) := by
  intro u hu
  unfold vMk
  by_cases hh : 1152921504606846976 ≤ u
  ·rw [bif_t (leI_t hh), ivB_f.2 (by omega)]
   exact ⟨wv, rfl, rfl, .inr rfl⟩
  ·rw [bif_f (leI_f (by omega)), ivB_iff.2 ⟨by omega, hu, by omega⟩]
   exact ⟨(r1, u), rfl, rfl, .inl (ivB_iff.2 ⟨by omega, hu, by omega⟩)⟩
 cases decide (r2 * r2 = sq3 q1 q2 q3)
 ·exact fin (r2 + 1) (by omega)
 ·exact fin r2 hle
theorem norm_same {k : Nat} (hk : 700 ≤ k) (a b c d e f : Int) : Same (spec_NormV k a b c d e f) (impl_NormV k a b c d e f) := by
 obtain ⟨p, h1, h2, _⟩ := norm_full hk a b c d e f
 exact ⟨p, h1, h2⟩
noncomputable def vNorm (k : Nat) (a b c : Int × Int) : Int × Int := iv (spec_NormV k a.1 a.2 b.1 b.2 c.1 c.2)
theorem normr {k : Nat} (hk : 700 ≤ k) (a b c d e f : Int) : spec_NormV k a b c d e f = some (pv (vNorm k (a, b) (c, d) (e, f))) ∧ impl_NormV k a b c d e f = some (pv (vNorm k (a, b) (c, d) (e, f))) := same_rule (norm_same hk a b c d e f)
theorem norm_or {k : Nat} (hk : 700 ≤ k) (a b c : Int × Int) : ivB (vNorm k a b c).1 (vNorm k a b c).2 = true ∨ vNorm k a b c = wv := by
 obtain ⟨p, h1, _, h3⟩ := norm_full hk a.1 a.2 b.1 b.2 c.1 c.2
 have : p = vNorm k a b c := pv_inj' (Option.some.inj (h1.symm.trans (normr hk a.1 a.2 b.1 b.2 c.1 c.2).1))
 rw [← this]; exact h3
end Go.Proofs.YtaimjfippclbcaaGreat.Ev
