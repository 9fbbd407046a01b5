/- Lengths of vectors, angles between points, by both; RingPerimeter: the plain law. No condition. -/
import Derived.Test.YtbbgdeknaecljaaGreatPRingLaw
namespace Go.Proofs.YtbbgdeknaecljaaGreat.Ev
open Go Go.RowKit
set_option linter.unusedSimpArgs false
set_option linter.unusedVariables false
theorem cos_same {k : Nat} (hk : 700 ≤ k) (a b : Int) : Same (spec_CosI k a b) (impl_CosI k a b) := by
  obtain ⟨x, y, e1, e2⟩ := over_same k hk a b 1
  unfold spec_CosI impl_CosI
  rw [e1, e2]
  exact same_refl (x, y)
noncomputable def vCos (k : Nat) (a : Int × Int) : Int × Int := iv (spec_CosI k a.1 a.2)
theorem cosr {k : Nat} (hk : 700 ≤ k) (a b : Int) : spec_CosI k a b = some (pv (vCos k (a, b))) ∧ impl_CosI k a b = some (pv (vCos k (a, b))) := same_rule (cos_same hk a b)
theorem bxor_nn {x y : Int} (hx : 0 ≤ x ∧ x < 9223372036854775808) (hy : 0 ≤ y ∧ y < 9223372036854775808) : 0 ≤ bxor .i64 x y ∧ bxor .i64 x y < 9223372036854775808 := by
  obtain ⟨a, rfl⟩ := Int.eq_ofNat_of_zero_le hx.1
  obtain ⟨b, rfl⟩ := Int.eq_ofNat_of_zero_le hy.1
  unfold bxor
  have e : IntKind.wrap .i64 (((BitVec.ofInt 64 (a : Int) ^^^ BitVec.ofInt 64 (b : Int)).toNat : Nat) : Int) = ((a ^^^ b : Nat) : Int) := by
    rw [BitVec.toNat_xor, ofInt_toNat a (by omega), ofInt_toNat b (by omega)]
    have : a ^^^ b < 2 ^ 63 := Nat.xor_lt_two_pow (by omega) (by omega)
    exact wr _ (by omega) (by omega)
  have : a ^^^ b < 2 ^ 63 := Nat.xor_lt_two_pow (by omega) (by omega)
  show 0 ≤ IntKind.wrap .i64 (((BitVec.ofInt 64 (a : Int) ^^^ BitVec.ofInt 64 (b : Int)).toNat : Nat) : Int) ∧ IntKind.wrap .i64 (((BitVec.ofInt 64 (a : Int) ^^^ BitVec.ofInt 64 (b : Int)).toNat : Nat) : Int) < 9223372036854775808
  rw [e]
  omega
theorem band_nn {x y : Int} (hx : 0 ≤ x ∧ x < 9223372036854775808) (hy : 0 ≤ y ∧ y < 9223372036854775808) : 0 ≤ band .i64 x y := by
  obtain ⟨a, rfl⟩ := Int.eq_ofNat_of_zero_le hx.1
  obtain ⟨b, rfl⟩ := Int.eq_ofNat_of_zero_le hy.1
  unfold band
  show 0 ≤ IntKind.wrap .i64 (((BitVec.ofInt 64 (a : Int) &&& BitVec.ofInt 64 (b : Int)).toNat : Nat) : Int)
  rw [BitVec.toNat_and, ofInt_toNat a (by omega), ofInt_toNat b (by omega)]
  have : a &&& b ≤ a := Nat.and_le_left
  rw [wr _ (by omega) (by omega)]
  omega
theorem wideAdd_pos (k : Nat) (h1 l1 N1 h2 l2 N2 : Int) (w1 : Wd h1 l1 N1) (w2 : Wd h2 l2 N2) (p1 : 0 ≤ N1) (p2 : 0 ≤ N2) (hN : N1 + N2 < 170141183460469231731687303715884105728) : ∃ hi lo, impl_WideAdd k h1 l1 h2 l2 = some [.i hi, .i lo, .b true] ∧ Wd hi lo (N1 + N2) := by
  obtain ⟨a1, ⟨a2, a3⟩, a4, a5⟩ := w1
  obtain ⟨b1, ⟨b2, b3⟩, b4, b5⟩ := w2
  unfold impl_WideAdd
  rw [add64_some l1 l2 0 ⟨a2, a3⟩ ⟨b2, b3⟩ (by decide), wu h1 (by omega) (by omega), wu h2 (by omega) (by omega)]
  simp only [Option.bind_some, gi0, giS]
  rw [add64_some h1 h2 ((l1 + l2 + 0) / 18446744073709551616) ⟨by omega, by omega⟩ ⟨by omega, by omega⟩ (by omega)]
  simp only [Option.bind_some, gi0, giS]
  have hb : 0 ≤ h1 + h2 + (l1 + l2 + 0) / 18446744073709551616 ∧ h1 + h2 + (l1 + l2 + 0) / 18446744073709551616 < 9223372036854775808 := by omega
  rw [Int.emod_eq_of_lt hb.1 (by omega), wr _ (by omega) (by omega)]
  have x1 := bxor_nn (show 0 ≤ h1 ∧ h1 < 9223372036854775808 by omega) hb
  have x2 := bxor_nn (show 0 ≤ h2 ∧ h2 < 9223372036854775808 by omega) hb
  have x3 := band_nn x1 x2
  rw [bif_f (ltI_f x3)]
  exact ⟨_, _, rfl, by omega, ⟨by omega, by omega⟩, by omega, by omega⟩
/-- Three squares. -/
def sq3 (a b c : Int) : Int := a * a + b * b + c * c
theorem sqB {a : Int} (h : 0 ≤ a ∧ a < 1152921504606846976) : 0 ≤ a * a ∧ a * a ≤ 1329227995784915872903807060280344576 := by
  have := mul_bd (show 0 ≤ a ∧ a ≤ 1152921504606846976 by omega) (show 0 ≤ a ∧ a ≤ 1152921504606846976 by omega)
  omega
theorem root_bd {r N : Int} (h0 : 0 ≤ r) (h : r * r ≤ N) (hN : N ≤ 21267647932558653966460912964485513216) : r ≤ 4611686018427387904 := sq_le h0 4611686018427387904 (by decide) (by omega)
theorem sumS (k : Nat) {a b c : Int} (ha : 0 ≤ a ∧ a < 1152921504606846976) (hb : 0 ≤ b ∧ b < 1152921504606846976) (hc : 0 ≤ c ∧ c < 1152921504606846976) : ∃ hi lo, spec_l10Sum k a b c = some [.i hi, .i lo] ∧ Wd hi lo (sq3 a b c) := by
  have qa := sqB ha
  have qb := sqB hb
  have qc := sqB hc
  obtain ⟨h1, l1, m1, w1, _⟩ := mul_some k a a ⟨by omega, by omega⟩ ⟨by omega, by omega⟩
  obtain ⟨h2, l2, m2, w2, _⟩ := mul_some k b b ⟨by omega, by omega⟩ ⟨by omega, by omega⟩
  obtain ⟨h3, l3, m3, w3, _⟩ := mul_some k c c ⟨by omega, by omega⟩ ⟨by omega, by omega⟩
  obtain ⟨h4, l4, m4, w4⟩ := plus_some k h1 l1 _ h2 l2 _ w1 w2 (by omega)
  obtain ⟨h5, l5, m5, w5⟩ := plus_some k h4 l4 _ h3 l3 _ w4 w3 (by omega)
  refine ⟨h5, l5, ?_, w5⟩
  unfold spec_l10Sum
  rw [m1, m2]
  simp only [Option.bind_some, gi0, giS]
  rw [m4, m3]
  simp only [Option.bind_some, gi0, giS]
  rw [m5]; rfl
/-- The root of a sum of squares, rounded up if it is not whole. -/
theorem rootsI (k : Nat) (hk : 700 ≤ k) {a b c : Int} (ha : 0 ≤ a ∧ a < 1152921504606846976) (hb : 0 ≤ b ∧ b < 1152921504606846976) (hc : 0 ≤ c ∧ c < 1152921504606846976) : ∃ hi lo r, spec_l10Sum k a b c = some [.i hi, .i lo] ∧ Wd hi lo (sq3 a b c) ∧ (0 ≤ r ∧ r ≤ 4611686018427387904) ∧ r * r ≤ sq3 a b c ∧ sq3 a b c < (r + 1) * (r + 1) ∧ spec_l02Root k hi lo = some [.i r] ∧ impl_rootOfSquares k a b c = some [.i r, .i (bif decide (r * r = sq3 a b c) then r else r + 1)] := by
  have qa := sqB ha
  have qb := sqB hb
  have qc := sqB hc
  obtain ⟨hi, lo, s, w⟩ := sumS k ha hb hc
  have hN : 0 ≤ sq3 a b c ∧ sq3 a b c ≤ 21267647932558653966460912964485513216 := by unfold sq3; omega
  have hw := w
  obtain ⟨u1, ⟨u2, u3⟩, _, _⟩ := hw
  obtain ⟨r, r0, r1, r2, s1, s2⟩ := root_some k hk hi lo _ w (by omega)
  have rb := root_bd r0 r1 hN.2
  refine ⟨hi, lo, r, s, w, ⟨r0, rb⟩, r1, r2, ?_, ?_⟩
  · unfold spec_l02Root
    rw [s1]; rfl
  · obtain ⟨h1, l1, m1, w1⟩ := wideMul_some k a a ⟨by omega, by omega⟩ ⟨by omega, by omega⟩
    obtain ⟨h2, l2, m2, w2⟩ := wideMul_some k b b ⟨by omega, by omega⟩ ⟨by omega, by omega⟩
    obtain ⟨h3, l3, m3, w3⟩ := wideMul_some k c c ⟨by omega, by omega⟩ ⟨by omega, by omega⟩
    obtain ⟨h4, l4, m4, w4⟩ := wideAdd_pos k h1 l1 _ h2 l2 _ w1 w2 qa.1 qb.1 (by omega)
    obtain ⟨h5, l5, m5, w5⟩ := wideAdd_pos k h4 l4 _ h3 l3 _ w4 w3 (by omega) qc.1 (by omega)
    obtain ⟨h6, l6, m6, w6⟩ := wideMul_some k r r ⟨by omega, by omega⟩ ⟨by omega, by omega⟩
    obtain ⟨e1, e2⟩ := wd_uniq w w5
    subst e1; subst e2
    unfold impl_rootOfSquares impl_WideSqrt
    rw [m1, m2]
    simp only [Option.bind_some, gi0, giS]
    rw [m4, m3]
    simp only [Option.bind_some, gi0, giS]
    rw [m5]
    simp only [Option.bind_some, gi0, giS]
    rw [bif_f (ltI_f (show 0 ≤ hi by omega)), s2]
    simp only [Option.bind_some, gi0, giS]
    rw [wr r (by omega) (by omega), m6]
    simp only [Option.bind_some, gi0, giS]
    rw [wd_eq w6 w, wr (r + 1) (by omega) (by omega)]
    cases decide (r * r = sq3 a b c) <;> rfl
theorem sAbs_some (k : Nat) (a b p q : Int) (h : ivB a b = true) (e : spec_l04Ends k a b = some [.i p, .i q]) (hp : 0 ≤ p) (hpq : p ≤ q) (hq : q < 1152921504606846976) : spec_l10Ends k a b = some [.i p, .i q] := by
  unfold spec_l10Ends spec_AbsI
  rw [l04Ok_some, h, e]
  simp only [Option.bind_some, gb0, gi0, giS, Bool.not_true, cond_false]
  rw [make_some, mkIv_t (ivB_iff.2 ⟨by omega, hpq, hq⟩)]
  rfl
theorem norm_same {k : Nat} (hk : 700 ≤ k) (a b c d e f : Int) : Same (spec_NormV k a b c d e f) (impl_NormV k a b c d e f) := by
  unfold spec_NormV impl_NormV
  simp only [ivb, ivr hk, Option.bind_some, pv0, pv1, gi0, giS, gb0, gbS, cond_true, cond_false, Bool.not_true, Bool.not_false, pair_eta]
  cases hA : ivB a b
  · exact same_refl wv
  cases hB : ivB c d
  · exact same_refl wv
  cases hC : ivB e f
  · exact same_refl wv
  obtain ⟨p1, q1, s1, i1, g1, g2, _, g3⟩ := absI_some k a b hA
  obtain ⟨p2, q2, s2, i2, g4, g5, _, g6⟩ := absI_some k c d hB
  obtain ⟨p3, q3, s3, i3, g7, g8, _, g9⟩ := absI_some k e f hC
  rw [sAbs_some k a b p1 q1 hA s1 g1 g2 g3, sAbs_some k c d p2 q2 hB s2 g4 g5 g6, sAbs_some k e f p3 q3 hC s3 g7 g8 g9, i1, i2, i3]
  simp only [ivr hk, Option.bind_some, pv0, pv1, gi0, giS, gb0, gbS, cond_true, cond_false, Bool.not_true, Bool.not_false, pair_eta, Bool.and_self]
  obtain ⟨h1, l1, r1, t1, w1, rb1, ru1, rv1, ro1, rr1⟩ := rootsI k hk (a := p1) (b := p2) (c := p3) ⟨g1, by omega⟩ ⟨g4, by omega⟩ ⟨g7, by omega⟩
  obtain ⟨h2, l2, r2, t2, w2, rb2, ru2, rv2, ro2, rr2⟩ := rootsI k hk (a := q1) (b := q2) (c := q3) ⟨by omega, g3⟩ ⟨by omega, g6⟩ ⟨by omega, g9⟩
  rw [t1, t2, rr1, rr2]
  simp only [ivr hk, Option.bind_some, pv0, pv1, gi0, giS, gb0, gbS, cond_true, cond_false, Bool.not_true, Bool.not_false, pair_eta]
  rw [ro1, ro2]
  simp only [ivr hk, Option.bind_some, pv0, pv1, gi0, giS, gb0, gbS, cond_true, cond_false, Bool.not_true, Bool.not_false, pair_eta]
  obtain ⟨h6, l6, m6, w6, _⟩ := mul_some k r2 r2 ⟨by omega, by omega⟩ ⟨by omega, by omega⟩
  rw [wr r1 (by omega) (by omega), wr r2 (by omega) (by omega), m6]
  simp only [ivr hk, Option.bind_some, pv0, pv1, gi0, giS, gb0, gbS, cond_true, cond_false, Bool.not_true, Bool.not_false, pair_eta, ivb]
  rw [wd_eq w6 w2, wr (r2 + 1) (by omega) (by omega)]
  have hmono : sq3 p1 p2 p3 ≤ sq3 q1 q2 q3 := by
    have x1 : p1 * p1 ≤ q1 * q1 := Int.mul_le_mul g2 g2 g1 (by omega)
    have x2 : p2 * p2 ≤ q2 * q2 := Int.mul_le_mul g5 g5 g4 (by omega)
    have x3 : p3 * p3 ≤ q3 * q3 := Int.mul_le_mul g8 g8 g7 (by omega)
    unfold sq3; omega
  have hle : r1 ≤ r2 := by
    by_cases hh : r1 ≤ r2
    · exact hh
    · have : (r2 + 1) * (r2 + 1) ≤ r1 * r1 := Int.mul_le_mul (by omega) (by omega) (by omega) (by omega)
      omega
  have fin : ∀ u : Int, r1 ≤ u → Same (bif leI 1152921504606846976 u then some [.i wv.1, .i wv.2] else some [.i r1, .i u]) (some [.i (vMk r1 u).1, .i (vMk r1 u).2]) := by
    intro u hu
    unfold vMk
    by_cases hh : 1152921504606846976 ≤ u
    · rw [bif_t (leI_t hh), ivB_f.2 (by omega)]
      exact same_refl wv
    · rw [bif_f (leI_f (by omega)), ivB_iff.2 ⟨by omega, hu, by omega⟩]
      exact same_refl (r1, u)
  cases decide (r2 * r2 = sq3 q1 q2 q3)
  · exact fin (r2 + 1) (by omega)
  · exact fin r2 hle
noncomputable def vNorm (k : Nat) (a b c : Int × Int) : Int × Int := iv (spec_NormV k a.1 a.2 b.1 b.2 c.1 c.2)
theorem normr {k : Nat} (hk : 700 ≤ k) (a b c d e f : Int) : spec_NormV k a b c d e f = some (pv (vNorm k (a, b) (c, d) (e, f))) ∧ impl_NormV k a b c d e f = some (pv (vNorm k (a, b) (c, d) (e, f))) := same_rule (norm_same hk a b c d e f)
/-! ### Angles -/
theorem lonr {k : Nat} (hk : 700 ≤ k) (a b : Int) (h : PtB a b = true) : impl_LonOf k a b = some (pv (vRad k b)) := by
  unfold impl_LonOf
  simp only [point_some, h, ivr hk, Option.bind_some, pv0, pv1, gi0, giS, gb0, gbS, cond_true, cond_false, Bool.not_true, Bool.not_false, pair_eta]
  rfl
theorem vec_same {k : Nat} (hk : 700 ≤ k) (a b : Int) (h : PtB a b = true) : ∃ p q r, spec_l15Vec k a b = some [.i (Prod.fst p), .i p.2, .i (Prod.fst q), .i q.2, .i (Prod.fst r), .i r.2] ∧ impl_vectorOf k a b = some [.i p.1, .i p.2, .i q.1, .i q.2, .i r.1, .i r.2] := by
  unfold spec_l15Vec impl_vectorOf
  have e : vLat k a b = vRad k a := by unfold vLat; rw [h]; rfl
  simp only [cosr hk, latr hk, lonr hk a b h, e, ivr hk, Option.bind_some, pv0, pv1, gi0, giS, gb0, gbS, cond_true, cond_false, Bool.not_true, Bool.not_false, pair_eta]
  exact ⟨_, _, _, rfl, rfl⟩
theorem angle_same {k : Nat} (hk : 700 ≤ k) (a b c d : Int) (h1 : PtB a b = true) (h2 : PtB c d = true) : ∃ x y z, spec_AngleBetween k a b c d = some [.i x, .i y, .i z] ∧ impl_AngleBetween k a b c d = some [.i x, .i y, .i z] ∧ (z = 0 ∨ z = 9) := by
  obtain ⟨p1, p2, p3, e1, e2⟩ := vec_same hk a b h1
  obtain ⟨q1, q2, q3, e3, e4⟩ := vec_same hk c d h2
  unfold spec_AngleBetween impl_AngleBetween impl_areValid
  simp only [pt_some, point_some, h1, h2, ivr hk, Option.bind_some, pv0, pv1, gi0, giS, gb0, gbS, cond_true, cond_false, Bool.not_true, Bool.not_false, pair_eta]
  rw [e1, e2, e3, e4]
  unfold spec_l15Angle spec_CrossV impl_CrossV spec_DotV impl_DotV spec_l15Known
  simp only [normr hk, dirr hk, knownr, ivb, ivr hk, Option.bind_some, pv0, pv1, gi0, giS, gb0, gbS, cond_true, cond_false, Bool.not_true, Bool.not_false, pair_eta]
  generalize vDir k _ _ = w
  cases ivB w.1 w.2
  · exact ⟨_, _, _, rfl, rfl, .inr rfl⟩
  · exact ⟨_, _, _, rfl, rfl, .inl rfl⟩
theorem perim_l0 (k : Nat) (hk : 700 ≤ k) (xs : List (List D)) (hl : xs.length ≤ 1048576) (hc : ∀ i, i < xs.length → cornerB xs (i : Int) = true) : ∀ (d i n n' : Nat) (s : Int × Int), i + d = xs.length →
    ∃ v z z', ∃ g : Bool, spec_RingPerimeter_l0 k (d + 1 + n) xs 0 0 0 s.1 s.2 (i : Int) = some [.i (bif g then 0 else 1), .l xs, .i 0, .i 0, .i (bif g then 0 else 9), .i (Prod.fst v), .i v.2, .i z] ∧ impl_RingPerimeter_l0 k (d + 1 + n') xs 0 0 0 s.1 s.2 xs (xs.length : Int) (i : Int) = some [.i (bif g then 0 else 1), .l xs, .i 0, .i 0, .i (bif g then 0 else 9), .i (Prod.fst v), .i v.2, .l xs, .i xs.length, .i z']
  | 0, i, n, n', s, h => by
    refine ⟨s, i, i, true, ?_, ?_⟩
    · rw [show 0 + 1 + n = n + 1 by omega, spec_RingPerimeter_l0, bif_f (ltI_f (by omega))]; rfl
    · rw [show 0 + 1 + n' = n' + 1 by omega, impl_RingPerimeter_l0, bif_f (ltI_f (by omega))]; rfl
  | d + 1, i, n, n', s, h => by
    have hcb := hc i (by omega)
    unfold cornerB at hcb
    rw [Bool.and_eq_true] at hcb
    obtain ⟨g1, g2⟩ := EdgeB_pts hcb.1
    obtain ⟨x, y, z, e1, e2, hz⟩ := angle_same hk _ _ _ _ g1 g2
    rw [show d + 1 + 1 + n = (d + 1 + n) + 1 by omega, show d + 1 + 1 + n' = (d + 1 + n') + 1 by omega, spec_RingPerimeter_l0, impl_RingPerimeter_l0, bif_t (ltI_t (by omega)), bif_t (ltI_t (by omega)), bif_t (inR_t (by omega) (by omega)), bif_t (inR_t (by omega) (by omega)), (nextr k xs i (by omega) hl).1, (nextr k xs i (by omega) hl).2, Option.bind_some, Option.bind_some, wr_succ i (by omega)]
    simp only [gi0, giS]
    rw [e1, e2]
    rcases hz with rfl | rfl
    · simp only [ivr hk, Option.bind_some, pv0, pv1, gi0, giS, gb0, gbS, cond_true, cond_false, Bool.not_true, Bool.not_false, pair_eta]
      rw [bif_f (bne_f rfl), bif_f (bne_f rfl)]
      exact perim_l0 k hk xs hl hc d (i + 1) n n' (vAdd k s (x, y)) (by omega)
    · exact ⟨s, i, i, false, rfl, rfl⟩
theorem perim_same {k : Nat} (hk : 700 ≤ k) (xs : List (List D)) (hl : xs.length ≤ 1048576) (hx : xs.length < k) : ∃ x y z, spec_RingPerimeter k xs = some [.i x, .i y, .i z] ∧ impl_RingPerimeter k xs = some [.i x, .i y, .i z] := by
  unfold spec_RingPerimeter impl_RingPerimeter
  rw [(ringr k xs hl hx).1, (ringr k xs hl hx).2]
  simp only [ivr hk, Option.bind_some, pv0, pv1, gi0, giS, gb0, gbS, cond_true, cond_false, Bool.not_true, Bool.not_false, pair_eta]
  cases hr : RingB xs
  · exact ⟨_, _, _, rfl, rfl⟩
  · obtain ⟨n, hn⟩ : ∃ n, k = xs.length + 1 + n := ⟨k - (xs.length + 1), by omega⟩
    have hcs : ∀ i, i < xs.length → cornerB xs (i : Int) = true := fun i hi => by
      unfold RingB at hr
      rw [Bool.and_eq_true] at hr
      exact cornersB_at xs xs.length 0 hr.2 i (by omega) (by omega)
    obtain ⟨v, z, z', g, l1, l2⟩ := perim_l0 k hk xs hl hcs xs.length 0 n n (vInt k 0) (by omega)
    rw [← hn, show ((0 : Nat) : Int) = 0 from rfl] at l1 l2
    simp only [ivr hk, Option.bind_some, pv0, pv1, gi0, giS, gb0, gbS, cond_true, cond_false, Bool.not_true, Bool.not_false, pair_eta]
    rw [l1, l2]
    cases g
    · exact ⟨_, _, _, rfl, rfl⟩
    · simp only [ivr hk, Option.bind_some, pv0, pv1, gi0, giS, gb0, gbS, cond_true, cond_false, Bool.not_true, Bool.not_false, pair_eta, knownr]
      rw [bif_t (eqI_t rfl)]
      cases ivB v.1 v.2 <;> exact ⟨_, _, _, rfl, rfl⟩
theorem FnExactRingPerimeter_pure (zs : List (List Int)) (g1 : ∀ z ∈ zs, z.length = 2) (g2 : ∀ z ∈ zs, ∀ n ∈ z, (Lit.int .i64 n).wf = true) (g3 : zs.length ≤ 9223372036854775807) : ∃ k, laws_FnExactRingPerimeter k (zs.map fun z => z.map D.i) = some [.b true] := by
  generalize hx : (zs.map fun z => z.map D.i) = xs
  have hlen : xs.length = zs.length := by rw [← hx, List.length_map]
  refine ⟨700 + xs.length + 1, ?_⟩
  unfold laws_FnExactRingPerimeter
  rw [szPts_some _ xs 1048576 (by decide) (by decide) (by omega)]
  by_cases h : (1048576 : Int) < (xs.length : Int)
  · rw [if_pos h]; rfl
  · rw [if_neg h, Option.bind_some]
    simp only [gi0]
    rw [bif_f (ltI_f (by omega)), toPts_some _ xs (by omega) (by omega)]
    simp only [Option.bind_some, gl0]
    obtain ⟨x, y, z, e1, e2⟩ := perim_same (k := 700 + xs.length + 1) (by omega) (xs.map pt2) (by rw [map_len]; omega) (by rw [map_len]; omega)
    rw [e1, e2]
    simp only [Option.bind_some, gi0, giS, eqIv_refl, gb0, Bool.not_true, cond_false]
    rw [bif_f (bne_f rfl), eqPts_refl _ _ (by rw [map_len]; omega) (by rw [map_len]; omega)]
    rfl
end Go.Proofs.YtbbgdeknaecljaaGreat.Ev
