/- Arc sines, by both. No condition. -/
import Derived.Test.YtaimjfippclbcaaGreatPAtan
namespace Go.Proofs.YtaimjfippclbcaaGreat.Ev
open Go Go.RowKit
set_option linter.unusedSimpArgs false
set_option linter.unusedVariables false
theorem circ_same {k : Nat} (hk : 700 ≤ k) (n : Int) : Same (spec_CircleAt k n) (impl_CircleAt k n) := by
 unfold spec_CircleAt impl_CircleAt
 rw [in_some, within_some]
 simp only [ivb, ivr hk, Option.bind_some, pv0, pv1, gi0, giS, gb0, gbS, cond_true, cond_false, Bool.not_true, Bool.not_false, pair_eta]
 cases h : (leI (-4294967296) n && leI n 4294967296)
 ·exact same_refl _
 ·simp only [Bool.and_eq_true, leI_iff] at h
  rw [wr (4294967296 - n) (by omega) (by omega), wr (4294967296 + n) (by omega) (by omega)]
  obtain ⟨r, r0, r1, s1, s2⟩ := sqrtFloor_same hk (4294967296 - n) (4294967296 + n) (by omega) (by omega)
  have hb := mul_bd (show 0 ≤ 4294967296 - n ∧ 4294967296 - n ≤ 8589934592 by omega) (show 0 ≤ 4294967296 + n ∧ 4294967296 + n ≤ 8589934592 by omega)
  have hr := sq_le r0 8589934592 (by decide) (Int.le_trans r1 (by omega))
  rw [wr r (by omega) (by omega)] at s1 s2
  rw [s1, s2]
  obtain ⟨h1, l1, m1, w1, _⟩ := mul_some k r r ⟨by omega, by omega⟩ ⟨by omega, by omega⟩
  obtain ⟨h2, l2, m2, w2, _⟩ := mul_some k (4294967296 - n) (4294967296 + n) ⟨by omega, by omega⟩ ⟨by omega, by omega⟩
  obtain ⟨h3, l3, m3, w3⟩ := wideMul_some k r r ⟨by omega, by omega⟩ ⟨by omega, by omega⟩
  obtain ⟨h4, l4, m4, w4⟩ := wideMul_some k (4294967296 - n) (4294967296 + n) ⟨by omega, by omega⟩ ⟨by omega, by omega⟩
  unfold spec_WideMul
  simp only [ivr hk, Option.bind_some, pv0, pv1, gi0, giS, gb0, gbS, cond_true, cond_false, Bool.not_true, Bool.not_false, pair_eta]
  rw [m1, m2, m3, m4]
  simp only [ivr hk, Option.bind_some, pv0, pv1, gi0, giS, gb0, gbS, cond_true, cond_false, Bool.not_true, Bool.not_false, pair_eta]
  rw [wd_eq w1 w2, wd_eq w3 w4]
  cases decide (r * r = (4294967296 - n) * (4294967296 + n))
  ·exact same_refl (_, _)
  ·exact same_refl (_, _)
noncomputable def vCirc (k : Nat) (n : Int) : Int × Int := iv (spec_CircleAt k n)
theorem circr {k : Nat} (hk : 700 ≤ k) (n : Int) : spec_CircleAt k n = some (pv (vCirc k n)) ∧ impl_CircleAt k n = some (pv (vCirc k n)) := same_rule (circ_same hk n)
theorem asinAt_same {k : Nat} (hk : 700 ≤ k) (n : Int) : Same (spec_AsinAt k n) (impl_AsinAt k n) := by
 unfold spec_AsinAt impl_AsinAt
 rw [in_some, within_some]
 simp only [ivb, circr hk, atanr hk, dblr hk, qtrr hk, ivr hk, Option.bind_some, pv0, pv1, gi0, giS, gb0, gbS, cond_true, cond_false, Bool.not_true, Bool.not_false, pair_eta]
 exact same_bif _ (same_refl _) (same_refl _)
noncomputable def vAsinAt (k : Nat) (n : Int) : Int × Int := iv (spec_AsinAt k n)
theorem asinAtr {k : Nat} (hk : 700 ≤ k) (n : Int) : spec_AsinAt k n = some (pv (vAsinAt k n)) ∧ impl_AsinAt k n = some (pv (vAsinAt k n)) := same_rule (asinAt_same hk n)
theorem asin_same {k : Nat} (hk : 700 ≤ k) (a b : Int) : Same (spec_AsinI k a b) (impl_AsinI k a b) := by
 unfold spec_AsinI impl_AsinI
 simp only [ivb, asinAtr hk, ivr hk, Option.bind_some, pv0, pv1, gi0, giS, gb0, gbS, cond_true, cond_false, Bool.not_true, Bool.not_false, pair_eta]
 exact same_bif _ (same_refl _) (same_refl _)
noncomputable def vAsin (k : Nat) (a : Int × Int) : Int × Int := iv (spec_AsinI k a.1 a.2)
theorem asinr {k : Nat} (hk : 700 ≤ k) (a b : Int) : spec_AsinI k a b = some (pv (vAsin k (a, b))) ∧ impl_AsinI k a b = some (pv (vAsin k (a, b))) := same_rule (asin_same hk a b)
end Go.Proofs.YtaimjfippclbcaaGreat.Ev
