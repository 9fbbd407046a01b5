/- Absolute values, exponentials, hyperbolic functions, comparisons, by both. No condition. -/
import Derived.Test.YtaimjfippclbcaaGreatPExp
namespace Go.Proofs.YtaimjfippclbcaaGreat.Ev
open Go Go.RowKit
set_option linter.unusedSimpArgs false
set_option linter.unusedVariables false
theorem abs_same {k : Nat} (hk : 700 ≤ k) (a b : Int) : Same (spec_AbsI k a b) (impl_AbsI k a b) := by
 cases hv : ivB a b
 ·unfold spec_AbsI impl_AbsI
  simp only [ivb, hv, ivr hk, Option.bind_some, pv0, pv1, gi0, giS, gb0, gbS, cond_true, cond_false, Bool.not_true, Bool.not_false, pair_eta]
  exact same_refl _
 ·obtain ⟨p, q, s, i, h0, h1, _, h2⟩ := absI_some k a b hv
  rw [i]
  unfold spec_AbsI
  simp only [ivb, hv, s, ivr hk, Option.bind_some, pv0, pv1, gi0, giS, gb0, gbS, cond_true, cond_false, Bool.not_true, Bool.not_false, pair_eta]
  refine ⟨(p, q), ?_, rfl⟩
  unfold vMk
  rw [ivB_iff.2 ⟨by omega, h1, h2⟩]
  rfl
noncomputable def vAbs (k : Nat) (a : Int × Int) : Int × Int := iv (spec_AbsI k a.1 a.2)
theorem absr {k : Nat} (hk : 700 ≤ k) (a b : Int) : spec_AbsI k a b = some (pv (vAbs k (a, b))) ∧ impl_AbsI k a b = some (pv (vAbs k (a, b))) := same_rule (abs_same hk a b)
theorem mxI_max (k : Nat) (a b : Int) : spec_l00Max k a b = some [.i (mxI a b)] := by
 unfold spec_l00Max mxI ltI
 by_cases h : b < a
 ·rw [decide_eq_true h, if_neg (show ¬ b > a by omega)]; rfl
 ·rw [decide_eq_false h]
  by_cases h2 : b > a
  ·rw [if_pos h2]; rfl
  ·rw [if_neg h2, show a = b by omega]; rfl
theorem max_same {k : Nat} (hk : 700 ≤ k) (a b c d : Int) : Same (spec_MaxI k a b c d) (impl_MaxI k a b c d) := by
 unfold spec_MaxI impl_MaxI
 simp only [ivb, mxI_max, ivr hk, Option.bind_some, pv0, pv1, gi0, giS, gb0, gbS, cond_true, cond_false, Bool.not_true, Bool.not_false, pair_eta]
 cases hv : ivB a b
 ·exact same_refl _
 ·cases hw : ivB c d
  ·exact same_refl _
  ·refine ⟨(mxI a c, mxI b d), ?_, rfl⟩
   have h1 := ivB_iff.1 hv
   have h2 := ivB_iff.1 hw
   have : ivB (mxI a c) (mxI b d) = true := ivB_iff.2 (by unfold mxI; split <;> split <;> omega)
   unfold vMk
   simp only [this, Bool.not_true, cond_false, cond_true]
   rfl
noncomputable def vMax (k : Nat) (a b : Int × Int) : Int × Int := iv (spec_MaxI k a.1 a.2 b.1 b.2)
theorem maxr {k : Nat} (hk : 700 ≤ k) (a b c d : Int) : spec_MaxI k a b c d = some (pv (vMax k (a, b) (c, d))) ∧ impl_MaxI k a b c d = some (pv (vMax k (a, b) (c, d))) := same_rule (max_same hk a b c d)
def vLess (a b : Int × Int) : Int := bif !(ivB a.1 a.2 && ivB b.1 b.2) then 2 else bif ltI a.2 b.1 then 1 else bif leI b.2 a.1 then 0 else 2
theorem lessr (k : Nat) (a b c d : Int) : spec_LessI k a b c d = some [.i (vLess (a, b) (c, d))] ∧ impl_LessI k a b c d = some [.i (vLess (a, b) (c, d))] := by
 unfold spec_LessI impl_LessI vLess
 simp only [ivb, Option.bind_some, gb0]
 cases ivB a b
 ·exact ⟨rfl, rfl⟩
 ·cases ivB c d
  ·exact ⟨rfl, rfl⟩
  ·simp only [Bool.not_true, cond_false, Bool.and_self]
   cases ltI b c
   ·cases leI d a <;> exact ⟨rfl, rfl⟩
   ·exact ⟨rfl, rfl⟩
theorem exp_same {k : Nat} (hk : 700 ≤ k) (a b : Int) : Same (spec_ExpI k a b) (impl_ExpI k a b) := by
 unfold spec_ExpI impl_ExpI impl_monotonic_ExpAt
 simp only [ivb, expAtr hk, ivr hk, Option.bind_some, pv0, pv1, gi0, giS, gb0, gbS, cond_true, cond_false, Bool.not_true, Bool.not_false, pair_eta]
 cases ivB a b
 ·exact same_refl _
 ·simp only [pv_fold, ivr hk, Option.bind_some, pv0, pv1, gi0, giS, gb0, gbS, cond_true, cond_false, Bool.not_true, Bool.not_false, pair_eta, endsr hk]
  exact same_refl _
noncomputable def vExp (k : Nat) (a : Int × Int) : Int × Int := iv (spec_ExpI k a.1 a.2)
theorem expr {k : Nat} (hk : 700 ≤ k) (a b : Int) : spec_ExpI k a b = some (pv (vExp k (a, b))) ∧ impl_ExpI k a b = some (pv (vExp k (a, b))) := same_rule (exp_same hk a b)
noncomputable def vSinhAt (k : Nat) (n : Int) : Int × Int := vHalf k (vSub k (vExpAt k n) (vExpAt k (IntKind.wrap .i64 (0 - n))))
noncomputable def vCoshAt (k : Nat) (n : Int) : Int × Int := vHalf k (vAdd k (vExpAt k n) (vExpAt k (IntKind.wrap .i64 (0 - n))))
theorem sinhAtr {k : Nat} (hk : 700 ≤ k) (n : Int) : spec_l08Sinh k n = some (pv (vSinhAt k n)) ∧ impl_SinhI_1 k n = some (pv (vSinhAt k n)) := by
 unfold spec_l08Sinh impl_SinhI_1 vSinhAt
 simp only [expAtr hk, ivr hk, Option.bind_some, pv0, pv1, gi0, giS, gb0, gbS, cond_true, cond_false, Bool.not_true, Bool.not_false, pair_eta]
 exact ⟨rfl, rfl⟩
theorem coshAtr {k : Nat} (hk : 700 ≤ k) (n : Int) : spec_l08Cosh k n = some (pv (vCoshAt k n)) ∧ impl_CoshI_1 k n = some (pv (vCoshAt k n)) := by
 unfold spec_l08Cosh impl_CoshI_1 vCoshAt
 simp only [expAtr hk, ivr hk, Option.bind_some, pv0, pv1, gi0, giS, gb0, gbS, cond_true, cond_false, Bool.not_true, Bool.not_false, pair_eta]
 exact ⟨rfl, rfl⟩
theorem sinh_same {k : Nat} (hk : 700 ≤ k) (a b : Int) : Same (spec_SinhI k a b) (impl_SinhI k a b) := by
 unfold spec_SinhI impl_SinhI impl_monotonic_SinhI_1
 simp only [ivb, sinhAtr hk, ivr hk, Option.bind_some, pv0, pv1, gi0, giS, gb0, gbS, cond_true, cond_false, Bool.not_true, Bool.not_false, pair_eta]
 cases ivB a b
 ·exact same_refl _
 ·simp only [pv_fold, ivr hk, Option.bind_some, pv0, pv1, gi0, giS, gb0, gbS, cond_true, cond_false, Bool.not_true, Bool.not_false, pair_eta, endsr hk]
  exact same_refl _
noncomputable def vSinh (k : Nat) (a : Int × Int) : Int × Int := iv (spec_SinhI k a.1 a.2)
theorem sinhr {k : Nat} (hk : 700 ≤ k) (a b : Int) : spec_SinhI k a b = some (pv (vSinh k (a, b))) ∧ impl_SinhI k a b = some (pv (vSinh k (a, b))) := same_rule (sinh_same hk a b)
theorem abs_whole {k : Nat} (hk : 700 ≤ k) (a b : Int) (h : ivB a b = false) : vAbs k (a, b) = wv := by
 have e := (absr hk a b).2
 unfold impl_AbsI at e
 simp only [ivb, h, ivr hk, Option.bind_some, pv0, pv1, gi0, giS, gb0, gbS, cond_true, cond_false, Bool.not_true, Bool.not_false, pair_eta] at e
 exact (pv_inj' (Option.some.inj e)).symm
theorem abs_ok {k : Nat} (hk : 700 ≤ k) (a b : Int) (h : ivB a b = true) : ivB (vAbs k (a, b)).1 (vAbs k (a, b)).2 = true ∧ 0 ≤ (vAbs k (a, b)).1 := by
 obtain ⟨p, q, s, i, h0, h1, _, h2⟩ := absI_some k a b h
 have e := (absr hk a b).2
 rw [i] at e
 have : (p, q) = vAbs k (a, b) := pv_inj' (Option.some.inj e)
 rw [← this]
 exact ⟨ivB_iff.2 ⟨by omega, h1, h2⟩, h0⟩
theorem wv_not : ivB wv.1 wv.2 = false := by decide
theorem cosh_same {k : Nat} (hk : 700 ≤ k) (a b : Int) : Same (spec_CoshI k a b) (impl_CoshI k a b) := by
 unfold spec_CoshI impl_CoshI impl_monotonic_CoshI_1
 simp only [ivb, coshAtr hk, absr hk, ivr hk, Option.bind_some, pv0, pv1, gi0, giS, gb0, gbS, cond_true, cond_false, Bool.not_true, Bool.not_false, pair_eta]
 cases hv : ivB a b
 ·rw [abs_whole hk a b hv, wv_not]
  exact same_refl _
 ·rw [(abs_ok hk a b hv).1]
  simp only [pv_fold, ivr hk, Option.bind_some, pv0, pv1, gi0, giS, gb0, gbS, cond_true, cond_false, Bool.not_true, Bool.not_false, pair_eta, endsr hk]
  exact same_refl _
noncomputable def vCosh (k : Nat) (a : Int × Int) : Int × Int := iv (spec_CoshI k a.1 a.2)
theorem coshr {k : Nat} (hk : 700 ≤ k) (a b : Int) : spec_CoshI k a b = some (pv (vCosh k (a, b))) ∧ impl_CoshI k a b = some (pv (vCosh k (a, b))) := same_rule (cosh_same hk a b)
theorem asinh_pos {k : Nat} (hk : 700 ≤ k) (j : Nat) (n : Int) (h : 0 ≤ n ∧ n < 1152921504606846976) : Same (spec_l08Asinh k (j + 1) n) (impl_AsinhI_1 k n) := by
 unfold impl_AsinhI_1
 rw [spec_l08Asinh, bif_f (ltI_f h.1)]
 simp only [logr hk, one8 hk, ivb, at8 k n ⟨by omega, h.2⟩, sqrtr hk, logAtr hk, ln2r hk, ivr hk, Option.bind_some, pv0, pv1, gi0, giS, gb0, gbS, cond_true, cond_false, Bool.not_true, Bool.not_false, pair_eta]
 exact same_bif _ (same_refl (_, _)) (same_refl _)
theorem asinhAt_same {k : Nat} (hk : 700 ≤ k) (n : Int) (h : -1152921504606846976 < n ∧ n < 1152921504606846976) : Same (spec_l08Asinh k k n) (impl_odd_1_AsinhI_1 k n []) := by
 obtain ⟨j, hj⟩ : ∃ j, k = j + 1 + 1 := ⟨k - 2, by omega⟩
 unfold impl_odd_1_AsinhI_1
 by_cases h0 : n < 0
 ·rw [show spec_l08Asinh k k n = spec_l08Asinh k (j + 1 + 1) n by rw [← hj], spec_l08Asinh, bif_t (ltI_t h0), bif_t (ltI_t h0), wr (0 - n) (by omega) (by omega)]
  obtain ⟨p, e1, e2⟩ := asinh_pos hk j (0 - n) ⟨by omega, by omega⟩
  rw [e1, e2]
  simp only [ivr hk, Option.bind_some, pv0, pv1, gi0, giS, gb0, gbS, cond_true, cond_false, Bool.not_true, Bool.not_false, pair_eta]
  exact same_refl _
 ·rw [bif_f (ltI_f (by omega)), show spec_l08Asinh k k n = spec_l08Asinh k (j + 1 + 1) n by rw [← hj]]
  obtain ⟨p, e1, e2⟩ := asinh_pos hk (j + 1) n ⟨by omega, by omega⟩
  rw [e1, e2]
  exact same_refl _
theorem asinh_same {k : Nat} (hk : 700 ≤ k) (a b : Int) : Same (spec_AsinhI k a b) (impl_AsinhI k a b) := by
 unfold spec_AsinhI impl_AsinhI impl_monotonic_AsinhI_1
 simp only [ivb, gl0, ivr hk, Option.bind_some, pv0, pv1, gi0, giS, gb0, gbS, cond_true, cond_false, Bool.not_true, Bool.not_false, pair_eta]
 cases hv : ivB a b
 ·exact same_refl _
 ·have := ivB_iff.1 hv
  obtain ⟨p, e1, e2⟩ := asinhAt_same hk a (by omega)
  obtain ⟨q, e3, e4⟩ := asinhAt_same hk b (by omega)
  rw [e1, e2, e3, e4]
  simp only [ivb, pv_fold, endsr hk, ivr hk, Option.bind_some, pv0, pv1, gi0, giS, gb0, gbS, cond_true, cond_false, Bool.not_true, Bool.not_false, pair_eta]
  exact same_refl _
noncomputable def vAsinh (k : Nat) (a : Int × Int) : Int × Int := iv (spec_AsinhI k a.1 a.2)
theorem asinhr {k : Nat} (hk : 700 ≤ k) (a b : Int) : spec_AsinhI k a b = some (pv (vAsinh k (a, b))) ∧ impl_AsinhI k a b = some (pv (vAsinh k (a, b))) := same_rule (asinh_same hk a b)
end Go.Proofs.YtaimjfippclbcaaGreat.Ev
