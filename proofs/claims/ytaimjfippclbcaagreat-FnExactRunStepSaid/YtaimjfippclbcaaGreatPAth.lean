/- The inverse hyperbolic tangent, by both. No condition. -/
import Derived.Test.YtaimjfippclbcaaGreatPLog
namespace Go.Proofs.YtaimjfippclbcaaGreat.Ev
open Go Go.RowKit
set_option linter.unusedSimpArgs false
set_option linter.unusedVariables false
theorem at8 (k : Nat) (n : Int) (h : -1152921504606846976 < n ∧ n < 1152921504606846976) : spec_l08At k n = some (pv (n, n)) := by
 unfold spec_l08At; rw [make_some, mkIv_t (ivB_iff.2 ⟨h.1, by omega, h.2⟩)]; rfl
theorem atanh_pos {k : Nat} (hk : 700 ≤ k) (j : Nat) (n : Int) (h : 0 ≤ n) : Same (spec_l08Atanh k (j + 1) n) (impl_AtanhI_1 k n) := by
 unfold impl_AtanhI_1
 rw [spec_l08Atanh, bif_f (ltI_f h)]
 by_cases h1 : 4294967296 ≤ n
 ·rw [bif_t (leI_t h1), bif_t (leI_t h1)]
  exact same_refl wv
 ·rw [bif_f (leI_f (by omega)), bif_f (leI_f (by omega)), wr (4294967296 + n) (by omega) (by omega), wr (4294967296 - n) (by omega) (by omega), at8 k _ (by omega), at8 k _ (by omega)]
  simp only [ivb, logr hk, ivr hk, Option.bind_some, pv0, pv1, gi0, giS, gb0, gbS, cond_true, cond_false, Bool.not_true, Bool.not_false, pair_eta]
  exact same_refl _
theorem atanhAt_same {k : Nat} (hk : 700 ≤ k) (n : Int) (h : -1152921504606846976 < n ∧ n < 1152921504606846976) : Same (spec_l08Atanh k k n) (impl_odd_1_AtanhI_1 k n []) := by
 obtain ⟨j, hj⟩ : ∃ j, k = j + 1 + 1 := ⟨k - 2, by omega⟩
 unfold impl_odd_1_AtanhI_1
 by_cases h0 : n < 0
 ·rw [show spec_l08Atanh k k n = spec_l08Atanh k (j + 1 + 1) n by rw [← hj], spec_l08Atanh, bif_t (ltI_t h0), bif_t (ltI_t h0), wr (0 - n) (by omega) (by omega)]
  obtain ⟨p, e1, e2⟩ := atanh_pos hk j (0 - n) (by omega)
  rw [e1, e2]
  simp only [ivr hk, Option.bind_some, pv0, pv1, gi0, giS, gb0, gbS, cond_true, cond_false, Bool.not_true, Bool.not_false, pair_eta]
  exact same_refl _
 ·rw [bif_f (ltI_f (by omega)), show spec_l08Atanh k k n = spec_l08Atanh k (j + 1 + 1) n by rw [← hj]]
  obtain ⟨p, e1, e2⟩ := atanh_pos hk (j + 1) n (by omega)
  rw [e1, e2]
  exact same_refl _
theorem atanh_same {k : Nat} (hk : 700 ≤ k) (a b : Int) : Same (spec_AtanhI k a b) (impl_AtanhI k a b) := by
 unfold spec_AtanhI impl_AtanhI impl_monotonic_AtanhI_1
 simp only [ivb, gl0, ivr hk, Option.bind_some, pv0, pv1, gi0, giS, gb0, gbS, cond_true, cond_false, Bool.not_true, Bool.not_false, pair_eta]
 cases hv : ivB a b
 ·exact same_refl _
 ·have := ivB_iff.1 hv
  obtain ⟨p, e1, e2⟩ := atanhAt_same hk a (by omega)
  obtain ⟨q, e3, e4⟩ := atanhAt_same hk b (by omega)
  rw [e1, e2, e3, e4]
  simp only [ivb, pv_fold, endsr hk, ivr hk, Option.bind_some, pv0, pv1, gi0, giS, gb0, gbS, cond_true, cond_false, Bool.not_true, Bool.not_false, pair_eta]
  exact same_refl _
noncomputable def vAth (k : Nat) (a : Int × Int) : Int × Int := iv (spec_AtanhI k a.1 a.2)
theorem athr {k : Nat} (hk : 700 ≤ k) (a b : Int) : spec_AtanhI k a b = some (pv (vAth k (a, b))) ∧ impl_AtanhI k a b = some (pv (vAth k (a, b))) := same_rule (atanh_same hk a b)
end Go.Proofs.YtaimjfippclbcaaGreat.Ev
