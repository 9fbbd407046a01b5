/- Hyperbolic tangents, by both. No condition. -/
import Derived.Test.YtpggnjmmpkdkjaaGreatPExp
namespace Go.Proofs.YtpggnjmmpkdkjaaGreat.Ev
open Go Go.RowKit
set_option linter.unusedSimpArgs false
set_option linter.unusedVariables false
theorem tanh_pos {k : Nat} (hk : 700 ≤ k) (j : Nat) (n : Int) (h : 0 ≤ n) : Same (spec_l08Tanh k (j + 1) n) (impl_TanhI_1 k n) := by
  unfold impl_TanhI_1
  rw [spec_l08Tanh, bif_f (ltI_f h)]
  simp only [expAtr hk, one8 hk, ivb, ivr hk, Option.bind_some, pv0, pv1, gi0, giS, gb0, gbS, cond_true, cond_false, Bool.not_true, Bool.not_false, pair_eta]
  exact same_bif _ (same_refl (_, _)) (same_refl _)
theorem tanhAt_same {k : Nat} (hk : 700 ≤ k) (n : Int) (h : -1152921504606846976 < n ∧ n < 1152921504606846976) : Same (spec_l08Tanh k k n) (impl_odd_1_TanhI_1 k n []) := by
  obtain ⟨j, hj⟩ : ∃ j, k = j + 1 + 1 := ⟨k - 2, by omega⟩
  unfold impl_odd_1_TanhI_1
  by_cases h0 : n < 0
  · rw [show spec_l08Tanh k k n = spec_l08Tanh k (j + 1 + 1) n by rw [← hj], spec_l08Tanh, bif_t (ltI_t h0), bif_t (ltI_t h0), wr (0 - n) (by omega) (by omega)]
    obtain ⟨p, e1, e2⟩ := tanh_pos hk j (0 - n) (by omega)
    rw [e1, e2]
    simp only [ivr hk, Option.bind_some, pv0, pv1, gi0, giS, gb0, gbS, cond_true, cond_false, Bool.not_true, Bool.not_false, pair_eta]
    exact same_refl _
  · rw [bif_f (ltI_f (by omega)), show spec_l08Tanh k k n = spec_l08Tanh k (j + 1 + 1) n by rw [← hj]]
    obtain ⟨p, e1, e2⟩ := tanh_pos hk (j + 1) n (by omega)
    rw [e1, e2]
    exact same_refl _
theorem tanh_same {k : Nat} (hk : 700 ≤ k) (a b : Int) : Same (spec_TanhI k a b) (impl_TanhI k a b) := by
  unfold spec_TanhI impl_TanhI impl_monotonic_TanhI_1
  simp only [ivb, gl0, ivr hk, Option.bind_some, pv0, pv1, gi0, giS, gb0, gbS, cond_true, cond_false, Bool.not_true, Bool.not_false, pair_eta]
  cases hv : ivB a b
  · exact same_refl _
  · have := ivB_iff.1 hv
    obtain ⟨p, e1, e2⟩ := tanhAt_same hk a (by omega)
    obtain ⟨q, e3, e4⟩ := tanhAt_same hk b (by omega)
    rw [e1, e2, e3, e4]
    simp only [ivb, pv_fold, endsr hk, ivr hk, Option.bind_some, pv0, pv1, gi0, giS, gb0, gbS, cond_true, cond_false, Bool.not_true, Bool.not_false, pair_eta]
    exact same_refl _
noncomputable def vTanh (k : Nat) (a : Int × Int) : Int × Int := iv (spec_TanhI k a.1 a.2)
theorem tanhr {k : Nat} (hk : 700 ≤ k) (a b : Int) : spec_TanhI k a b = some (pv (vTanh k (a, b))) ∧ impl_TanhI k a b = some (pv (vTanh k (a, b))) := same_rule (tanh_same hk a b)
end Go.Proofs.YtpggnjmmpkdkjaaGreat.Ev
