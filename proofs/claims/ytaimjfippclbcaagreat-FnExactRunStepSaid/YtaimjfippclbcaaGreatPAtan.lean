/- Arc tangents, by both. No condition. -/
import Derived.Test.YtaimjfippclbcaaGreatPSqrt
namespace Go.Proofs.YtaimjfippclbcaaGreat.Ev
open Go Go.RowKit
set_option linter.unusedSimpArgs false
set_option linter.unusedVariables false
theorem dbl_same {k : Nat} (hk : 700 ≤ k) (a b : Int) : Same (spec_DoubleI k a b) (impl_DoubleI k a b) := by
 unfold spec_DoubleI impl_DoubleI impl_AddI
 simp only [ivb, ivr hk, Option.bind_some, pv0, pv1, gi0, giS, gb0, gbS, cond_true, cond_false, Bool.not_true, Bool.not_false, pair_eta]
 cases hv : ivB a b
 ·exact same_refl _
 ·have := ivB_iff.1 hv
  rw [wr (2 * a) (by omega) (by omega), wr (2 * b) (by omega) (by omega), wr (a + a) (by omega) (by omega), wr (b + b) (by omega) (by omega), show a + a = 2 * a by omega, show b + b = 2 * b by omega]
  simp only [ivb, Bool.and_self, ivr hk, Option.bind_some, pv0, pv1, gi0, giS, gb0, gbS, cond_true, cond_false, Bool.not_true, Bool.not_false, pair_eta]
  exact same_refl _
noncomputable def vDbl (k : Nat) (a : Int × Int) : Int × Int := iv (spec_DoubleI k a.1 a.2)
theorem dblr {k : Nat} (hk : 700 ≤ k) (a b : Int) : spec_DoubleI k a b = some (pv (vDbl k (a, b))) ∧ impl_DoubleI k a b = some (pv (vDbl k (a, b))) := same_rule (dbl_same hk a b)
theorem halve_same {k : Nat} (hk : 700 ≤ k) (a b : Int) : Same (spec_l07Halve k a b) (impl_halved k a b) := by
 unfold spec_l07Halve impl_halved
 simp only [sqrtr hk, ivr hk, Option.bind_some, pv0, pv1, gi0, giS, gb0, gbS, cond_true, cond_false, Bool.not_true, Bool.not_false, pair_eta]
 exact same_refl _
noncomputable def vHalve (k : Nat) (a : Int × Int) : Int × Int := iv (spec_l07Halve k a.1 a.2)
theorem halver {k : Nat} (hk : 700 ≤ k) (a b : Int) : spec_l07Halve k a b = some (pv (vHalve k (a, b))) ∧ impl_halved k a b = some (pv (vHalve k (a, b))) := same_rule (halve_same hk a b)
theorem arc_l0 (k : Nat) (hk : 700 ≤ k) (a b c d e f : Int) : ∀ (m n n' : Nat) (p q : Int), m ≤ 10 → ∃ u v, spec_ArcSeries_l0 k (m + 1 + n) a b c d e f p q ((m : Int) - 1) = some [.i 0, .i a, .i b, .i c, .i d, .i e, .i f, .i u, .i v, .i (-1)] ∧ impl_ArcSeries_l0 k (m + 1 + n') a b c d e f p q ((m : Int) - 1) = some [.i 0, .i a, .i b, .i c, .i d, .i e, .i f, .i u, .i v, .i (-1)]
 | 0, n, n', p, q, _ => by
  refine ⟨p, q, ?_, ?_⟩
  ·rw [show 0 + 1 + n = n + 1 by omega, spec_ArcSeries_l0, bif_f (leI_f (by omega))]; rfl
  ·rw [show 0 + 1 + n' = n' + 1 by omega, impl_ArcSeries_l0, bif_f (leI_f (by omega))]; rfl
 | m + 1, n, n', p, q, h => by
  have e1 : ((m + 1 : Nat) : Int) - 1 = (m : Int) := by omega
  rw [e1, show m + 1 + 1 + n = (m + 1 + n) + 1 by omega, show m + 1 + 1 + n' = (m + 1 + n') + 1 by omega, spec_ArcSeries_l0, impl_ArcSeries_l0, bif_t (leI_t (by omega)), bif_t (leI_t (by omega)), wr (2 * (m : Int)) (by omega) (by omega), wr (2 * (m : Int) + 1) (by omega) (by omega), wr ((m : Int) - 1) (by omega) (by omega)]
  simp only [quoD hk 1 (2 * (m : Int) + 1) (by omega), ivr hk, Option.bind_some, pv0, pv1, gi0, giS, gb0, gbS, cond_true, cond_false, Bool.not_true, Bool.not_false, pair_eta]
  exact arc_l0 k hk a b c d e f m n n' _ _ (by omega)
theorem arc_same {k : Nat} (hk : 700 ≤ k) (a b : Int) : Same (spec_ArcSeries k a b) (impl_ArcSeries k a b) := by
 unfold spec_ArcSeries impl_ArcSeries
 obtain ⟨n, hn⟩ : ∃ n, k = 10 + 1 + n := ⟨k - 11, by omega⟩
 simp only [ivb, quoD hk 1 21 (by decide), ivr hk, Option.bind_some, pv0, pv1, gi0, giS, gb0, gbS, cond_true, cond_false, Bool.not_true, Bool.not_false, pair_eta]
 cases vIns k (a, b) (-1073741824, 1073741824)
 ·exact same_refl _
 ·simp only [ivr hk, Option.bind_some, pv0, pv1, gi0, giS, gb0, gbS, cond_true, cond_false, Bool.not_true, Bool.not_false, pair_eta]
  obtain ⟨u, v, e1, e2⟩ := arc_l0 k hk a b 0 0 (vSqr k (a, b)).1 (vSqr k (a, b)).2 10 n n (vQuo k 1 21).1 (vQuo k 1 21).2 (by omega)
  rw [← hn, show ((10 : Nat) : Int) - 1 = 9 from rfl] at e1 e2
  rw [e1, e2]
  simp only [ivb, ivr hk, Option.bind_some, pv0, pv1, gi0, giS, gb0, gbS, cond_true, cond_false, Bool.not_true, Bool.not_false, pair_eta]
  exact same_refl _
noncomputable def vArc (k : Nat) (a : Int × Int) : Int × Int := iv (spec_ArcSeries k a.1 a.2)
theorem arcr {k : Nat} (hk : 700 ≤ k) (a b : Int) : spec_ArcSeries k a b = some (pv (vArc k (a, b))) ∧ impl_ArcSeries k a b = some (pv (vArc k (a, b))) := same_rule (arc_same hk a b)
theorem core_same {k : Nat} (hk : 700 ≤ k) (a b : Int) : Same (spec_l07Core k a b) (impl_fourfold k a b) := by
 unfold spec_l07Core impl_fourfold
 simp only [halver hk, arcr hk, dblr hk, ivr hk, Option.bind_some, pv0, pv1, gi0, giS, gb0, gbS, cond_true, cond_false, Bool.not_true, Bool.not_false, pair_eta]
 exact same_refl _
noncomputable def vCore (k : Nat) (a : Int × Int) : Int × Int := iv (spec_l07Core k a.1 a.2)
theorem corer {k : Nat} (hk : 700 ≤ k) (a b : Int) : spec_l07Core k a b = some (pv (vCore k (a, b))) ∧ impl_fourfold k a b = some (pv (vCore k (a, b))) := same_rule (core_same hk a b)
theorem quarter_same {k : Nat} (hk : 700 ≤ k) : Same (spec_l07Quarter k) (impl_halfCircle k) := by
 unfold spec_l07Quarter impl_halfCircle
 rw [turnL k (by omega) 1 (by decide)]
 simp only [ivr hk, Option.bind_some, pv0, pv1, gi0, giS, gb0, gbS, cond_true, cond_false, Bool.not_true, Bool.not_false, pair_eta]
 exact same_refl (_, _)
noncomputable def vQtr (k : Nat) : Int × Int := iv (spec_l07Quarter k)
theorem qtrr {k : Nat} (hk : 700 ≤ k) : spec_l07Quarter k = some (pv (vQtr k)) ∧ impl_halfCircle k = some (pv (vQtr k)) := same_rule (quarter_same hk)
theorem open_eq (k : Nat) (a : Int) : spec_l07Fix k a = some [.b (ltI (-1152921504606846976) a && ltI a 1152921504606846976)] ∧ impl_isOpen k a = some [.b (ltI (-1152921504606846976) a && ltI a 1152921504606846976)] := by
 unfold spec_l07Fix impl_isOpen
 cases ltI (-1152921504606846976) a <;> exact ⟨rfl, rfl⟩
theorem atan_pos {k : Nat} (hk : 700 ≤ k) (j : Nat) (n : Int) (h : 0 ≤ n) : Same (spec_AtanAt k (j + 1) n) (impl_AtanAt k (j + 1) n) := by
 rw [spec_AtanAt, impl_AtanAt, (open_eq k n).1, (open_eq k n).2]
 simp only [ivb, qtrr hk, corer hk, ivr hk, Option.bind_some, pv0, pv1, gi0, giS, gb0, gbS, cond_true, cond_false, Bool.not_true, Bool.not_false, pair_eta]
 rw [ltI_f h]
 simp only [ivr hk, Option.bind_some, pv0, pv1, gi0, giS, gb0, gbS, cond_true, cond_false, Bool.not_true, Bool.not_false, pair_eta]
 exact same_bif _ (same_refl _) (same_bif _ (same_refl _) (same_refl _))
theorem atanAt_same {k : Nat} (hk : 700 ≤ k) (n : Int) : Same (spec_AtanAt k k n) (impl_AtanAt k k n) := by
 obtain ⟨j, hj⟩ : ∃ j, k = j + 1 + 1 := ⟨k - 2, by omega⟩
 rw [show spec_AtanAt k k n = spec_AtanAt k (j + 1 + 1) n by rw [← hj], show impl_AtanAt k k n = impl_AtanAt k (j + 1 + 1) n by rw [← hj]]
 by_cases h : 0 ≤ n
 ·exact atan_pos hk (j + 1) n h
 ·rw [spec_AtanAt, impl_AtanAt, (open_eq k n).1, (open_eq k n).2]
  simp only [ivr hk, Option.bind_some, pv0, pv1, gi0, giS, gb0, gbS, cond_true, cond_false, Bool.not_true, Bool.not_false, pair_eta]
  by_cases hb : -1152921504606846976 < n ∧ n < 1152921504606846976
  ·rw [ltI_t hb.1, ltI_t hb.2, ltI_t (show n < 0 by omega), wr (0 - n) (by omega) (by omega)]
   obtain ⟨p, e1, e2⟩ := atan_pos hk j (0 - n) (by omega)
   rw [e1, e2]
   simp only [Bool.and_self, ivr hk, Option.bind_some, pv0, pv1, gi0, giS, gb0, gbS, cond_true, cond_false, Bool.not_true, Bool.not_false, pair_eta]
   exact same_refl _
  ·have : (ltI (-1152921504606846976) n && ltI n 1152921504606846976) = false := by
    rw [Bool.and_eq_false_iff]
    by_cases h1 : -1152921504606846976 < n
    ·exact .inr (ltI_f (by omega))
    ·exact .inl (ltI_f (by omega))
   rw [this]
   simp only [qtrr hk, ivr hk, Option.bind_some, pv0, pv1, gi0, giS, gb0, gbS, cond_true, cond_false, Bool.not_true, Bool.not_false, pair_eta]
   exact same_refl _
noncomputable def vAtanAt (k : Nat) (n : Int) : Int × Int := iv (spec_AtanAt k k n)
theorem atanAtr {k : Nat} (hk : 700 ≤ k) (n : Int) : spec_AtanAt k k n = some (pv (vAtanAt k n)) ∧ impl_AtanAt k k n = some (pv (vAtanAt k n)) := same_rule (atanAt_same hk n)
theorem atan_same {k : Nat} (hk : 700 ≤ k) (a b : Int) : Same (spec_AtanI k a b) (impl_AtanI k a b) := by
 unfold spec_AtanI impl_AtanI
 simp only [ivb, qtrr hk, atanAtr hk, ivr hk, Option.bind_some, pv0, pv1, gi0, giS, gb0, gbS, cond_true, cond_false, Bool.not_true, Bool.not_false, pair_eta]
 exact same_bif _ (same_refl _) (same_refl _)
noncomputable def vAtan (k : Nat) (a : Int × Int) : Int × Int := iv (spec_AtanI k a.1 a.2)
theorem atanr {k : Nat} (hk : 700 ≤ k) (a b : Int) : spec_AtanI k a b = some (pv (vAtan k (a, b))) ∧ impl_AtanI k a b = some (pv (vAtan k (a, b))) := same_rule (atan_same hk a b)
end Go.Proofs.YtaimjfippclbcaaGreat.Ev
