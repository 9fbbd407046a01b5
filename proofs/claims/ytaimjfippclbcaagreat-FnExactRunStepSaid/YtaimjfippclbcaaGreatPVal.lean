/- Ellipsoids and projections: what is valid, by both. No condition. -/
import Derived.Test.YtaimjfippclbcaaGreatPPt
namespace Go.Proofs.YtaimjfippclbcaaGreat.Ev
open Go Go.RowKit
set_option linter.unusedSimpArgs false
set_option linter.unusedVariables false
theorem in_and (a b c : Int) : (leI b a && leI a c) = decide (b ≤ a ∧ a ≤ c) := by unfold leI; rw [Bool.decide_and]
theorem in_dec (k : Nat) (a b c : Int) : spec_l00In k a b c = some [.b (decide (b ≤ a ∧ a ≤ c))] := by rw [in_some, in_and]
theorem within_dec (k : Nat) (a b c : Int) : impl_within k a b c = some [.b (decide (b ≤ a ∧ a ≤ c))] := by rw [within_some, in_and]
theorem std_some (k : Nat) (a : Int) : spec_l17Standard k a = some [.b (decide (-890000000 ≤ a ∧ a ≤ 890000000))] := by
 unfold spec_l17Standard; simp only [in_dec, Option.bind_some, gb0]
theorem standard_some (k : Nat) (a : Int) : impl_isStandard k a = some [.b (decide (-890000000 ≤ a ∧ a ≤ 890000000))] := by
 unfold impl_isStandard; simp only [within_dec, Option.bind_some, gb0]
theorem azi_some (k : Nat) (a : Int) : impl_isAzimuthal k a = some [.b (decide (5 ≤ a ∧ a ≤ 9))] := by
 unfold impl_isAzimuthal; simp only [within_dec, Option.bind_some, gb0]
theorem con_some (k : Nat) (a : Int) : impl_isConic k a = some [.b (decide (10 ≤ a ∧ a ≤ 12))] := by
 unfold impl_isConic; simp only [within_dec, Option.bind_some, gb0]
theorem ellipsoid_eq (k : Nat) (a n d : Int) : ∃ r, spec_l12Ok k a n d = some [.b r] ∧ impl_ValidEllipsoid k a n d = some [.b r] := by
 unfold spec_l12Ok impl_ValidEllipsoid
 simp only [in_some, within_some, Option.bind_some, gb0]
 cases (leI 1000 a && leI a 100000000000) with
 | false => exact ⟨false, rfl, rfl⟩
 | true =>
  cases (leI 1 d && leI d 1000000000000) with
  | false => exact ⟨false, rfl, rfl⟩
  | true => cases leI 0 n <;> exact ⟨_, rfl, rfl⟩
theorem abs_some (k : Nat) (s : Int) (h : -2000000000 ≤ s ∧ s ≤ 2000000000) : impl_abs k s = some [.i (if s < 0 then -s else s)] := by
 unfold impl_abs
 rw [wr (0 - s) (by omega) (by omega)]
 unfold mxI
 congr 3
 split <;> split <;> omega
theorem projection_eq (k : Nat) (p a b d e : Int) : ∃ r, spec_l17Ok k p a b d e = some [.b r] ∧ impl_ValidProjection k p a b d e = some [.b r] := by
 unfold spec_l17Ok impl_ValidProjection
 simp only [pt_some, point_some, std_some, standard_some, azi_some, con_some, within_dec, Option.bind_some, gb0]
 cases h1 : PtB a b with
 | true =>
  simp only [Bool.not_true, cond_false]
  by_cases h2 : -890000000 ≤ d ∧ d ≤ 890000000
  ·simp only [h2, and_self, decide_true, Bool.not_true, cond_false]
   by_cases h3 : -890000000 ≤ e ∧ e ≤ 890000000
   ·simp only [h3, and_self, decide_true, Bool.not_true, cond_false]
    have hw : IntKind.wrap .i64 (d + e) = d + e := wr _ (by omega) (by omega)
    have hs := abs_some k (d + e) (by omega)
    obtain ⟨m, hm0⟩ : ∃ m, m = if d + e < 0 then -(d + e) else d + e := ⟨_, rfl⟩
    rw [← hm0] at hs
    by_cases hc : 10 ≤ p ∧ p ≤ 12
    ·have hk : p = 10 ∨ p = 11 ∨ p = 12 := by omega
     have hm : (bif leI 10000000 (d + e) then some [D.b true] else some [.b (leI (d + e) (-10000000))]) = some [.b (leI 10000000 m)] := by
      by_cases h : 10000000 ≤ d + e
      ·rw [bif_t (leI_t h), leI_t (by rw [hm0]; split <;> omega)]
      ·rw [bif_f (leI_f (by omega))]
       by_cases h' : d + e ≤ -10000000
       ·rw [leI_t h', leI_t (by rw [hm0]; split <;> omega)]
       ·rw [leI_f (by omega), leI_f (by rw [hm0]; split <;> omega)]
     rcases hk with rfl | rfl | rfl <;> (simp [hw, hs, hm, gi0])
    ·by_cases hp : 1 ≤ p ∧ p ≤ 16
     ·have hk : p = 1 ∨ p = 2 ∨ p = 3 ∨ p = 4 ∨ p = 5 ∨ p = 6 ∨ p = 7 ∨ p = 8 ∨ p = 9 ∨ p = 13 ∨ p = 14 ∨ p = 15 ∨ p = 16 := by omega
      rcases z0 a with ⟨ha, ha'⟩ | ⟨ha, ha'⟩ <;> rcases z0 d with ⟨hd, hd'⟩ | ⟨hd, hd'⟩ <;> rcases z0 e with ⟨he, he'⟩ | ⟨he, he'⟩ <;>
       rcases hk with rfl | rfl | rfl | rfl | rfl | rfl | rfl | rfl | rfl | rfl | rfl | rfl | rfl <;> simp [ha, hd, he, ha', hd', he']
     ·have hq : ∀ i : Int, 1 ≤ i → i ≤ 16 → (p == i) = false := fun i _ _ => by rw [beq_eq_false_iff_ne]; omega
      rw [decide_eq_false hp]
      simp [hq 1 (by decide) (by decide), hq 2 (by decide) (by decide), hq 3 (by decide) (by decide), hq 4 (by decide) (by decide), hq 5 (by decide) (by decide), hq 6 (by decide) (by decide), hq 7 (by decide) (by decide), hq 8 (by decide) (by decide), hq 9 (by decide) (by decide), hq 10 (by decide) (by decide), hq 11 (by decide) (by decide), hq 12 (by decide) (by decide), hq 13 (by decide) (by decide), hq 14 (by decide) (by decide), hq 15 (by decide) (by decide), hq 16 (by decide) (by decide)]
   ·simp only [h3, decide_false, Bool.not_false, cond_true]
    refine ⟨false, rfl, ?_⟩
    cases decide (1 ≤ p ∧ p ≤ 16) <;> rfl
  ·simp only [h2, decide_false, Bool.not_false, cond_true]
   refine ⟨false, rfl, ?_⟩
   cases decide (1 ≤ p ∧ p ≤ 16) <;> rfl
 | false =>
  simp only [Bool.not_false, cond_true]
  refine ⟨false, rfl, ?_⟩
  cases decide (1 ≤ p ∧ p ≤ 16) <;> rfl
end Go.Proofs.YtaimjfippclbcaaGreat.Ev
