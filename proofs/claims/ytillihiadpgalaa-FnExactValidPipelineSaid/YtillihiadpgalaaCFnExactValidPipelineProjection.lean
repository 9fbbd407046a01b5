/- Projections and ellipsoids: what is valid, by both. No condition. -/
import Derived.Test.YtillihiadpgalaaCFnExactValidPipelinex6
import Derived.Test.YtillihiadpgalaaCFnExactValidPipelinex7
import Derived.Test.YtillihiadpgalaaCFnExactValidPipelinex10
import Derived.Test.YtillihiadpgalaaCFnExactValidPipelinex11
import Derived.Test.YtillihiadpgalaaCFnExactValidPipelinePtOk
namespace Go.Proofs.Ytillihiadpgalaa.Pure
open Go.RowKit Go.Proofs.Ytillihiadpgalaa.P Go.Proofs.YtillihiadpgalaaW.PrintWords Go.Proofs.YtillihiadpgalaaW.PrintLast

theorem ellipsoid_eq (a n d : Int) : ∃ b, spec_l12Ok.f a n d = some b ∧ impl_ValidEllipsoid.f a n d = some b := by
  unfold spec_l12Ok.f impl_ValidEllipsoid.f
  simp only [in_some, within_some, Option.bind_some]
  by_cases h1 : 1000 ≤ a ∧ a ≤ 100000000000
  · rw [decide_eq_true h1, if_pos rfl, if_pos rfl]
    by_cases h2 : 1 ≤ d ∧ d ≤ 1000000000000
    · rw [decide_eq_true h2, if_pos rfl, if_pos rfl]
      by_cases h3 : 0 ≤ n
      · rw [if_pos h3]
        exact ⟨_, rfl, by congr 1; rw [decide_eq_decide]; exact ⟨fun h => h.2, fun h => ⟨h3, h⟩⟩⟩
      · rw [if_neg (by omega)]
        exact ⟨false, rfl, by congr 1; rw [decide_eq_false_iff_not]; exact fun h => h3 h.1⟩
    · rw [decide_eq_false h2]
      exact ⟨false, rfl, rfl⟩
  · rw [decide_eq_false h1]
    exact ⟨false, rfl, rfl⟩

theorem mean_eq (s : Int) (h : -2000000000 ≤ s ∧ s ≤ 2000000000) : (if wrap64 s ≥ 10000000 then (some true : Option Bool) else some (decide (wrap64 s ≤ -10000000))) = (impl_abs.f (wrap64 s)).bind fun t => some (decide (t ≥ 10000000)) := by
  unfold impl_abs.f
  rw [Option.bind_some]
  have e1 : wrap64 s = s := by unfold wrap64; omega
  have e2 : wrap64 (-s) = -s := by unfold wrap64; omega
  have e : mx s (wrap64 (-s)) = if s < -s then -s else s := by rw [e2]; rfl
  rw [e1, e]
  by_cases h1 : s ≥ 10000000
  · rw [if_pos h1, if_neg (by omega)]
    congr 1
    symm
    rw [decide_eq_true_iff]
    exact h1
  · rw [if_neg h1]
    congr 1
    rw [decide_eq_decide]
    split <;> omega

theorem proj_eq (p a b d e : Int) (n : Nat) (hd : -890000000 ≤ d ∧ d ≤ 890000000) (he : -890000000 ≤ e ∧ e ≤ 890000000) (hp : 1 ≤ p ∧ p ≤ 16) : ∃ r, spec_l17Ok.j0 (n + 4) false p a b d e = some r ∧ impl_ValidProjection.j0 (n + 4) false p a b d e = some r := by
  have hm := mean_eq (d + e) (by omega)
  by_cases hc : 10 ≤ p ∧ p ≤ 12
  · have hk : p = 10 ∨ p = 11 ∨ p = 12 := by omega
    have hr : ∃ r, (if wrap64 (d + e) ≥ 10000000 then (some true : Option Bool) else some (decide (wrap64 (d + e) ≤ -10000000))) = some r := by split <;> exact ⟨_, rfl⟩
    obtain ⟨r, hr⟩ := hr
    refine ⟨r, ?_, ?_⟩
    · rw [← hr]
      rcases hk with rfl | rfl | rfl <;> simp [spec_l17Ok.j0, spec_l17Ok.j1, spec_l17Ok.j2, spec_l17Ok.j3]
    · rw [← hr, hm]
      rcases hk with rfl | rfl | rfl <;> simp [impl_ValidProjection.j0, impl_ValidProjection.j1, impl_ValidProjection.j2, impl_ValidProjection.j3, impl_isConic.f, impl_isAzimuthal.f, impl_within.f]
  · have hk : p = 1 ∨ p = 2 ∨ p = 3 ∨ p = 4 ∨ p = 5 ∨ p = 6 ∨ p = 7 ∨ p = 8 ∨ p = 9 ∨ p = 13 ∨ p = 14 ∨ p = 15 ∨ p = 16 := by omega
    have hr : ∃ r, spec_l17Ok.j0 (n + 4) false p a b d e = some r := by
      by_cases ha : a = 0 <;> by_cases h1 : d = 0 <;> by_cases h2 : e = 0 <;>
        rcases hk with rfl | rfl | rfl | rfl | rfl | rfl | rfl | rfl | rfl | rfl | rfl | rfl | rfl <;>
        simp [spec_l17Ok.j0, spec_l17Ok.j1, spec_l17Ok.j2, spec_l17Ok.j3, ha, h1, h2]
    obtain ⟨r, hr⟩ := hr
    refine ⟨r, hr, ?_⟩
    rw [← hr]
    by_cases ha : a = 0 <;> by_cases h1 : d = 0 <;> by_cases h2 : e = 0 <;>
      rcases hk with rfl | rfl | rfl | rfl | rfl | rfl | rfl | rfl | rfl | rfl | rfl | rfl | rfl <;>
      first
      | (simp [spec_l17Ok.j0, spec_l17Ok.j1, spec_l17Ok.j2, spec_l17Ok.j3, impl_ValidProjection.j0, impl_ValidProjection.j1, impl_ValidProjection.j2, impl_ValidProjection.j3, impl_isConic.f, impl_isAzimuthal.f, impl_within.f, ha, h1, h2]; done)
      | (trace_state; sorry)

theorem projection_eq (p a b d e : Int) (n : Nat) : ∃ r, spec_l17Ok.f (n + 4) p a b d e = some r ∧ impl_ValidProjection.f (n + 4) p a b d e = some r := by
  unfold spec_l17Ok.f impl_ValidProjection.f spec_l17Standard.f impl_isStandard.f
  simp only [in_some, within_some, ok_some, valid_some, Option.bind_some]
  have s0 : spec_l17Ok.j0 (n + 4) true p a b d e = some false := by rw [spec_l17Ok.j0, if_pos rfl]
  have i0 : impl_ValidProjection.j0 (n + 4) true p a b d e = some false := by rw [impl_ValidProjection.j0, if_pos rfl]
  by_cases h1 : Pt a b
  · rw [decide_eq_true h1, if_pos rfl]
    by_cases h2 : -890000000 ≤ d ∧ d ≤ 890000000
    · rw [decide_eq_true h2, if_pos rfl]
      by_cases h3 : -890000000 ≤ e ∧ e ≤ 890000000
      · rw [decide_eq_true h3, Bool.not_true, if_pos rfl, if_pos rfl]
        by_cases hp : 1 ≤ p ∧ p ≤ 16
        · rw [decide_eq_true hp, if_pos rfl]
          exact proj_eq p a b d e n h2 h3 hp
        · rw [decide_eq_false hp, if_neg (by decide), i0]
          refine ⟨false, ?_, rfl⟩
          have hk : p ≠ 1 ∧ p ≠ 2 ∧ p ≠ 3 ∧ p ≠ 4 ∧ p ≠ 5 ∧ p ≠ 6 ∧ p ≠ 7 ∧ p ≠ 8 ∧ p ≠ 9 ∧ p ≠ 10 ∧ p ≠ 11 ∧ p ≠ 12 ∧ p ≠ 13 ∧ p ≠ 14 ∧ p ≠ 15 ∧ p ≠ 16 := by omega
          simp [spec_l17Ok.j0, spec_l17Ok.j1, spec_l17Ok.j2, spec_l17Ok.j3, hk]
      · rw [decide_eq_false h3, Bool.not_false, s0, if_pos rfl, if_pos rfl, i0]
        split <;> exact ⟨_, rfl, rfl⟩
    · rw [decide_eq_false h2, if_neg (by decide), s0, if_pos rfl]
      refine ⟨false, rfl, ?_⟩
      split
      · rw [if_neg (by decide), i0]
      · exact i0
  · rw [decide_eq_false h1, if_neg (by decide), s0]
    refine ⟨false, rfl, ?_⟩
    split
    · rw [if_neg (by decide), i0]
    · exact i0
end Go.Proofs.Ytillihiadpgalaa.Pure
