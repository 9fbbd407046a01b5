/- Steps of a pipeline: what is valid, by both. No condition. -/
import Derived.Test.YtaimjfippclbcaaGreatPShv
namespace Go.Proofs.YtaimjfippclbcaaGreat.Ev
open Go Go.RowKit
set_option linter.unusedSimpArgs false
set_option linter.unusedVariables false
theorem step_eq (k : Nat) (hk : 5 ≤ k) (a0 a1 a2 a3 a4 a5 a6 a7 a8 a9 a10 a11 a12 a13 a14 a15 : Int) :
  ∃ r, spec_l27Step k a0 a1 a2 a3 a4 a5 a6 a7 a8 a9 a10 a11 a12 a13 a14 a15 = some [.b r] ∧ impl_ValidStep k a0 a1 a2 a3 a4 a5 a6 a7 a8 a9 a10 a11 a12 a13 a14 a15 = some [.b r] ∧ (r = true → (1 ≤ a0 ∧ a0 ≤ 7) ∧ (a0 = 1 ∨ a0 = 2 → spec_l17Ok k a1 a2 a3 a4 a5 = some [.b true] ∧ impl_ValidProjection k a1 a2 a3 a4 a5 = some [.b true]) ∧ (a0 = 3 ∨ a0 = 4 → spec_l12Ok k a6 a7 a8 = some [.b true]) ∧ (a0 = 5 ∨ a0 = 6 → spec_l23Ok k a9 a10 a11 a12 a13 a14 a15 = some [.b true])) := by
 obtain ⟨pr, p1, p2⟩ := projection_eq k a1 a2 a3 a4 a5
 obtain ⟨er, e1, e2⟩ := ellipsoid_eq k a6 a7 a8
 obtain ⟨s1, s2⟩ := shift_eq k hk a9 a10 a11 a12 a13 a14 a15
 have n1 : ∀ j, gi [.i 0, .i 0, .i 0, .i 0, .i 0, .i 0, .i 0, .i 0, .i 0, .i 0, .i 0, .i 0, .i 0, .i 0, .i 0, .i 0] j = 0 := by
  intro j
  match j with
  | 0 | 1 | 2 | 3 | 4 | 5 | 6 | 7 | 8 | 9 | 10 | 11 | 12 | 13 | 14 | 15 => rfl
  | j + 16 => rfl
 unfold spec_l27Step impl_ValidStep spec_l27None spec_ValidProjection spec_ValidEllipsoid
 rw [p1, p2, e1, e2, s1, s2]
 generalize shiftB a9 a10 a11 a12 a13 a14 a15 = sr
 simp only [Option.bind_some, impl_isProjecting, impl_isMeasuring, impl_isShifting, n1, gb0, beq_self_eq_true, Bool.true_and, Bool.and_true]
 generalize (a1 == 0 && (a2 == 0 && (a3 == 0 && (a4 == 0 && (a5 == 0))))) = P
 generalize (a6 == 0 && (a7 == 0 && (a8 == 0))) = E
 generalize (a9 == 0 && (a10 == 0 && (a11 == 0 && (a12 == 0 && (a13 == 0 && (a14 == 0 && (a15 == 0))))))) = S
 have hc : a0 = 1 ∨ a0 = 2 ∨ a0 = 3 ∨ a0 = 4 ∨ a0 = 5 ∨ a0 = 6 ∨ a0 = 7 ∨ ∀ j : Int, 1 ≤ j → j ≤ 7 → (a0 == j) = false := by
  by_cases h : 1 ≤ a0 ∧ a0 ≤ 7
  ·omega
  ·exact .inr (.inr (.inr (.inr (.inr (.inr (.inr fun j h1 h2 => by rw [beq_eq_false_iff_ne]; omega))))))
 rcases hc with rfl | rfl | rfl | rfl | rfl | rfl | rfl | hc
 case inr.inr.inr.inr.inr.inr.inr =>
  simp only [hc 1 (by decide) (by decide), hc 2 (by decide) (by decide), hc 3 (by decide) (by decide), hc 4 (by decide) (by decide), hc 5 (by decide) (by decide), hc 6 (by decide) (by decide), hc 7 (by decide) (by decide), cond_false, gb0, Option.bind_some, Bool.false_and]
  exact ⟨false, rfl, rfl, fun h => by cases h⟩
 all_goals
  clear n1 p1 p2 e1 e2 s1 s2
  cases P <;> cases E <;> cases S <;> cases pr <;> cases er <;> cases sr <;> first | exact ⟨false, rfl, rfl, fun h => by cases h⟩ | exact ⟨true, rfl, rfl, fun _ => ⟨by decide, fun h => by first | exact ⟨rfl, rfl⟩ | (exfalso; revert h; decide), fun h => by first | rfl | (exfalso; revert h; decide), fun h => by first | rfl | (exfalso; revert h; decide)⟩⟩
end Go.Proofs.YtaimjfippclbcaaGreat.Ev
