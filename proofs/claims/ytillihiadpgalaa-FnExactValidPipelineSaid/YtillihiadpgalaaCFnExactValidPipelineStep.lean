/- Steps of a pipeline: what is valid, by both. No condition. -/
import Derived.Test.YtillihiadpgalaaCFnExactValidPipelinex8
import Derived.Test.YtillihiadpgalaaCFnExactValidPipelinex12
import Derived.Test.YtillihiadpgalaaCFnExactValidPipelineProjection
import Derived.Test.YtillihiadpgalaaCFnExactValidPipelineShift
namespace Go.Proofs.Ytillihiadpgalaa.Pure
open Go.RowKit Go.Proofs.Ytillihiadpgalaa.P Go.Proofs.YtillihiadpgalaaW.PrintWords Go.Proofs.YtillihiadpgalaaW.PrintLast

theorem step_eq (a0 a1 a2 a3 a4 a5 a6 a7 a8 a9 a10 a11 a12 a13 a14 a15 : Int) (n : Nat) :
    ∃ r, spec_l27Step.f (n + 9) a0 a1 a2 a3 a4 a5 a6 a7 a8 a9 a10 a11 a12 a13 a14 a15 = some r ∧ impl_ValidStep.f (n + 9) a0 a1 a2 a3 a4 a5 a6 a7 a8 a9 a10 a11 a12 a13 a14 a15 = some r := by
  obtain ⟨pr, p1, p2⟩ := projection_eq a1 a2 a3 a4 a5 n
  have p1' : ∀ j, spec_l17Ok.f (n + (4 + j)) a1 a2 a3 a4 a5 = some pr := fun j => at_rounds (g := fun k => spec_l17Ok.f k a1 a2 a3 a4 a5) (fun k => spec_l17Ok.mono _ _ _ _ _ k) (k := n + 4) (by omega) p1
  have p2' : impl_ValidProjection.f (n + 9) a1 a2 a3 a4 a5 = some pr := at_rounds (g := fun k => impl_ValidProjection.f k a1 a2 a3 a4 a5) (fun k => impl_ValidProjection.mono _ _ _ _ _ k) (k := n + 4) (by omega) p2
  obtain ⟨er, e1, e2⟩ := ellipsoid_eq a6 a7 a8
  obtain ⟨sr, s1, s2⟩ := shift_eq n a9 a10 a11 a12 a13 a14 a15
  have s1' : ∀ j, spec_l23Ok.f (n + (5 + j)) a9 a10 a11 a12 a13 a14 a15 = some sr := fun j => at_rounds (g := fun k => spec_l23Ok.f k a9 a10 a11 a12 a13 a14 a15) (fun k => spec_l23Ok.mono _ _ _ _ _ _ _ k) (k := n + 5) (by omega) s1
  have s2' : impl_ValidShift.f (n + 9) a9 a10 a11 a12 a13 a14 a15 = some sr := at_rounds (g := fun k => impl_ValidShift.f k a9 a10 a11 a12 a13 a14 a15) (fun k => impl_ValidShift.mono _ _ _ _ _ _ _ k) (k := n + 5) (by omega) s2
  unfold spec_l27Step.f impl_ValidStep.f spec_l27None.f
  simp only [Option.bind_some, p2', e2, s2', impl_isProjecting.f, impl_isMeasuring.f, impl_isShifting.f]
  generalize (a1 == 0 && (a2 == 0 && (a3 == 0 && (a4 == 0 && (a5 == 0))))) = P
  generalize (a6 == 0 && (a7 == 0 && (a8 == 0))) = E
  generalize (a9 == 0 && (a10 == 0 && (a11 == 0 && (a12 == 0 && (a13 == 0 && (a14 == 0 && (a15 == 0))))))) = S
  have hk : a0 = 1 ∨ a0 = 2 ∨ a0 = 3 ∨ a0 = 4 ∨ a0 = 5 ∨ a0 = 6 ∨ a0 = 7 ∨ (a0 ≠ 1 ∧ a0 ≠ 2 ∧ a0 ≠ 3 ∧ a0 ≠ 4 ∧ a0 ≠ 5 ∧ a0 ≠ 6 ∧ a0 ≠ 7) := by omega
  have q1 : spec_l17Ok.f (n + 8) a1 a2 a3 a4 a5 = some pr := p1' 4
  have q2 : spec_l23Ok.f (n + 6) a9 a10 a11 a12 a13 a14 a15 = some sr := s1' 1
  rcases hk with rfl | rfl | rfl | rfl | rfl | rfl | rfl | hk
  · simp [spec_l27Step.j0, spec_ValidProjection.f, q1]
    cases P <;> cases E <;> cases S <;> cases pr <;> simp
  · simp [spec_l27Step.j0, spec_ValidProjection.f, q1]
    cases P <;> cases E <;> cases S <;> cases pr <;> simp
  · simp [spec_l27Step.j0, spec_l27Step.j1, spec_ValidEllipsoid.f, e1]
    cases P <;> cases E <;> cases S <;> cases er <;> simp
  · simp [spec_l27Step.j0, spec_l27Step.j1, spec_ValidEllipsoid.f, e1]
    cases P <;> cases E <;> cases S <;> cases er <;> simp
  · simp [spec_l27Step.j0, spec_l27Step.j1, spec_l27Step.j2, q2]
    cases P <;> cases E <;> cases S <;> cases sr <;> simp
  · simp [spec_l27Step.j0, spec_l27Step.j1, spec_l27Step.j2, q2]
    cases P <;> cases E <;> cases S <;> cases sr <;> simp
  · simp [spec_l27Step.j0, spec_l27Step.j1, spec_l27Step.j2]
    cases P <;> cases E <;> cases S <;> simp
  · simp [spec_l27Step.j0, spec_l27Step.j1, spec_l27Step.j2, hk]
end Go.Proofs.Ytillihiadpgalaa.Pure
