/- The law FnExactValidStep: the program's ValidStep and the reference's return the same. No condition. -/
import Derived.Test.YtillihiadpgalaaCFnExactValidStepx13
import Derived.Test.YtillihiadpgalaaCFnExactValidStepStep
namespace Go.Proofs.Ytillihiadpgalaa.Pure
open Go.RowKit Go.Proofs.Ytillihiadpgalaa.P Go.Proofs.YtillihiadpgalaaW.PrintWords Go.Proofs.YtillihiadpgalaaW.PrintLast

theorem FnExactValidStep (a0 a1 a2 a3 a4 a5 a6 a7 a8 a9 a10 a11 a12 a13 a14 a15 : Int) (_ : (Lit.int .i64 a0).wf = true) (_ : (Lit.int .i64 a1).wf = true) (_ : (Lit.int .i64 a2).wf = true) (_ : (Lit.int .i64 a3).wf = true) (_ : (Lit.int .i64 a4).wf = true) (_ : (Lit.int .i64 a5).wf = true) (_ : (Lit.int .i64 a6).wf = true) (_ : (Lit.int .i64 a7).wf = true) (_ : (Lit.int .i64 a8).wf = true) (_ : (Lit.int .i64 a9).wf = true) (_ : (Lit.int .i64 a10).wf = true) (_ : (Lit.int .i64 a11).wf = true) (_ : (Lit.int .i64 a12).wf = true) (_ : (Lit.int .i64 a13).wf = true) (_ : (Lit.int .i64 a14).wf = true) (_ : (Lit.int .i64 a15).wf = true) : ∃ k, laws_FnExactValidStep.f k a0 a1 a2 a3 a4 a5 a6 a7 a8 a9 a10 a11 a12 a13 a14 a15 = some true := by
  refine ⟨9, ?_⟩
  unfold laws_FnExactValidStep.f spec_ValidStep.f
  obtain ⟨r, e1, e2⟩ := step_eq a0 a1 a2 a3 a4 a5 a6 a7 a8 a9 a10 a11 a12 a13 a14 a15 0
  simp only [laws_toStep.f, laws_toEllipsoid.f, laws_toProjection.f, laws_toShift.f, Option.bind_some, e1, e2, bne_self_eq_false]
  rfl
end Go.Proofs.Ytillihiadpgalaa.Pure
