/- The law FnExactValidPipeline: the program's ValidPipeline and the reference's return the same, and leave their argument alone. No condition. -/
import Derived.Test.YtillihiadpgalaaCFnExactValidPipelinex14
import Derived.Test.YtillihiadpgalaaCFnExactValidPipelineToSteps
import Derived.Test.YtillihiadpgalaaCFnExactValidPipelineForms
namespace Go.Proofs.Ytillihiadpgalaa.Pure
open Go.RowKit Go.Proofs.Ytillihiadpgalaa.P Go.Proofs.YtillihiadpgalaaW.PrintWords Go.Proofs.YtillihiadpgalaaW.PrintLast

theorem FnExactValidPipeline (xs : List S56) (hx : xs.length ≤ 9223372036854775807) : ∃ k, laws_FnExactValidPipeline.f k xs = some true := by
  unfold laws_FnExactValidPipeline.f
  rw [szStepS_some xs 1048576 (by decide) (by decide) hx]
  by_cases h : (1048576 : Int) < xs.length
  · exact ⟨0, by rw [if_pos h]; rfl⟩
  · have hn : xs.length ≤ 1048576 := by omega
    have hl : (xs.map cvSt).length = xs.length := List.length_map _
    obtain ⟨r, e1, e2⟩ := end_eq (xs.map cvSt) (by omega)
    refine ⟨xs.length + 10, ?_⟩
    rw [if_neg h, Option.bind_some, if_neg (by omega), toStepS_some xs hn _ (by omega)]
    simp only [Option.bind_some, spec_ValidPipeline.f, spec_l27Ok.f, impl_ValidPipeline.f, e1 _ (show (xs.map cvSt).length + 10 ≤ xs.length + 10 by omega), e2 _ (show (xs.map cvSt).length + 10 ≤ xs.length + 10 by omega), bne_self_eq_false]
    rw [if_neg (by decide), eqStepS_refl _ (by omega) _ (by omega)]
    rfl
end Go.Proofs.Ytillihiadpgalaa.Pure
