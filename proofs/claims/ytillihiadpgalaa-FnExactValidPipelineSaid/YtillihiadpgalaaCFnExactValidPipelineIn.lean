/- Bounds: what both sides compute of them. No condition. -/
import Derived.Test.YtillihiadpgalaaCFnExactValidPipelinex5
import Derived.Test.YtillihiadpgalaaCFnExactValidPipelinex9
import Derived.Test.YtillihiadpgalaaCFnExactValidPipelineBase
namespace Go.Proofs.Ytillihiadpgalaa.Pure
open Go.RowKit Go.Proofs.Ytillihiadpgalaa.P Go.Proofs.YtillihiadpgalaaW.PrintWords Go.Proofs.YtillihiadpgalaaW.PrintLast

theorem in_some (a b c : Int) : spec_l00In.f a b c = some (decide (b ≤ a ∧ a ≤ c)) := by
  unfold spec_l00In.f
  by_cases h : b ≤ a
  · simp [h]
  · simp [h]
theorem within_some (a b c : Int) : impl_within.f a b c = some (decide (b ≤ a ∧ a ≤ c)) := in_some a b c
end Go.Proofs.Ytillihiadpgalaa.Pure
