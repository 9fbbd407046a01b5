/- Bounds: what both sides compute of them. No condition. -/
import Derived.Test.YtillihiadpgalaaDoorCFnExactReadTileKeyx1
import Derived.Test.YtillihiadpgalaaDoorCFnExactReadTileKeyBase
namespace Go.Proofs.YtillihiadpgalaaDoor.Pure
open Go.RowKit Go.Proofs.YtillihiadpgalaaDoor.P Go.Proofs.YtillihiadpgalaaDoorW.PrintWords Go.Proofs.YtillihiadpgalaaDoorW.PrintLast

theorem in_some (a b c : Int) : spec_l00In.f a b c = some (decide (b ≤ a ∧ a ≤ c)) := by
  unfold spec_l00In.f
  by_cases h : b ≤ a
  · simp [h]
  · simp [h]
theorem within_some (a b c : Int) : impl_within.f a b c = some (decide (b ≤ a ∧ a ≤ c)) := in_some a b c
end Go.Proofs.YtillihiadpgalaaDoor.Pure
