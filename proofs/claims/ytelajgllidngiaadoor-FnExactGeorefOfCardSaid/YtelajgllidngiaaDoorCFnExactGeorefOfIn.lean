/- Bounds: what both sides compute of them. No condition. -/
import Derived.Test.YtelajgllidngiaaDoorCFnExactGeorefOfx1
import Derived.Test.YtelajgllidngiaaDoorCFnExactGeorefOfx3
import Derived.Test.YtelajgllidngiaaDoorCFnExactGeorefOfBase
namespace Go.Proofs.YtelajgllidngiaaDoor.Pure
open Go.RowKit Go.Proofs.YtelajgllidngiaaDoor.P Go.Proofs.YtelajgllidngiaaDoorW.PrintWords Go.Proofs.YtelajgllidngiaaDoorW.PrintLast

theorem in_some (a b c : Int) : spec_l00In.f a b c = some (decide (b ≤ a ∧ a ≤ c)) := by
  unfold spec_l00In.f
  by_cases h : b ≤ a
  · simp [h]
  · simp [h]
theorem within_some (a b c : Int) : impl_within.f a b c = some (decide (b ≤ a ∧ a ≤ c)) := in_some a b c
end Go.Proofs.YtelajgllidngiaaDoor.Pure
