/- Bounds, by both. No condition. -/
import Derived.Test.YthabgkbpghpokaaDoorReadRingF
import Derived.Test.YthabgkbpghpokaaDoorPBase
namespace Go.Proofs.YthabgkbpghpokaaDoor.Ev
open Go Go.RowKit
set_option linter.unusedSimpArgs false
set_option linter.unusedVariables false
theorem in_some (k : Nat) (a b c : Int) : spec_l00In k a b c = some [.b (leI b a && leI a c)] := by
  unfold spec_l00In; cases leI b a <;> rfl
theorem within_some (k : Nat) (a b c : Int) : impl_within k a b c = some [.b (leI b a && leI a c)] := in_some k a b c
end Go.Proofs.YthabgkbpghpokaaDoor.Ev
