/- The number of columns of a locator, by the reference. No condition. -/
import Derived.Test.YtillihiadpgalaaCFnExactLocatorBoxx1
import Derived.Test.YtillihiadpgalaaCFnExactLocatorBoxReadLocator
namespace Go.Proofs.Ytillihiadpgalaa.Pure
open Go.RowKit Go.Proofs.Ytillihiadpgalaa.P Go.Proofs.YtillihiadpgalaaW.PrintWords Go.Proofs.YtillihiadpgalaaW.PrintLast
theorem specSide (a : Int) (h : 1 ≤ a ∧ a ≤ 5) : ∀ k, 8 ≤ k → spec_l26Parts.f k a = some (Ps a) := by
  intro k hk
  refine at_rounds (g := fun k => spec_l26Parts.f k a) (fun k => spec_l26Parts.mono a k) (k := 8) hk ?_
  have : a = 1 ∨ a = 2 ∨ a = 3 ∨ a = 4 ∨ a = 5 := by omega
  rcases this with rfl | rfl | rfl | rfl | rfl <;> decide +kernel
end Go.Proofs.Ytillihiadpgalaa.Pure
