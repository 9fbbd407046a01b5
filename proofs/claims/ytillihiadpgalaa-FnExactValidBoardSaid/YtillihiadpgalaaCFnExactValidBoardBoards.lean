/- States of the console, as the laws hand them on. No condition. -/
import Derived.Test.YtillihiadpgalaaCFnExactValidBoardx1
import Derived.Test.YtillihiadpgalaaCFnExactValidBoardx2
import Derived.Test.YtillihiadpgalaaCFnExactValidBoardToPoints
import Derived.Test.YtillihiadpgalaaCFnExactValidBoardEqPoint
namespace Go.Proofs.Ytillihiadpgalaa.Pure
open Go.RowKit Go.Proofs.Ytillihiadpgalaa.P Go.Proofs.YtillihiadpgalaaW.PrintWords Go.Proofs.YtillihiadpgalaaW.PrintLast

theorem eqBoard_refl (a0 a1 a2 a3 a4 a5 a6 a7 : Int) (xs : List S25) (hn : xs.length ≤ 1048576) (k : Nat) (hk : xs.length < k) : laws_eqBoard.f k a0 a1 a2 a3 a4 a5 a6 a7 xs a0 a1 a2 a3 a4 a5 a6 a7 xs = some true := by
  simp only [laws_eqBoard.f, laws_eqEllipsoid.f, laws_eqProjection.f, if_true, Option.bind_some, eqPointS_refl xs (by omega) k hk]

theorem toBoard_some (a0 a1 a2 a3 a4 a5 a6 a7 : Int) (xs : List S23) (hn : xs.length ≤ 1048576) (k : Nat) (hk : xs.length < k) : laws_toBoard.f k a0 a1 a2 a3 a4 a5 a6 a7 xs = some (a0, a1, a2, a3, a4, a5, a6, a7, xs.map cvPt) := by
  simp only [laws_toBoard.f, laws_toEllipsoid.f, laws_toProjection.f, Option.bind_some, toPointS_some xs hn k hk]
end Go.Proofs.Ytillihiadpgalaa.Pure
