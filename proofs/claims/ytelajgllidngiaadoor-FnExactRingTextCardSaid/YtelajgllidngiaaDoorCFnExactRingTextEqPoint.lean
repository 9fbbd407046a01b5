/- Lists of points are equal to themselves. No condition. -/
import Derived.Test.YtelajgllidngiaaDoorCFnExactRingTextx6
import Derived.Test.YtelajgllidngiaaDoorCFnExactRingTextBase
namespace Go.Proofs.YtelajgllidngiaaDoor.Pure
open Go.RowKit Go.Proofs.YtelajgllidngiaaDoor.P Go.Proofs.YtelajgllidngiaaDoorW.PrintWords Go.Proofs.YtelajgllidngiaaDoorW.PrintLast

theorem eqPointS_l0 (xs : List S26) (hn : xs.length ≤ 1000000000) (d : Nat) : ∀ i : Int, 0 ≤ i → i + d = xs.length → laws_eqPointS.l0 (d + 1) xs xs i = some true := by
  induction d with
  | zero => intro i h0 h; rw [laws_eqPointS.l0, if_neg (by omega)]
  | succ d ih =>
    intro i h0 h
    rw [laws_eqPointS.l0, if_pos (by omega), if_pos h0, if_pos (by omega)]
    simp only [laws_eqPoint.f, if_true, Option.bind_some]
    rw [w64 _ (by omega) (by omega)]
    exact ih (i + 1) (by omega) (by omega)
theorem eqPointS_refl (xs : List S26) (hn : xs.length ≤ 1000000000) (k : Nat) (hk : xs.length < k) : laws_eqPointS.f k xs xs = some true := by
  unfold laws_eqPointS.f
  rw [if_pos rfl]
  exact at_rounds (g := fun k => laws_eqPointS.l0 k xs xs 0) (fun k => laws_eqPointS.mono_l k xs xs 0) (k := xs.length + 1) hk (eqPointS_l0 xs hn xs.length 0 (by omega) (by omega))

end Go.Proofs.YtelajgllidngiaaDoor.Pure
