/- Valid points, by both. No condition. -/
import Derived.Test.YtelajgllidngiaaDoorCFnExactGeorefOfx1
import Derived.Test.YtelajgllidngiaaDoorCFnExactGeorefOfx3
import Derived.Test.YtelajgllidngiaaDoorCFnExactGeorefOfBase
import Derived.Test.YtelajgllidngiaaDoorCFnExactGeorefOfIn
namespace Go.Proofs.YtelajgllidngiaaDoor.Pure
open Go.RowKit Go.Proofs.YtelajgllidngiaaDoor.P Go.Proofs.YtelajgllidngiaaDoorW.PrintWords Go.Proofs.YtelajgllidngiaaDoorW.PrintLast

/-- A valid point. -/
abbrev Pt (lat lon : Int) : Prop := -900000000 ≤ lat ∧ lat ≤ 900000000 ∧ -1800000000 < lon ∧ lon ≤ 1800000000
theorem ok_some (lat lon : Int) : spec_l11Ok.f lat lon = some (decide (Pt lat lon)) := by
  unfold spec_l11Ok.f
  simp only [in_some, Option.bind_some]
  by_cases h : -900000000 ≤ lat ∧ lat ≤ 900000000
  · simp [h.1, h.2]
    constructor <;> (intro h2; omega)
  · rw [decide_eq_false h, if_neg (by decide)]
    congr 1
    symm
    rw [decide_eq_false_iff_not]
    omega
theorem valid_some (lat lon : Int) : impl_ValidPoint.f lat lon = some (decide (Pt lat lon)) := by
  unfold impl_ValidPoint.f
  simp only [within_some, Option.bind_some]
  by_cases h : -900000000 ≤ lat ∧ lat ≤ 900000000
  · rw [decide_eq_true h, if_pos rfl]
    by_cases h2 : lon > -1800000000
    · rw [if_pos h2]; congr 1; rw [decide_eq_decide]; omega
    · rw [if_neg h2]; congr 1; symm; rw [decide_eq_false_iff_not]; omega
  · rw [decide_eq_false h, if_neg (by decide)]
    congr 1
    symm
    rw [decide_eq_false_iff_not]
    omega

end Go.Proofs.YtelajgllidngiaaDoor.Pure
