/- Valid points, and their cells, by both. No condition. -/
import Derived.Test.YtillihiadpgalaaPx8
import Derived.Test.YtillihiadpgalaaPx9
import Derived.Test.YtillihiadpgalaaPx13
import Derived.Test.YtillihiadpgalaaBase
import Derived.Test.YtillihiadpgalaaIn
namespace Go.Proofs.Ytillihiadpgalaa.Pure
open Go.RowKit Go.Proofs.Ytillihiadpgalaa.P Go.Proofs.YtillihiadpgalaaW.PrintWords Go.Proofs.YtillihiadpgalaaW.PrintLast

/-- A valid point. -/
abbrev Pt (lat lon : Int) : Prop := -900000000 ≤ lat ∧ lat ≤ 900000000 ∧ -1800000000 < lon ∧ lon ≤ 1800000000
theorem ok_some (lat lon : Int) : spec_l11Ok.f lat lon = some (decide (Pt lat lon)) := by
  unfold spec_l11Ok.f
  simp only [in_some, Option.bind_some]
  by_cases h : -900000000 ≤ lat ∧ lat ≤ 900000000
  · simp [h.1, h.2]
    constructor <;> (intro h2; omega)
  · rw [decide_eq_false h, if_neg (by decide)]
    congr 1
    symm
    rw [decide_eq_false_iff_not]
    omega
theorem valid_some (lat lon : Int) : impl_ValidPoint.f lat lon = some (decide (Pt lat lon)) := by
  unfold impl_ValidPoint.f
  simp only [within_some, Option.bind_some]
  by_cases h : -900000000 ≤ lat ∧ lat ≤ 900000000
  · rw [decide_eq_true h, if_pos rfl]
    by_cases h2 : lon > -1800000000
    · rw [if_pos h2]; congr 1; rw [decide_eq_decide]; omega
    · rw [if_neg h2]; congr 1; symm; rw [decide_eq_false_iff_not]; omega
  · rw [decide_eq_false h, if_neg (by decide)]
    congr 1
    symm
    rw [decide_eq_false_iff_not]
    omega

/-- The cell of a valid point, by both. -/
theorem cell_eq (lat lon c d : Int) (h : Pt lat lon) : ∃ x y, spec_l26Cell.f lat lon c d = some (x, y) ∧ impl_cellOf.f lat lon c d = some (x, y, c, d) := by
  obtain ⟨h1, h2, h3, h4⟩ := h
  unfold spec_l26Cell.f impl_cellOf.f spec_l26X.f spec_l26Y.f
  have ex : wrap64 (lon + 1800000000) = lon + 1800000000 := w64 _ (by omega) (by omega)
  have ey : wrap64 (lat + 900000000) = lat + 900000000 := w64 _ (by omega) (by omega)
  rw [ex, ey, tmod_pos _ _ (by omega)]
  have hx : (if lon + 1800000000 = 3600000000 then (some 0 : Option Int) else some (lon + 1800000000)) = some ((lon + 1800000000) % 3600000000) := by
    by_cases h : lon + 1800000000 = 3600000000
    · rw [if_pos h, h]; rfl
    · rw [if_neg h]; congr 1; omega
  have hy : (if lat + 900000000 = 1800000000 then (some (wrap64 (lat + 900000000 - 1)) : Option Int) else some (lat + 900000000)) = some (mn (lat + 900000000) 1799999999) := by
    unfold mn
    by_cases h : lat + 900000000 = 1800000000
    · rw [if_pos h, h]; decide +kernel
    · rw [if_neg h, if_neg (by omega)]
  rw [hx, hy]
  exact ⟨_, _, rfl, rfl⟩

end Go.Proofs.Ytillihiadpgalaa.Pure
