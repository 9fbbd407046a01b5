/- Longitudes, wrapped by both. No condition. -/
import Derived.Test.YtelajgllidngiaaDoorCFnExactRingTextx2
import Derived.Test.YtelajgllidngiaaDoorCFnExactRingTextx4
import Derived.Test.YtelajgllidngiaaDoorCFnExactRingTextBase
namespace Go.Proofs.YtelajgllidngiaaDoor.Pure
open Go.RowKit Go.Proofs.YtelajgllidngiaaDoor.P Go.Proofs.YtelajgllidngiaaDoorW.PrintWords Go.Proofs.YtelajgllidngiaaDoorW.PrintLast

/-- A longitude, wrapped. -/
def wl (n : Int) : Int := if Int.tmod n 3600000000 > 1800000000 then Int.tmod n 3600000000 - 3600000000 else if Int.tmod n 3600000000 ≤ -1800000000 then Int.tmod n 3600000000 + 3600000000 else Int.tmod n 3600000000
theorem tmod_bd (n : Int) : -3600000000 < Int.tmod n 3600000000 ∧ Int.tmod n 3600000000 < 3600000000 := by
  have h1 := Int.tmod_lt_of_pos n (show (0 : Int) < 3600000000 by decide)
  have h2 := Int.tmod_lt_of_pos (-n) (show (0 : Int) < 3600000000 by decide)
  rw [Int.neg_tmod] at h2
  omega
theorem wl_bd (n : Int) : -1800000000 < wl n ∧ wl n ≤ 1800000000 := by
  have := tmod_bd n
  unfold wl
  repeat' split
  all_goals omega
theorem wrap_some (n : Int) : spec_l11Wrap.f n = some (wl n) := by
  have hb := tmod_bd n
  unfold spec_l11Wrap.f wl
  by_cases h1 : Int.tmod n 3600000000 > 1800000000
  · rw [if_pos h1, if_pos h1, w64 _ (by omega) (by omega), if_neg (by omega)]
  · rw [if_neg h1, if_neg h1]
    by_cases h2 : Int.tmod n 3600000000 ≤ -1800000000
    · rw [if_pos h2, if_pos h2, w64 _ (by omega) (by omega)]
    · rw [if_neg h2, if_neg h2]
theorem wrapLon_some (n : Int) : impl_WrapLon.f n = some (wl n) := by
  have hb := tmod_bd n
  unfold impl_WrapLon.f wl
  by_cases h1 : Int.tmod n 3600000000 > 1800000000
  · rw [if_pos h1, if_pos h1, w64 _ (by omega) (by omega)]
  · rw [if_neg h1, if_neg h1]
    by_cases h2 : Int.tmod n 3600000000 ≤ -1800000000
    · rw [if_pos h2, if_pos h2, w64 _ (by omega) (by omega)]
    · rw [if_neg h2, if_neg h2]
end Go.Proofs.YtelajgllidngiaaDoor.Pure
