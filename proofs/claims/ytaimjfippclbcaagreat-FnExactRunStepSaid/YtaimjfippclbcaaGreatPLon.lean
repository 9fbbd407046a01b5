/- Longitudes, poles, latitudes of points, by both. No condition. -/
import Derived.Test.YtaimjfippclbcaaGreatPDir
import Derived.Test.YtaimjfippclbcaaGreatPPt
namespace Go.Proofs.YtaimjfippclbcaaGreat.Ev
open Go Go.RowKit
set_option linter.unusedSimpArgs false
set_option linter.unusedVariables false
theorem tmodF (x : Int) : -3600000000 < Int.tmod x 3600000000 ∧ Int.tmod x 3600000000 < 3600000000 := by
 by_cases h : 0 ≤ x
 ·rw [tmod_nn _ _ h]; omega
 ·have e : Int.tmod x 3600000000 = -(-x % 3600000000) := by rw [← tmod_nn (-x) _ (by omega), Int.neg_tmod, Int.neg_neg]
  rw [e]; omega
def vwrap (x : Int) : Int := if 1800000000 < Int.tmod x 3600000000 then Int.tmod x 3600000000 - 3600000000 else if Int.tmod x 3600000000 ≤ -1800000000 then Int.tmod x 3600000000 + 3600000000 else Int.tmod x 3600000000
theorem vwrap_bd (x : Int) : -1800000000 < vwrap x ∧ vwrap x ≤ 1800000000 := by
 have := tmodF x
 unfold vwrap
 split
 ·omega
 ·split <;> omega
theorem wrapr (k : Nat) (x : Int) : spec_l11Wrap k x = some [.i (vwrap x)] ∧ impl_WrapLon k x = some [.i (vwrap x)] := by
 have := tmodF x
 unfold spec_l11Wrap impl_WrapLon vwrap
 dsimp only
 by_cases h1 : 1800000000 < Int.tmod x 3600000000
 ·rw [bif_t (ltI_t h1), bif_t (ltI_t h1), if_pos h1, wr (_ - _) (by omega) (by omega), bif_f (leI_f (by omega))]
  exact ⟨rfl, rfl⟩
 ·rw [bif_f (ltI_f (by omega)), bif_f (ltI_f (by omega)), if_neg h1]
  by_cases h2 : Int.tmod x 3600000000 ≤ -1800000000
  ·rw [bif_t (leI_t h2), if_pos h2, wr (_ + _) (by omega) (by omega)]
   exact ⟨rfl, rfl⟩
  ·rw [bif_f (leI_f (by omega)), if_neg h2]
   exact ⟨rfl, rfl⟩
def poleB (a : Int) : Bool := (a == 900000000) || (a == -900000000)
theorem sPole_some (k : Nat) (a b : Int) : spec_l11Pole k a b = some [.b (poleB a)] := by
 unfold spec_l11Pole poleB
 cases (a == 900000000) <;> rfl
theorem iPole_some (k : Nat) (a b : Int) (h : -900000000 ≤ a ∧ a ≤ 900000000) : impl_isPole k a b = some [.b (poleB a)] := by
 unfold impl_isPole poleB
 rw [absS a (by omega), Option.bind_some]
 simp only [gi0]
 by_cases h1 : a < 0
 ·rw [if_pos h1, beq_f (show a ≠ 900000000 by omega), Bool.false_or]
  by_cases h2 : a = -900000000
  ·rw [beq_t h2, beq_t (by omega)]
  ·rw [beq_f h2, beq_f (by omega)]
 ·rw [if_neg h1, beq_f (show a ≠ -900000000 by omega), Bool.or_false]
noncomputable def vLat (k : Nat) (a b : Int) : Int × Int := bif PtB a b then vRad k a else wv
theorem latr {k : Nat} (hk : 700 ≤ k) (a b : Int) : spec_LatOf k a b = some (pv (vLat k a b)) ∧ impl_LatOf k a b = some (pv (vLat k a b)) := by
 unfold spec_LatOf impl_LatOf vLat
 simp only [pt_some, point_some, ivb, ivr hk, Option.bind_some, pv0, pv1, gi0, giS, gb0, gbS, cond_true, cond_false, Bool.not_true, Bool.not_false, pair_eta]
 cases PtB a b <;> exact ⟨rfl, rfl⟩
theorem lonr {k : Nat} (hk : 700 ≤ k) (a b : Int) (h : PtB a b = true) : impl_LonOf k a b = some (pv (vRad k b)) := by
 unfold impl_LonOf
 simp only [point_some, h, ivr hk, Option.bind_some, pv0, pv1, gi0, giS, gb0, gbS, cond_true, cond_false, Bool.not_true, Bool.not_false, pair_eta]
 rfl
end Go.Proofs.YtaimjfippclbcaaGreat.Ev
