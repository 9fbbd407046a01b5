/- Conic projections, by both. No condition. -/
import Derived.Test.YtaimjfippclbcaaGreatPAzi
namespace Go.Proofs.YtaimjfippclbcaaGreat.Ev
open Go Go.RowKit
set_option linter.unusedSimpArgs false
set_option linter.unusedVariables false
theorem timesr {k : Nat} (hk : 700 ≤ k) (n a b : Int) : impl_times k n a b = some (pv (vMul k (vInt k n) (a, b))) := by
 unfold impl_times
 simp only [ivr hk, Option.bind_some, pv0, pv1, gi0, giS, gb0, gbS, cond_true, cond_false, Bool.not_true, Bool.not_false, pair_eta]
 rfl
noncomputable def vIso (k : Nat) (x : Int × Int) : Int × Int := vAsinh k (vTan k x)
theorem isor {k : Nat} (hk : 700 ≤ k) (a b : Int) : spec_l19Iso k a b = some (pv (vIso k (a, b))) ∧ impl_isometricSphere k a b = some (pv (vIso k (a, b))) := by
 unfold spec_l19Iso impl_isometricSphere vIso
 simp only [tanr hk, asinhr hk, ivr hk, Option.bind_some, pv0, pv1, gi0, giS, gb0, gbS, cond_true, cond_false, Bool.not_true, Bool.not_false, pair_eta]
 exact ⟨rfl, rfl⟩
noncomputable def vCone (k : Nat) (p d e : Int) : Int × Int := bif p == 10 then vHalf k (vAdd k (vSin k (vRad k d)) (vSin k (vRad k e))) else bif d == e then vSin k (vRad k d) else bif p == 11 then vDiv k (vSub k (vLog k (vCos k (vRad k d))) (vLog k (vCos k (vRad k e)))) (vSub k (vIso k (vRad k e)) (vIso k (vRad k d))) else vDiv k (vSub k (vCos k (vRad k d)) (vCos k (vRad k e))) (vSub k (vRad k e) (vRad k d))
theorem coner {k : Nat} (hk : 700 ≤ k) (p a b d e : Int) : spec_l19Cone k p a b d e = some (pv (vCone k p d e)) ∧ ∀ o1 o2 u1 u2 w1 w2, impl_conic_cone k p a b d e (vRad k d).1 (vRad k d).2 (vRad k e).1 (vRad k e).2 o1 o2 u1 u2 w1 w2 = some (pv (vCone k p d e)) := by
 unfold spec_l19Cone impl_conic_cone vCone
 simp only [isor hk, cosr hk, logr hk, ivr hk, Option.bind_some, pv0, pv1, gi0, giS, gb0, gbS, cond_true, cond_false, Bool.not_true, Bool.not_false, pair_eta]
 cases (p == 10)
 ·cases (d == e)
  ·cases (p == 11) <;> exact ⟨rfl, fun _ _ _ _ _ _ => rfl⟩
  ·exact ⟨rfl, fun _ _ _ _ _ _ => rfl⟩
 ·exact ⟨rfl, fun _ _ _ _ _ _ => rfl⟩
noncomputable def vCst (k : Nat) (p d : Int) (n : Int × Int) : Int × Int := bif p == 10 then vAdd k (vSqr k (vCos k (vRad k d))) (vMul k (vMul k (vInt k 2) n) (vSin k (vRad k d))) else bif p == 11 then vDiv k (vMul k (vCos k (vRad k d)) (vExp k (vMul k n (vIso k (vRad k d))))) n else vAdd k (vDiv k (vCos k (vRad k d)) n) (vRad k d)
theorem cstr {k : Nat} (hk : 700 ≤ k) (p a b d e n1 n2 : Int) : spec_l19Constant k p a b d e n1 n2 = some (pv (vCst k p d (n1, n2))) ∧ ∀ b1 b2 o1 o2 w1 w2, impl_conic_constant k p a b d e (vRad k d).1 (vRad k d).2 b1 b2 o1 o2 n1 n2 w1 w2 = some (pv (vCst k p d (n1, n2))) := by
 unfold spec_l19Constant impl_conic_constant vCst
 simp only [isor hk, cosr hk, expr hk, timesr hk, ivr hk, Option.bind_some, pv0, pv1, gi0, giS, gb0, gbS, cond_true, cond_false, Bool.not_true, Bool.not_false, pair_eta]
 cases (p == 10)
 ·cases (p == 11) <;> exact ⟨rfl, fun _ _ _ _ _ _ => rfl⟩
 ·exact ⟨rfl, fun _ _ _ _ _ _ => rfl⟩
noncomputable def vRds (k : Nat) (p : Int) (n g x : Int × Int) : Int × Int := bif p == 10 then vDiv k (vSqrt k (vSub k g (vMul k (vMul k (vInt k 2) n) (vSin k x)))) n else bif p == 11 then vMul k g (vExp k (vNeg k (vMul k n (vIso k x)))) else vSub k g x
theorem rdsr {k : Nat} (hk : 700 ≤ k) (p n1 n2 g1 g2 x1 x2 : Int) : spec_l19Radius k p n1 n2 g1 g2 x1 x2 = some (pv (vRds k p (n1, n2) (g1, g2) (x1, x2))) ∧ ∀ y1 y2 y3 y4 y5 y6 y7 y8 y9 y10, impl_conic_radius k p y1 y2 y3 y4 y5 y6 y7 y8 y9 y10 n1 n2 g1 g2 x1 x2 = some (pv (vRds k p (n1, n2) (g1, g2) (x1, x2))) := by
 unfold spec_l19Radius impl_conic_radius vRds
 simp only [isor hk, expr hk, sqrtr hk, timesr hk, ivr hk, Option.bind_some, pv0, pv1, gi0, giS, gb0, gbS, cond_true, cond_false, Bool.not_true, Bool.not_false, pair_eta]
 cases (p == 10)
 ·cases (p == 11) <;> exact ⟨rfl, fun _ _ _ _ _ _ _ _ _ _ => rfl⟩
 ·exact ⟨rfl, fun _ _ _ _ _ _ _ _ _ _ => rfl⟩
noncomputable def conB (k : Nat) (p a b d e : Int) : Bool := vPrj k p a b d e && decide (10 ≤ p ∧ p ≤ 12)
theorem conSr (k : Nat) (p a b d e : Int) : spec_l19Ok k p a b d e = some [.b (conB k p a b d e)] := by
 unfold spec_l19Ok conB
 simp only [prjr, in_dec, Option.bind_some, gb0]
 cases vPrj k p a b d e <;> cases decide (10 ≤ p ∧ p ≤ 12) <;> rfl
theorem newr {k : Nat} (hk : 700 ≤ k) (p a b d e : Int) : impl_newConic k p a b d e = bif conB k p a b d e then some [.l [[.i p, .i a, .i b, .i d, .i e, .i (vRad k d).1, .i (vRad k d).2, .i (vRad k e).1, .i (vRad k e).2, .i (vRad k a).1, .i (vRad k a).2, .i (vCone k p d e).1, .i (vCone k p d e).2, .i (vCst k p d (vCone k p d e)).1, .i (vCst k p d (vCone k p d e)).2]], .i 0] else some [.l [], .i 1] := by
 unfold impl_newConic conB
 simp only [prjr, con_some, coner hk, cstr hk, ivr hk, Option.bind_some, pv0, pv1, gi0, giS, gb0, gbS, cond_true, cond_false, Bool.not_true, Bool.not_false, pair_eta]
 cases vPrj k p a b d e <;> cases decide (10 ≤ p ∧ p ≤ 12) <;> rfl
theorem ri_one (l : List D) (j : Nat) : ri [l] 0 j = gi l j := rfl
theorem len_one {α : Type} (l : α) : decide (List.length [l] = 1) = true := rfl
theorem conF_same {k : Nat} (hk : 700 ≤ k) (p a b d e x y : Int) : Same5 (spec_ConicForward k p a b d e x y) (impl_ConicForward k p a b d e x y) := by
 unfold spec_ConicForward impl_ConicForward
 simp only [conSr, newr hk, pt_some, point_some, Option.bind_some, gb0]
 cases h : conB k p a b d e
 ·exact ⟨_, _, _, _, _, rfl, rfl⟩
 ·have h1 : vPrj k p a b d e = true := by unfold conB at h; rw [Bool.and_eq_true] at h; exact h.1
  simp only [cond_true, Option.bind_some, gl0, len_one, ri_one, gi0, giS, Int.reduceBNe, cond_false, Bool.not_true]
  cases h2 : PtB x y
  ·exact ⟨_, _, _, _, _, rfl, rfl⟩
  ·have hb := PtB_iff.1 h2
   simp only [iPole_some k x y hb.1, sPole_some, lonir hk p a b d e x y h1 h2, lonsr hk, latr hk, coner hk, cstr hk, rdsr hk, cosr hk, endr, pair_eta, ivr hk, Option.bind_some, pv0, pv1, gi0, giS, gb0, gbS, cond_true, cond_false, Bool.not_true, Bool.not_false, pair_eta]
   cases poleB x
   ·cases (p == 11) <;> exact ⟨_, _, _, _, _, rfl, rfl⟩
   ·cases (p == 11) <;> exact ⟨_, _, _, _, _, rfl, rfl⟩
noncomputable def vIlt (k : Nat) (p : Int) (n g w : Int × Int) : (Int × Int) × Bool := bif p == 10 then (vAsin k (vDiv k (vSub k g (vSqr k (vMul k w n))) (vMul k (vInt k 2) n)), vOver k (vDiv k (vSub k g (vSqr k (vMul k w n))) (vMul k (vInt k 2) n)) (-4294967296, 4294967296)) else bif p == 11 then (vAtan k (vSinh k (vDiv k (vLog k (vDiv k g w)) n)), true) else (vSub k g w, true)
theorem iltr {k : Nat} (hk : 700 ≤ k) (p n1 n2 g1 g2 w1 w2 y1 y2 y3 y4 y5 y6 y7 y8 y9 y10 : Int) : impl_conic_inverseLat k p y1 y2 y3 y4 y5 y6 y7 y8 y9 y10 n1 n2 g1 g2 w1 w2 = some [.i (vIlt k p (n1, n2) (g1, g2) (w1, w2)).1.1, .i (vIlt k p (n1, n2) (g1, g2) (w1, w2)).1.2, .b (vIlt k p (n1, n2) (g1, g2) (w1, w2)).2] := by
 unfold impl_conic_inverseLat vIlt
 simp only [timesr hk, asinr hk, logr hk, sinhr hk, atanr hk, ivb, ivr hk, Option.bind_some, pv0, pv1, gi0, giS, gb0, gbS, cond_true, cond_false, Bool.not_true, Bool.not_false, pair_eta]
 cases (p == 10)
 ·cases (p == 11) <;> rfl
 ·rfl
theorem ring_end {k : Nat} (hk : 700 ≤ k) (m : Int × Int) (a b c d e : Int) (hv : V5 a b c d e) : Same5v (bif ivB m.1 m.2 then (bif !vOver k m (-4294967296, 4294967296) then some [D.i 0, .i 0, .i 0, .i 0, .i 8] else some [.i a, .i b, .i c, .i d, .i e]) else some [.i a, .i b, .i c, .i d, .i e]) (bif !vOver k m (-4294967296, 4294967296) then some [D.i 0, .i 0, .i 0, .i 0, .i 8] else some [.i a, .i b, .i c, .i d, .i e]) := by
 have hw := over_whole hk m.1 m.2 (-4294967296) 4294967296
 cases h5 : ivB m.1 m.2
 ·rw [show vOver k m (-4294967296, 4294967296) = true from hw h5]
  exact ⟨_, _, _, _, _, rfl, rfl, hv⟩
 ·cases vOver k m (-4294967296, 4294967296) <;> first | exact ⟨_, _, _, _, _, rfl, rfl, hv⟩ | exact ⟨_, _, _, _, _, rfl, rfl, .inr ⟨by decide, rfl, rfl, rfl, rfl⟩⟩
theorem conI_same {k : Nat} (hk : 700 ≤ k) (p a b d e x1 x2 y1 y2 : Int) : Same5v (spec_ConicInverse k p a b d e x1 x2 y1 y2) (impl_ConicInverse k p a b d e x1 x2 y1 y2) := by
 unfold spec_ConicInverse impl_ConicInverse
 simp only [conSr, newr hk, Option.bind_some, gb0]
 cases h : conB k p a b d e
 ·first | exact ⟨_, _, _, _, _, rfl, rfl, b5_v _ _ _ _⟩ | exact ⟨_, _, _, _, _, rfl, rfl, .inr ⟨by decide, rfl, rfl, rfl, rfl⟩⟩
 ·simp only [cond_true, Option.bind_some, gl0, len_one, ri_one, gi0, giS, Int.reduceBNe, cond_false, Bool.not_true, coner hk, cstr hk, rdsr hk, sqrtr hk, dirr hk, iltr hk, pair_eta, pv0, pv1, gbS, gb0, ivr hk]
  cases ltI (IntKind.wrap .i64 (d + e)) 0
  all_goals
   unfold vIlt
   cases (p == 10)
   ·cases (p == 11)
    ·simp only [backr hk, onr hk, ivr hk, Option.bind_some, pv0, pv1, gi0, giS, gb0, gbS, cond_true, cond_false, Bool.not_true, Bool.not_false, pair_eta]
     first | exact ⟨_, _, _, _, _, rfl, rfl, b5_v _ _ _ _⟩ | exact ⟨_, _, _, _, _, rfl, rfl, .inr ⟨by decide, rfl, rfl, rfl, rfl⟩⟩
    ·simp only [logr hk, sinhr hk, atanr hk, backr hk, onr hk, ivr hk, Option.bind_some, pv0, pv1, gi0, giS, gb0, gbS, cond_true, cond_false, Bool.not_true, Bool.not_false, pair_eta]
     first | exact ⟨_, _, _, _, _, rfl, rfl, b5_v _ _ _ _⟩ | exact ⟨_, _, _, _, _, rfl, rfl, .inr ⟨by decide, rfl, rfl, rfl, rfl⟩⟩
   ·simp only [asinr hk, backr hk, onr hk, ivb, ivr hk, Option.bind_some, pv0, pv1, gi0, giS, gb0, gbS, cond_true, cond_false, Bool.not_true, Bool.not_false, pair_eta]
    exact ring_end hk _ _ _ _ _ _ (b5_v _ _ _ _)
end Go.Proofs.YtaimjfippclbcaaGreat.Ev
