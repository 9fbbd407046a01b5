/- Azimuthal projections, by both. No condition. -/
import Derived.Test.YtaimjfippclbcaaGreatPCyl
namespace Go.Proofs.YtaimjfippclbcaaGreat.Ev
open Go Go.RowKit
set_option linter.unusedSimpArgs false
set_option linter.unusedVariables false
theorem knowni (k : Nat) (a b : Int) : impl_knownI k a b = some (bif ivB a b then [.i a, .i b, .i 0] else [.i 0, .i 0, .i 9]) := by
 unfold impl_knownI
 simp only [ivb, Option.bind_some, gb0]
 cases ivB a b <;> rfl
noncomputable def vPos (k : Nat) (x y z : Int × Int) : List D := bif ivB (vDir k z (vNorm k x y (0, 0))).1 (vDir k z (vNorm k x y (0, 0))).2 then [.i (vDir k z (vNorm k x y (0, 0))).1, .i (vDir k z (vNorm k x y (0, 0))).2, .i (vDir k y x).1, .i (vDir k y x).2, .i 0] else [.i 0, .i 0, .i 0, .i 0, .i 9]
theorem posr {k : Nat} (hk : 700 ≤ k) (a b c d e f : Int) : spec_PositionOf k a b c d e f = some (vPos k (a, b) (c, d) (e, f)) ∧ impl_PositionOf k a b c d e f = some (vPos k (a, b) (c, d) (e, f)) := by
 unfold spec_PositionOf impl_PositionOf vPos
 simp only [flatr2 hk, dirr hk, knowni, ivb, ivr hk, Option.bind_some, pv0, pv1, gi0, giS, gb0, gbS, cond_true, cond_false, Bool.not_true, Bool.not_false, pair_eta]
 cases ivB (vDir k (e, f) (vNorm k (a, b) (c, d) (0, 0))).1 (vDir k (e, f) (vNorm k (a, b) (c, d) (0, 0))).2 <;> exact ⟨rfl, rfl⟩
noncomputable def aziB (k : Nat) (p a b d e : Int) : Bool := vPrj k p a b d e && decide (5 ≤ p ∧ p ≤ 9)
theorem azir (k : Nat) (p a b d e : Int) : spec_l18Ok k p a b d e = some [.b (aziB k p a b d e)] ∧ impl_isAzimuthalOne k p a b d e = some [.b (aziB k p a b d e)] := by
 unfold spec_l18Ok spec_l18Kind impl_isAzimuthalOne aziB
 simp only [prjr, in_dec, azi_some, Option.bind_some, gb0]
 cases vPrj k p a b d e <;> cases decide (5 ≤ p ∧ p ≤ 9) <;> exact ⟨rfl, rfl⟩
theorem azi_facts {k : Nat} {p a b d e : Int} (h : aziB k p a b d e = true) : vPrj k p a b d e = true ∧ (p = 5 ∨ p = 6 ∨ p = 7 ∨ p = 8 ∨ p = 9) ∧ PtB a b = true := by
 unfold aziB at h
 rw [Bool.and_eq_true, decide_eq_true_eq] at h
 exact ⟨h.1, by omega, (prj_facts h.1).2.1⟩
theorem vLat_t {k : Nat} {a b : Int} (h : PtB a b = true) : vLat k a b = vRad k a := by unfold vLat; rw [h]; rfl
theorem glob_same {k : Nat} (hk : 700 ≤ k) (p a b d e x1 x2 y1 y2 z1 z2 : Int) : Same5v (spec_GlobalOf k p a b d e x1 x2 y1 y2 z1 z2) (impl_GlobalOf k p a b d e x1 x2 y1 y2 z1 z2) := by
 unfold spec_GlobalOf impl_GlobalOf impl_Projection_centre
 simp only [azir, Option.bind_some, gb0]
 cases h : aziB k p a b d e
 ·exact ⟨_, _, _, _, _, rfl, rfl, .inr ⟨by decide, rfl, rfl, rfl, rfl⟩⟩
 ·obtain ⟨_, _, hp⟩ := azi_facts h
  simp only [latr hk, vLat_t hp, cosr hk, posr hk, ivr hk, Option.bind_some, pv0, pv1, gi0, giS, gb0, gbS, cond_true, cond_false, Bool.not_true, Bool.not_false, pair_eta]
  unfold vPos
  generalize vSub k (vMul k (z1, z2) (vCos k (vRad k a))) (vMul k (y1, y2) (vSin k (vRad k a))) = u
  generalize vAdd k (vMul k (z1, z2) (vSin k (vRad k a))) (vMul k (y1, y2) (vCos k (vRad k a))) = w
  generalize vDir k w (vNorm k u (x1, x2) (0, 0)) = q
  cases hq : ivB q.1 q.2
  ·exact ⟨_, _, _, _, _, rfl, rfl, .inr ⟨show (9 : Int) ≠ 0 by decide, rfl, rfl, rfl, rfl⟩⟩
  ·simp only [ivr hk, Option.bind_some, pv0, pv1, gi0, giS, gb0, gbS, cond_true, cond_false, Bool.not_true, Bool.not_false, pair_eta]
   exact ⟨_, _, _, _, _, rfl, rfl, .inl ⟨rfl, hq⟩⟩
theorem local_same {k : Nat} (hk : 700 ≤ k) (p a b d e x y : Int) : ∃ u v w : Int × Int, spec_l18Local k p a b d e x y = some (pv3 u v w) ∧ impl_localOf k (vRad k a).1 (vRad k a).2 (vRad k x).1 (vRad k x).2 (vDif k b y).1 (vDif k b y).2 = some (pv3 u v w) := by
 unfold spec_l18Local impl_localOf vDif
 simp only [wrapr, cosr hk, ivr hk, Option.bind_some, pv0, pv1, gi0, giS, gb0, gbS, cond_true, cond_false, Bool.not_true, Bool.not_false, pair_eta]
 exact ⟨_, _, _, rfl, rfl⟩
theorem pv3_0 (p q r : Int × Int) : gi (pv3 p q r) 0 = p.1 := rfl
theorem pv3_1 (p q r : Int × Int) : gi (pv3 p q r) 1 = p.2 := rfl
theorem pv3_2 (p q r : Int × Int) : gi (pv3 p q r) 2 = q.1 := rfl
theorem pv3_3 (p q r : Int × Int) : gi (pv3 p q r) 3 = q.2 := rfl
theorem pv3_4 (p q r : Int × Int) : gi (pv3 p q r) 4 = r.1 := rfl
theorem pv3_5 (p q r : Int × Int) : gi (pv3 p q r) 5 = r.2 := rfl
theorem difr {k : Nat} (hk : 700 ≤ k) (a b x y : Int) : impl_differenceOf k a b x y = some (pv (vDif k b y)) := by
 unfold impl_differenceOf vDif
 simp only [wrapr, ivr hk, Option.bind_some, pv0, pv1, gi0, giS, gb0, gbS, cond_true, cond_false, Bool.not_true, Bool.not_false, pair_eta]
 rfl
theorem place_same {k : Nat} (x y a b : Int) (h1 : PtB x y = true) (h2 : PtB a b = true) : ∃ o, spec_SamePlace k x y a b = some [.b o, .i 0] ∧ impl_samePlace k x y a b = some [.b o] := by
 unfold spec_SamePlace impl_samePlace
 have hb := PtB_iff.1 h1
 simp only [pt_some, h1, h2, sPole_some, iPole_some k x y hb.1, Option.bind_some, gb0, Bool.not_true, cond_false]
 cases (x == a) <;> cases (y == b) <;> cases poleB x <;> exact ⟨_, rfl, rfl⟩
theorem pos_norm {k : Nat} (hk : 700 ≤ k) (a b c : Int × Int) : impl_isPositive k (vNorm k a b c).1 (vNorm k a b c).2 = some [.b (ltI 0 (vNorm k a b c).1)] := by
 unfold impl_isPositive
 simp only [ivb, Option.bind_some, gb0]
 rcases norm_or hk a b c with h | h
 ·rw [h]; rfl
 ·rw [h]; rfl
theorem e5_shape (p q : Int × Int) : ∃ a b c d e, e5 p q = [.i a, .i b, .i c, .i d, .i e] := by
 unfold e5
 cases (ivB p.1 p.2 && ivB q.1 q.2) <;> exact ⟨_, _, _, _, _, rfl⟩
theorem e5_whole (p q : Int × Int) : (bif !ivB p.1 p.2 then some [D.i 0, .i 0, .i 0, .i 0, .i 9] else bif !ivB q.1 q.2 then some [.i 0, .i 0, .i 0, .i 0, .i 9] else some [.i p.1, .i p.2, .i q.1, .i q.2, .i 0]) = some (e5 p q) := by
 unfold e5
 cases ivB p.1 p.2
 ·rfl
 ·cases ivB q.1 q.2 <;> rfl
theorem e5_same (p q : Int × Int) : Same5 (some (e5 p q)) (some [.i (gi (e5 p q) 0), .i (gi (e5 p q) 1), .i (gi (e5 p q) 2), .i (gi (e5 p q) 3), .i (gi (e5 p q) 4)]) := by
 obtain ⟨a, b, c, d, e, h⟩ := e5_shape p q
 rw [h]
 exact ⟨a, b, c, d, e, rfl, rfl⟩
theorem aziF_same {k : Nat} (hk : 700 ≤ k) (p a b d e x y : Int) : Same5 (spec_AzimuthalForward k p a b d e x y) (impl_AzimuthalForward k p a b d e x y) := by
 unfold spec_AzimuthalForward impl_AzimuthalForward impl_LocalOf impl_Projection_centre impl_Antipode
 simp only [azir, pt_some, point_some, Option.bind_some, gb0, gi0, giS]
 cases h : aziB k p a b d e
 ·exact ⟨_, _, _, _, _, rfl, rfl⟩
 ·cases hq : PtB x y
  ·exact ⟨_, _, _, _, _, rfl, rfl⟩
  ·obtain ⟨_, hp, hc⟩ := azi_facts h
   have hcb := PtB_iff.1 hc
   have hw := vwrap_bd (IntKind.wrap .i64 (b + 1800000000))
   obtain ⟨o, s1, s2⟩ := place_same (k := k) x y (IntKind.wrap .i64 (0 - a)) (vwrap (IntKind.wrap .i64 (b + 1800000000))) hq (by rw [wr (0 - a) (by omega) (by omega)]; exact PtB_iff.2 ⟨⟨by omega, by omega⟩, by omega, by omega⟩)
   obtain ⟨u, v, w, l1, l2⟩ := local_same hk p a b d e x y
   simp only [wrapr, s1, latr hk, vLat_t hc, vLat_t hq, difr hk, l1, l2, hc, pv3_0, pv3_1, pv3_2, pv3_3, pv3_4, pv3_5, ivr hk, Option.bind_some, pv0, pv1, gi0, giS, gb0, gbS, cond_true, cond_false, Bool.not_true, Bool.not_false, pair_eta]
   rw [bif_f (bne_f rfl), s2]
   simp only [ivr hk, Option.bind_some, pv0, pv1, gi0, giS, gb0, gbS, cond_true, cond_false, Bool.not_true, Bool.not_false, pair_eta]
   cases o
   ·unfold spec_l18Factor impl_forwardFactor
    rcases hp with rfl | rfl | rfl | rfl | rfl
    ·simp only [Int.reduceBEq, lessr, ivb, endr, ivr hk, Option.bind_some, pv0, pv1, gi0, giS, gb0, gbS, cond_true, cond_false, Bool.not_true, Bool.not_false, pair_eta]
     rcases vLess_cases (vInt k 0) w with hl | hl | hl <;> simp only [hl, Int.reduceBEq, Int.reduceBNe, e5_whole, ivr hk, Option.bind_some, pv0, pv1, gi0, giS, gb0, gbS, cond_true, cond_false, Bool.not_true, Bool.not_false, pair_eta] <;> first | exact e5_same _ _ | exact ⟨_, _, _, _, _, rfl, rfl⟩
    ·simp only [Int.reduceBEq, Int.reduceBNe, ivb, endr, e5_whole, ivr hk, Option.bind_some, pv0, pv1, gi0, giS, gb0, gbS, cond_true, cond_false, Bool.not_true, Bool.not_false, pair_eta]
     exact e5_same _ _
    ·simp only [Int.reduceBEq, lessr, ivb, endr, ivr hk, Option.bind_some, pv0, pv1, gi0, giS, gb0, gbS, cond_true, cond_false, Bool.not_true, Bool.not_false, pair_eta]
     rcases vLess_cases w (vInt k 0) with hl | hl | hl <;> simp only [hl, Int.reduceBEq, Int.reduceBNe, ivr hk, Option.bind_some, pv0, pv1, gi0, giS, gb0, gbS, cond_true, cond_false, Bool.not_true, Bool.not_false, pair_eta] <;> first | exact ⟨_, _, _, _, _, rfl, rfl⟩ | (cases ltI w.1 0 <;> simp only [Int.reduceBNe, e5_whole, ivr hk, Option.bind_some, pv0, pv1, gi0, giS, gb0, gbS, cond_true, cond_false, Bool.not_true, Bool.not_false, pair_eta] <;> exact e5_same _ _)
    ·simp only [Int.reduceBEq, flatr2 hk, pos_norm hk, dirr hk, ivb, endr, ivr hk, Option.bind_some, pv0, pv1, gi0, giS, gb0, gbS, cond_true, cond_false, Bool.not_true, Bool.not_false, pair_eta]
     cases ltI 0 (vNorm k u v (0, 0)).1 <;> simp only [Int.reduceBNe, e5_whole, ivr hk, Option.bind_some, pv0, pv1, gi0, giS, gb0, gbS, cond_true, cond_false, Bool.not_true, Bool.not_false, pair_eta] <;> exact e5_same _ _
    ·simp only [Int.reduceBEq, Int.reduceBNe, sqrtr hk, ivb, endr, e5_whole, ivr hk, Option.bind_some, pv0, pv1, gi0, giS, gb0, gbS, cond_true, cond_false, Bool.not_true, Bool.not_false, pair_eta]
     exact e5_same _ _
   ·exact ⟨_, _, _, _, _, rfl, rfl⟩
theorem vLess_wv (q : Int × Int) : vLess wv q = 2 := by
 unfold vLess
 rw [wv_not]
 rfl
theorem aziI_same {k : Nat} (hk : 700 ≤ k) (p a b d e x1 x2 y1 y2 : Int) : Same5v (spec_AzimuthalInverse k p a b d e x1 x2 y1 y2) (impl_AzimuthalInverse k p a b d e x1 x2 y1 y2) := by
 unfold spec_AzimuthalInverse impl_AzimuthalInverse
 simp only [azir, Option.bind_some, gb0]
 cases h : aziB k p a b d e
 ·exact ⟨_, _, _, _, _, rfl, rfl, .inr ⟨by decide, rfl, rfl, rfl, rfl⟩⟩
 ·obtain ⟨_, hp, hc⟩ := azi_facts h
  unfold spec_l18Most impl_greatestRadius spec_l18Back impl_inverseFactors
  have fin : ∀ u v w : Int × Int, Same5v ((spec_GlobalOf k p a b d e u.1 u.2 v.1 v.2 w.1 w.2).bind fun t => some [.i (gi t 0), .i (gi t 1), .i (gi t 2), .i (gi t 3), .i (gi t 4)]) ((impl_GlobalOf k p a b d e u.1 u.2 v.1 v.2 w.1 w.2).bind fun t => some [.i (gi t 0), .i (gi t 1), .i (gi t 2), .i (gi t 3), .i (gi t 4)]) := by
   intro u v w
   obtain ⟨a', b', c', d', e', g1, g2, g3⟩ := glob_same hk p a b d e u.1 u.2 v.1 v.2 w.1 w.2
   rw [g1, g2]
   exact ⟨a', b', c', d', e', rfl, rfl, g3⟩
  rcases hp with rfl | rfl | rfl | rfl | rfl
  ·simp only [Int.reduceBEq, lessr, flatr2 hk, sqrtr hk, ivb, pair_eta, vLess_wv, ivr hk, Option.bind_some, pv0, pv1, gi0, giS, gb0, gbS, cond_true, cond_false, Bool.not_true, Bool.not_false, pair_eta]
   exact fin _ _ _
  ·simp only [Int.reduceBEq, lessr, flatr2 hk, olr hk, ivb, pair_eta, vLess_wv, ivr hk, Option.bind_some, pv0, pv1, gi0, giS, gb0, gbS, cond_true, cond_false, Bool.not_true, Bool.not_false, pair_eta]
   exact fin _ _ _
  ·simp only [Int.reduceBEq, lessr, flatr2 hk, olr hk, sqrtr hk, maxr hk, pair_eta, ivr hk, Option.bind_some, pv0, pv1, gi0, giS, gb0, gbS, cond_true, cond_false, Bool.not_true, Bool.not_false, pair_eta]
   cases (vLess (vInt k 1) (vNorm k (x1, x2) (y1, y2) (0, 0)) == 1)
   ·exact fin _ _ _
   ·exact ⟨_, _, _, _, _, rfl, rfl, .inr ⟨by decide, rfl, rfl, rfl, rfl⟩⟩
  ·simp only [Int.reduceBEq, lessr, flatr2 hk, pir hk, pos_norm hk, cosr hk, pair_eta, ivr hk, Option.bind_some, pv0, pv1, gi0, giS, gb0, gbS, cond_true, cond_false, Bool.not_true, Bool.not_false, pair_eta]
   cases (vLess (vTurn k 2) (vNorm k (x1, x2) (y1, y2) (0, 0)) == 1)
   ·simp only [ivr hk, Option.bind_some, pv0, pv1, gi0, giS, gb0, gbS, cond_true, cond_false, Bool.not_true, Bool.not_false, pair_eta]
    cases ltI 0 (vNorm k (x1, x2) (y1, y2) (0, 0)).1
    ·simp only [ivr hk, Option.bind_some, pv0, pv1, gi0, giS, gb0, gbS, cond_true, cond_false, Bool.not_true, Bool.not_false, pair_eta]; exact fin _ _ _
    ·simp only [ivr hk, Option.bind_some, pv0, pv1, gi0, giS, gb0, gbS, cond_true, cond_false, Bool.not_true, Bool.not_false, pair_eta]; exact fin _ _ _
   ·exact ⟨_, _, _, _, _, rfl, rfl, .inr ⟨by decide, rfl, rfl, rfl, rfl⟩⟩
  ·simp only [Int.reduceBEq, lessr, flatr2 hk, olr hk, sqrtr hk, maxr hk, pair_eta, ivr hk, Option.bind_some, pv0, pv1, gi0, giS, gb0, gbS, cond_true, cond_false, Bool.not_true, Bool.not_false, pair_eta]
   cases (vLess (vInt k 2) (vNorm k (x1, x2) (y1, y2) (0, 0)) == 1)
   ·exact fin _ _ _
   ·exact ⟨_, _, _, _, _, rfl, rfl, .inr ⟨by decide, rfl, rfl, rfl, rfl⟩⟩
end Go.Proofs.YtaimjfippclbcaaGreat.Ev
