/- Ellipsoids and Cartesian coordinates, by both. No condition. -/
import Derived.Test.YtaimjfippclbcaaGreatPNrm
import Derived.Test.YtaimjfippclbcaaGreatPHyp
import Derived.Test.YtaimjfippclbcaaGreatPLon
namespace Go.Proofs.YtaimjfippclbcaaGreat.Ev
open Go Go.RowKit
set_option linter.unusedSimpArgs false
set_option linter.unusedVariables false
def ElB (a n d : Int) : Bool := (leI 1000 a && leI a 100000000000) && ((leI 1 d && leI d 1000000000000) && (leI 0 n && leI n (IntKind.wrap .i64 (Int.tdiv d 100))))
theorem ellr (k : Nat) (a n d : Int) : spec_l12Ok k a n d = some [.b (ElB a n d)] ∧ impl_ValidEllipsoid k a n d = some [.b (ElB a n d)] ∧ spec_ValidEllipsoid k a n d = some [.b (ElB a n d)] := by
 have h1 : spec_l12Ok k a n d = some [.b (ElB a n d)] := by
  unfold spec_l12Ok ElB
  simp only [in_some, Option.bind_some, gb0]
  cases (leI 1000 a && leI a 100000000000)
  ·rfl
  ·cases (leI 1 d && leI d 1000000000000)
   ·rfl
   ·cases leI 0 n <;> rfl
 refine ⟨h1, ?_, ?_⟩
 ·unfold impl_ValidEllipsoid ElB
  simp only [within_some, Option.bind_some, gb0]
  cases (leI 1000 a && leI a 100000000000)
  ·rfl
  ·cases (leI 1 d && leI d 1000000000000) <;> rfl
 ·unfold spec_ValidEllipsoid
  rw [h1]; rfl
theorem ElB_bd {a n d : Int} (h : ElB a n d = true) : (1000 ≤ a ∧ a ≤ 100000000000) ∧ (1 ≤ d ∧ d ≤ 1000000000000) ∧ 0 ≤ n ∧ n ≤ 10000000000 := by
 unfold ElB leI at h
 simp only [Bool.and_eq_true, decide_eq_true_eq] at h
 obtain ⟨h1, h2, h3, h4⟩ := h
 have e : Int.tdiv d 100 = d / 100 := Int.tdiv_eq_ediv_of_nonneg (by omega)
 rw [e, wr (d / 100) (by omega) (by omega)] at h4
 exact ⟨h1, h2, h3, by omega⟩
noncomputable def vFlat (k : Nat) (a n d : Int) : Int × Int := bif ElB a n d then vQuo k n d else wv
noncomputable def vMajor (k : Nat) (a n d : Int) : Int × Int := bif ElB a n d then vQuo k a 1000 else wv
theorem ri_c0 (a b c : Int) : ri [[.i a, .i b, .i c]] 0 0 = a := rfl
theorem ri_c1 (a b c : Int) : ri [[.i a, .i b, .i c]] 0 1 = b := rfl
theorem ri_c2 (a b c : Int) : ri [[.i a, .i b, .i c]] 0 2 = c := rfl
theorem flatr {k : Nat} (hk : 700 ≤ k) (a n d : Int) : spec_FlatteningI k a n d = some (pv (vFlat k a n d)) ∧ impl_FlatteningI k a n d = some (pv (vFlat k a n d)) := by
 unfold spec_FlatteningI impl_FlatteningI impl_ifValid_FlatteningI_1 impl_FlatteningI_1 vFlat
 simp only [ri_c0, ri_c1, ri_c2, ellr, ivb, ivr hk, Option.bind_some, pv0, pv1, gi0, giS, gb0, gbS, cond_true, cond_false, Bool.not_true, Bool.not_false, pair_eta]
 cases h : ElB a n d
 ·exact ⟨rfl, rfl⟩
 ·have hb := ElB_bd h
  rw [(quoD hk n d ⟨⟨by omega, by omega⟩, by omega, by omega⟩).1, (quoD hk n d ⟨⟨by omega, by omega⟩, by omega, by omega⟩).2]
  exact ⟨rfl, rfl⟩
theorem majorr {k : Nat} (hk : 700 ≤ k) (a n d : Int) : spec_MajorI k a n d = some (pv (vMajor k a n d)) ∧ impl_MajorI k a n d = some (pv (vMajor k a n d)) := by
 unfold spec_MajorI impl_MajorI impl_ifValid_MajorI_1 impl_MajorI_1 vMajor
 simp only [ri_c0, ri_c1, ri_c2, ellr, ivb, ivr hk, Option.bind_some, pv0, pv1, gi0, giS, gb0, gbS, cond_true, cond_false, Bool.not_true, Bool.not_false, pair_eta]
 cases h : ElB a n d
 ·exact ⟨rfl, rfl⟩
 ·have hb := ElB_bd h
  rw [(quoD hk a 1000 ⟨⟨by omega, by omega⟩, by omega, by omega⟩).1, (quoD hk a 1000 ⟨⟨by omega, by omega⟩, by omega, by omega⟩).2]
  exact ⟨rfl, rfl⟩
noncomputable def vEcc (k : Nat) (a n d : Int) : Int × Int := vMul k (vFlat k a n d) (vSub k (vInt k 2) (vFlat k a n d))
theorem eccr {k : Nat} (hk : 700 ≤ k) (a n d : Int) : spec_EccI k a n d = some (pv (vEcc k a n d)) ∧ impl_EccI k a n d = some (pv (vEcc k a n d)) := by
 unfold spec_EccI impl_EccI vEcc
 simp only [flatr hk, ivr hk, Option.bind_some, pv0, pv1, gi0, giS, gb0, gbS, cond_true, cond_false, Bool.not_true, Bool.not_false, pair_eta]
 exact ⟨rfl, rfl⟩
theorem olr {k : Nat} (hk : 700 ≤ k) (a b : Int) : impl_oneLess k a b = some (pv (vSub k (vInt k 1) (a, b))) := by
 unfold impl_oneLess
 simp only [ivr hk, Option.bind_some, pv0, pv1, gi0, giS, gb0, gbS, cond_true, cond_false, Bool.not_true, Bool.not_false, pair_eta]
 rfl
noncomputable def vW (k : Nat) (a n d : Int) (s : Int × Int) : Int × Int := vSub k (vInt k 1) (vMul k (vEcc k a n d) (vSqr k s))
theorem wgtr {k : Nat} (hk : 700 ≤ k) (a n d x y : Int) : impl_weightOf k a n d x y = some (pv (vW k a n d (x, y))) := by
 unfold impl_weightOf vW
 simp only [eccr hk, olr hk, ivr hk, Option.bind_some, pv0, pv1, gi0, giS, gb0, gbS, cond_true, cond_false, Bool.not_true, Bool.not_false, pair_eta]
 rfl
noncomputable def vRadN (k : Nat) (a n d : Int) (x : Int × Int) : Int × Int := vDiv k (vMajor k a n d) (vSqrt k (vW k a n d (vSin k x)))
theorem radnr {k : Nat} (hk : 700 ≤ k) (a n d x y : Int) : spec_RadiusN k a n d x y = some (pv (vRadN k a n d (x, y))) ∧ impl_RadiusN k a n d x y = some (pv (vRadN k a n d (x, y))) := by
 unfold spec_RadiusN impl_RadiusN spec_l12W vRadN
 simp only [eccr hk, majorr hk, wgtr hk, sqrtr hk, ivr hk, Option.bind_some, pv0, pv1, gi0, giS, gb0, gbS, cond_true, cond_false, Bool.not_true, Bool.not_false, pair_eta]
 exact ⟨rfl, rfl⟩
def PlB (a b h : Int) : Bool := PtB a b && (leI (-20000000) h && leI h 20000000000)
theorem placer (k : Nat) (a b h : Int) : spec_l14Ok k a b h = some [.b (PlB a b h)] ∧ impl_ValidPlace k a b h = some [.b (PlB a b h)] := by
 unfold spec_l14Ok impl_ValidPlace impl_isHeight PlB
 simp only [pt_some, point_some, in_some, within_some, Option.bind_some, gb0]
 cases PtB a b <;> exact ⟨rfl, rfl⟩
theorem PlB_iff {a b h : Int} (hp : PlB a b h = true) : PtB a b = true ∧ -20000000 ≤ h ∧ h ≤ 20000000000 := by
 unfold PlB leI at hp
 simp only [Bool.and_eq_true, decide_eq_true_eq] at hp
 exact hp
theorem heightr {k : Nat} (hk : 700 ≤ k) (h : Int) (hh : -20000000 ≤ h ∧ h ≤ 20000000000) : spec_Quotient k h 1000 = some (pv (vQuo k h 1000)) ∧ impl_HeightI k h = some (pv (vQuo k h 1000)) := by
 have hq := quoD hk h 1000 ⟨⟨by omega, by omega⟩, by omega, by omega⟩
 refine ⟨hq.1, ?_⟩
 unfold impl_HeightI impl_isHeight
 simp only [within_some, hq.2, leI_t hh.1, leI_t hh.2, Bool.and_self, ivr hk, Option.bind_some, pv0, pv1, gi0, giS, gb0, gbS, cond_true, cond_false, Bool.not_true, Bool.not_false, pair_eta]
 rfl
def pv3 (p q r : Int × Int) : List D := [.i p.1, .i p.2, .i q.1, .i q.2, .i r.1, .i r.2]
def Same3 (s i : Option (List D)) : Prop := ∃ p q r, s = some (pv3 p q r) ∧ i = some (pv3 p q r)
theorem toc_same {k : Nat} (hk : 700 ≤ k) (a n d x y h : Int) (hp : PlB x y h = true) : Same3 (spec_l14To k a n d x y h) (impl_toCartesian k a n d x y h) := by
 obtain ⟨hpt, hh⟩ := PlB_iff hp
 have e : vLat k x y = vRad k x := by unfold vLat; rw [hpt]; rfl
 unfold spec_l14To impl_toCartesian
 simp only [radnr hk, eccr hk, olr hk, cosr hk, latr hk, lonr hk x y hpt, e, (heightr hk h hh).1, (heightr hk h hh).2, ivr hk, Option.bind_some, pv0, pv1, gi0, giS, gb0, gbS, cond_true, cond_false, Bool.not_true, Bool.not_false, pair_eta]
 exact ⟨_, _, _, rfl, rfl⟩
theorem cart_same {k : Nat} (hk : 700 ≤ k) (a n d x y h : Int) : ∃ p q r c, spec_ToCartesian k a n d x y h = some (pv3 p q r ++ [.i c]) ∧ impl_ToCartesian k a n d x y h = some (pv3 p q r ++ [.i c]) := by
 unfold spec_ToCartesian impl_ToCartesian
 simp only [ellr, placer, Option.bind_some, gb0]
 cases ElB a n d
 ·exact ⟨(0, 0), (0, 0), (0, 0), 1, rfl, rfl⟩
 ·cases hp : PlB x y h
  ·exact ⟨(0, 0), (0, 0), (0, 0), 1, rfl, rfl⟩
  ·obtain ⟨p, q, r, e1, e2⟩ := toc_same hk a n d x y h hp
   rw [e1, e2]
   exact ⟨p, q, r, 0, rfl, rfl⟩
theorem flatr2 {k : Nat} (hk : 700 ≤ k) (a b c d e f : Int) : spec_l15Flat k a b c d e f = some (pv (vNorm k (a, b) (c, d) (0, 0))) ∧ impl_fromAxis k a b c d e f = some (pv (vNorm k (a, b) (c, d) (0, 0))) := by
 unfold spec_l15Flat impl_fromAxis
 simp only [normr hk, ivr hk, Option.bind_some, pv0, pv1, gi0, giS, gb0, gbS, cond_true, cond_false, Bool.not_true, Bool.not_false, pair_eta]
 exact ⟨rfl, rfl⟩
def vFar (k : Nat) (a n d : Int) (u : Int × Int) (m : Int × Int) : Int := bif !ElB a n d then 1 else bif vLess u m == 1 then 8 else bif vLess u m == 0 then 0 else 9
theorem vLess_cases (a b : Int × Int) : vLess a b = 0 ∨ vLess a b = 1 ∨ vLess a b = 2 := by
 unfold vLess
 cases (!(ivB a.1 a.2 && ivB b.1 b.2))
 ·cases ltI a.2 b.1
  ·cases leI b.2 a.1
   ·exact .inr (.inr rfl)
   ·exact .inl rfl
  ·exact .inr (.inl rfl)
 ·exact .inr (.inr rfl)
theorem far_same {k : Nat} (hk : 700 ≤ k) (a n d x1 x2 y1 y2 z1 z2 : Int) : ∃ c, (c = 0 → ElB a n d = true) ∧ spec_l14Far k a n d x1 x2 y1 y2 z1 z2 = some [.i c] ∧ impl_centreCode k a n d x1 x2 y1 y2 z1 z2 = some [.i c] := by
 unfold spec_l14Far impl_centreCode
 simp only [ellr, normr hk, majorr hk, lessr, ivr hk, Option.bind_some, pv0, pv1, gi0, giS, gb0, gbS, cond_true, cond_false, Bool.not_true, Bool.not_false, pair_eta]
 cases ElB a n d
 ·exact ⟨1, by decide, rfl, rfl⟩
 ·simp only [ivr hk, Option.bind_some, pv0, pv1, gi0, giS, gb0, gbS, cond_true, cond_false, Bool.not_true, Bool.not_false, pair_eta]
  rcases vLess_cases (vNorm k (x1, x2) (y1, y2) (z1, z2)) (vHalf k (vMajor k a n d)) with h | h | h <;> rw [h]
  ·exact ⟨0, fun _ => by first | rfl | trivial, rfl, rfl⟩
  ·exact ⟨8, by decide, rfl, rfl⟩
  ·exact ⟨9, by decide, rfl, rfl⟩
def bis (P : Int → Bool) : Nat → Int → Int → Int × Int
 | 0, lo, hi => (lo, hi)
 | d + 1, lo, hi => bif ltI 1 (hi - lo) then (bif P ((lo + hi) / 2) then bis P d ((lo + hi) / 2) hi else bis P d lo ((lo + hi) / 2)) else (lo, hi)
theorem bis_bd (P : Int → Bool) : ∀ (d : Nat) (lo hi : Int), lo ≤ hi → lo ≤ (bis P d lo hi).1 ∧ (bis P d lo hi).1 ≤ (bis P d lo hi).2 ∧ (bis P d lo hi).2 ≤ hi
 | 0, lo, hi, h => ⟨Int.le_refl _, h, Int.le_refl _⟩
 | d + 1, lo, hi, h => by
  unfold bis
  by_cases h1 : 1 < hi - lo
  ·rw [bif_t (ltI_t h1)]
   cases P ((lo + hi) / 2)
   ·have := bis_bd P d lo ((lo + hi) / 2) (by omega)
    exact ⟨this.1, this.2.1, by have := this.2.2; simp only [cond_false] at *; omega⟩
   ·have := bis_bd P d ((lo + hi) / 2) hi (by omega)
    exact ⟨by have := this.1; simp only [cond_true] at *; omega, this.2.1, this.2.2⟩
  ·rw [bif_f (ltI_f (by omega))]
   exact ⟨Int.le_refl _, h, Int.le_refl _⟩
theorem mid_some (a b : Int) (h1 : -4611686018427387904 ≤ a ∧ a ≤ 4611686018427387904) (h2 : -4611686018427387904 < b ∧ b < 4611686018427387904) : Int.fdiv (IntKind.wrap .i64 (a + b)) (2 ^ min (Int.toNat 1) 64) = (a + b) / 2 := by
 rw [wr (a + b) (by omega) (by omega), show (2 ^ min (Int.toNat 1) 64 : Int) = 2 from rfl, Int.fdiv_eq_ediv_of_nonneg _ (by decide)]
noncomputable def vSide (k : Nat) (a n d : Int) (u z : Int × Int) (m : Int) : Int × Int := vSub k (vSub k (vMul k u (vAt k m 0)) (vMul k z (vAt k m 1))) (vMul k (vMul k (vMul k (vEcc k a n d) (vRadN k a n d (m, m))) (vAt k m 0)) (vAt k m 1))
theorem sidesr {k : Nat} (hk : 700 ≤ k) (a n d u1 u2 z1 z2 m : Int) : spec_l14Side k a n d u1 u2 z1 z2 m = some (pv (vSide k a n d (u1, u2) (z1, z2) m)) := by
 unfold spec_l14Side vSide
 simp only [sinAtr hk, cosAtr hk, ivb, radnr hk, eccr hk, ivr hk, Option.bind_some, pv0, pv1, gi0, giS, gb0, gbS, cond_true, cond_false, Bool.not_true, Bool.not_false, pair_eta]
 rfl
theorem sideir {k : Nat} (hk : 700 ≤ k) (a n d x1 x2 y1 y2 z1 z2 m : Int) (h : ElB a n d = true) : impl_SideAt k a n d x1 x2 y1 y2 z1 z2 m = some (pv (vSide k a n d (vNorm k (x1, x2) (y1, y2) (0, 0)) (z1, z2) m)) := by
 unfold impl_SideAt vSide
 simp only [ellr, h, sinAtr hk, cosAtr hk, ivb, radnr hk, eccr hk, flatr2 hk, ivr hk, Option.bind_some, pv0, pv1, gi0, giS, gb0, gbS, cond_true, cond_false, Bool.not_true, Bool.not_false, pair_eta]
 rfl
def BisOk (lo hi : Int) : Prop := (-2000000000000000 ≤ lo ∧ lo ≤ 2000000000000000) ∧ -2000000000000000 ≤ hi ∧ hi ≤ 2000000000000000
section
variable (k : Nat) (hk : 700 ≤ k) (a n d x1 x2 y1 y2 z1 z2 : Int)
include hk
theorem latS_l0 (p q : Int) (u : Int × Int) : ∀ (m f : Nat) (lo hi : Int), BisOk lo hi → lo ≤ hi → hi - lo ≤ ((2 ^ m : Nat) : Int) → spec_l14Lat_l0 k (m + 1 + f) a n d x1 x2 y1 y2 z1 z2 p q u.1 u.2 lo hi = some [.i 0, .i a, .i n, .i d, .i x1, .i x2, .i y1, .i y2, .i z1, .i z2, .i p, .i q, .i u.1, .i u.2, .i (bis (fun t => ltI (vSide k a n d u (z1, z2) t).2 0) m lo hi).1, .i (bis (fun t => ltI (vSide k a n d u (z1, z2) t).2 0) m lo hi).2]
 | 0, f, lo, hi, hb, hl, hm => by
  obtain ⟨h1, h2⟩ := hb
  rw [show 0 + 1 + f = f + 1 by omega, spec_l14Lat_l0, wr (hi - lo) (by omega) (by omega), bif_f (ltI_f (by rw [show ((2 ^ 0 : Nat) : Int) = 1 from rfl] at hm; omega))]
  rfl
 | m + 1, f, lo, hi, hb, hl, hm => by
  obtain ⟨h1, h2⟩ := hb
  rw [show m + 1 + 1 + f = (m + 1 + f) + 1 by omega, spec_l14Lat_l0, wr (hi - lo) (by omega) (by omega), mid_some lo hi (by omega) (by omega)]
  have hp : ((2 ^ (m + 1) : Nat) : Int) = 2 * ((2 ^ m : Nat) : Int) := by rw [Nat.pow_succ]; omega
  rw [hp] at hm
  unfold bis
  by_cases h3 : 1 < hi - lo
  ·rw [bif_t (ltI_t h3), bif_t (ltI_t h3)]
   simp only [sidesr hk, pair_eta, Option.bind_some, pv0, pv1]
   cases hc : ltI (vSide k a n d u (z1, z2) ((lo + hi) / 2)).2 0
   ·exact latS_l0 p q u m f lo ((lo + hi) / 2) ⟨h1, by omega, by omega⟩ (by omega) (by omega)
   ·exact latS_l0 p q u m f ((lo + hi) / 2) hi ⟨⟨by omega, by omega⟩, h2⟩ (by omega) (by omega)
  ·rw [bif_f (ltI_f (by omega)), bif_f (ltI_f (by omega))]
theorem latS_l2 (p q v : Int) (u : Int × Int) : ∀ (m f : Nat) (lo hi : Int), BisOk lo hi → lo ≤ hi → hi - lo ≤ ((2 ^ m : Nat) : Int) → spec_l14Lat_l2 k (m + 1 + f) a n d x1 x2 y1 y2 z1 z2 p q u.1 u.2 lo hi v = some [.i 0, .i a, .i n, .i d, .i x1, .i x2, .i y1, .i y2, .i z1, .i z2, .i p, .i q, .i u.1, .i u.2, .i (bis (fun t => !ltI 0 (vSide k a n d u (z1, z2) t).1) m lo hi).1, .i (bis (fun t => !ltI 0 (vSide k a n d u (z1, z2) t).1) m lo hi).2, .i v]
 | 0, f, lo, hi, hb, hl, hm => by
  obtain ⟨h1, h2⟩ := hb
  rw [show 0 + 1 + f = f + 1 by omega, spec_l14Lat_l2, wr (hi - lo) (by omega) (by omega), bif_f (ltI_f (by rw [show ((2 ^ 0 : Nat) : Int) = 1 from rfl] at hm; omega))]
  rfl
 | m + 1, f, lo, hi, hb, hl, hm => by
  obtain ⟨h1, h2⟩ := hb
  rw [show m + 1 + 1 + f = (m + 1 + f) + 1 by omega, spec_l14Lat_l2, wr (hi - lo) (by omega) (by omega), mid_some lo hi (by omega) (by omega)]
  have hp : ((2 ^ (m + 1) : Nat) : Int) = 2 * ((2 ^ m : Nat) : Int) := by rw [Nat.pow_succ]; omega
  rw [hp] at hm
  unfold bis
  by_cases h3 : 1 < hi - lo
  ·rw [bif_t (ltI_t h3), bif_t (ltI_t h3)]
   simp only [sidesr hk, pair_eta, Option.bind_some, pv0, pv1]
   cases hc : ltI 0 (vSide k a n d u (z1, z2) ((lo + hi) / 2)).1
   ·exact latS_l2 p q v u m f ((lo + hi) / 2) hi ⟨⟨by omega, by omega⟩, h2⟩ (by omega) (by omega)
   ·exact latS_l2 p q v u m f lo ((lo + hi) / 2) ⟨h1, by omega, by omega⟩ (by omega) (by omega)
  ·rw [bif_f (ltI_f (by omega)), bif_f (ltI_f (by omega))]
theorem latI_l0 (hE : ElB a n d = true) (p q : Int) : ∀ (m f : Nat) (lo hi : Int), BisOk lo hi → lo ≤ hi → hi - lo ≤ ((2 ^ m : Nat) : Int) → impl_latitudeOf_l0 k (m + 1 + f) a n d x1 x2 y1 y2 z1 z2 p q lo hi = some [.i 0, .i a, .i n, .i d, .i x1, .i x2, .i y1, .i y2, .i z1, .i z2, .i p, .i q, .i (bis (fun t => ltI (vSide k a n d (vNorm k (x1, x2) (y1, y2) (0, 0)) (z1, z2) t).2 0) m lo hi).1, .i (bis (fun t => ltI (vSide k a n d (vNorm k (x1, x2) (y1, y2) (0, 0)) (z1, z2) t).2 0) m lo hi).2]
 | 0, f, lo, hi, hb, hl, hm => by
  obtain ⟨h1, h2⟩ := hb
  rw [show 0 + 1 + f = f + 1 by omega, impl_latitudeOf_l0, wr (hi - lo) (by omega) (by omega), bif_f (ltI_f (by rw [show ((2 ^ 0 : Nat) : Int) = 1 from rfl] at hm; omega))]
  rfl
 | m + 1, f, lo, hi, hb, hl, hm => by
  obtain ⟨h1, h2⟩ := hb
  rw [show m + 1 + 1 + f = (m + 1 + f) + 1 by omega, impl_latitudeOf_l0, wr (hi - lo) (by omega) (by omega), mid_some lo hi (by omega) (by omega)]
  have hp : ((2 ^ (m + 1) : Nat) : Int) = 2 * ((2 ^ m : Nat) : Int) := by rw [Nat.pow_succ]; omega
  rw [hp] at hm
  unfold bis
  by_cases h3 : 1 < hi - lo
  ·rw [bif_t (ltI_t h3), bif_t (ltI_t h3)]
   simp only [sideir hk a n d _ _ _ _ _ _ _ hE, Option.bind_some, pv0, pv1]
   cases hc : ltI (vSide k a n d (vNorm k (x1, x2) (y1, y2) (0, 0)) (z1, z2) ((lo + hi) / 2)).2 0
   ·exact latI_l0 hE p q m f lo ((lo + hi) / 2) ⟨h1, by omega, by omega⟩ (by omega) (by omega)
   ·exact latI_l0 hE p q m f ((lo + hi) / 2) hi ⟨⟨by omega, by omega⟩, h2⟩ (by omega) (by omega)
  ·rw [bif_f (ltI_f (by omega)), bif_f (ltI_f (by omega))]
theorem latI_l2 (hE : ElB a n d = true) (p q v w : Int) : ∀ (m f : Nat) (lo hi : Int), BisOk lo hi → lo ≤ hi → hi - lo ≤ ((2 ^ m : Nat) : Int) → impl_latitudeOf_l2 k (m + 1 + f) a n d x1 x2 y1 y2 z1 z2 p q lo hi v w = some [.i 0, .i a, .i n, .i d, .i x1, .i x2, .i y1, .i y2, .i z1, .i z2, .i p, .i q, .i (bis (fun t => !ltI 0 (vSide k a n d (vNorm k (x1, x2) (y1, y2) (0, 0)) (z1, z2) t).1) m lo hi).1, .i (bis (fun t => !ltI 0 (vSide k a n d (vNorm k (x1, x2) (y1, y2) (0, 0)) (z1, z2) t).1) m lo hi).2, .i v, .i w]
 | 0, f, lo, hi, hb, hl, hm => by
  obtain ⟨h1, h2⟩ := hb
  rw [show 0 + 1 + f = f + 1 by omega, impl_latitudeOf_l2, wr (hi - lo) (by omega) (by omega), bif_f (ltI_f (by rw [show ((2 ^ 0 : Nat) : Int) = 1 from rfl] at hm; omega))]
  rfl
 | m + 1, f, lo, hi, hb, hl, hm => by
  obtain ⟨h1, h2⟩ := hb
  rw [show m + 1 + 1 + f = (m + 1 + f) + 1 by omega, impl_latitudeOf_l2, wr (hi - lo) (by omega) (by omega), mid_some lo hi (by omega) (by omega)]
  have hp : ((2 ^ (m + 1) : Nat) : Int) = 2 * ((2 ^ m : Nat) : Int) := by rw [Nat.pow_succ]; omega
  rw [hp] at hm
  unfold bis
  by_cases h3 : 1 < hi - lo
  ·rw [bif_t (ltI_t h3), bif_t (ltI_t h3)]
   simp only [sideir hk a n d _ _ _ _ _ _ _ hE, Option.bind_some, pv0, pv1]
   cases hc : ltI 0 (vSide k a n d (vNorm k (x1, x2) (y1, y2) (0, 0)) (z1, z2) ((lo + hi) / 2)).1
   ·exact latI_l2 hE p q v w m f ((lo + hi) / 2) hi ⟨⟨by omega, by omega⟩, h2⟩ (by omega) (by omega)
   ·exact latI_l2 hE p q v w m f lo ((lo + hi) / 2) ⟨h1, by omega, by omega⟩ (by omega) (by omega)
  ·rw [bif_f (ltI_f (by omega)), bif_f (ltI_f (by omega))]
end
end Go.Proofs.YtaimjfippclbcaaGreat.Ev
