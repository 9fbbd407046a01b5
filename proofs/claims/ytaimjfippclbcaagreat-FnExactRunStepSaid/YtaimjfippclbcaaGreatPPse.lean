/- Pseudocylindrical projections, by both. No condition. -/
import Derived.Test.YtaimjfippclbcaaGreatPCon
import Derived.Test.YtaimjfippclbcaaGreatPLat
namespace Go.Proofs.YtaimjfippclbcaaGreat.Ev
open Go Go.RowKit
set_option linter.unusedSimpArgs false
set_option linter.unusedVariables false
noncomputable def vLeft (k : Nat) (p m : Int) : Int × Int := bif p == 14 then vAdd k (IntKind.wrap .i64 (2 * m), IntKind.wrap .i64 (2 * m)) (vSin k (IntKind.wrap .i64 (2 * m), IntKind.wrap .i64 (2 * m))) else vAdd k (m, m) (vSin k (m, m))
theorem leftr {k : Nat} (hk : 700 ≤ k) (p m : Int) : spec_l20Left k p m = some (pv (vLeft k p m)) ∧ impl_leftSide k p m = some (pv (vLeft k p m)) := by
 unfold spec_l20Left impl_leftSide vLeft
 simp only [ivb, ivr hk, Option.bind_some, pv0, pv1, gi0, giS, gb0, gbS, cond_true, cond_false, Bool.not_true, Bool.not_false, pair_eta]
 cases (p == 14) <;> exact ⟨rfl, rfl⟩
section
variable (k : Nat) (hk : 700 ≤ k) (p n : Int)
include hk
theorem slvS_l0 (x2 x3 x4 : Int) : ∀ (m f : Nat) (lo hi : Int), BisOk lo hi → lo ≤ hi → hi - lo ≤ ((2 ^ m : Nat) : Int) → spec_l20Solve_l0 k (m + 1 + f) p n x2 x3 x4 lo hi = some [.i 0, .i p, .i n, .i x2, .i x3, .i x4, .i (bis (fun t => ltI (vLeft k p t).2 n) m lo hi).1, .i (bis (fun t => ltI (vLeft k p t).2 n) m lo hi).2]
 | 0, f, lo, hi, hb, hl, hm => by
  obtain ⟨h1, h2⟩ := hb
  rw [show 0 + 1 + f = f + 1 by omega, spec_l20Solve_l0, wr (hi - lo) (by omega) (by omega), bif_f (ltI_f (by rw [show ((2 ^ 0 : Nat) : Int) = 1 from rfl] at hm; omega))]
  rfl
 | m + 1, f, lo, hi, hb, hl, hm => by
  obtain ⟨h1, h2⟩ := hb
  rw [show m + 1 + 1 + f = (m + 1 + f) + 1 by omega, spec_l20Solve_l0, wr (hi - lo) (by omega) (by omega), mid_some lo hi (by omega) (by omega)]
  have hp : ((2 ^ (m + 1) : Nat) : Int) = 2 * ((2 ^ m : Nat) : Int) := by rw [Nat.pow_succ]; omega
  rw [hp] at hm
  unfold bis
  by_cases h3 : 1 < hi - lo
  ·rw [bif_t (ltI_t h3), bif_t (ltI_t h3)]
   simp only [leftr hk, Option.bind_some, pv0, pv1]
   cases hc : ltI (vLeft k p ((lo + hi) / 2)).2 n
   ·exact slvS_l0 x2 x3 x4 m f lo ((lo + hi) / 2) ⟨h1, by omega, by omega⟩ (by omega) (by omega)
   ·exact slvS_l0 x2 x3 x4 m f ((lo + hi) / 2) hi ⟨⟨by omega, by omega⟩, h2⟩ (by omega) (by omega)
  ·rw [bif_f (ltI_f (by omega)), bif_f (ltI_f (by omega))]
theorem slvS_l2 (x2 x3 x6 : Int) : ∀ (m f : Nat) (lo hi : Int), BisOk lo hi → lo ≤ hi → hi - lo ≤ ((2 ^ m : Nat) : Int) → spec_l20Solve_l2 k (m + 1 + f) p n x2 x3 lo hi x6 = some [.i 0, .i p, .i n, .i x2, .i x3, .i (bis (fun t => !ltI n (vLeft k p t).1) m lo hi).1, .i (bis (fun t => !ltI n (vLeft k p t).1) m lo hi).2, .i x6]
 | 0, f, lo, hi, hb, hl, hm => by
  obtain ⟨h1, h2⟩ := hb
  rw [show 0 + 1 + f = f + 1 by omega, spec_l20Solve_l2, wr (hi - lo) (by omega) (by omega), bif_f (ltI_f (by rw [show ((2 ^ 0 : Nat) : Int) = 1 from rfl] at hm; omega))]
  rfl
 | m + 1, f, lo, hi, hb, hl, hm => by
  obtain ⟨h1, h2⟩ := hb
  rw [show m + 1 + 1 + f = (m + 1 + f) + 1 by omega, spec_l20Solve_l2, wr (hi - lo) (by omega) (by omega), mid_some lo hi (by omega) (by omega)]
  have hp : ((2 ^ (m + 1) : Nat) : Int) = 2 * ((2 ^ m : Nat) : Int) := by rw [Nat.pow_succ]; omega
  rw [hp] at hm
  unfold bis
  by_cases h3 : 1 < hi - lo
  ·rw [bif_t (ltI_t h3), bif_t (ltI_t h3)]
   simp only [leftr hk, Option.bind_some, pv0, pv1]
   cases hc : ltI n (vLeft k p ((lo + hi) / 2)).1
   ·exact slvS_l2 x2 x3 x6 m f ((lo + hi) / 2) hi ⟨⟨by omega, by omega⟩, h2⟩ (by omega) (by omega)
   ·exact slvS_l2 x2 x3 x6 m f lo ((lo + hi) / 2) ⟨h1, by omega, by omega⟩ (by omega) (by omega)
  ·rw [bif_f (ltI_f (by omega)), bif_f (ltI_f (by omega))]
theorem slvI_l1 (x2 x3 : Int) : ∀ (m f : Nat) (lo hi : Int), BisOk lo hi → lo ≤ hi → hi - lo ≤ ((2 ^ m : Nat) : Int) → impl_parameterAt_l1 k (m + 1 + f) p n x2 x3 lo hi = some [.i 0, .i p, .i n, .i x2, .i x3, .i (bis (fun t => ltI (vLeft k p t).2 n) m lo hi).1, .i (bis (fun t => ltI (vLeft k p t).2 n) m lo hi).2]
 | 0, f, lo, hi, hb, hl, hm => by
  obtain ⟨h1, h2⟩ := hb
  rw [show 0 + 1 + f = f + 1 by omega, impl_parameterAt_l1, wr (hi - lo) (by omega) (by omega), bif_f (ltI_f (by rw [show ((2 ^ 0 : Nat) : Int) = 1 from rfl] at hm; omega))]
  rfl
 | m + 1, f, lo, hi, hb, hl, hm => by
  obtain ⟨h1, h2⟩ := hb
  rw [show m + 1 + 1 + f = (m + 1 + f) + 1 by omega, impl_parameterAt_l1, wr (hi - lo) (by omega) (by omega), mid_some lo hi (by omega) (by omega)]
  have hp : ((2 ^ (m + 1) : Nat) : Int) = 2 * ((2 ^ m : Nat) : Int) := by rw [Nat.pow_succ]; omega
  rw [hp] at hm
  unfold bis
  by_cases h3 : 1 < hi - lo
  ·rw [bif_t (ltI_t h3), bif_t (ltI_t h3)]
   simp only [leftr hk, Option.bind_some, pv0, pv1]
   cases hc : ltI (vLeft k p ((lo + hi) / 2)).2 n
   ·exact slvI_l1 x2 x3 m f lo ((lo + hi) / 2) ⟨h1, by omega, by omega⟩ (by omega) (by omega)
   ·exact slvI_l1 x2 x3 m f ((lo + hi) / 2) hi ⟨⟨by omega, by omega⟩, h2⟩ (by omega) (by omega)
  ·rw [bif_f (ltI_f (by omega)), bif_f (ltI_f (by omega))]
theorem slvI_l3 (x2 x3 x6 x7 : Int) : ∀ (m f : Nat) (lo hi : Int), BisOk lo hi → lo ≤ hi → hi - lo ≤ ((2 ^ m : Nat) : Int) → impl_parameterAt_l3 k (m + 1 + f) p n x2 x3 lo hi x6 x7 = some [.i 0, .i p, .i n, .i x2, .i x3, .i (bis (fun t => !ltI n (vLeft k p t).1) m lo hi).1, .i (bis (fun t => !ltI n (vLeft k p t).1) m lo hi).2, .i x6, .i x7]
 | 0, f, lo, hi, hb, hl, hm => by
  obtain ⟨h1, h2⟩ := hb
  rw [show 0 + 1 + f = f + 1 by omega, impl_parameterAt_l3, wr (hi - lo) (by omega) (by omega), bif_f (ltI_f (by rw [show ((2 ^ 0 : Nat) : Int) = 1 from rfl] at hm; omega))]
  rfl
 | m + 1, f, lo, hi, hb, hl, hm => by
  obtain ⟨h1, h2⟩ := hb
  rw [show m + 1 + 1 + f = (m + 1 + f) + 1 by omega, impl_parameterAt_l3, wr (hi - lo) (by omega) (by omega), mid_some lo hi (by omega) (by omega)]
  have hp : ((2 ^ (m + 1) : Nat) : Int) = 2 * ((2 ^ m : Nat) : Int) := by rw [Nat.pow_succ]; omega
  rw [hp] at hm
  unfold bis
  by_cases h3 : 1 < hi - lo
  ·rw [bif_t (ltI_t h3), bif_t (ltI_t h3)]
   simp only [leftr hk, Option.bind_some, pv0, pv1]
   cases hc : ltI n (vLeft k p ((lo + hi) / 2)).1
   ·exact slvI_l3 x2 x3 x6 x7 m f ((lo + hi) / 2) hi ⟨⟨by omega, by omega⟩, h2⟩ (by omega) (by omega)
   ·exact slvI_l3 x2 x3 x6 x7 m f lo ((lo + hi) / 2) ⟨h1, by omega, by omega⟩ (by omega) (by omega)
  ·rw [bif_f (ltI_f (by omega)), bif_f (ltI_f (by omega))]
end
theorem fixr (k : Nat) (n : Int) : impl_ValidFix k n = some [.b (leI (-1152921504606846976) n && leI n 1152921504606846976)] := by
 unfold impl_ValidFix
 simp only [within_some, Option.bind_some, gb0]
theorem slv_same {k : Nat} (hk : 700 ≤ k) (j : Nat) (p n : Int) (h : 0 ≤ n ∧ n ≤ 1152921504606846976) : Same (spec_l20Solve k p n) (impl_parameterAt k (j + 1) p n) := by
 have hq := q_bd hk
 obtain ⟨f, hf⟩ : ∃ f, k = 52 + 1 + f := ⟨k - 53, by omega⟩
 rw [impl_parameterAt]
 unfold spec_l20Solve
 simp only [fixr, leI_t (show (-1152921504606846976 : Int) ≤ n by omega), leI_t h.2, turnL k (by omega) 1 (by decide), qtrI hk, Bool.and_self, ivr hk, Option.bind_some, pv0, pv1, gi0, giS, gb0, gbS, cond_true, cond_false, Bool.not_true, Bool.not_false, pair_eta]
 rw [bif_f (ltI_f h.1)]
 generalize (vTurn k 1).2 = q at hq
 have hb : BisOk 0 q := ⟨⟨by omega, by omega⟩, by omega, by omega⟩
 have hp : ((2 ^ 52 : Nat) : Int) = 4503599627370496 := by decide
 have e1 := slvS_l0 k hk p n 0 0 q 52 f 0 q hb (by omega) (by rw [hp]; omega)
 have e3 := slvI_l1 k hk p n 0 0 52 f 0 q hb (by omega) (by rw [hp]; omega)
 rw [← hf] at e1 e3
 have hr := bis_bd (fun t => ltI (vLeft k p t).2 n) 52 0 q (by omega)
 rw [e1, e3]
 simp only [Option.bind_some, gi0, giS]
 generalize (bis (fun t => ltI (vLeft k p t).2 n) 52 0 q) = r at hr
 have hb2 : BisOk r.1 q := ⟨⟨by omega, by omega⟩, by omega, by omega⟩
 have e2 := slvS_l2 k hk p n 0 0 r.1 52 f r.1 q hb2 (by omega) (by rw [hp]; omega)
 have e4 := slvI_l3 k hk p n 0 0 r.1 0 52 f r.1 q hb2 (by omega) (by rw [hp]; omega)
 rw [← hf] at e2 e4
 rw [e2, e4]
 simp only [Option.bind_some, gi0, giS]
 exact same_of ⟨_, _, rfl, rfl⟩
theorem par_same {k : Nat} (hk : 700 ≤ k) (p n : Int) : Same (spec_l20At k p n) (impl_parameterAt k k p n) := by
 obtain ⟨j, hj⟩ : ∃ j, k = j + 1 + 1 := ⟨k - 2, by omega⟩
 unfold spec_l20At
 by_cases h1 : n < -1152921504606846976
 ·rw [bif_t (ltI_t h1), show impl_parameterAt k k p n = impl_parameterAt k (j + 1 + 1) p n by rw [← hj], impl_parameterAt]
  simp only [fixr, leI_f h1, qtrr hk, Bool.false_and, ivr hk, Option.bind_some, pv0, pv1, gi0, giS, gb0, gbS, cond_true, cond_false, Bool.not_true, Bool.not_false, pair_eta]
  exact same_refl _
 ·by_cases h2 : 1152921504606846976 < n
  ·rw [bif_f (ltI_f (by omega)), bif_t (ltI_t h2), show impl_parameterAt k k p n = impl_parameterAt k (j + 1 + 1) p n by rw [← hj], impl_parameterAt]
   simp only [fixr, leI_f h2, qtrr hk, Bool.and_false, ivr hk, Option.bind_some, pv0, pv1, gi0, giS, gb0, gbS, cond_true, cond_false, Bool.not_true, Bool.not_false, pair_eta]
   exact same_refl _
  ·rw [bif_f (ltI_f (by omega)), bif_f (ltI_f (by omega))]
   by_cases h3 : n < 0
   ·obtain ⟨r, e1, e2⟩ := slv_same hk j p (0 - n) ⟨by omega, by omega⟩
    rw [bif_t (ltI_t h3), wr (0 - n) (by omega) (by omega), e1, show impl_parameterAt k k p n = impl_parameterAt k (j + 1 + 1) p n by rw [← hj], impl_parameterAt]
    simp only [fixr, leI_t (show (-1152921504606846976 : Int) ≤ n by omega), leI_t (show n ≤ 1152921504606846976 by omega), Bool.and_self, ivr hk, Option.bind_some, pv0, pv1, gi0, giS, gb0, gbS, cond_true, cond_false, Bool.not_true, Bool.not_false, pair_eta]
    rw [bif_t (ltI_t h3), wr (0 - n) (by omega) (by omega), e2]
    simp only [ivr hk, Option.bind_some, pv0, pv1, gi0, giS, gb0, gbS, cond_true, cond_false, Bool.not_true, Bool.not_false, pair_eta]
    exact same_refl _
   ·obtain ⟨r, e1, e2⟩ := slv_same hk (j + 1) p n ⟨by omega, by omega⟩
    rw [bif_f (ltI_f (show 0 ≤ n by omega)), e1, show impl_parameterAt k k p n = impl_parameterAt k (j + 1 + 1) p n by rw [← hj], e2]
    simp only [ivr hk, Option.bind_some, pv0, pv1, gi0, giS, gb0, gbS, cond_true, cond_false, Bool.not_true, Bool.not_false, pair_eta]
    exact same_refl r
noncomputable def vPar (k : Nat) (p n : Int) : Int × Int := iv (spec_l20At k p n)
theorem parr {k : Nat} (hk : 700 ≤ k) (p n : Int) : spec_l20At k p n = some (pv (vPar k p n)) ∧ impl_parameterAt k k p n = some (pv (vPar k p n)) := same_rule (par_same hk p n)
noncomputable def vRt (k : Nat) (p : Int) : Int × Int := bif p == 14 then vSqrt k (vInt k 2) else vSqrt k (vAdd k (vInt k 2) (vTurn k 2))
theorem rtr {k : Nat} (hk : 700 ≤ k) (p : Int) : spec_l20Root k p = some (pv (vRt k p)) ∧ impl_pseudoRadius k p = some (pv (vRt k p)) := by
 unfold spec_l20Root impl_pseudoRadius vRt
 simp only [sqrtr hk, pir hk, ivr hk, Option.bind_some, pv0, pv1, gi0, giS, gb0, gbS, cond_true, cond_false, Bool.not_true, Bool.not_false, pair_eta]
 cases (p == 14) <;> exact ⟨rfl, rfl⟩
noncomputable def vRgt (k : Nat) (p : Int) : Int × Int := bif p == 14 then vTurn k 2 else vAdd k (vInt k 1) (vTurn k 1)
theorem rgtr {k : Nat} (hk : 700 ≤ k) (p : Int) : spec_l20Right k p = some (pv (vRgt k p)) ∧ impl_leftFactor k p = some (pv (vRgt k p)) := by
 unfold spec_l20Right impl_leftFactor vRgt
 simp only [pir hk, ivr hk, Option.bind_some, pv0, pv1, gi0, giS, gb0, gbS, cond_true, cond_false, Bool.not_true, Bool.not_false, pair_eta]
 cases (p == 14) <;> exact ⟨rfl, rfl⟩
def PsK (p : Int) : Prop := p = 13 ∨ p = 14 ∨ p = 15
theorem pse_some (k : Nat) (p : Int) : impl_isPseudo k p = some [.b (decide (13 ≤ p ∧ p ≤ 15))] ∧ spec_l20Kind k p = some [.b (decide (13 ≤ p ∧ p ≤ 15))] := by
 unfold impl_isPseudo spec_l20Kind
 simp only [within_dec, in_dec, Option.bind_some, gb0]
 exact ⟨by first | rfl | trivial, by first | rfl | trivial⟩
noncomputable def pseB (k : Nat) (p a b d e : Int) : Bool := vPrj k p a b d e && decide (13 ≤ p ∧ p ≤ 15)
theorem pser (k : Nat) (p a b d e : Int) : spec_l20Ok k p a b d e = some [.b (pseB k p a b d e)] ∧ impl_isPseudoOne k p a b d e = some [.b (pseB k p a b d e)] := by
 unfold spec_l20Ok impl_isPseudoOne pseB
 simp only [prjr, pse_some, Option.bind_some, gb0]
 cases vPrj k p a b d e <;> cases decide (13 ≤ p ∧ p ≤ 15) <;> exact ⟨rfl, rfl⟩
theorem pse_facts {k : Nat} {p a b d e : Int} (h : pseB k p a b d e = true) : vPrj k p a b d e = true ∧ PsK p := by
 unfold pseB at h
 rw [Bool.and_eq_true, decide_eq_true_eq] at h
 exact ⟨h.1, by unfold PsK; omega⟩
theorem theta_same {k : Nat} (hk : 700 ≤ k) (p a b : Int) (hp : PsK p) : Same (spec_ThetaOf k p a b) (impl_ThetaOf k p a b) := by
 unfold spec_ThetaOf impl_ThetaOf
 rcases hp with rfl | rfl | rfl <;> simp only [pse_some, Int.reduceBEq, rgtr hk, parr hk, Int.reduceLE, and_self, decide_true, ivr hk, Option.bind_some, pv0, pv1, gi0, giS, gb0, gbS, cond_true, cond_false, Bool.not_true, Bool.not_false, pair_eta] <;> first | exact same_refl (a, b) | exact same_refl _
noncomputable def vLen (k : Nat) (p : Int) (t : Int × Int) : Int × Int := bif p == 13 then vCos k t else bif p == 14 then vDiv k (vMul k (vMul k (vInt k 2) (vRt k p)) (vCos k t)) (vTurn k 2) else vDiv k (vAdd k (vInt k 1) (vCos k t)) (vRt k p)
noncomputable def vHgt (k : Nat) (p : Int) (t : Int × Int) : Int × Int := bif p == 13 then t else bif p == 14 then vMul k (vRt k p) (vSin k t) else vDiv k (vMul k (vInt k 2) t) (vRt k p)
theorem lenr {k : Nat} (hk : 700 ≤ k) (p a b : Int) : spec_l20Parallel k p a b = some [.i (vLen k p (a, b)).1, .i (vLen k p (a, b)).2, .i (vHgt k p (a, b)).1, .i (vHgt k p (a, b)).2] ∧ impl_parallelLength k p a b = some (pv (vLen k p (a, b))) ∧ impl_parallelHeight k p a b = some (pv (vHgt k p (a, b))) := by
 unfold spec_l20Parallel impl_parallelLength impl_parallelHeight vLen vHgt
 simp only [rtr hk, cosr hk, pir hk, timesr hk, ivr hk, Option.bind_some, pv0, pv1, gi0, giS, gb0, gbS, cond_true, cond_false, Bool.not_true, Bool.not_false, pair_eta]
 cases (p == 13)
 ·cases (p == 14) <;> exact ⟨by first | rfl | trivial, by first | rfl | trivial, by first | rfl | trivial⟩
 ·exact ⟨by first | rfl | trivial, by first | rfl | trivial, by first | rfl | trivial⟩
theorem pseF_same {k : Nat} (hk : 700 ≤ k) (p a b d e x y : Int) : Same5 (spec_PseudoForward k p a b d e x y) (impl_PseudoForward k p a b d e x y) := by
 unfold spec_PseudoForward impl_PseudoForward spec_ParallelOf impl_ParallelOf
 simp only [pser, pt_some, point_some, Option.bind_some, gb0]
 cases h : pseB k p a b d e
 ·exact ⟨_, _, _, _, _, rfl, rfl⟩
 ·obtain ⟨h1, hp⟩ := pse_facts h
  cases h2 : PtB x y
  ·exact ⟨_, _, _, _, _, rfl, rfl⟩
  ·obtain ⟨t, t1, t2⟩ := theta_same hk p (vRad k x).1 (vRad k x).2 hp
   have hd : decide (13 ≤ p ∧ p ≤ 15) = true := decide_eq_true (by unfold PsK at hp; omega)
   simp only [latr hk, vLat_t h2, lonir hk p a b d e x y h1 h2, pse_some, hd, t1, t2, lenr hk, wrapr, endr, ivb, pair_eta, ivr hk, Option.bind_some, pv0, pv1, gi0, giS, gb0, gbS, cond_true, cond_false, Bool.not_true, Bool.not_false, pair_eta]
   unfold vDif
   rw [e5_whole]
   exact e5_same _ _
theorem backp {k : Nat} (hk : 700 ≤ k) (p a b : Int) (hp : PsK p) : ∃ t u : Int × Int, spec_l20Back k p a b = some (pv t) ∧ impl_inverseParameter k p a b = some (pv u) ∧ (u = t ∨ p = 13 ∧ ivB a b = false ∧ t = (a, b) ∧ u = wv) := by
 unfold spec_l20Back impl_inverseParameter impl_normalI
 rcases hp with rfl | rfl | rfl
 ·simp only [Int.reduceBEq, ivb, ivr hk, Option.bind_some, pv0, pv1, gi0, giS, gb0, gbS, cond_true, cond_false, Bool.not_true, Bool.not_false, pair_eta]
  refine ⟨(a, b), vMk a b, rfl, rfl, ?_⟩
  unfold vMk
  cases h : ivB a b
  ·exact .inr ⟨by first | rfl | trivial, by first | rfl | trivial, rfl, rfl⟩
  ·exact .inl rfl
 ·simp only [Int.reduceBEq, rtr hk, asinr hk, ivr hk, Option.bind_some, pv0, pv1, gi0, giS, gb0, gbS, cond_true, cond_false, Bool.not_true, Bool.not_false, pair_eta]
  exact ⟨_, _, rfl, rfl, .inl rfl⟩
 ·simp only [Int.reduceBEq, rtr hk, asinr hk, ivr hk, Option.bind_some, pv0, pv1, gi0, giS, gb0, gbS, cond_true, cond_false, Bool.not_true, Bool.not_false, pair_eta]
  exact ⟨_, _, rfl, rfl, .inl rfl⟩
noncomputable def vHigh (k : Nat) (p : Int) : Int × Int := bif p == 13 then vTurn k 1 else bif p == 14 then vRt k p else vDiv k (vTurn k 2) (vRt k p)
theorem highr {k : Nat} (hk : 700 ≤ k) (p : Int) : spec_l20High k p = some (pv (vHigh k p)) ∧ impl_poleHeight k p = some (pv (vHigh k p)) := by
 unfold spec_l20High impl_poleHeight vHigh
 simp only [rtr hk, pir hk, ivr hk, Option.bind_some, pv0, pv1, gi0, giS, gb0, gbS, cond_true, cond_false, Bool.not_true, Bool.not_false, pair_eta]
 cases (p == 13)
 ·cases (p == 14) <;> exact ⟨rfl, rfl⟩
 ·exact ⟨rfl, rfl⟩
noncomputable def vPLat (k : Nat) (p : Int) (t : Int × Int) : Int × Int := bif p == 13 then t else bif p == 14 then vAsin k (vDiv k (vAdd k (vDbl k t) (vSin k (vDbl k t))) (vRgt k p)) else vAsin k (vDiv k (vAdd k t (vSin k t)) (vRgt k p))
theorem platr {k : Nat} (hk : 700 ≤ k) (p a b : Int) : spec_l20Lat k p a b = some (pv (vPLat k p (a, b))) ∧ impl_latitudeFor k p a b = some (pv (vPLat k p (a, b))) := by
 unfold spec_l20Lat impl_latitudeFor vPLat
 simp only [rgtr hk, dblr hk, asinr hk, ivr hk, Option.bind_some, pv0, pv1, gi0, giS, gb0, gbS, cond_true, cond_false, Bool.not_true, Bool.not_false, pair_eta]
 cases (p == 13)
 ·cases (p == 14) <;> exact ⟨rfl, rfl⟩
 ·exact ⟨rfl, rfl⟩
theorem cos_whole {k : Nat} (hk : 700 ≤ k) (a b : Int) (h : ivB a b = false) : vCos k (a, b) = (-4294967296, 4294967296) := by
 have e := (cosr hk a b).1
 have : spec_CosI k a b = some (pv (-4294967296, 4294967296)) := by
  unfold spec_CosI spec_l06Over spec_l06Fits spec_ValidInterval
  simp only [ivb, h, ivr hk, Option.bind_some, pv0, pv1, gi0, giS, gb0, gbS, cond_true, cond_false, Bool.not_true, Bool.not_false, pair_eta]
  rfl
 exact pv_inj' (Option.some.inj (e.symm.trans this))
theorem pseI_same {k : Nat} (hk : 700 ≤ k) (p a b d e x1 x2 y1 y2 : Int) : Same5v (spec_PseudoInverse k p a b d e x1 x2 y1 y2) (impl_PseudoInverse k p a b d e x1 x2 y1 y2) := by
 unfold spec_PseudoInverse impl_PseudoInverse
 simp only [pser, Option.bind_some, gb0]
 cases h : pseB k p a b d e
 ·exact ⟨_, _, _, _, _, rfl, rfl, .inr ⟨by decide, rfl, rfl, rfl, rfl⟩⟩
 ·obtain ⟨h1, hp⟩ := pse_facts h
  obtain ⟨t, u, b1, b2, hu⟩ := backp hk p y1 y2 hp
  simp only [highr hk, absr hk, lessr, b1, b2, lenr hk, platr hk, pir hk, knowni, ivb, pair_eta, ivr hk, Option.bind_some, pv0, pv1, gi0, giS, gb0, gbS, cond_true, cond_false, Bool.not_true, Bool.not_false, pair_eta]
  rcases hu with rfl | ⟨rfl, hv, rfl, rfl⟩
  ·cases (vLess (vHigh k p) (vAbs k (y1, y2)) == 1)
   ·generalize vDiv k (x1, x2) (vLen k p u) = w
    generalize vPLat k p u = l
    cases (vLess (vTurn k 2) (vAbs k w) == 1)
    ·cases hl : ivB l.1 l.2
     ·exact ⟨_, _, _, _, _, rfl, rfl, .inr ⟨by decide, rfl, rfl, rfl, rfl⟩⟩
     ·exact ⟨_, _, _, _, _, rfl, rfl, .inl ⟨rfl, hl⟩⟩
    ·exact ⟨_, _, _, _, _, rfl, rfl, .inr ⟨by decide, rfl, rfl, rfl, rfl⟩⟩
   ·exact ⟨_, _, _, _, _, rfl, rfl, .inr ⟨by decide, rfl, rfl, rfl, rfl⟩⟩
  ·have e1 : vLen k 13 (y1, y2) = vLen k 13 wv := by
    show vCos k (y1, y2) = vCos k wv
    rw [cos_whole hk y1 y2 hv, show vCos k wv = (-4294967296, 4294967296) from cos_whole hk wv.1 wv.2 wv_not]
   have e2 : vPLat k 13 (y1, y2) = (y1, y2) := rfl
   have e3 : vPLat k 13 wv = wv := rfl
   rw [e1, e2, e3, hv, wv_not]
   cases (vLess (vHigh k 13) (vAbs k (y1, y2)) == 1)
   ·generalize vDiv k (x1, x2) (vLen k 13 wv) = w
    cases (vLess (vTurn k 2) (vAbs k w) == 1) <;> exact ⟨_, _, _, _, _, rfl, rfl, .inr ⟨by decide, rfl, rfl, rfl, rfl⟩⟩
   ·exact ⟨_, _, _, _, _, rfl, rfl, .inr ⟨by decide, rfl, rfl, rfl, rfl⟩⟩
end Go.Proofs.YtaimjfippclbcaaGreat.Ev
