/- The transverse projection; all projections, by both. No condition. -/
import Derived.Test.YtaimjfippclbcaaGreatPPse
namespace Go.Proofs.YtaimjfippclbcaaGreat.Ev
open Go Go.RowKit
set_option linter.unusedSimpArgs false
set_option linter.unusedVariables false
noncomputable def trnB (k : Nat) (p a b d e : Int) : Bool := vPrj k p a b d e && (p == 16)
theorem trnr (k : Nat) (p a b d e : Int) : spec_l21Ok k p a b d e = some [.b (trnB k p a b d e)] ∧ impl_isTransverse k p a b d e = some [.b (trnB k p a b d e)] := by
 unfold spec_l21Ok impl_isTransverse trnB
 simp only [prjr, Option.bind_some, gb0]
 cases vPrj k p a b d e <;> cases (p == 16) <;> exact ⟨rfl, rfl⟩
theorem trnF_same {k : Nat} (hk : 700 ≤ k) (p a b d e x y : Int) : Same5 (spec_TransverseForward k p a b d e x y) (impl_TransverseForward k p a b d e x y) := by
 unfold spec_TransverseForward impl_TransverseForward impl_transverse spec_l21Forward spec_l21Edge spec_l21Side spec_l21Turn
 simp only [trnr, pt_some, point_some, wrapr, Option.bind_some, gb0, gi0]
 cases h : trnB k p a b d e
 ·exact ⟨_, _, _, _, _, rfl, rfl⟩
 ·have h1 : vPrj k p a b d e = true := by unfold trnB at h; rw [Bool.and_eq_true] at h; exact h.1
  cases h2 : PtB x y
  ·exact ⟨_, _, _, _, _, rfl, rfl⟩
  ·have hw := vwrap_bd (IntKind.wrap .i64 (y - b))
   simp only [latr hk, vLat_t h2, lonir hk p a b d e x y h1 h2, absS (vwrap (IntKind.wrap .i64 (y - b))) (show _ ∧ _ from ⟨by omega, by omega⟩), cosr hk, athr hk, dirr hk, ivb, endr, ivr hk, Option.bind_some, pv0, pv1, gi0, giS, gb0, gbS, cond_true, cond_false, Bool.not_true, Bool.not_false, pair_eta]
   unfold vDif
   generalize hv : vwrap (IntKind.wrap .i64 (y - b)) = v at hw
   have hc : ((if v < 0 then -v else v) == 900000000) = ((v == 900000000) || (v == -900000000)) := by
    by_cases h0 : v < 0
    ·rw [if_pos h0, beq_f (show v ≠ 900000000 by omega), Bool.false_or]
     by_cases h3 : v = -900000000
     ·rw [beq_t h3, beq_t (by omega)]
     ·rw [beq_f h3, beq_f (by omega)]
    ·rw [if_neg h0, beq_f (show v ≠ -900000000 by omega), Bool.or_false]
   rw [hc]
   cases (x == 0)
   ·simp only [Int.reduceBNe, e5_whole, ivr hk, Option.bind_some, pv0, pv1, gi0, giS, gb0, gbS, cond_true, cond_false, Bool.not_true, Bool.not_false, pair_eta]
    exact ⟨_, _, _, _, _, rfl, rfl⟩
   ·cases (v == 900000000)
    ·cases (v == -900000000)
     ·simp only [Bool.or_self, Int.reduceBNe, e5_whole, ivr hk, Option.bind_some, pv0, pv1, gi0, giS, gb0, gbS, cond_true, cond_false, Bool.not_true, Bool.not_false, pair_eta]
      exact ⟨_, _, _, _, _, rfl, rfl⟩
     ·exact ⟨_, _, _, _, _, rfl, rfl⟩
    ·exact ⟨_, _, _, _, _, rfl, rfl⟩
theorem trnI_same {k : Nat} (hk : 700 ≤ k) (p a b d e x1 x2 y1 y2 : Int) : Same5v (spec_TransverseInverse k p a b d e x1 x2 y1 y2) (impl_TransverseInverse k p a b d e x1 x2 y1 y2) := by
 unfold spec_TransverseInverse impl_TransverseInverse
 simp only [trnr, Option.bind_some, gb0]
 cases h : trnB k p a b d e
 ·exact ⟨_, _, _, _, _, rfl, rfl, .inr ⟨by decide, rfl, rfl, rfl, rfl⟩⟩
 ·simp only [coshr hk, sinhr hk, cosr hk, asinr hk, dirr hk, ivb, ivr hk, Option.bind_some, pv0, pv1, gi0, giS, gb0, gbS, cond_true, cond_false, Bool.not_true, Bool.not_false, pair_eta]
  generalize vAdd k (y1, y2) (vRad k a) = u
  generalize vDiv k (vSin k u) (vCosh k (x1, x2)) = w
  cases ivB u.1 u.2
  ·exact ⟨_, _, _, _, _, rfl, rfl, .inr ⟨by decide, rfl, rfl, rfl, rfl⟩⟩
  ·cases ivB w.1 w.2
   ·exact ⟨_, _, _, _, _, rfl, rfl, .inr ⟨by decide, rfl, rfl, rfl, rfl⟩⟩
   ·cases hl : ivB (vAsin k w).1 (vAsin k w).2
    ·exact ⟨_, _, _, _, _, rfl, rfl, .inr ⟨by decide, rfl, rfl, rfl, rfl⟩⟩
    ·exact ⟨_, _, _, _, _, rfl, rfl, .inl ⟨rfl, hl⟩⟩
def fam (p : Int) : Int := bif decide (1 ≤ p ∧ p ≤ 4) then 1 else bif decide (5 ≤ p ∧ p ≤ 9) then 2 else bif decide (10 ≤ p ∧ p ≤ 12) then 3 else bif decide (13 ≤ p ∧ p ≤ 15) then 4 else bif p == 16 then 5 else 0
theorem famr (k : Nat) (p : Int) : spec_l22Family k p = some [.i (fam p)] ∧ impl_FamilyOf k p = some [.i (fam p)] := by
 unfold spec_l22Family impl_FamilyOf impl_isCylindrical fam
 simp only [in_dec, within_dec, azi_some, con_some, pse_some, Option.bind_some, gb0]
 cases decide (1 ≤ p ∧ p ≤ 4)
 ·cases decide (5 ≤ p ∧ p ≤ 9)
  ·cases decide (10 ≤ p ∧ p ≤ 12)
   ·cases decide (13 ≤ p ∧ p ≤ 15)
    ·cases (p == 16) <;> exact ⟨rfl, rfl⟩
    ·exact ⟨rfl, rfl⟩
   ·exact ⟨rfl, rfl⟩
  ·exact ⟨rfl, rfl⟩
 ·exact ⟨rfl, rfl⟩
theorem fam_cases (p : Int) : fam p = 0 ∨ fam p = 1 ∨ fam p = 2 ∨ fam p = 3 ∨ fam p = 4 ∨ fam p = 5 := by
 unfold fam
 cases decide (1 ≤ p ∧ p ≤ 4)
 ·cases decide (5 ≤ p ∧ p ≤ 9)
  ·cases decide (10 ≤ p ∧ p ≤ 12)
   ·cases decide (13 ≤ p ∧ p ≤ 15)
    ·cases (p == 16) <;> simp
    ·simp
   ·simp
  ·simp
 ·simp
theorem prj_same {k : Nat} (hk : 700 ≤ k) (p a b d e x y : Int) : Same5 (spec_Project k p a b d e x y) (impl_Project k p a b d e x y) := by
 unfold spec_Project spec_l22Project impl_Project
 simp only [famr, Option.bind_some, gi0]
 have key : ∀ s i : Option (List D), Same5 s i → Same5 ((s.bind fun t => some [D.i (gi t 0), .i (gi t 1), .i (gi t 2), .i (gi t 3), .i (gi t 4)]).bind fun t => some [D.i (gi t 0), .i (gi t 1), .i (gi t 2), .i (gi t 3), .i (gi t 4)]) (i.bind fun t => some [D.i (gi t 0), .i (gi t 1), .i (gi t 2), .i (gi t 3), .i (gi t 4)]) := by
  rintro s i ⟨a, b, c, d, e, rfl, rfl⟩
  exact ⟨a, b, c, d, e, rfl, rfl⟩
 rcases fam_cases p with h | h | h | h | h | h <;> rw [h] <;> simp only [Int.reduceBEq, cond_true, cond_false]
 ·exact ⟨_, _, _, _, _, rfl, rfl⟩
 ·exact key _ _ (cylF_same hk p a b d e x y)
 ·exact key _ _ (aziF_same hk p a b d e x y)
 ·exact key _ _ (conF_same hk p a b d e x y)
 ·exact key _ _ (pseF_same hk p a b d e x y)
 ·exact key _ _ (trnF_same hk p a b d e x y)
theorem unp_same {k : Nat} (hk : 700 ≤ k) (p a b d e x1 x2 y1 y2 : Int) : Same5 (spec_Unproject k p a b d e x1 x2 y1 y2) (impl_Unproject k p a b d e x1 x2 y1 y2) := by
 unfold spec_Unproject spec_l22Unproject spec_l22Inverse impl_Unproject
 simp only [famr, Option.bind_some, gi0]
 have key : ∀ s i : Option (List D), Same5v s i → Same5 (((s.bind fun t => some [D.i (gi t 0), .i (gi t 1), .i (gi t 2), .i (gi t 3), .i (gi t 4)]).bind fun t1 => (bif ((gi t1 4) == 0) then (spec_l04Ok k (gi t1 0) (gi t1 1)).bind fun t2 => (bif (!(gb t2 0)) then some [D.i 0, .i 0, .i 0, .i 0, .i 9] else (bif ((gi t1 4) != 0) then some [.i 0, .i 0, .i 0, .i 0, .i (gi t1 4)] else some [.i (gi t1 0), .i (gi t1 1), .i (gi t1 2), .i (gi t1 3), .i 0])) else (bif ((gi t1 4) != 0) then some [.i 0, .i 0, .i 0, .i 0, .i (gi t1 4)] else some [.i (gi t1 0), .i (gi t1 1), .i (gi t1 2), .i (gi t1 3), .i 0]))).bind fun t => some [D.i (gi t 0), .i (gi t 1), .i (gi t 2), .i (gi t 3), .i (gi t 4)]) (i.bind fun t => some [D.i (gi t 0), .i (gi t 1), .i (gi t 2), .i (gi t 3), .i (gi t 4)]) := by
  rintro s i ⟨a, b, c, d, e, rfl, rfl, hv⟩
  simp only [Option.bind_some, gi0, giS, ivb, gb0]
  rcases hv with ⟨rfl, hv⟩ | ⟨he, rfl, rfl, rfl, rfl⟩
  ·rw [hv]
   exact ⟨a, b, c, d, 0, rfl, rfl⟩
  ·rw [bif_f (show (e == 0) = false from beq_f he), bif_t (show (e != 0) = true by rw [bne_iff_ne]; exact he)]
   exact ⟨0, 0, 0, 0, e, rfl, rfl⟩
 rcases fam_cases p with h | h | h | h | h | h <;> rw [h] <;> simp only [Int.reduceBEq, cond_true, cond_false]
 ·exact ⟨_, _, _, _, _, rfl, rfl⟩
 ·exact key _ _ (cylI_same hk p a b d e x1 x2 y1 y2)
 ·exact key _ _ (aziI_same hk p a b d e x1 x2 y1 y2)
 ·exact key _ _ (conI_same hk p a b d e x1 x2 y1 y2)
 ·exact key _ _ (pseI_same hk p a b d e x1 x2 y1 y2)
 ·exact key _ _ (trnI_same hk p a b d e x1 x2 y1 y2)
end Go.Proofs.YtaimjfippclbcaaGreat.Ev
