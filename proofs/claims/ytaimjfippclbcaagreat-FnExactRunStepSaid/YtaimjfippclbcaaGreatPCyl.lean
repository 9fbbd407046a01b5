/- Projections: what is valid, cylinders, by both. No condition. -/
import Derived.Test.YtaimjfippclbcaaGreatPEll
import Derived.Test.YtaimjfippclbcaaGreatPVal
import Derived.Test.YtaimjfippclbcaaGreatPAsin
namespace Go.Proofs.YtaimjfippclbcaaGreat.Ev
open Go Go.RowKit
set_option linter.unusedSimpArgs false
set_option linter.unusedVariables false
noncomputable def vPrj (k : Nat) (p a b d e : Int) : Bool := bv (spec_l17Ok k p a b d e)
theorem prjr (k : Nat) (p a b d e : Int) : spec_l17Ok k p a b d e = some [.b (vPrj k p a b d e)] ∧ impl_ValidProjection k p a b d e = some [.b (vPrj k p a b d e)] ∧ spec_ValidProjection k p a b d e = some [.b (vPrj k p a b d e)] := by
 obtain ⟨h1, h2⟩ := sameB_rule (projection_eq k p a b d e)
 refine ⟨h1, h2, ?_⟩
 unfold spec_ValidProjection
 rw [h1]; rfl
theorem prj_facts {k : Nat} {p a b d e : Int} (h : vPrj k p a b d e = true) : (1 ≤ p ∧ p ≤ 16) ∧ PtB a b = true ∧ (-890000000 ≤ d ∧ d ≤ 890000000) ∧ -890000000 ≤ e ∧ e ≤ 890000000 := by
 have hi := (prjr k p a b d e).2.1
 rw [h] at hi
 unfold impl_ValidProjection at hi
 simp only [within_dec, point_some, standard_some, Option.bind_some, gb0] at hi
 by_cases h1 : 1 ≤ p ∧ p ≤ 16
 ·cases h2 : PtB a b with
  | false => rw [h2, decide_eq_true h1] at hi; cases hi
  | true =>
   by_cases h3 : -890000000 ≤ d ∧ d ≤ 890000000
   ·by_cases h4 : -890000000 ≤ e ∧ e ≤ 890000000
    ·exact ⟨h1, rfl, h3, h4⟩
    ·rw [h2, decide_eq_true h1, decide_eq_true h3, decide_eq_false h4] at hi; cases hi
   ·rw [h2, decide_eq_true h1, decide_eq_false h3] at hi; cases hi
 ·rw [decide_eq_false h1] at hi; cases hi
def e5 (p q : Int × Int) : List D := bif ivB p.1 p.2 && ivB q.1 q.2 then [.i p.1, .i p.2, .i q.1, .i q.2, .i 0] else [.i 0, .i 0, .i 0, .i 0, .i 9]
theorem endr (k : Nat) (a b c d : Int) : spec_l17End k a b c d = some (e5 (a, b) (c, d)) ∧ impl_planar k a b c d = some (e5 (a, b) (c, d)) ∧ impl_pair k a b c d = some (e5 (a, b) (c, d)) := by
 unfold spec_l17End impl_planar impl_pair e5
 simp only [ivb, Option.bind_some, gb0]
 cases ivB a b
 ·exact ⟨rfl, rfl, rfl⟩
 ·cases ivB c d <;> exact ⟨rfl, rfl, rfl⟩
def Same5 (s i : Option (List D)) : Prop := ∃ a b c d e, s = some [.i a, .i b, .i c, .i d, .i e] ∧ i = some [.i a, .i b, .i c, .i d, .i e]
theorem over_whole {k : Nat} (hk : 700 ≤ k) (a b c d : Int) (h : ivB a b = false) : vOver k (a, b) (c, d) = true := by
 have e : spec_OverlapI k a b c d = some [.b (vOver k (a, b) (c, d))] := by simp only [ivr hk, Option.bind_some, pv0, pv1, gi0, giS, gb0, gbS, cond_true, cond_false, Bool.not_true, Bool.not_false, pair_eta]
 unfold spec_OverlapI spec_MeetI at e
 simp only [ivb, h, ivr hk, Option.bind_some, pv0, pv1, gi0, giS, gb0, gbS, cond_true, cond_false, Bool.not_true, Bool.not_false, pair_eta] at e
 cases hc : ivB c d <;> rw [hc] at e <;> (simp only [Bool.not_true, Bool.not_false, cond_true, cond_false, Option.bind_some] at e; exact (D.b.inj (List.cons.inj (Option.some.inj e)).1).symm)
theorem qtrI {k : Nat} (hk : 700 ≤ k) : impl_quarter k = some [.i (vTurn k 1).2] := by
 unfold impl_quarter
 simp only [ivr hk, Option.bind_some, pv0, pv1, gi0, giS, gb0, gbS, cond_true, cond_false, Bool.not_true, Bool.not_false, pair_eta]
noncomputable def b5 (k : Nat) (l0 : Int) (p q : Int × Int) : List D := bif !vOver k p (IntKind.wrap .i64 (0 - (vTurn k 1).2), (vTurn k 1).2) then [.i 0, .i 0, .i 0, .i 0, .i 8] else bif !vOver k q (IntKind.wrap .i64 (0 - (vTurn k 2).2), (vTurn k 2).2) then [.i 0, .i 0, .i 0, .i 0, .i 8] else e5 p (vAdd k q (vRad k l0))
theorem b5_shape (k : Nat) (l0 : Int) (p q : Int × Int) : ∃ a b c d e, b5 k l0 p q = [.i a, .i b, .i c, .i d, .i e] := by
 unfold b5 e5
 cases (!vOver k p (IntKind.wrap .i64 (0 - (vTurn k 1).2), (vTurn k 1).2))
 ·cases (!vOver k q (IntKind.wrap .i64 (0 - (vTurn k 2).2), (vTurn k 2).2))
  ·cases (ivB p.1 p.2 && ivB (vAdd k q (vRad k l0)).1 (vAdd k q (vRad k l0)).2) <;> exact ⟨_, _, _, _, _, rfl⟩
  ·exact ⟨_, _, _, _, _, rfl⟩
 ·exact ⟨_, _, _, _, _, rfl⟩
def V5 (a b c d e : Int) : Prop := (e = 0 ∧ ivB a b = true) ∨ (e ≠ 0 ∧ a = 0 ∧ b = 0 ∧ c = 0 ∧ d = 0)
def Same5v (s i : Option (List D)) : Prop := ∃ a b c d e, s = some [.i a, .i b, .i c, .i d, .i e] ∧ i = some [.i a, .i b, .i c, .i d, .i e] ∧ V5 a b c d e
theorem e5_v (p q : Int × Int) : V5 (gi (e5 p q) 0) (gi (e5 p q) 1) (gi (e5 p q) 2) (gi (e5 p q) 3) (gi (e5 p q) 4) := by
 unfold e5
 cases h : (ivB p.1 p.2 && ivB q.1 q.2)
 ·exact .inr ⟨show (9 : Int) ≠ 0 by decide, rfl, rfl, rfl, rfl⟩
 ·rw [Bool.and_eq_true] at h
  exact .inl ⟨rfl, h.1⟩
theorem b5_v (k : Nat) (l0 : Int) (p q : Int × Int) : V5 (gi (b5 k l0 p q) 0) (gi (b5 k l0 p q) 1) (gi (b5 k l0 p q) 2) (gi (b5 k l0 p q) 3) (gi (b5 k l0 p q) 4) := by
 unfold b5
 cases (!vOver k p (IntKind.wrap .i64 (0 - (vTurn k 1).2), (vTurn k 1).2))
 ·cases (!vOver k q (IntKind.wrap .i64 (0 - (vTurn k 2).2), (vTurn k 2).2))
  ·exact e5_v _ _
  ·exact .inr ⟨show (8 : Int) ≠ 0 by decide, rfl, rfl, rfl, rfl⟩
 ·exact .inr ⟨show (8 : Int) ≠ 0 by decide, rfl, rfl, rfl, rfl⟩
theorem re5 {l : List D} (h : ∃ a b c d e, l = [.i a, .i b, .i c, .i d, .i e]) : [D.i (gi l 0), .i (gi l 1), .i (gi l 2), .i (gi l 3), .i (gi l 4)] = l := by
 obtain ⟨a, b, c, d, e, rfl⟩ := h; rfl
theorem onr {k : Nat} (hk : 700 ≤ k) (a b c d l0 : Int) : impl_onEarth k a b c d l0 = some (b5 k l0 (a, b) (c, d)) := by
 unfold impl_onEarth impl_overlapsAny
 simp only [qtrI hk, endr, ivr hk, Option.bind_some, pv0, pv1, gi0, giS, gb0, gbS, cond_true, cond_false, Bool.not_true, Bool.not_false, pair_eta]
 have := b5_shape k l0 (a, b) (c, d)
 unfold b5 at this ⊢
 cases h1 : (!vOver k (a, b) (IntKind.wrap .i64 (0 - (vTurn k 1).2), (vTurn k 1).2))
 ·cases h2 : (!vOver k (c, d) (IntKind.wrap .i64 (0 - (vTurn k 2).2), (vTurn k 2).2))
  ·rw [h1, h2] at this
   simp only [cond_false] at this ⊢
   rw [re5 this]
  ·rfl
 ·rfl
theorem backr {k : Nat} (hk : 700 ≤ k) (x0 x1 l0 x3 x4 a b c d : Int) : spec_l17Back k x0 x1 l0 x3 x4 a b c d = some (b5 k l0 (a, b) (c, d)) := by
 unfold spec_l17Back
 simp only [turnL k (by omega) 1 (by decide), turnL k (by omega) 2 (by decide), ivb, ivr hk, Option.bind_some, pv0, pv1, gi0, giS, gb0, gbS, cond_true, cond_false, Bool.not_true, Bool.not_false, pair_eta]
 unfold b5 e5
 have hw1 : ivB a b = false → vOver k (a, b) (IntKind.wrap .i64 (0 - (vTurn k 1).2), (vTurn k 1).2) = true := over_whole hk a b _ _
 have hw2 : ivB c d = false → vOver k (c, d) (IntKind.wrap .i64 (0 - (vTurn k 2).2), (vTurn k 2).2) = true := over_whole hk c d _ _
 cases h1 : ivB a b
 ·rw [hw1 h1]
  cases h2 : ivB c d
  ·rw [hw2 h2]; rfl
  ·cases vOver k (c, d) (IntKind.wrap .i64 (0 - (vTurn k 2).2), (vTurn k 2).2) <;> rfl
 ·cases vOver k (a, b) (IntKind.wrap .i64 (0 - (vTurn k 1).2), (vTurn k 1).2)
  ·rfl
  ·cases h2 : ivB c d
   ·rw [hw2 h2]
    cases ivB (vAdd k (c, d) (vRad k l0)).1 (vAdd k (c, d) (vRad k l0)).2 <;> rfl
   ·cases vOver k (c, d) (IntKind.wrap .i64 (0 - (vTurn k 2).2), (vTurn k 2).2)
    ·rfl
    ·cases ivB (vAdd k (c, d) (vRad k l0)).1 (vAdd k (c, d) (vRad k l0)).2 <;> rfl
noncomputable def vDif (k : Nat) (l0 b : Int) : Int × Int := vRad k (vwrap (IntKind.wrap .i64 (b - l0)))
theorem lonsr {k : Nat} (hk : 700 ≤ k) (p a b d e x y : Int) : spec_l17Lon k p a b d e x y = some (pv (vDif k b y)) := by
 unfold spec_l17Lon vDif
 simp only [wrapr, ivr hk, Option.bind_some, pv0, pv1, gi0, giS, gb0, gbS, cond_true, cond_false, Bool.not_true, Bool.not_false, pair_eta]
 rfl
theorem lonir {k : Nat} (hk : 700 ≤ k) (p a b d e x y : Int) (h1 : vPrj k p a b d e = true) (h2 : PtB x y = true) : impl_LonFrom k p a b d e x y = some (pv (vDif k b y)) := by
 unfold impl_LonFrom vDif
 simp only [prjr, h1, point_some, h2, wrapr, ivr hk, Option.bind_some, pv0, pv1, gi0, giS, gb0, gbS, cond_true, cond_false, Bool.not_true, Bool.not_false, pair_eta]
 rfl
theorem q54 {k : Nat} (hk : 700 ≤ k) : (spec_Quotient k 5 4 = some (pv (vQuo k 5 4)) ∧ impl_Quotient k 5 4 = some (pv (vQuo k 5 4))) ∧ spec_Quotient k 4 5 = some (pv (vQuo k 4 5)) ∧ impl_Quotient k 4 5 = some (pv (vQuo k 4 5)) :=
 ⟨quoD hk 5 4 ⟨⟨by decide, by decide⟩, by decide, by decide⟩, quoD hk 4 5 ⟨⟨by decide, by decide⟩, by decide, by decide⟩⟩
theorem cylF_same {k : Nat} (hk : 700 ≤ k) (p a b d e x y : Int) : Same5 (spec_CylinderForward k p a b d e x y) (impl_CylinderForward k p a b d e x y) := by
 unfold spec_CylinderForward impl_CylinderForward spec_l17Cylinder impl_isCylindrical
 simp only [prjr, in_dec, within_dec, pt_some, point_some, Option.bind_some, gb0]
 cases h1 : vPrj k p a b d e
 ·exact ⟨_, _, _, _, _, rfl, rfl⟩
 ·cases h2 : PtB x y
  ·refine ⟨0, 0, 0, 0, 1, ?_, rfl⟩
   cases decide (1 ≤ p ∧ p ≤ 4) <;> rfl
  ·by_cases h3 : 1 ≤ p ∧ p ≤ 4
   ·have hl := lonir hk p a b d e x y h1 h2
    have hb := PtB_iff.1 h2
    have h4 : p = 1 ∨ p = 2 ∨ p = 3 ∨ p = 4 := by omega
    rw [decide_eq_true h3]
    simp only [hl, lonsr hk, latr hk, cosr hk, sPole_some, iPole_some k x y hb.1, ivr hk, Option.bind_some, pv0, pv1, gi0, giS, gb0, gbS, cond_true, cond_false, Bool.not_true, Bool.not_false, pair_eta]
    rcases h4 with rfl | rfl | rfl | rfl
    ·simp only [Int.reduceBEq, endr, ivr hk, Option.bind_some, pv0, pv1, gi0, giS, gb0, gbS, cond_true, cond_false, Bool.not_true, Bool.not_false, pair_eta]
     exact ⟨_, _, _, _, _, rfl, rfl⟩
    ·simp only [Int.reduceBEq, tanr hk, asinhr hk, endr, ivr hk, Option.bind_some, pv0, pv1, gi0, giS, gb0, gbS, cond_true, cond_false, Bool.not_true, Bool.not_false, pair_eta]
     cases poleB x
     ·exact ⟨_, _, _, _, _, rfl, rfl⟩
     ·exact ⟨_, _, _, _, _, rfl, rfl⟩
    ·simp only [Int.reduceBEq, endr, ivr hk, Option.bind_some, pv0, pv1, gi0, giS, gb0, gbS, cond_true, cond_false, Bool.not_true, Bool.not_false, pair_eta]
     exact ⟨_, _, _, _, _, rfl, rfl⟩
    ·simp only [Int.reduceBEq, q54 hk, tanr hk, asinhr hk, endr, ivr hk, Option.bind_some, pv0, pv1, gi0, giS, gb0, gbS, cond_true, cond_false, Bool.not_true, Bool.not_false, pair_eta]
     exact ⟨_, _, _, _, _, rfl, rfl⟩
   ·rw [decide_eq_false h3]
    exact ⟨_, _, _, _, _, rfl, rfl⟩
theorem cylI_same {k : Nat} (hk : 700 ≤ k) (p a b d e x1 x2 y1 y2 : Int) : Same5v (spec_CylinderInverse k p a b d e x1 x2 y1 y2) (impl_CylinderInverse k p a b d e x1 x2 y1 y2) := by
 unfold spec_CylinderInverse impl_CylinderInverse spec_l17Cylinder impl_isCylindrical
 simp only [prjr, in_dec, within_dec, Option.bind_some, gb0]
 cases h1 : vPrj k p a b d e
 ·first | exact ⟨_, _, _, _, _, rfl, rfl, b5_v _ _ _ _⟩ | exact ⟨_, _, _, _, _, rfl, rfl, .inr ⟨by decide, rfl, rfl, rfl, rfl⟩⟩
 ·by_cases h3 : 1 ≤ p ∧ p ≤ 4
  ·have h4 : p = 1 ∨ p = 2 ∨ p = 3 ∨ p = 4 := by omega
   rw [decide_eq_true h3]
   simp only [cosr hk, ivr hk, Option.bind_some, pv0, pv1, gi0, giS, gb0, gbS, cond_true, cond_false, Bool.not_true, Bool.not_false, pair_eta]
   rcases h4 with rfl | rfl | rfl | rfl
   ·simp only [Int.reduceBEq, backr hk, onr hk, ivr hk, Option.bind_some, pv0, pv1, gi0, giS, gb0, gbS, cond_true, cond_false, Bool.not_true, Bool.not_false, pair_eta]
    first | exact ⟨_, _, _, _, _, rfl, rfl, b5_v _ _ _ _⟩ | exact ⟨_, _, _, _, _, rfl, rfl, .inr ⟨by decide, rfl, rfl, rfl, rfl⟩⟩
   ·simp only [Int.reduceBEq, sinhr hk, atanr hk, backr hk, onr hk, ivr hk, Option.bind_some, pv0, pv1, gi0, giS, gb0, gbS, cond_true, cond_false, Bool.not_true, Bool.not_false, pair_eta]
    first | exact ⟨_, _, _, _, _, rfl, rfl, b5_v _ _ _ _⟩ | exact ⟨_, _, _, _, _, rfl, rfl, .inr ⟨by decide, rfl, rfl, rfl, rfl⟩⟩
   ·simp only [Int.reduceBEq, ivb, asinr hk, backr hk, onr hk, ivr hk, Option.bind_some, pv0, pv1, gi0, giS, gb0, gbS, cond_true, cond_false, Bool.not_true, Bool.not_false, pair_eta]
    generalize hm : vMul k (y1, y2) (vCos k (vRad k d)) = m
    have hw := over_whole hk m.1 m.2 (-4294967296) 4294967296
    cases h5 : ivB m.1 m.2
    ·rw [hw h5]
     first | exact ⟨_, _, _, _, _, rfl, rfl, b5_v _ _ _ _⟩ | exact ⟨_, _, _, _, _, rfl, rfl, .inr ⟨by decide, rfl, rfl, rfl, rfl⟩⟩
    ·cases vOver k (m.1, m.2) (-4294967296, 4294967296) <;> first | exact ⟨_, _, _, _, _, rfl, rfl, b5_v _ _ _ _⟩ | exact ⟨_, _, _, _, _, rfl, rfl, .inr ⟨by decide, rfl, rfl, rfl, rfl⟩⟩
   ·simp only [Int.reduceBEq, q54 hk, sinhr hk, atanr hk, backr hk, onr hk, ivr hk, Option.bind_some, pv0, pv1, gi0, giS, gb0, gbS, cond_true, cond_false, Bool.not_true, Bool.not_false, pair_eta]
    first | exact ⟨_, _, _, _, _, rfl, rfl, b5_v _ _ _ _⟩ | exact ⟨_, _, _, _, _, rfl, rfl, .inr ⟨by decide, rfl, rfl, rfl, rfl⟩⟩
  ·rw [decide_eq_false h3]
   first | exact ⟨_, _, _, _, _, rfl, rfl, b5_v _ _ _ _⟩ | exact ⟨_, _, _, _, _, rfl, rfl, .inr ⟨by decide, rfl, rfl, rfl, rfl⟩⟩
end Go.Proofs.YtaimjfippclbcaaGreat.Ev
