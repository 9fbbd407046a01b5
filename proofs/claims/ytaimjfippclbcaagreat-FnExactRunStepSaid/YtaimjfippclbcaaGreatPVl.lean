/- Intervals as pairs: what the functions of both sides answer, as rules. No condition. -/
import Derived.Test.YtaimjfippclbcaaGreatPSinI
namespace Go.Proofs.YtaimjfippclbcaaGreat.Ev
open Go Go.RowKit
set_option linter.unusedSimpArgs false
set_option linter.unusedVariables false
def pv (p : Int × Int) : List D := [.i p.1, .i p.2]
theorem pv0 (p : Int × Int) : gi (pv p) 0 = p.1 := by obtain ⟨a, b⟩ := p; exact gi0 a _
theorem pv1 (p : Int × Int) : gi (pv p) 1 = p.2 := by obtain ⟨a, b⟩ := p; exact (giS _ _ 0).trans (gi0 b _)
noncomputable def iv (o : Option (List D)) : Int × Int := Classical.epsilon fun p => o = some (pv p)
theorem iv_some {o : Option (List D)} {p : Int × Int} (h : o = some (pv p)) : o = some (pv (iv o)) := Classical.epsilon_spec (p := fun p => o = some (pv p)) ⟨p, h⟩
theorem pair_eta (p : Int × Int) : (p.1, p.2) = p := rfl
theorem pv_fold (p : Int × Int) : [D.i p.1, D.i p.2] = pv p := rfl
theorem pv_inj' {p q : Int × Int} (h : pv p = pv q) : p = q := by
 obtain ⟨a, b⟩ := p
 obtain ⟨c, d⟩ := q
 unfold pv at h
 cases h; rfl
def Same (s i : Option (List D)) : Prop := ∃ p, s = some (pv p) ∧ i = some (pv p)
theorem same_rule {s i : Option (List D)} (h : Same s i) : s = some (pv (iv s)) ∧ i = some (pv (iv s)) := by
 obtain ⟨p, h1, h2⟩ := h; exact ⟨iv_some h1, h2.trans (h1.symm.trans (iv_some h1))⟩
theorem same_of {s i : Option (List D)} (h : ∃ x y, s = some [.i x, .i y] ∧ i = some [.i x, .i y]) : Same s i := by
 obtain ⟨x, y, e1, e2⟩ := h; exact ⟨(x, y), e1, e2⟩
theorem same_of3 {s i : Option (List D)} {P : Int → Int → Prop} (h : ∃ x y, s = some [.i x, .i y] ∧ i = some [.i x, .i y] ∧ P x y) : Same s i := by
 obtain ⟨x, y, e1, e2, _⟩ := h; exact ⟨(x, y), e1, e2⟩
theorem same_bif {s i s' i' : Option (List D)} (c : Bool) (h1 : Same s i) (h2 : Same s' i') : Same (bif c then s else s') (bif c then i else i') := by
 cases c
 ·exact h2
 ·exact h1
theorem same_refl (p : Int × Int) : Same (some (pv p)) (some (pv p)) := ⟨p, rfl, rfl⟩
def SameB (s i : Option (List D)) : Prop := ∃ b, s = some [.b b] ∧ i = some [.b b]
noncomputable def bv (o : Option (List D)) : Bool := Classical.epsilon fun b => o = some [.b b]
theorem sameB_rule {s i : Option (List D)} (h : SameB s i) : s = some [.b (bv s)] ∧ i = some [.b (bv s)] := by
 obtain ⟨p, h1, h2⟩ := h
 have e : s = some [.b (bv s)] := Classical.epsilon_spec (p := fun b => s = some [D.b b]) ⟨p, h1⟩
 exact ⟨e, h2.trans (h1.symm.trans e)⟩
def wv : Int × Int := (-1152921504606846976, 1152921504606846976)
def vMk (a b : Int) : Int × Int := bif ivB a b then (a, b) else wv
theorem mkIv_pv (a b : Int) : mkIv a b = pv (vMk a b) := by unfold mkIv vMk; cases ivB a b <;> rfl
noncomputable def vAdd (k : Nat) (a b : Int × Int) : Int × Int := iv (spec_AddI k a.1 a.2 b.1 b.2)
noncomputable def vSub (k : Nat) (a b : Int × Int) : Int × Int := iv (spec_SubI k a.1 a.2 b.1 b.2)
noncomputable def vNeg (k : Nat) (a : Int × Int) : Int × Int := iv (spec_NegI k a.1 a.2)
noncomputable def vMul (k : Nat) (a b : Int × Int) : Int × Int := iv (spec_MulI k a.1 a.2 b.1 b.2)
noncomputable def vDiv (k : Nat) (a b : Int × Int) : Int × Int := iv (spec_DivI k a.1 a.2 b.1 b.2)
noncomputable def vHalf (k : Nat) (a : Int × Int) : Int × Int := iv (spec_HalfI k a.1 a.2)
noncomputable def vHull (k : Nat) (a b : Int × Int) : Int × Int := iv (spec_HullI k a.1 a.2 b.1 b.2)
noncomputable def vSqr (k : Nat) (a : Int × Int) : Int × Int := iv (spec_SqrI k a.1 a.2)
noncomputable def vInt (k : Nat) (n : Int) : Int × Int := iv (spec_Integer k n)
noncomputable def vTurn (k : Nat) (n : Int) : Int × Int := iv (spec_TurnI k n)
noncomputable def vRad (k : Nat) (n : Int) : Int × Int := iv (spec_RadiansOf k k n)
noncomputable def vSin (k : Nat) (a : Int × Int) : Int × Int := iv (spec_SinI k a.1 a.2)
noncomputable def vAt (k : Nat) (a t : Int) : Int × Int := iv (spec_l06At k a t)
noncomputable def vQuo (k : Nat) (a b : Int) : Int × Int := iv (spec_Quotient k a b)
noncomputable def vOver (k : Nat) (a b : Int × Int) : Bool := bv (spec_OverlapI k a.1 a.2 b.1 b.2)
noncomputable def vIns (k : Nat) (a b : Int × Int) : Bool := bv (spec_InsideI k a.1 a.2 b.1 b.2)
noncomputable def ivb3 (o : Option (List D)) : (Int × Int) × Bool := Classical.epsilon fun p => o = some [.i p.1.1, .i p.1.2, .b p.2]
noncomputable def vMeet (k : Nat) (a b : Int × Int) : Int × Int := (ivb3 (spec_MeetI k a.1 a.2 b.1 b.2)).1
noncomputable def vMeetB (k : Nat) (a b : Int × Int) : Bool := (ivb3 (spec_MeetI k a.1 a.2 b.1 b.2)).2
def vIsW (a : Int × Int) : Bool := !ivB a.1 a.2
theorem turnL (k : Nat) (hk : 66 ≤ k) (n : Int) (h : 1 ≤ n ∧ n ≤ 4096) : spec_l05Turn k k n = some (pv (vTurn k n)) := by
 obtain ⟨p, e, _⟩ := same_of (turn_same k (by omega) n)
 have : spec_TurnI k n = spec_l05Turn k k n := by
  unfold spec_TurnI
  rw [in_some]
  obtain ⟨j, rfl⟩ : ∃ j, k = j + 1 := ⟨k - 1, by omega⟩
  obtain ⟨lo, _, h', _⟩ := turn_pos (j + 1) j n h
  simp only [Option.bind_some, gb0, leI_t (show (-4096 : Int) ≤ n by omega), leI_t (show n ≤ 4096 by omega), Bool.and_self, Bool.not_true, cond_false, h']; rfl
 rw [← this]
 exact (same_rule ⟨p, e, e⟩).1
theorem ivr {k : Nat} (hk : 700 ≤ k) :
  (∀ a b c d, spec_AddI k a b c d = some (pv (vAdd k (a, b) (c, d))) ∧ impl_AddI k a b c d = some (pv (vAdd k (a, b) (c, d)))) ∧
  (∀ a b c d, spec_SubI k a b c d = some (pv (vSub k (a, b) (c, d))) ∧ impl_SubI k a b c d = some (pv (vSub k (a, b) (c, d)))) ∧
  (∀ a b, spec_NegI k a b = some (pv (vNeg k (a, b))) ∧ impl_NegI k a b = some (pv (vNeg k (a, b)))) ∧
  (∀ a b c d, spec_MulI k a b c d = some (pv (vMul k (a, b) (c, d))) ∧ impl_MulI k a b c d = some (pv (vMul k (a, b) (c, d)))) ∧
  (∀ a b c d, spec_DivI k a b c d = some (pv (vDiv k (a, b) (c, d))) ∧ impl_DivI k a b c d = some (pv (vDiv k (a, b) (c, d)))) ∧
  (∀ a b, spec_HalfI k a b = some (pv (vHalf k (a, b))) ∧ impl_HalfI k a b = some (pv (vHalf k (a, b)))) ∧
  (∀ a b c d, spec_HullI k a b c d = some (pv (vHull k (a, b) (c, d))) ∧ impl_HullI k a b c d = some (pv (vHull k (a, b) (c, d)))) ∧
  (∀ a b, spec_SqrI k a b = some (pv (vSqr k (a, b))) ∧ impl_SqrI k a b = some (pv (vSqr k (a, b)))) ∧
  (∀ n, spec_Integer k n = some (pv (vInt k n)) ∧ impl_Integer k n = some (pv (vInt k n))) ∧
  (∀ n, spec_TurnI k n = some (pv (vTurn k n)) ∧ impl_TurnI k k n = some (pv (vTurn k n))) ∧
  (∀ n, spec_RadiansOf k k n = some (pv (vRad k n)) ∧ impl_RadiansOf k k n = some (pv (vRad k n))) ∧
  (∀ a b, spec_SinI k a b = some (pv (vSin k (a, b))) ∧ impl_SinI k a b = some (pv (vSin k (a, b)))) ∧
  (∀ a t, spec_l06At k a t = some (pv (vAt k a t)) ∧ impl_circleValue k a t = some (pv (vAt k a t))) ∧
  (∀ a b c d, spec_OverlapI k a b c d = some [.b (vOver k (a, b) (c, d))] ∧ impl_OverlapI k a b c d = some [.b (vOver k (a, b) (c, d))]) ∧
  (∀ a b c d, spec_InsideI k a b c d = some [.b (vIns k (a, b) (c, d))] ∧ impl_InsideI k a b c d = some [.b (vIns k (a, b) (c, d))]) ∧
  (∀ a b c d, spec_MeetI k a b c d = some [.i (vMeet k (a, b) (c, d)).1, .i (vMeet k (a, b) (c, d)).2, .b (vMeetB k (a, b) (c, d))] ∧ impl_MeetI k a b c d = some [.i (vMeet k (a, b) (c, d)).1, .i (vMeet k (a, b) (c, d)).2, .b (vMeetB k (a, b) (c, d))]) := by
 refine ⟨fun a b c d => same_rule (same_of3 (addI_full k a b c d)), fun a b c d => same_rule (same_of3 (subI_full k a b c d)), fun a b => same_rule (same_of3 (negI_full k a b)), fun a b c d => same_rule (same_of3 (mulI_full k (by omega) a b c d)), fun a b c d => same_rule (same_of3 (divI_full k (by omega) a b c d)), fun a b => same_rule (same_of (halfI_same k a b)), fun a b c d => same_rule (same_of (hullI_same k a b c d)), fun a b => same_rule (same_of3 (sqrI_full k a b)), fun n => same_rule (same_of3 (integer_same k n)), fun n => same_rule (same_of (turn_same k (by omega) n)), fun n => same_rule (same_of (rad_same k (by omega) n)), fun a b => same_rule (same_of (sinI_same k hk a b)), fun a t => same_rule (same_of (circle_same k (by omega) a t)), fun a b c d => sameB_rule (overlap_same k a b c d), fun a b c d => ?_, fun a b c d => ?_⟩
 ·obtain ⟨o, h1, h2, _⟩ := inside_same k a b c d
  exact sameB_rule ⟨o, h1, h2⟩
 ·obtain ⟨x, y, o, h1, h2, _⟩ := meetI_same k a b c d
  have e : spec_MeetI k a b c d = _ := Classical.epsilon_spec (p := fun p : (Int × Int) × Bool => spec_MeetI k a b c d = some [.i p.1.1, .i p.1.2, .b p.2]) ⟨((x, y), o), h1⟩
  exact ⟨e, h2.trans (h1.symm.trans e)⟩
theorem quo {k : Nat} (hk : 700 ≤ k) (a d : Int) (ha : I64 a) (hd : I64 d) : spec_Quotient k a d = some (pv (vQuo k a d)) ∧ impl_Quotient k a d = some (pv (vQuo k a d)) :=
 same_rule (same_of (quotient_same k (by omega) a d ha hd))
theorem pir {k : Nat} (hk : 700 ≤ k) : spec_PiI k = some (pv (vTurn k 2)) ∧ impl_PiI k = some (pv (vTurn k 2)) := by
 unfold spec_PiI impl_PiI
 rw [turnL k (by omega) 2 (by decide)]
 simp only [ivr hk, Option.bind_some, pv0, pv1, gi0, giS, gb0, gbS, cond_true, cond_false, Bool.not_true, Bool.not_false, pair_eta]
 exact ⟨rfl, rfl⟩
theorem quoD {k : Nat} (hk : 700 ≤ k) (a d : Int) (h : (-1000000000000000000 ≤ a ∧ a ≤ 1000000000000000000) ∧ -1000000000000000000 ≤ d ∧ d ≤ 1000000000000000000) : spec_Quotient k a d = some (pv (vQuo k a d)) ∧ impl_Quotient k a d = some (pv (vQuo k a d)) :=
 quo hk a d ⟨by omega, by omega⟩ ⟨by omega, by omega⟩
theorem ivb (k : Nat) :
  (spec_Whole k = some (pv wv) ∧ impl_Whole k = some (pv wv) ∧ spec_l04Whole k = some (pv wv)) ∧
  (spec_l06Ring k = some (pv (-4294967296, 4294967296)) ∧ impl_ring k = some (pv (-4294967296, 4294967296))) ∧
  (spec_l06Tiny k = some (pv (-1, 1)) ∧ impl_tiny k = some (pv (-1, 1))) ∧
  (∀ n, spec_l05At k n = some (pv (n, n)) ∧ impl_at k n = some (pv (n, n))) ∧
  (∀ a b, spec_l04Ok k a b = some [.b (ivB a b)] ∧ impl_ValidInterval k a b = some [.b (ivB a b)]) ∧
  (∀ a b, spec_IsWhole k a b = some [.b (!ivB a b)] ∧ impl_IsWhole k a b = some [.b (!ivB a b)]) ∧
  (∀ a b c d, impl_areBounded k a b c d = some [.b (ivB a b && ivB c d)]) ∧
  (∀ a b, spec_l04Make k a b = some (pv (vMk a b)) ∧ impl_bounded k a b true = some (pv (vMk a b)) ∧ impl_bounded k a b false = some (pv wv)) := by
 refine ⟨⟨rfl, rfl, rfl⟩, ⟨rfl, rfl⟩, ⟨rfl, rfl⟩, fun n => ⟨rfl, rfl⟩, fun a b => ⟨l04Ok_some k a b, validIv_some k a b⟩, fun a b => ⟨sWhole_some k a b, isWhole_some k a b⟩, fun a b c d => areB_some k a b c d, fun a b => ⟨?_, ?_, rfl⟩⟩
 ·rw [make_some, mkIv_pv]
 ·rw [bounded_t, mkIv_pv]
end Go.Proofs.YtaimjfippclbcaaGreat.Ev
