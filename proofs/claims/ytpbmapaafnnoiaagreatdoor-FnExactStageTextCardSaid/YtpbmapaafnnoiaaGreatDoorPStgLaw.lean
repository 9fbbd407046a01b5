/- StageText: the plain law, its end. No condition. -/
import Derived.Test.YtpbmapaafnnoiaaGreatDoorPStage
import Derived.Test.YtpbmapaafnnoiaaGreatDoorPSin
namespace Go.Proofs.YtpbmapaafnnoiaaGreatDoor.Ev
open Go Go.RowKit
set_option linter.unusedSimpArgs false
set_option linter.unusedVariables false
/-- The text of a fix, rounded down and up. -/
theorem fixT (a : Int) (h : -1152921504606846976 ≤ a ∧ a ≤ 1152921504606846976) : -4611686018427387904 ≤ a * 1000000000 / 4294967296 ∧ a * 1000000000 / 4294967296 ≤ 4611686018427387904 := by omega
theorem down_some (k : Nat) (hk : 70 ≤ k) (a : Int) (h : -1152921504606846976 ≤ a ∧ a ≤ 1152921504606846976) : spec_l03Text k a 9 false = some [.s (bs (uT (a * 1000000000 / 4294967296) 9))] ∧ impl_TextDown k a 9 = some [.s (bs (uT (a * 1000000000 / 4294967296) 9))] := by
  have hb := fixT a h
  have e1 : (leI (-1152921504606846976) a && leI a 1152921504606846976) = true := by rw [leI_t h.1, leI_t h.2]; rfl
  have m1 := mulFloor32_some k a 1000000000 ⟨by omega, by omega⟩ ⟨by decide, by decide⟩
  have m2 := implMulFloor32_some k a 1000000000 ⟨by omega, by omega⟩ ⟨by decide, by decide⟩
  rw [intR_in (by omega) (by omega)] at m1 m2
  have ip : impl_powerOfTen k 9 = some [.i 1000000000] := ipow k (by omega) 9 (by decide)
  have dg := digits_some k (by omega) 9 (by decide) (by decide) (a * 1000000000 / 4294967296) (by omega)
  have dg' : impl_digitsText k (a * 1000000000 / 4294967296) 9 = _ := dg
  constructor
  · unfold spec_l03Text spec_l03Ok
    simp only [in_some, Option.bind_some, gb0, e1, Bool.not_true, cond_false]
    rw [show (leI 0 9 && leI 9 9) = true from rfl, Bool.not_true, cond_false, pow9 k (by omega), Option.bind_some]
    simp only [gi0]
    rw [m1, Option.bind_some]
    simp only [gi0]
    rw [units_some k (by omega) _ (by omega), Option.bind_some, gs0]
  · unfold impl_TextDown impl_ValidFix
    simp only [within_some, Option.bind_some, gb0, e1, Bool.not_true, cond_false]
    rw [show (leI 0 9 && leI 9 9) = true from rfl, Bool.not_true, cond_false, ip, Option.bind_some]
    simp only [gi0]
    rw [m2, Option.bind_some]
    simp only [gi0]
    rw [dg', Option.bind_some, gs0]
theorem up_some (k : Nat) (hk : 70 ≤ k) (a : Int) (h : -1152921504606846976 ≤ a ∧ a ≤ 1152921504606846976) : spec_l03Text k a 9 true = some [.s (bs (uT (0 - (0 - a) * 1000000000 / 4294967296) 9))] ∧ impl_TextUp k a 9 = some [.s (bs (uT (0 - (0 - a) * 1000000000 / 4294967296) 9))] := by
  have hb := fixT (0 - a) (by omega)
  have e1 : (leI (-1152921504606846976) a && leI a 1152921504606846976) = true := by rw [leI_t h.1, leI_t h.2]; rfl
  have m1 := mulFloor32_some k (0 - a) 1000000000 ⟨by omega, by omega⟩ ⟨by decide, by decide⟩
  have m2 := implMulFloor32_some k (0 - a) 1000000000 ⟨by omega, by omega⟩ ⟨by decide, by decide⟩
  rw [intR_in (by omega) (by omega)] at m1 m2
  have ip : impl_powerOfTen k 9 = some [.i 1000000000] := ipow k (by omega) 9 (by decide)
  have dg := digits_some k (by omega) 9 (by decide) (by decide) (0 - (0 - a) * 1000000000 / 4294967296) (by omega)
  have dg' : impl_digitsText k (0 - (0 - a) * 1000000000 / 4294967296) 9 = _ := dg
  have w0 : IntKind.wrap .i64 (0 - a) = 0 - a := wr _ (by omega) (by omega)
  have w1 : IntKind.wrap .i64 (0 - (0 - a) * 1000000000 / 4294967296) = 0 - (0 - a) * 1000000000 / 4294967296 := wr _ (by omega) (by omega)
  constructor
  · unfold spec_l03Text spec_l03Ok
    simp only [in_some, Option.bind_some, gb0, e1, Bool.not_true, cond_false, cond_true]
    rw [show (leI 0 9 && leI 9 9) = true from rfl, Bool.not_true, cond_false, pow9 k (by omega), Option.bind_some, w0]
    simp only [gi0]
    rw [m1, Option.bind_some]
    simp only [gi0]
    rw [w1, units_some k (by omega) _ (by omega), Option.bind_some, gs0]
  · unfold impl_TextUp impl_ValidFix
    simp only [within_some, Option.bind_some, gb0, e1, Bool.not_true, cond_false]
    rw [show (leI 0 9 && leI 9 9) = true from rfl, Bool.not_true, cond_false, ip, Option.bind_some, w0]
    simp only [gi0]
    rw [m2, Option.bind_some]
    simp only [gi0]
    rw [w1, dg', Option.bind_some, gs0]
/-- The text of an interval. -/
def ivT (a b : Int) : List UInt8 := bif ivB a b then [91] ++ uT (a * 1000000000 / 4294967296) 9 ++ [44, 32] ++ uT (0 - (0 - b) * 1000000000 / 4294967296) 9 ++ [93] else [119, 104, 111, 108, 101]
theorem ivT_length (a b : Int) : (ivT a b).length ≤ 100 := by
  unfold ivT
  cases h : ivB a b with
  | false =>
    show ([119, 104, 111, 108, 101] : List UInt8).length ≤ 100
    decide
  | true =>
    have hi := ivB_iff.1 h
    have h1 := fixT a (by omega)
    have h2 := fixT (0 - b) (by omega)
    have l1 := uT_length (a * 1000000000 / 4294967296) 9 (by decide) (by omega)
    have l2 := uT_length (0 - (0 - b) * 1000000000 / 4294967296) 9 (by decide) (by omega)
    simp only [cond_true, List.length_append, List.length_cons, List.length_nil]
    omega
theorem c91 : (⟨#[91]⟩ : ByteArray) = bs [91] := rfl
theorem c93 : (⟨#[93]⟩ : ByteArray) = bs [93] := rfl
theorem c4432 : (⟨#[44, 32]⟩ : ByteArray) = bs [44, 32] := rfl
theorem itx (k : Nat) (hk : 70 ≤ k) (a b : Int) : spec_IntervalText k a b = some [.s (bs (ivT a b))] ∧ impl_IntervalText k a b = some [.s (bs (ivT a b))] := by
  unfold spec_IntervalText spec_l04Text impl_IntervalText ivT
  rw [l04Ok_some, isWhole_some, Option.bind_some, Option.bind_some]
  simp only [gb0]
  cases h : ivB a b with
  | false => exact ⟨rfl, rfl⟩
  | true =>
    have hi := ivB_iff.1 h
    have h1 := fixT a (by omega)
    have h2 := fixT (0 - b) (by omega)
    have l1 := uT_length (a * 1000000000 / 4294967296) 9 (by decide) (by omega)
    have l2 := uT_length (0 - (0 - b) * 1000000000 / 4294967296) 9 (by decide) (by omega)
    obtain ⟨d1, d2⟩ := down_some k hk a (by omega)
    obtain ⟨u1, u2⟩ := up_some k hk b (by omega)
    have ln : ∀ (x y : List UInt8), x.length + y.length ≤ 1000 → leN ((bs x).size + (bs y).size) 140737488355328 = true := fun x y hxy => leN_t (by rw [bs_size, bs_size]; omega)
    simp only [Bool.not_true, cond_false, cond_true, d1, d2, u1, u2, Option.bind_some, gs0, c91, c93, c4432, bs_append]
    rw [ln _ _ (by simp only [List.length_append, List.length_cons, List.length_nil]; omega), ln _ _ (by simp only [List.length_append, List.length_cons, List.length_nil]; omega), ln _ _ (by simp only [List.length_append, List.length_cons, List.length_nil]; omega), ln _ _ (by simp only [List.length_append, List.length_cons, List.length_nil]; omega)]
    exact ⟨rfl, rfl⟩
theorem zcomm (x : Int) : ((0 : Int) == x) = (x == 0) := by
  by_cases h : x = 0
  · rw [beq_t h, beq_t h.symm]
  · rw [beq_f h, beq_f (fun e => h e.symm)]
def plB (a b h : Int) : Bool := ((leI (-900000000) a && leI a 900000000) && (ltI (-1800000000) b && leI b 1800000000)) && (leI (-20000000) h && leI h 20000000000)
theorem lt_le (b : Int) : leI (-1799999999) b = ltI (-1800000000) b := by
  by_cases h : -1799999999 ≤ b
  · rw [leI_t h, ltI_t (by omega)]
  · rw [leI_f (by omega), ltI_f (by omega)]
theorem lplace (k : Nat) (a b h : Int) : spec_l14Ok k a b h = some [.b (plB a b h)] ∧ impl_ValidPlace k a b h = some [.b (plB a b h)] := by
  unfold spec_l14Ok spec_l11Ok impl_ValidPlace impl_ValidPoint impl_isHeight plB
  simp only [in_some, within_some, Option.bind_some, gb0, lt_le]
  cases (leI (-900000000) a && leI a 900000000) <;> cases ltI (-1800000000) b <;> cases leI b 1800000000 <;> exact ⟨rfl, rfl⟩
theorem tri (P E D : Bool) : ∃ o, (bif !P then some [.b false] else bif E then some [.b D] else some [.b false]) = some [Ev.D.b o] ∧ (bif !D then some [.b false] else bif E then some [.b P] else some [.b false]) = some [Ev.D.b o] ∧ (o = true → P = true) := by
  cases P <;> cases E <;> cases D <;> exact ⟨_, rfl, rfl, fun h => by first | rfl | cases h⟩
theorem two (E D : Bool) : ∃ o, (bif E then some [.b D] else some [.b false]) = some [Ev.D.b o] ∧ (bif !D then some [.b false] else some [.b E]) = some [Ev.D.b o] := by
  cases E <;> cases D <;> exact ⟨_, rfl, rfl⟩
theorem stage_same (k : Nat) (a0 a1 a2 a3 a4 a5 a6 a7 a8 a9 a10 a11 a12 a13 a14 a15 a16 a17 a18 a19 a20 : Int) : ∃ o, spec_l27Stage k a0 a1 a2 a3 a4 a5 a6 a7 a8 a9 a10 a11 a12 a13 a14 a15 a16 a17 a18 a19 a20 = some [.b o] ∧ impl_isStage k a0 a1 a2 a3 a4 a5 a6 a7 a8 a9 a10 a11 a12 a13 a14 a15 a16 a17 a18 a19 a20 = some [.b o] ∧ (o = true → (1 ≤ a0 ∧ a0 ≤ 4) ∧ (a0 = 1 → plB a1 a2 a3 = true)) := by
  unfold spec_l27Stage impl_isStage
  simp only [zcomm, beq_self_eq_true, Bool.true_and, Bool.and_true, lplace, in_some, within_some, Option.bind_some, gb0]
  have hc : a0 = 1 ∨ a0 = 2 ∨ a0 = 3 ∨ a0 = 4 ∨ ∀ j : Int, 1 ≤ j → j ≤ 4 → (a0 == j) = false := by
    by_cases h : 1 ≤ a0 ∧ a0 ≤ 4
    · omega
    · exact .inr (.inr (.inr (.inr fun j h1 h2 => beq_f (by omega))))
  rcases hc with rfl | rfl | rfl | rfl | hc
  · simp only [Int.reduceBEq, cond_true, Bool.true_and]
    obtain ⟨o, e1, e2, e3⟩ := tri (plB a1 a2 a3) _ _
    exact ⟨o, e1, e2, fun h => ⟨by decide, fun _ => e3 h⟩⟩
  · simp only [Int.reduceBEq, cond_true, cond_false, Bool.true_and]
    obtain ⟨o, e1, e2⟩ := two _ _
    exact ⟨o, e1, e2, fun h => ⟨by decide, fun e => by cases e⟩⟩
  · simp only [Int.reduceBEq, cond_true, cond_false, Bool.true_and]
    obtain ⟨o, e1, e2⟩ := two _ _
    exact ⟨o, e1, e2, fun h => ⟨by decide, fun e => by cases e⟩⟩
  · simp only [Int.reduceBEq, cond_true, cond_false, Bool.true_and]
    obtain ⟨o, e1, e2⟩ := two _ _
    exact ⟨o, e1, e2, fun h => ⟨by decide, fun e => by cases e⟩⟩
  · simp only [hc 1 (by decide) (by decide), hc 2 (by decide) (by decide), hc 3 (by decide) (by decide), hc 4 (by decide) (by decide), cond_false]
    cases (leI 0 a20 && leI a20 36000000000) <;> exact ⟨false, rfl, rfl, fun h => by cases h⟩
theorem pi_rule (k : Nat) (hk : 2 ≤ k) : ∃ x y, spec_PiI k = some [.i x, .i y] ∧ impl_PiI k = some [.i x, .i y] := by
  obtain ⟨j, rfl⟩ : ∃ j, k = j + 1 := ⟨k - 1, by omega⟩
  obtain ⟨lo, _, e1, e2⟩ := turn_pos (j + 1) j 2 (by decide)
  unfold spec_PiI impl_PiI
  rw [e1, e2]
  exact ⟨_, _, rfl, rfl⟩
theorem deg_rule (k : Nat) (hk : 70 ≤ k) (a b : Int) : ∃ x y, spec_DegreesOf k a b = some [.i x, .i y] ∧ impl_DegreesOf k a b = some [.i x, .i y] := by
  obtain ⟨p, q, e1, e2, _⟩ := integer_same k 180
  obtain ⟨r, s, e3, e4⟩ := mulI_same k (by omega) a b p q
  obtain ⟨u, v, e5, e6⟩ := pi_rule k (by omega)
  obtain ⟨x, y, e7, e8⟩ := divI_same k (by omega) r s u v
  unfold spec_DegreesOf impl_DegreesOf
  simp only [e1, e2, e3, e4, e5, e6, e7, e8, Option.bind_some, gi0, giS]
  exact ⟨_, _, rfl, rfl⟩
theorem place_text (k : Nat) (hk : 70 ≤ k) (a b h : Int) (hp : plB a b h = true) : ∃ t : List UInt8, t.length ≤ 200 ∧ spec_l14Text k a b h = some [.s (bs t)] ∧ impl_PlaceText k a b h = some [.s (bs t)] := by
  obtain ⟨p1, p2⟩ := lplace k a b h
  have hq := hp
  unfold plB at hq
  simp only [Bool.and_eq_true, leI_iff, ltI_iff] at hq
  obtain ⟨⟨⟨q1, q2⟩, q3, q4⟩, q5, q6⟩ := hq
  have t1 := ltext_some k (by omega) a (by omega)
  have t2 := ltext_some k (by omega) b (by omega)
  have d1 : impl_digitsText k a 7 = _ := digits_some k (by omega) 7 (by decide) (by decide) a (by omega)
  have d2 : impl_digitsText k b 7 = _ := digits_some k (by omega) 7 (by decide) (by decide) b (by omega)
  have n1 := decAll_some h (by omega) (by omega) k (by omega)
  have n2 := decimal_some k h (by omega) (by omega)
  have l1 := uT_length a 7 (by decide) (by omega)
  have l2 := uT_length b 7 (by decide) (by omega)
  have l3 := itoa_length h (by omega) (by omega)
  have ln : ∀ (x y : List UInt8), x.length + y.length ≤ 1000 → leN ((bs x).size + (bs y).size) 140737488355328 = true := fun x y hxy => leN_t (by rw [bs_size, bs_size]; omega)
  have ok : spec_l11Ok k a b = some [.b true] := by
    unfold spec_l11Ok
    simp only [in_some, Option.bind_some, gb0, leI_t q1, leI_t q2, leI_t (show -1799999999 ≤ b by omega), leI_t q4, Bool.and_self, cond_true]
  refine ⟨uT a 7 ++ [32] ++ uT b 7 ++ [32] ++ Lib.itoa h, by simp only [List.length_append, List.length_singleton]; omega, ?_, ?_⟩
  · unfold spec_l14Text spec_PointText
    simp only [ok, t1, t2, n1, Option.bind_some, gb0, Bool.not_true, cond_false, gs0, c32, bs_append]
    rw [ln _ _ (by simp only [List.length_append, List.length_singleton]; omega), cond_true, ln _ _ (by simp only [List.length_append, List.length_singleton]; omega), cond_true, Option.bind_some]
    simp only [gs0, bs_append]
    rw [ln _ _ (by simp only [List.length_append, List.length_singleton]; omega), cond_true, ln _ _ (by simp only [List.length_append, List.length_singleton]; omega), cond_true]
  · unfold impl_PlaceText impl_pointText impl_degreesText
    simp only [p2, hp, d1, d2, n2, Option.bind_some, gb0, Bool.not_true, cond_false, gs0, c32, bs_append]
    rw [ln _ _ (by simp only [List.length_append, List.length_singleton]; omega), cond_true, ln _ _ (by simp only [List.length_append, List.length_singleton]; omega), cond_true, Option.bind_some]
    simp only [gs0, bs_append]
    rw [ln _ _ (by simp only [List.length_append, List.length_singleton]; omega), cond_true, ln _ _ (by simp only [List.length_append, List.length_singleton]; omega), cond_true]
theorem w1 : (⟨#[112, 108, 97, 99, 101, 32]⟩ : ByteArray) = bs [112, 108, 97, 99, 101, 32] := rfl
theorem w2 : (⟨#[112, 108, 97, 110, 101, 32]⟩ : ByteArray) = bs [112, 108, 97, 110, 101, 32] := rfl
theorem w3 : (⟨#[118, 101, 99, 116, 111, 114, 32]⟩ : ByteArray) = bs [118, 101, 99, 116, 111, 114, 32] := rfl
theorem w4 : (⟨#[97, 110, 103, 108, 101, 115, 32]⟩ : ByteArray) = bs [97, 110, 103, 108, 101, 115, 32] := rfl
theorem stageText_same (k : Nat) (hk : 70 ≤ k) (a0 a1 a2 a3 a4 a5 a6 a7 a8 a9 a10 a11 a12 a13 a14 a15 a16 a17 a18 a19 a20 : Int) : ∃ t, spec_StageText k a0 a1 a2 a3 a4 a5 a6 a7 a8 a9 a10 a11 a12 a13 a14 a15 a16 a17 a18 a19 a20 = some [.s t] ∧ impl_StageText k a0 a1 a2 a3 a4 a5 a6 a7 a8 a9 a10 a11 a12 a13 a14 a15 a16 a17 a18 a19 a20 = some [.s t] := by
  obtain ⟨o, s1, s2, hs⟩ := stage_same k a0 a1 a2 a3 a4 a5 a6 a7 a8 a9 a10 a11 a12 a13 a14 a15 a16 a17 a18 a19 a20
  unfold spec_StageText impl_StageText
  rw [s1, s2]
  simp only [Option.bind_some, gb0]
  cases o with
  | false => exact ⟨_, rfl, rfl⟩
  | true =>
    obtain ⟨h1, h2⟩ := hs rfl
    have ln : ∀ (x y : List UInt8), x.length + y.length ≤ 1000 → leN ((bs x).size + (bs y).size) 140737488355328 = true := fun x y hxy => leN_t (by rw [bs_size, bs_size]; omega)
    simp only [Bool.not_true, cond_false]
    have hc : a0 = 1 ∨ a0 = 2 ∨ a0 = 3 ∨ a0 = 4 := by omega
    rcases hc with rfl | rfl | rfl | rfl
    · obtain ⟨t, lt, e1, e2⟩ := place_text k hk a1 a2 a3 (h2 rfl)
      simp only [Int.reduceBEq, cond_true, e1, e2, Option.bind_some, gs0, w1]
      rw [ln _ _ (by simp only [List.length_append, List.length_cons, List.length_nil]; omega)]
      exact ⟨_, rfl, rfl⟩
    · have x1 := ivT_length a4 a5
      have x2 := ivT_length a6 a7
      simp only [Int.reduceBEq, cond_true, cond_false, itx k hk, Option.bind_some, gs0, w2, c32, bs_append]
      repeat rw [ln _ _ (by simp only [List.length_append, List.length_cons, List.length_nil]; omega)]
      exact ⟨_, rfl, rfl⟩
    · have x1 := ivT_length a8 a9
      have x2 := ivT_length a10 a11
      have x3 := ivT_length a12 a13
      simp only [Int.reduceBEq, cond_true, cond_false, itx k hk, Option.bind_some, gs0, w3, c32, bs_append]
      repeat rw [ln _ _ (by simp only [List.length_append, List.length_cons, List.length_nil]; omega)]
      exact ⟨_, rfl, rfl⟩
    · obtain ⟨p, q, e1, e2⟩ := deg_rule k hk a14 a15
      obtain ⟨r, s, e3, e4⟩ := deg_rule k hk a16 a17
      have x1 := ivT_length p q
      have x2 := ivT_length r s
      have x3 := ivT_length a18 a19
      simp only [Int.reduceBEq, cond_false, e1, e2, e3, e4, itx k hk, Option.bind_some, gi0, giS, gs0, w4, c32, bs_append]
      repeat rw [ln _ _ (by simp only [List.length_append, List.length_cons, List.length_nil]; omega)]
      exact ⟨_, rfl, rfl⟩
theorem FnExactStageText_pure (a0 a1 a2 a3 a4 a5 a6 a7 a8 a9 a10 a11 a12 a13 a14 a15 a16 a17 a18 a19 a20 : Int) (_ : (Lit.int .i64 a0).wf = true) (_ : (Lit.int .i64 a1).wf = true) (_ : (Lit.int .i64 a2).wf = true) (_ : (Lit.int .i64 a3).wf = true) (_ : (Lit.int .i64 a4).wf = true) (_ : (Lit.int .i64 a5).wf = true) (_ : (Lit.int .i64 a6).wf = true) (_ : (Lit.int .i64 a7).wf = true) (_ : (Lit.int .i64 a8).wf = true) (_ : (Lit.int .i64 a9).wf = true) (_ : (Lit.int .i64 a10).wf = true) (_ : (Lit.int .i64 a11).wf = true) (_ : (Lit.int .i64 a12).wf = true) (_ : (Lit.int .i64 a13).wf = true) (_ : (Lit.int .i64 a14).wf = true) (_ : (Lit.int .i64 a15).wf = true) (_ : (Lit.int .i64 a16).wf = true) (_ : (Lit.int .i64 a17).wf = true) (_ : (Lit.int .i64 a18).wf = true) (_ : (Lit.int .i64 a19).wf = true) (_ : (Lit.int .i64 a20).wf = true) : ∃ k, laws_FnExactStageText k a0 a1 a2 a3 a4 a5 a6 a7 a8 a9 a10 a11 a12 a13 a14 a15 a16 a17 a18 a19 a20 = some [.b true] := by
  obtain ⟨t, e1, e2⟩ := stageText_same 100 (by decide) a0 a1 a2 a3 a4 a5 a6 a7 a8 a9 a10 a11 a12 a13 a14 a15 a16 a17 a18 a19 a20
  refine ⟨100, ?_⟩
  unfold laws_FnExactStageText laws_toStage laws_toPlace laws_toPlanar laws_toVec laws_toInterval laws_toPoint
  simp only [Option.bind_some, gi0, giS, e1, e2, gs0, beq_self_eq_true, Bool.not_true, cond_false]
end Go.Proofs.YtpbmapaafnnoiaaGreatDoor.Ev
