/- Whole units, points in the middle, rounding, by both. No condition. -/
import Derived.Test.YtaimjfippclbcaaGreatPAff
namespace Go.Proofs.YtaimjfippclbcaaGreat.Ev
open Go Go.RowKit
set_option linter.unusedSimpArgs false
set_option linter.unusedVariables false
theorem wrap_rng (x : Int) : -9223372036854775808 ≤ IntKind.wrap .i64 x ∧ IntKind.wrap .i64 x ≤ 9223372036854775807 := by
 rw [IntKind.wrap_i64]; omega
theorem half_some (v : Int) : Int.fdiv v (2 ^ min (Int.toNat 1) 64) = v / 2 := by
 rw [show (2 ^ min (Int.toNat 1) 64 : Int) = 2 from rfl, Int.fdiv_eq_ediv_of_nonneg _ (by decide)]
theorem floor2 (k : Nat) (a : Int) (h : -9223372036854775808 ≤ a ∧ a ≤ 9223372036854775807) : spec_l06Floor k a 2 = some [.i (a / 2)] := by
 unfold spec_l06Floor
 rw [bif_f (eqI_f (by decide)), bif_f (eqI_f (by decide))]
 by_cases h0 : 0 ≤ a
 ·rw [tdiv_nn _ _ h0, tmod_nn _ _ h0, bif_f (ltI_f (by omega)), wr _ (by omega) (by omega)]
 ·have e1 : Int.tdiv a 2 = -(-a / 2) := by rw [← tdiv_nn (-a) _ (by omega), Int.neg_tdiv, Int.neg_neg]
  have e2 : Int.tmod a 2 = -(-a % 2) := by rw [← tmod_nn (-a) _ (by omega), Int.neg_tmod, Int.neg_neg]
  rw [e1, e2]
  by_cases hz : -a % 2 = 0
  ·rw [bif_f (ltI_f (by omega)), wr _ (by omega) (by omega), show -(-a / 2) = a / 2 by omega]
  ·rw [bif_t (ltI_t (by omega)), wr (-(-a / 2)) (by omega) (by omega)]
   dsimp only
   rw [wr _ (by omega) (by omega), show -(-a / 2) - 1 = a / 2 by omega]
def uF (a : Int) : Int := if 0 < a then a * 966367641600000000 / 7244019458077122843 else a * 966367641600000000 / 7244019458077122842
def uC (a : Int) : Int := if a < 0 then -(-a * 966367641600000000 / 7244019458077122843) else -(-a * 966367641600000000 / 7244019458077122842)
theorem d1w : IntKind.wrap .i64 (7244019458077122842 + 1) = 7244019458077122843 := by decide
theorem uF_some (k : Nat) (hk : 700 ≤ k) (a : Int) (h : -1152921504606846976 ≤ a ∧ a ≤ 1152921504606846976) : spec_l05Units k a = some [.i (uF a)] := by
 have m1 := mulDivFloor_some k (by omega) a 966367641600000000 7244019458077122843 ⟨by omega, by omega⟩ ⟨by decide, by decide⟩ ⟨by decide, by decide⟩
 have m2 := mulDivFloor_some k (by omega) a 966367641600000000 7244019458077122842 ⟨by omega, by omega⟩ ⟨by decide, by decide⟩ ⟨by decide, by decide⟩
 rw [if_neg (by decide), intR_in (by omega) (by omega)] at m1 m2
 unfold spec_l05Units uF
 by_cases h0 : 0 < a
 ·rw [bif_t (ltI_t h0), if_pos h0, d1w]
  dsimp only
  rw [m1]; rfl
 ·rw [bif_f (ltI_f (by omega)), if_neg h0, m2]; rfl
theorem iF_some (k : Nat) (hk : 700 ≤ k) (a : Int) (h : -1152921504606846976 ≤ a ∧ a ≤ 1152921504606846976) : impl_MulDivFloor k a 966367641600000000 7244019458077122843 = some [.i (a * 966367641600000000 / 7244019458077122843), .b true] ∧ impl_MulDivFloor k a 966367641600000000 7244019458077122842 = some [.i (a * 966367641600000000 / 7244019458077122842), .b true] := by
 have m1 := implMulDivFloor_some k (by omega) a 966367641600000000 7244019458077122843 ⟨by omega, by omega⟩ ⟨by decide, by decide⟩ ⟨by decide, by decide⟩
 have m2 := implMulDivFloor_some k (by omega) a 966367641600000000 7244019458077122842 ⟨by omega, by omega⟩ ⟨by decide, by decide⟩ ⟨by decide, by decide⟩
 rw [if_neg (by decide), intR_in (by omega) (by omega)] at m1 m2
 exact ⟨m1, m2⟩
theorem ceilR_val (a b d : Int) (h1 : -9223372036854775808 ≤ a * b / d) (h2 : a * b / d < 9223372036854775807) : ceilR a b d = [.i (if 0 < a * b % d then a * b / d + 1 else a * b / d), .b true] := by
 unfold ceilR
 generalize a * b / d = q at h1 h2
 generalize a * b % d = r
 have h3 : ¬ q = 9223372036854775807 := by omega
 by_cases h4 : 0 < r
 ·simp only [h1, Int.le_of_lt h2, and_self, if_true, h4, h3, if_false]
 ·simp only [h1, Int.le_of_lt h2, and_self, if_true, h4, if_false]
theorem up1 (x : Int) : (if 0 < x % 7244019458077122843 then x / 7244019458077122843 + 1 else x / 7244019458077122843) = -(-x / 7244019458077122843) := by split <;> omega
theorem up2 (x : Int) : (if 0 < x % 7244019458077122842 then x / 7244019458077122842 + 1 else x / 7244019458077122842) = -(-x / 7244019458077122842) := by split <;> omega
theorem iC_some (k : Nat) (hk : 700 ≤ k) (a : Int) (h : -1152921504606846976 ≤ a ∧ a ≤ 1152921504606846976) : impl_mulDivCeil k a 966367641600000000 7244019458077122843 = some [.i (-(-(a * 966367641600000000) / 7244019458077122843)), .b true] ∧ impl_mulDivCeil k a 966367641600000000 7244019458077122842 = some [.i (-(-(a * 966367641600000000) / 7244019458077122842)), .b true] := by
 have m1 := implMulDivCeil_some k (by omega) a 966367641600000000 7244019458077122843 ⟨by omega, by omega⟩ ⟨by decide, by decide⟩ ⟨by decide, by decide⟩
 have m2 := implMulDivCeil_some k (by omega) a 966367641600000000 7244019458077122842 ⟨by omega, by omega⟩ ⟨by decide, by decide⟩ ⟨by decide, by decide⟩
 rw [if_neg (by decide)] at m1 m2
 rw [ceilR_val _ _ _ (by omega) (by omega), up1] at m1
 rw [ceilR_val _ _ _ (by omega) (by omega), up2] at m2
 exact ⟨m1, m2⟩
theorem units_same {k : Nat} (hk : 700 ≤ k) (a b : Int) : ∃ x y o, spec_UnitsOf k a b = some [.i x, .i y, .b o] ∧ impl_UnitsOf k a b = some [.i x, .i y, .b o] := by
 unfold spec_UnitsOf impl_UnitsOf
 simp only [ivb, Option.bind_some, gb0]
 cases h : ivB a b
 ·exact ⟨_, _, _, rfl, rfl⟩
 ·obtain ⟨h1, h2, h3⟩ := ivB_iff.1 h
  obtain ⟨f1, f2⟩ := iF_some k hk a ⟨by omega, by omega⟩
  obtain ⟨c1, c2⟩ := iC_some k hk b ⟨by omega, by omega⟩
  simp only [Bool.not_true, cond_false, d1w, f1, f2, c1, c2, Option.bind_some, gi0, giS, gb0, gbS]
  rw [uF_some k hk a ⟨by omega, by omega⟩, wr (0 - b) (by omega) (by omega), uF_some k hk (0 - b) ⟨by omega, by omega⟩]
  simp only [Option.bind_some, gi0]
  have hw : IntKind.wrap .i64 (0 - uF (0 - b)) = if b < 0 then -(-(b * 966367641600000000) / 7244019458077122843) else -(-(b * 966367641600000000) / 7244019458077122842) := by
   unfold uF
   by_cases hb : b < 0
   ·rw [if_pos (show 0 < 0 - b by omega), if_pos hb, wr _ (by omega) (by omega)]; omega
   ·rw [if_neg (show ¬ 0 < 0 - b by omega), if_neg hb, wr _ (by omega) (by omega)]; omega
  rw [hw]
  unfold uF
  by_cases ha : 0 < a <;> by_cases hb : b < 0
  ·rw [if_pos ha, if_pos hb, ltI_t ha, ltI_t hb]
   simp only [cond_true]
   cases ltI (a * 966367641600000000 / 7244019458077122843) (-36000000000) <;> cases ltI 36000000000 (-(-(b * 966367641600000000) / 7244019458077122843)) <;> exact ⟨_, _, _, rfl, rfl⟩
  ·rw [if_pos ha, if_neg hb, ltI_t ha, ltI_f (show (0 : Int) ≤ b by omega)]
   simp only [cond_true, cond_false]
   cases ltI (a * 966367641600000000 / 7244019458077122843) (-36000000000) <;> cases ltI 36000000000 (-(-(b * 966367641600000000) / 7244019458077122842)) <;> exact ⟨_, _, _, rfl, rfl⟩
  ·rw [if_neg ha, if_pos hb, ltI_f (show a ≤ 0 by omega), ltI_t hb]
   simp only [cond_true, cond_false]
   cases ltI (a * 966367641600000000 / 7244019458077122842) (-36000000000) <;> cases ltI 36000000000 (-(-(b * 966367641600000000) / 7244019458077122843)) <;> exact ⟨_, _, _, rfl, rfl⟩
  ·rw [if_neg ha, if_neg hb, ltI_f (show a ≤ 0 by omega), ltI_f (show (0 : Int) ≤ b by omega)]
   simp only [cond_true, cond_false]
   cases ltI (a * 966367641600000000 / 7244019458077122842) (-36000000000) <;> cases ltI 36000000000 (-(-(b * 966367641600000000) / 7244019458077122842)) <;> exact ⟨_, _, _, rfl, rfl⟩
theorem middle_same {k : Nat} (hk : 700 ≤ k) (a b c d : Int) : ∃ x y z w, spec_MiddlePoint k a b c d = some [.i x, .i y, .i z, .i w] ∧ impl_MiddlePoint k a b c d = some [.i x, .i y, .i z, .i w] := by
 obtain ⟨x1, y1, o1, u1, u2⟩ := units_same hk a b
 obtain ⟨x2, y2, o2, u3, u4⟩ := units_same hk c d
 unfold spec_MiddlePoint impl_MiddlePoint
 rw [u1, u2, u3, u4]
 simp only [Option.bind_some, gi0, giS, gb0, gbS]
 cases o1
 ·exact ⟨_, _, _, _, rfl, rfl⟩
 ·cases o2
  ·exact ⟨_, _, _, _, rfl, rfl⟩
  ·simp only [Bool.not_true, cond_false, floor2 k _ (wrap_rng _), half_some, wrapr, pt_some, point_some, mxI_max, Option.bind_some, gi0, giS, gb0, gbS]
   cases PtB (IntKind.wrap .i64 (x1 + y1) / 2) (vwrap (IntKind.wrap .i64 (x2 + y2) / 2)) <;> exact ⟨_, _, _, _, rfl, rfl⟩
theorem round_same {k : Nat} (hk : 700 ≤ k) (a0 a1 a2 a3 a4 a5 a6 a7 a8 a9 a10 a11 a12 a13 a14 a15 a16 a17 a18 a19 a20 : Int) : ∃ L, spec_l27Round k a0 a1 a2 a3 a4 a5 a6 a7 a8 a9 a10 a11 a12 a13 a14 a15 a16 a17 a18 a19 a20 = some L ∧ impl_rounded k a0 a1 a2 a3 a4 a5 a6 a7 a8 a9 a10 a11 a12 a13 a14 a15 a16 a17 a18 a19 a20 = some L := by
 obtain ⟨x, y, z, w, m1, m2⟩ := middle_same hk a14 a15 a16 a17
 unfold spec_l27Round impl_rounded spec_MidI impl_MidI
 rw [m1, m2]
 simp only [ivb, Option.bind_some, gi0, giS, gb0, gbS]
 cases (w != 0)
 ·cases h : ivB a18 a19
  ·exact ⟨_, rfl, rfl⟩
  ·obtain ⟨h1, h2, h3⟩ := ivB_iff.1 h
   simp only [Bool.not_true, cond_false, half_some, Option.bind_some, gi0]
   rw [wr (a18 + a19) (by omega) (by omega), mulFloor32_some k ((a18 + a19) / 2) 1000 ⟨by omega, by omega⟩ ⟨by decide, by decide⟩, implMulFloor32_some k ((a18 + a19) / 2) 1000 ⟨by omega, by omega⟩ ⟨by decide, by decide⟩]
   simp only [placer, Option.bind_some, gb0]
   cases PlB x y (gi (intR ((a18 + a19) / 2 * 1000 / 4294967296)) 0) <;> exact ⟨_, rfl, rfl⟩
 ·exact ⟨_, rfl, rfl⟩
end Go.Proofs.YtaimjfippclbcaaGreat.Ev
