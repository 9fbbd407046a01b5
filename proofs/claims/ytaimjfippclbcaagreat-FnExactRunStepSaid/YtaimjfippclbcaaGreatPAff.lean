/- Shifts, by both. No condition. -/
import Derived.Test.YtaimjfippclbcaaGreatPTrn
import Derived.Test.YtaimjfippclbcaaGreatPStv
namespace Go.Proofs.YtaimjfippclbcaaGreat.Ev
open Go Go.RowKit
set_option linter.unusedSimpArgs false
set_option linter.unusedVariables false
theorem ri_d0 (a b : Int) : ri [[.i a, .i b]] 0 0 = a := rfl
theorem ri_d1 (a b : Int) : ri [[.i a, .i b]] 0 1 = b := rfl
theorem shift_bd {a b c d e f g : Int} (h : shiftB a b c d e f g = true) : (-10000000 ≤ a ∧ a ≤ 10000000) ∧ (-10000000 ≤ b ∧ b ≤ 10000000) ∧ (-10000000 ≤ c ∧ c ≤ 10000000) ∧ (-100000000 ≤ d ∧ d ≤ 100000000) ∧ (-100000000 ≤ e ∧ e ≤ 100000000) ∧ (-100000000 ≤ f ∧ f ≤ 100000000) ∧ -1000000 ≤ g ∧ g ≤ 1000000 := by
 unfold shiftB at h
 simp only [Bool.and_eq_true, inB_iff] at h
 obtain ⟨⟨h1, h2, h3⟩, ⟨h4, h5, h6⟩, h7⟩ := h
 exact ⟨h1, h2, h3, h4, h5, h6, h7⟩
theorem aff_same {k : Nat} (hk : 700 ≤ k) (a b c d e f g : Int) (h : shiftB a b c d e f g = true) : ∃ L, spec_l23Affine k a b c d e f g = some L ∧ impl_affineOf k a b c d e f g = some L := by
 obtain ⟨h1, h2, h3, h4, h5, h6, h7⟩ := shift_bd h
 unfold spec_l23Affine impl_affineOf spec_l23Arc impl_affineOf_1
 simp only [quoD hk a 1000 ⟨⟨by omega, by omega⟩, by omega, by omega⟩, quoD hk b 1000 ⟨⟨by omega, by omega⟩, by omega, by omega⟩, quoD hk c 1000 ⟨⟨by omega, by omega⟩, by omega, by omega⟩, quoD hk d 648000000000 ⟨⟨by omega, by omega⟩, by omega, by omega⟩, quoD hk e 648000000000 ⟨⟨by omega, by omega⟩, by omega, by omega⟩, quoD hk f 648000000000 ⟨⟨by omega, by omega⟩, by omega, by omega⟩, quoD hk g 1000000000 ⟨⟨by omega, by omega⟩, by omega, by omega⟩, pir hk, ri_d0, ri_d1, ivr hk, Option.bind_some, pv0, pv1, gi0, giS, gb0, gbS, cond_true, cond_false, Bool.not_true, Bool.not_false, pair_eta]
 exact ⟨_, rfl, rfl⟩
theorem apm_same {k : Nat} (hk : 700 ≤ k) (a0 a1 a2 a3 a4 a5 a6 a7 a8 a9 a10 a11 a12 a13 a14 a15 a16 a17 b0 b1 b2 b3 b4 b5 : Int) : Same3 (spec_ApplyM k a0 a1 a2 a3 a4 a5 a6 a7 a8 a9 a10 a11 a12 a13 a14 a15 a16 a17 b0 b1 b2 b3 b4 b5) (impl_ApplyM k a0 a1 a2 a3 a4 a5 a6 a7 a8 a9 a10 a11 a12 a13 a14 a15 a16 a17 b0 b1 b2 b3 b4 b5) := by
 unfold spec_ApplyM impl_ApplyM spec_DotV impl_DotV
 simp only [ivr hk, Option.bind_some, pv0, pv1, gi0, giS, gb0, gbS, cond_true, cond_false, Bool.not_true, Bool.not_false, pair_eta]
 exact ⟨_, _, _, rfl, rfl⟩
theorem app_same {k : Nat} (hk : 700 ≤ k) (a0 a1 a2 a3 a4 a5 a6 a7 a8 a9 a10 a11 a12 a13 a14 a15 a16 a17 a18 a19 a20 a21 a22 a23 b0 b1 b2 b3 b4 b5 : Int) : Same3 (spec_ApplyAffine k a0 a1 a2 a3 a4 a5 a6 a7 a8 a9 a10 a11 a12 a13 a14 a15 a16 a17 a18 a19 a20 a21 a22 a23 b0 b1 b2 b3 b4 b5) (impl_ApplyAffine k a0 a1 a2 a3 a4 a5 a6 a7 a8 a9 a10 a11 a12 a13 a14 a15 a16 a17 a18 a19 a20 a21 a22 a23 b0 b1 b2 b3 b4 b5) := by
 obtain ⟨p, q, r, e1, e2⟩ := apm_same hk a0 a1 a2 a3 a4 a5 a6 a7 a8 a9 a10 a11 a12 a13 a14 a15 a16 a17 b0 b1 b2 b3 b4 b5
 unfold spec_ApplyAffine impl_ApplyAffine spec_AddV impl_AddV
 rw [e1, e2]
 simp only [pv3_0, pv3_1, pv3_2, pv3_3, pv3_4, pv3_5, pair_eta, ivr hk, Option.bind_some, pv0, pv1, gi0, giS, gb0, gbS, cond_true, cond_false, Bool.not_true, Bool.not_false, pair_eta]
 exact ⟨_, _, _, rfl, rfl⟩
theorem invM_same {k : Nat} (hk : 700 ≤ k) (a0 a1 a2 a3 a4 a5 a6 a7 a8 a9 a10 a11 a12 a13 a14 a15 a16 a17 : Int) : ∃ L, spec_InverseM k a0 a1 a2 a3 a4 a5 a6 a7 a8 a9 a10 a11 a12 a13 a14 a15 a16 a17 = some L ∧ impl_InverseM k a0 a1 a2 a3 a4 a5 a6 a7 a8 a9 a10 a11 a12 a13 a14 a15 a16 a17 = some L := by
 unfold spec_InverseM impl_InverseM spec_CrossV impl_CrossV spec_DotV impl_DotV spec_l10Columns impl_transposed spec_l10Over impl_dividedV
 simp only [sHas_some, hasI_some, ivr hk, Option.bind_some, pv0, pv1, gi0, giS, gb0, gbS, cond_true, cond_false, Bool.not_true, Bool.not_false, pair_eta]
 generalize vAdd k (vAdd k (vMul k (a0, a1) _) _) _ = m
 cases (!ivB m.1 m.2 || (leI m.1 0 && leI 0 m.2)) <;> exact ⟨_, rfl, rfl⟩
theorem invA_same {k : Nat} (hk : 700 ≤ k) (a0 a1 a2 a3 a4 a5 a6 a7 a8 a9 a10 a11 a12 a13 a14 a15 a16 a17 a18 a19 a20 a21 a22 a23 : Int) : ∃ L, spec_InvertAffine k a0 a1 a2 a3 a4 a5 a6 a7 a8 a9 a10 a11 a12 a13 a14 a15 a16 a17 a18 a19 a20 a21 a22 a23 = some L ∧ impl_InvertAffine k a0 a1 a2 a3 a4 a5 a6 a7 a8 a9 a10 a11 a12 a13 a14 a15 a16 a17 a18 a19 a20 a21 a22 a23 = some L := by
 obtain ⟨L, e1, e2⟩ := invM_same hk a0 a1 a2 a3 a4 a5 a6 a7 a8 a9 a10 a11 a12 a13 a14 a15 a16 a17
 unfold spec_InvertAffine impl_InvertAffine
 rw [e1, e2]
 simp only [Option.bind_some]
 cases gb L 18
 ·exact ⟨_, rfl, rfl⟩
 ·obtain ⟨p, q, r, e3, e4⟩ := apm_same hk (gi L 0) (gi L 1) (gi L 2) (gi L 3) (gi L 4) (gi L 5) (gi L 6) (gi L 7) (gi L 8) (gi L 9) (gi L 10) (gi L 11) (gi L 12) (gi L 13) (gi L 14) (gi L 15) (gi L 16) (gi L 17) a18 a19 a20 a21 a22 a23
  rw [e3, e4]
  simp only [pv3_0, pv3_1, pv3_2, pv3_3, pv3_4, pv3_5, pair_eta, ivr hk, Option.bind_some, pv0, pv1, gi0, giS, gb0, gbS, cond_true, cond_false, Bool.not_true, Bool.not_false, pair_eta]
  exact ⟨_, rfl, rfl⟩
end Go.Proofs.YtaimjfippclbcaaGreat.Ev
