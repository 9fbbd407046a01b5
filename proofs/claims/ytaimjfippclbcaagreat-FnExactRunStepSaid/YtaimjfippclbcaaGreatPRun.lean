/- RunStep: the plain law. No condition. -/
import Derived.Test.YtaimjfippclbcaaGreatPUni
namespace Go.Proofs.YtaimjfippclbcaaGreat.Ev
open Go Go.RowKit
set_option linter.unusedSimpArgs false
set_option linter.unusedVariables false
theorem z_comm (x : Int) : ((0 : Int) == x) = (x == 0) := by
 by_cases h : x = 0
 ·rw [beq_t h, beq_t h.symm]
 ·rw [beq_f h, beq_f (fun e => h e.symm)]
theorem tri (P E D : Bool) : ∃ o, (bif !P then some [.b false] else bif E then some [.b D] else some [.b false]) = some [Ev.D.b o] ∧ (bif !D then some [.b false] else bif E then some [.b P] else some [.b false]) = some [Ev.D.b o] := by
 cases P <;> cases E <;> cases D <;> exact ⟨_, rfl, rfl⟩
theorem two (E D : Bool) : ∃ o, (bif E then some [.b D] else some [.b false]) = some [Ev.D.b o] ∧ (bif !D then some [.b false] else some [.b E]) = some [Ev.D.b o] := by
 cases E <;> cases D <;> exact ⟨_, rfl, rfl⟩
theorem stage_same (k : Nat) (f a1 a2 a3 a4 a5 a6 a7 a8 a9 a10 a11 a12 a13 a14 a15 a16 a17 a18 a19 a20 : Int) : ∃ o, spec_l27Stage k f a1 a2 a3 a4 a5 a6 a7 a8 a9 a10 a11 a12 a13 a14 a15 a16 a17 a18 a19 a20 = some [.b o] ∧ impl_isStage k f a1 a2 a3 a4 a5 a6 a7 a8 a9 a10 a11 a12 a13 a14 a15 a16 a17 a18 a19 a20 = some [.b o] := by
 unfold spec_l27Stage impl_isStage
 simp only [z_comm, beq_self_eq_true, Bool.true_and, Bool.and_true, placer, in_some, within_some, Option.bind_some, gb0]
 have hc : f = 1 ∨ f = 2 ∨ f = 3 ∨ f = 4 ∨ ∀ j : Int, 1 ≤ j → j ≤ 4 → (f == j) = false := by
  by_cases h : 1 ≤ f ∧ f ≤ 4
  ·omega
  ·exact .inr (.inr (.inr (.inr fun j h1 h2 => beq_f (by omega))))
 rcases hc with rfl | rfl | rfl | rfl | hc
 ·simp only [Int.reduceBEq, cond_true, Bool.true_and]
  exact tri _ _ _
 ·simp only [Int.reduceBEq, cond_true, cond_false, Bool.true_and]
  exact two _ _
 ·simp only [Int.reduceBEq, cond_true, cond_false, Bool.true_and]
  exact two _ _
 ·simp only [Int.reduceBEq, cond_true, cond_false, Bool.true_and]
  exact two _ _
 ·simp only [hc 1 (by decide) (by decide), hc 2 (by decide) (by decide), hc 3 (by decide) (by decide), hc 4 (by decide) (by decide), cond_false]
  cases (leI 0 a20 && leI a20 36000000000) <;> exact ⟨_, rfl, rfl⟩
theorem forms_same (k : Nat) (a : Int) : ∃ f t, spec_l27Forms k a = some [.i f, .i t] ∧ impl_StepForms k a = some [.i f, .i t] := by
 unfold spec_l27Forms impl_StepForms
 cases (a == 1) <;> cases (a == 2) <;> cases (a == 3) <;> cases (a == 4) <;> cases (a == 5) <;> cases (a == 6) <;> cases (a == 7) <;> exact ⟨_, _, rfl, rfl⟩
theorem zero_int {k : Nat} (hk : 700 ≤ k) : vInt k 0 = (0, 0) := by
 rw [int_val hk 0 (by decide)]; rfl
theorem run_same {k : Nat} (hk : 700 ≤ k) (s0 s1 s2 s3 s4 s5 s6 s7 s8 s9 s10 s11 s12 s13 s14 s15 a0 a1 a2 a3 a4 a5 a6 a7 a8 a9 a10 a11 a12 a13 a14 a15 a16 a17 a18 a19 a20 : Int) : ∃ L, spec_RunStep k s0 s1 s2 s3 s4 s5 s6 s7 s8 s9 s10 s11 s12 s13 s14 s15 a0 a1 a2 a3 a4 a5 a6 a7 a8 a9 a10 a11 a12 a13 a14 a15 a16 a17 a18 a19 a20 = some L ∧ impl_RunStep k s0 s1 s2 s3 s4 s5 s6 s7 s8 s9 s10 s11 s12 s13 s14 s15 a0 a1 a2 a3 a4 a5 a6 a7 a8 a9 a10 a11 a12 a13 a14 a15 a16 a17 a18 a19 a20 = some L := by
 obtain ⟨r, v1, v2, hv⟩ := step_eq k (by omega) s0 s1 s2 s3 s4 s5 s6 s7 s8 s9 s10 s11 s12 s13 s14 s15
 obtain ⟨o, g1, g2⟩ := stage_same k a0 a1 a2 a3 a4 a5 a6 a7 a8 a9 a10 a11 a12 a13 a14 a15 a16 a17 a18 a19 a20
 obtain ⟨f, t, f1, f2⟩ := forms_same k s0
 unfold spec_RunStep impl_RunStep
 rw [v1, v2, g1, g2, f1, f2]
 simp only [Option.bind_some, gi0, giS, gb0]
 cases r
 ·exact ⟨_, rfl, rfl⟩
 ·cases o
  ·exact ⟨_, rfl, rfl⟩
  ·simp only [Bool.not_true, cond_false]
   cases (a0 != f)
   ·obtain ⟨h1, h2, h3, h4⟩ := hv rfl
    have hs : s0 = 1 ∨ s0 = 2 ∨ s0 = 3 ∨ s0 = 4 ∨ s0 = 5 ∨ s0 = 6 ∨ s0 = 7 := by omega
    have hsh : s0 = 5 ∨ s0 = 6 → shiftB s9 s10 s11 s12 s13 s14 s15 = true := fun h => by
     have e1 := h4 h
     have e2 := (shift_eq k (by omega) s9 s10 s11 s12 s13 s14 s15).1
     rw [e1] at e2
     exact (D.b.inj (List.cons.inj (Option.some.inj e2)).1).symm
    unfold spec_l27Run impl_Step_step
    rw [f1, f2]
    simp only [Option.bind_some, gi0, giS, cond_false]
    rcases hs with rfl | rfl | rfl | rfl | rfl | rfl | rfl
    ·obtain ⟨x1, x2, x3, x4, x5, e1, e2⟩ := prj_same hk s1 s2 s3 s4 s5 a1 a2
     simp only [Int.reduceBEq, cond_true, cond_false, e1, e2, Option.bind_some, gi0, giS]
     cases (x5 != 0) <;> exact ⟨_, rfl, rfl⟩
    ·obtain ⟨x1, x2, x3, x4, x5, e1, e2⟩ := unp_same hk s1 s2 s3 s4 s5 a4 a5 a6 a7
     simp only [Int.reduceBEq, cond_true, cond_false, e1, e2, ivr hk, zero_int hk, pv0, pv1, Option.bind_some, gi0, giS]
     cases (x5 != 0) <;> exact ⟨_, rfl, rfl⟩
    ·obtain ⟨p, q, r, c, e1, e2⟩ := cart_same hk s6 s7 s8 a1 a2 a3
     simp only [Int.reduceBEq, cond_true, cond_false, e1, e2, Option.bind_some]
     unfold pv3
     simp only [List.cons_append, List.nil_append, gi0, giS]
     cases (c != 0) <;> exact ⟨_, rfl, rfl⟩
    ·obtain ⟨x1, x2, x3, x4, x5, x6, x7, e1, e2⟩ := fromC_same hk s6 s7 s8 a8 a9 a10 a11 a12 a13
     simp only [Int.reduceBEq, cond_true, cond_false, e1, e2, Option.bind_some, gi0, giS]
     cases (x7 != 0) <;> exact ⟨_, rfl, rfl⟩
    ·obtain ⟨L, e1, e2⟩ := aff_same hk s9 s10 s11 s12 s13 s14 s15 (hsh (.inl rfl))
     simp only [Int.reduceBEq, cond_true, cond_false, e1, e2, Option.bind_some]
     obtain ⟨p, q, r, e3, e4⟩ := app_same hk (gi L 0) (gi L 1) (gi L 2) (gi L 3) (gi L 4) (gi L 5) (gi L 6) (gi L 7) (gi L 8) (gi L 9) (gi L 10) (gi L 11) (gi L 12) (gi L 13) (gi L 14) (gi L 15) (gi L 16) (gi L 17) (gi L 18) (gi L 19) (gi L 20) (gi L 21) (gi L 22) (gi L 23) a8 a9 a10 a11 a12 a13
     rw [e3, e4]
     exact ⟨_, rfl, rfl⟩
    ·obtain ⟨L, e1, e2⟩ := aff_same hk s9 s10 s11 s12 s13 s14 s15 (hsh (.inr rfl))
     unfold impl_unshift
     simp only [Int.reduceBEq, cond_true, cond_false, e1, e2, Option.bind_some]
     obtain ⟨M, e3, e4⟩ := invA_same hk (gi L 0) (gi L 1) (gi L 2) (gi L 3) (gi L 4) (gi L 5) (gi L 6) (gi L 7) (gi L 8) (gi L 9) (gi L 10) (gi L 11) (gi L 12) (gi L 13) (gi L 14) (gi L 15) (gi L 16) (gi L 17) (gi L 18) (gi L 19) (gi L 20) (gi L 21) (gi L 22) (gi L 23)
     rw [e3, e4]
     simp only [Option.bind_some]
     cases gb M 24
     ·exact ⟨_, rfl, rfl⟩
     ·obtain ⟨p, q, r, e5, e6⟩ := app_same hk (gi M 0) (gi M 1) (gi M 2) (gi M 3) (gi M 4) (gi M 5) (gi M 6) (gi M 7) (gi M 8) (gi M 9) (gi M 10) (gi M 11) (gi M 12) (gi M 13) (gi M 14) (gi M 15) (gi M 16) (gi M 17) (gi M 18) (gi M 19) (gi M 20) (gi M 21) (gi M 22) (gi M 23) a8 a9 a10 a11 a12 a13
      simp only [Bool.not_true, cond_false]
      rw [e5, e6]
      exact ⟨_, rfl, rfl⟩
    ·obtain ⟨L, e1, e2⟩ := round_same hk a0 a1 a2 a3 a4 a5 a6 a7 a8 a9 a10 a11 a12 a13 a14 a15 a16 a17 a18 a19 a20
     simp only [Int.reduceBEq, cond_true, cond_false, e1, e2, Option.bind_some]
     exact ⟨_, rfl, rfl⟩
   ·exact ⟨_, rfl, rfl⟩
theorem eqI_refl (k : Nat) (a b : Int) : laws_eqInterval k a b a b = some [.b true] := by
 unfold laws_eqInterval
 simp only [bne_self_eq_false, cond_false]
theorem eqStage_refl (k : Nat) (a0 a1 a2 a3 a4 a5 a6 a7 a8 a9 a10 a11 a12 a13 a14 a15 a16 a17 a18 a19 a20 : Int) : laws_eqStage k a0 a1 a2 a3 a4 a5 a6 a7 a8 a9 a10 a11 a12 a13 a14 a15 a16 a17 a18 a19 a20 a0 a1 a2 a3 a4 a5 a6 a7 a8 a9 a10 a11 a12 a13 a14 a15 a16 a17 a18 a19 a20 = some [.b true] := by
 unfold laws_eqStage laws_eqPlace laws_eqPlanar laws_eqVec laws_eqPoint
 simp only [eqI_refl, bne_self_eq_false, cond_false, Option.bind_some, gb0, Bool.not_true]
theorem toStep_some (k : Nat) (s0 s1 s2 s3 s4 s5 s6 s7 s8 s9 s10 s11 s12 s13 s14 s15 : Int) : laws_toStep k s0 s1 s2 s3 s4 s5 s6 s7 s8 s9 s10 s11 s12 s13 s14 s15 = some [.i s0, .i s1, .i s2, .i s3, .i s4, .i s5, .i s6, .i s7, .i s8, .i s9, .i s10, .i s11, .i s12, .i s13, .i s14, .i s15] := rfl
theorem toStage_some (k : Nat) (a0 a1 a2 a3 a4 a5 a6 a7 a8 a9 a10 a11 a12 a13 a14 a15 a16 a17 a18 a19 a20 : Int) : laws_toStage k a0 a1 a2 a3 a4 a5 a6 a7 a8 a9 a10 a11 a12 a13 a14 a15 a16 a17 a18 a19 a20 = some [.i a0, .i a1, .i a2, .i a3, .i a4, .i a5, .i a6, .i a7, .i a8, .i a9, .i a10, .i a11, .i a12, .i a13, .i a14, .i a15, .i a16, .i a17, .i a18, .i a19, .i a20] := rfl
theorem FnExactRunStep_core (s0 s1 s2 s3 s4 s5 s6 s7 s8 s9 s10 s11 s12 s13 s14 s15 a0 a1 a2 a3 a4 a5 a6 a7 a8 a9 a10 a11 a12 a13 a14 a15 a16 a17 a18 a19 a20 : Int) : laws_FnExactRunStep 700 s0 s1 s2 s3 s4 s5 s6 s7 s8 s9 s10 s11 s12 s13 s14 s15 a0 a1 a2 a3 a4 a5 a6 a7 a8 a9 a10 a11 a12 a13 a14 a15 a16 a17 a18 a19 a20 = some [.b true] := by
 obtain ⟨L, e1, e2⟩ := run_same (k := 700) (by decide) s0 s1 s2 s3 s4 s5 s6 s7 s8 s9 s10 s11 s12 s13 s14 s15 a0 a1 a2 a3 a4 a5 a6 a7 a8 a9 a10 a11 a12 a13 a14 a15 a16 a17 a18 a19 a20
 unfold laws_FnExactRunStep
 simp only [toStep_some, toStage_some, Option.bind_some, gi0, giS]
 rw [e1, e2]
 simp only [Option.bind_some, eqStage_refl, gb0, Bool.not_true, cond_false, bne_self_eq_false]
theorem FnExactRunStep_pure (s0 s1 s2 s3 s4 s5 s6 s7 s8 s9 s10 s11 s12 s13 s14 s15 a0 a1 a2 a3 a4 a5 a6 a7 a8 a9 a10 a11 a12 a13 a14 a15 a16 a17 a18 a19 a20 : Int) (_ : (Lit.int .i64 s0).wf = true) (_ : (Lit.int .i64 s1).wf = true) (_ : (Lit.int .i64 s2).wf = true) (_ : (Lit.int .i64 s3).wf = true) (_ : (Lit.int .i64 s4).wf = true) (_ : (Lit.int .i64 s5).wf = true) (_ : (Lit.int .i64 s6).wf = true) (_ : (Lit.int .i64 s7).wf = true) (_ : (Lit.int .i64 s8).wf = true) (_ : (Lit.int .i64 s9).wf = true) (_ : (Lit.int .i64 s10).wf = true) (_ : (Lit.int .i64 s11).wf = true) (_ : (Lit.int .i64 s12).wf = true) (_ : (Lit.int .i64 s13).wf = true) (_ : (Lit.int .i64 s14).wf = true) (_ : (Lit.int .i64 s15).wf = true) (_ : (Lit.int .i64 a0).wf = true) (_ : (Lit.int .i64 a1).wf = true) (_ : (Lit.int .i64 a2).wf = true) (_ : (Lit.int .i64 a3).wf = true) (_ : (Lit.int .i64 a4).wf = true) (_ : (Lit.int .i64 a5).wf = true) (_ : (Lit.int .i64 a6).wf = true) (_ : (Lit.int .i64 a7).wf = true) (_ : (Lit.int .i64 a8).wf = true) (_ : (Lit.int .i64 a9).wf = true) (_ : (Lit.int .i64 a10).wf = true) (_ : (Lit.int .i64 a11).wf = true) (_ : (Lit.int .i64 a12).wf = true) (_ : (Lit.int .i64 a13).wf = true) (_ : (Lit.int .i64 a14).wf = true) (_ : (Lit.int .i64 a15).wf = true) (_ : (Lit.int .i64 a16).wf = true) (_ : (Lit.int .i64 a17).wf = true) (_ : (Lit.int .i64 a18).wf = true) (_ : (Lit.int .i64 a19).wf = true) (_ : (Lit.int .i64 a20).wf = true) : ∃ k, laws_FnExactRunStep k s0 s1 s2 s3 s4 s5 s6 s7 s8 s9 s10 s11 s12 s13 s14 s15 a0 a1 a2 a3 a4 a5 a6 a7 a8 a9 a10 a11 a12 a13 a14 a15 a16 a17 a18 a19 a20 = some [.b true] :=
 ⟨700, FnExactRunStep_core s0 s1 s2 s3 s4 s5 s6 s7 s8 s9 s10 s11 s12 s13 s14 s15 a0 a1 a2 a3 a4 a5 a6 a7 a8 a9 a10 a11 a12 a13 a14 a15 a16 a17 a18 a19 a20⟩
end Go.Proofs.YtaimjfippclbcaaGreat.Ev
