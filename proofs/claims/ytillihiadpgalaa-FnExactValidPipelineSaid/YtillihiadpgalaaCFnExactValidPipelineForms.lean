/- Pipelines: to which form valid steps lead, by both. No condition. -/
import Derived.Test.YtillihiadpgalaaCFnExactValidPipelinex9
import Derived.Test.YtillihiadpgalaaCFnExactValidPipelinex13
import Derived.Test.YtillihiadpgalaaCFnExactValidPipelineStep
namespace Go.Proofs.Ytillihiadpgalaa.Pure
open Go.RowKit Go.Proofs.Ytillihiadpgalaa.P Go.Proofs.YtillihiadpgalaaW.PrintWords Go.Proofs.YtillihiadpgalaaW.PrintLast

theorem forms_eq (a : Int) (n : Nat) : ∃ r, spec_l27Forms.f (n + 1) a = some r ∧ impl_StepForms.f (n + 1) a = some r := by
  have e : spec_l27Forms.f (n + 1) a = impl_StepForms.f (n + 1) a := by
    unfold spec_l27Forms.f impl_StepForms.f
    simp only [spec_l27Forms.j0, impl_StepForms.j0]
  have h : ∃ r, impl_StepForms.f (n + 1) a = some r := by
    unfold impl_StepForms.f
    simp only [impl_StepForms.j0]
    by_cases h1 : a = 1
    · exact ⟨_, if_pos h1⟩
    by_cases h2 : a = 2
    · exact ⟨_, by rw [if_neg h1, if_pos h2]⟩
    by_cases h3 : a = 3
    · exact ⟨_, by rw [if_neg h1, if_neg h2, if_pos h3]⟩
    by_cases h4 : a = 4
    · exact ⟨_, by rw [if_neg h1, if_neg h2, if_neg h3, if_pos h4]⟩
    rw [if_neg h1, if_neg h2, if_neg h3, if_neg h4]
    repeat' split
    all_goals exact ⟨_, rfl⟩
  obtain ⟨r, hr⟩ := h
  exact ⟨r, e.trans hr, hr⟩

theorem end_l0 (xs : List S60) (hn : xs.length ≤ 1048576) (d : Nat) : ∀ f i : Int, 0 ≤ i → i + d = xs.length →
    ∃ r, spec_l27End.l0 (d + 10) xs f i = some r ∧ impl_formOf.l0 (d + 10) xs f xs xs.length i = some r := by
  induction d with
  | zero =>
    intro f i h0 h
    rw [spec_l27End.l0, impl_formOf.l0, if_neg (by omega), if_neg (by omega)]
    exact ⟨_, rfl, rfl⟩
  | succ d ih =>
    intro f i h0 h
    obtain ⟨r1, e1, e2⟩ := forms_eq (rd_T60 xs i).f0 (d + 9)
    obtain ⟨r2, e3, e4⟩ := step_eq ((rd_T60 xs i).f0) ((rd_T60 xs i).f1.f0) ((rd_T60 xs i).f1.f1) ((rd_T60 xs i).f1.f2) ((rd_T60 xs i).f1.f3) ((rd_T60 xs i).f1.f4) ((rd_T60 xs i).f2.f0) ((rd_T60 xs i).f2.f1) ((rd_T60 xs i).f2.f2) ((rd_T60 xs i).f3.f0) ((rd_T60 xs i).f3.f1) ((rd_T60 xs i).f3.f2) ((rd_T60 xs i).f3.f3) ((rd_T60 xs i).f3.f4) ((rd_T60 xs i).f3.f5) ((rd_T60 xs i).f3.f6) (d + 1)
    rw [show d + 1 + 10 = (d + 10) + 1 by omega, spec_l27End.l0, impl_formOf.l0, if_pos (show i < (xs.length : Int) by omega), if_pos h0, if_pos (show i < (xs.length : Int) by omega), if_pos h0, if_pos (show i < (xs.length : Int) by omega)]
    rw [show d + 9 + 1 = d + 10 by omega] at e1 e2
    rw [show d + 1 + 9 = d + 10 by omega] at e3 e4
    rw [e1, e2, Option.bind_some, Option.bind_some, e3, e4, Option.bind_some, Option.bind_some]
    cases r2 with
    | false => exact ⟨(0, false), rfl, rfl⟩
    | true =>
      rw [if_pos rfl, if_pos rfl]
      by_cases hf : r1.1 = f
      · rw [if_pos hf, if_pos hf, w64 _ (by omega) (by omega)]
        exact ih r1.2 (i + 1) (by omega) (by omega)
      · rw [if_neg hf, if_neg hf]
        exact ⟨(0, false), rfl, rfl⟩

theorem end_eq (xs : List S60) (hn : xs.length ≤ 1048576) : ∃ r, (∀ k, xs.length + 10 ≤ k → spec_l27End.f k xs = some r) ∧ ∀ k, xs.length + 10 ≤ k → impl_formOf.f k xs = some r := by
  obtain ⟨r, h1, h2⟩ := end_l0 xs hn xs.length 1 0 (by omega) (by omega)
  exact ⟨r, fun k hk => at_rounds (g := fun k => spec_l27End.l0 k xs 1 0) (fun k => spec_l27End.mono_l k _ _ _) hk h1, fun k hk => at_rounds (g := fun k => impl_formOf.l0 k xs 1 xs xs.length 0) (fun k => impl_formOf.mono_l k _ _ _ _ _) hk h2⟩
end Go.Proofs.Ytillihiadpgalaa.Pure
