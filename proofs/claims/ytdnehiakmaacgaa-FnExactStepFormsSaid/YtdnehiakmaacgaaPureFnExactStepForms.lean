/- The law FnExactStepForms: for every kind the program's StepForms and the reference's return the same two forms. No condition. -/
import Derived.Test.YtdnehiakmaacgaaPFnExactStepFormsx1
namespace Go.Proofs.Ytdnehiakmaacgaa.Pure
open Go.RowKit Go.Proofs.Ytdnehiakmaacgaa.PFnExactStepForms Go.Proofs.YtdnehiakmaacgaaW.PrintWords Go.Proofs.YtdnehiakmaacgaaW.PrintLast

theorem stepForms_j0 (x : Int) (b : Bool) : ∃ r, spec_l27Forms.j0 1 x b = some r ∧ impl_StepForms.j0 1 x b = some r := by
  simp only [spec_l27Forms.j0, impl_StepForms.j0]
  repeat' split
  all_goals exact ⟨_, rfl, rfl⟩

theorem stepForms_f (x : Int) : ∃ r, spec_l27Forms.f 1 x = some r ∧ impl_StepForms.f 1 x = some r := by
  simp only [spec_l27Forms.f, impl_StepForms.f]
  repeat' split
  all_goals first | exact ⟨_, rfl, rfl⟩ | exact stepForms_j0 _ _

theorem FnExactStepForms : laws_FnExactStepForms.Pure := by
  intro a0 _
  obtain ⟨⟨r1, r2⟩, h1, h2⟩ := stepForms_f a0
  refine ⟨1, ?_⟩
  simp only [laws_FnExactStepForms.f, spec_StepForms.f, h1, h2, Option.bind_some, if_true]

end Go.Proofs.Ytdnehiakmaacgaa.Pure
