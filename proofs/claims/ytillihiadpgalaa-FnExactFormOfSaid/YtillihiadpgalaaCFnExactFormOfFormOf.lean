/- The law FnExactFormOf: the program's FormOf and the reference's return the same, and leave their argument alone. No condition. -/
import Derived.Test.YtillihiadpgalaaCFnExactFormOfx14
import Derived.Test.YtillihiadpgalaaCFnExactFormOfToSteps
import Derived.Test.YtillihiadpgalaaCFnExactFormOfForms
namespace Go.Proofs.Ytillihiadpgalaa.Pure
open Go.RowKit Go.Proofs.Ytillihiadpgalaa.P Go.Proofs.YtillihiadpgalaaW.PrintWords Go.Proofs.YtillihiadpgalaaW.PrintLast

theorem FnExactFormOf (xs : List S56) (hx : xs.length ≤ 9223372036854775807) : ∃ k, laws_FnExactFormOf.f k xs = some true := by
  unfold laws_FnExactFormOf.f
  rw [szStepS_some xs 1048576 (by decide) (by decide) hx]
  by_cases h : (1048576 : Int) < xs.length
  · exact ⟨0, by rw [if_pos h]; rfl⟩
  · have hn : xs.length ≤ 1048576 := by omega
    have hl : (xs.map cvSt).length = xs.length := List.length_map _
    obtain ⟨r, e1, e2⟩ := end_eq (xs.map cvSt) (by omega)
    refine ⟨xs.length + 11, ?_⟩
    have e : spec_FormOf.f (xs.length + 11) (xs.map cvSt) = impl_FormOf.f (xs.length + 11) (xs.map cvSt) := by
      unfold spec_FormOf.f impl_FormOf.f
      rw [e1 _ (by omega), e2 _ (by omega)]
    have ex : ∃ q, impl_FormOf.f (xs.length + 11) (xs.map cvSt) = some q := by
      unfold impl_FormOf.f
      rw [e2 _ (by omega), Option.bind_some]
      split <;> exact ⟨_, rfl⟩
    obtain ⟨q, hq⟩ := ex
    rw [if_neg h, Option.bind_some, if_neg (by omega), toStepS_some xs hn _ (by omega)]
    simp only [Option.bind_some, e, hq, bne_self_eq_false, if_true]
    rw [show xs.length + 11 = (xs.length + 10) + 1 from rfl, laws_FnExactFormOf.j0, if_neg (by decide), toStepS_some xs hn _ (by omega), Option.bind_some, eqStepS_refl _ (by omega) _ (by omega)]
    rfl
end Go.Proofs.Ytillihiadpgalaa.Pure
