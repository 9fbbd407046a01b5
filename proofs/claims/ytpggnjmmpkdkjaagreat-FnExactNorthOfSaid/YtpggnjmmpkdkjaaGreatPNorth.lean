/- NorthOf: the plain law. No condition. -/
import Derived.Test.YtpggnjmmpkdkjaaGreatPTanh
import Derived.Test.YtpggnjmmpkdkjaaGreatPAsin
import Derived.Test.YtpggnjmmpkdkjaaGreatPTile
namespace Go.Proofs.YtpggnjmmpkdkjaaGreat.Ev
open Go Go.RowKit
set_option linter.unusedSimpArgs false
set_option linter.unusedVariables false
theorem northOf_same {k : Nat} (hk : 700 ≤ k) (l c r : Int) : ∃ x y z, spec_NorthOf k l c r = some [.i x, .i y, .i z] ∧ impl_NorthOf k l c r = some [.i x, .i y, .i z] := by
  obtain ⟨o, e1, e2, h⟩ := tileOk_same k l c r
  unfold spec_NorthOf impl_NorthOf
  rw [e1, e2]
  simp only [ivr hk, Option.bind_some, pv0, pv1, gi0, giS, gb0, gbS, cond_true, cond_false, Bool.not_true, Bool.not_false, pair_eta]
  cases o
  · exact ⟨_, _, _, rfl, rfl⟩
  · obtain ⟨_, s, s1, s2, s3, s4, c1, c2, _, _⟩ := h rfl
    rw [s1, s2]
    simp only [pir hk, ivr hk, Option.bind_some, pv0, pv1, gi0, giS, gb0, gbS, cond_true, cond_false, Bool.not_true, Bool.not_false, pair_eta]
    rw [wr (2 * r) (by omega) (by omega), wr (s - 2 * r) (by omega) (by omega)]
    simp only [quoD hk (s - 2 * r) s (by omega), tanhr hk, asinr hk, ivr hk, Option.bind_some, pv0, pv1, gi0, giS, gb0, gbS, cond_true, cond_false, Bool.not_true, Bool.not_false, pair_eta]
    exact ⟨_, _, _, rfl, rfl⟩
theorem FnExactNorthOf_pure (a b c : Int) (_ : (Lit.int .i64 a).wf = true) (_ : (Lit.int .i64 b).wf = true) (_ : (Lit.int .i64 c).wf = true) : ∃ k, laws_FnExactNorthOf k a b c = some [.b true] := by
  refine ⟨700, ?_⟩
  obtain ⟨x, y, z, e1, e2⟩ := northOf_same (k := 700) (by decide) a b c
  unfold laws_FnExactNorthOf laws_toTile
  simp only [Option.bind_some, gi0, giS]
  rw [e1, e2]
  simp only [Option.bind_some, gi0, giS, eqIv_refl, gb0, Bool.not_true, cond_false]
  rw [bif_f (bne_f rfl)]
end Go.Proofs.YtpggnjmmpkdkjaaGreat.Ev
