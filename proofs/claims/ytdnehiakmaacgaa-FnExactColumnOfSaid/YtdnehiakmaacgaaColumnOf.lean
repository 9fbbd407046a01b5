/- The law FnExactColumnOf: the program's ColumnOf and the reference's return the same column and code. No condition. -/
import Derived.Test.YtdnehiakmaacgaaPx6
import Derived.Test.YtdnehiakmaacgaaTile
namespace Go.Proofs.Ytdnehiakmaacgaa.Pure
open Go.RowKit Go.Proofs.Ytdnehiakmaacgaa.P Go.Proofs.YtdnehiakmaacgaaW.PrintWords Go.Proofs.YtdnehiakmaacgaaW.PrintLast

theorem column_eq (x a : Int) (h0 : 0 ≤ a) (h1 : a ≤ 20) : ∃ r, spec_l25Column.f x a = some r ∧ impl_columnOf.f x a = some r := by
  obtain ⟨s, _, _, _, e1, e2⟩ := side_val a h0 h1
  unfold spec_l25Column.f impl_columnOf.f
  rw [e1, e2]
  split <;> exact ⟨_, rfl, rfl⟩

theorem columnOf_eq (x a : Int) : ∃ r, spec_ColumnOf.f x a = some r ∧ impl_ColumnOf.f x a = some r := by
  unfold spec_ColumnOf.f impl_ColumnOf.f impl_ValidPoint.f
  simp only [level_some, isLevel_some, in_some, within_some, Option.bind_some]
  rw [decide_eq_true (show (-900000000 : Int) ≤ 0 ∧ (0 : Int) ≤ 900000000 by decide), if_pos rfl]
  by_cases hx : -1799999999 ≤ x ∧ x ≤ 1800000000
  · rw [decide_eq_true hx, if_pos rfl, if_pos (show x > -1800000000 by omega)]
    simp only [Option.bind_some, decide_eq_true hx.2, if_true]
    by_cases ha : 0 ≤ a ∧ a ≤ 20
    · obtain ⟨r, e1, e2⟩ := column_eq x a ha.1 ha.2
      simp only [decide_eq_true ha, if_true, e1, e2, Option.bind_some]
      exact ⟨_, rfl, rfl⟩
    · rw [decide_eq_false ha]
      exact ⟨_, rfl, rfl⟩
  · rw [decide_eq_false hx]
    refine ⟨(0, 2), rfl, ?_⟩
    by_cases h : x > -1800000000
    · rw [if_pos h, decide_eq_false (show ¬ x ≤ 1800000000 by omega)]; rfl
    · rw [if_neg h]; rfl

theorem FnExactColumnOf (a0 a1 : Int) (_ : (Lit.int .i64 a0).wf = true) (_ : (Lit.int .i64 a1).wf = true) : laws_FnExactColumnOf.f a0 a1 = some true := by
  obtain ⟨⟨r1, r2⟩, h1, h2⟩ := columnOf_eq a0 a1
  simp only [laws_FnExactColumnOf.f, h1, h2, Option.bind_some, if_true]
end Go.Proofs.Ytdnehiakmaacgaa.Pure
