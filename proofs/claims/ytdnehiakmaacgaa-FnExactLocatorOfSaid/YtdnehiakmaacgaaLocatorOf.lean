/- The law FnExactLocatorOf: the program's LocatorOf and the reference's return the same text and code. No condition. -/
import Derived.Test.YtdnehiakmaacgaaPx48
import Derived.Test.YtdnehiakmaacgaaLocator
namespace Go.Proofs.Ytdnehiakmaacgaa.Pure
open Go.RowKit Go.Proofs.Ytdnehiakmaacgaa.P Go.Proofs.YtdnehiakmaacgaaW.PrintWords Go.Proofs.YtdnehiakmaacgaaW.PrintLast

theorem locatorOf_eq (lat lon a : Int) : ∃ r, spec_LocatorOf.f 8 lat lon a = some r ∧ impl_LocatorOf.f 8 lat lon a = some r := by
  unfold spec_LocatorOf.f impl_LocatorOf.f
  rw [ok_some, valid_some, in_some, within_some]
  simp only [Option.bind_some]
  by_cases h : Pt lat lon
  · rw [decide_eq_true h, if_pos rfl, if_pos rfl]
    by_cases ha : 1 ≤ a ∧ a ≤ 5
    · rw [decide_eq_true ha, if_pos rfl, if_pos rfl]
      obtain ⟨c, _, _, e1, e2⟩ := side_eq a ha
      obtain ⟨x, y, e3, e4⟩ := cell_eq lat lon c c h
      obtain ⟨r, _, e5, e6⟩ := locText_eq x y c c a ha
      rw [e1, e2]
      simp only [Option.bind_some]
      rw [e3, e4]
      simp only [Option.bind_some]
      rw [e5 8 (by omega), e6 8 (by omega)]
      exact ⟨_, rfl, rfl⟩
    · rw [decide_eq_false ha]
      exact ⟨_, rfl, rfl⟩
  · rw [decide_eq_false h]
    exact ⟨_, rfl, rfl⟩

theorem FnExactLocatorOf (a0_0 a0_1 a1 : Int) (_ : (Lit.int .i64 a0_0).wf = true) (_ : (Lit.int .i64 a0_1).wf = true) (_ : (Lit.int .i64 a1).wf = true) :
    ∃ k, laws_FnExactLocatorOf.f k a0_0 a0_1 a1 = some true := by
  obtain ⟨⟨r1, r2⟩, h1, h2⟩ := locatorOf_eq a0_0 a0_1 a1
  refine ⟨8, ?_⟩
  simp only [laws_FnExactLocatorOf.f, laws_toPoint.f, h1, h2, Option.bind_some, if_true]
end Go.Proofs.Ytdnehiakmaacgaa.Pure
