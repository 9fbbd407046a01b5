/- The law FnExactInLocator: the program's InLocator and the reference's return the same. No condition. -/
import Derived.Test.YtillihiadpgalaaPx15
import Derived.Test.YtillihiadpgalaaSpecSide
import Derived.Test.YtillihiadpgalaaPoint
namespace Go.Proofs.Ytillihiadpgalaa.Pure
open Go.RowKit Go.Proofs.Ytillihiadpgalaa.P Go.Proofs.YtillihiadpgalaaW.PrintWords Go.Proofs.YtillihiadpgalaaW.PrintLast

theorem inLoc_eq (s : ByteArray) (lat lon : Int) (hs : s.size ≤ 140737488351232) : ∃ r, spec_InLocator.f 20 s lat lon = some r ∧ impl_InLocator.f 20 s lat lon = some r := by
  unfold spec_InLocator.f impl_InLocator.f impl_cell_has.f
  rcases readLoc s hs with ⟨e1, e2⟩ | ⟨x, y, n, hn1, hn2, _, _, _, _, _, e1, e2⟩
  · rw [e1 20 (by omega), e2 20 (by omega)]
    exact ⟨_, rfl, rfl⟩
  · rw [e1 20 (by omega), e2 20 (by omega)]
    simp only [Option.bind_some, if_true, ok_some, valid_some]
    rw [spec_InLocator.j0]
    by_cases h : Pt lat lon
    · obtain ⟨u, v, g1, g2⟩ := cell_eq lat lon (Ps n) (Ps n) h
      rw [decide_eq_true h, if_neg (by decide), specSide n ⟨hn1, hn2⟩ 19 (by omega), if_pos rfl]
      simp only [Option.bind_some, g1, g2, beq_self_eq_true, Bool.and_true]
      by_cases hx : u = x
      · rw [if_pos hx, hx]
        exact ⟨_, rfl, by simp⟩
      · rw [if_neg hx]
        exact ⟨_, rfl, by rw [beq_eq_false_iff_ne.2 hx]; rfl⟩
    · rw [decide_eq_false h]
      exact ⟨_, rfl, rfl⟩

theorem FnExactInLocator (a0 : ByteArray) (a1_0 a1_1 : Int) (h0 : a0.size ≤ 140737488351232) (_ : (Lit.int .i64 a1_0).wf = true) (_ : (Lit.int .i64 a1_1).wf = true) : ∃ k, laws_FnExactInLocator.f k a0 a1_0 a1_1 = some true := by
  obtain ⟨r, e1, e2⟩ := inLoc_eq a0 a1_0 a1_1 h0
  refine ⟨20, ?_⟩
  unfold laws_FnExactInLocator.f
  simp only [laws_toPoint.f, e1, e2, Option.bind_some, bne_self_eq_false]
  split <;> rfl
end Go.Proofs.Ytillihiadpgalaa.Pure
