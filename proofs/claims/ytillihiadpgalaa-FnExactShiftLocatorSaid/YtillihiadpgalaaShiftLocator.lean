/- The law FnExactShiftLocator: the program's ShiftLocator and the reference's return the same text and code. No condition. -/
import Derived.Test.YtillihiadpgalaaPx20
import Derived.Test.YtillihiadpgalaaSpecSide
import Derived.Test.YtillihiadpgalaaLocText
namespace Go.Proofs.Ytillihiadpgalaa.Pure
open Go.RowKit Go.Proofs.Ytillihiadpgalaa.P Go.Proofs.YtillihiadpgalaaW.PrintWords Go.Proofs.YtillihiadpgalaaW.PrintLast

theorem shiftLoc_eq (s : ByteArray) (e n : Int) (hs : s.size ≤ 140737488351232) : ∃ r, spec_ShiftLocator.f 20 s e n = some r ∧ impl_ShiftLocator.f 20 s e n = some r := by
  unfold spec_ShiftLocator.f impl_ShiftLocator.f
  rcases readLoc s hs with ⟨e1, e2⟩ | ⟨x, y, m, hn1, hn2, _, _, _, _, _, e1, e2⟩
  · rw [e1 20 (by omega), e2 20 (by omega)]
    exact ⟨_, rfl, rfl⟩
  · rw [e1 20 (by omega), e2 20 (by omega)]
    have hp := Ps_bd m
    simp only [Option.bind_some, if_true, in_some, within_some, spec_ShiftLocator.j0, if_neg (show ¬ Ps m = 0 by omega), specSide m ⟨hn1, hn2⟩ 19 (by omega)]
    by_cases h1 : -1000000 ≤ e ∧ e ≤ 1000000
    · rw [decide_eq_true h1]
      by_cases h2 : -1000000 ≤ n ∧ n ≤ 1000000
      · rw [decide_eq_true h2]
        by_cases h3 : 0 ≤ wrap64 (y + n) ∧ wrap64 (y + n) ≤ wrap64 (Ps m - 1)
        · obtain ⟨t, _, g1, g2⟩ := locText_eq (Int.tmod (wrap64 (Int.tmod (wrap64 (x + e)) (Ps m) + Ps m)) (Ps m)) (wrap64 (y + n)) (Ps m) (Ps m) m ⟨hn1, hn2⟩
          simp only [decide_eq_true h3, g1 19 (by omega), g2 20 (by omega), Option.bind_some]
          exact ⟨_, rfl, rfl⟩
        · rw [decide_eq_false h3]
          exact ⟨_, rfl, rfl⟩
      · rw [decide_eq_false h2]
        exact ⟨_, rfl, rfl⟩
    · rw [decide_eq_false h1]
      exact ⟨_, rfl, rfl⟩

theorem FnExactShiftLocator (a0 : ByteArray) (a1 a2 : Int) (h0 : a0.size ≤ 140737488351232) (_ : (Lit.int .i64 a1).wf = true) (_ : (Lit.int .i64 a2).wf = true) : ∃ k, laws_FnExactShiftLocator.f k a0 a1 a2 = some true := by
  obtain ⟨⟨r1, r2⟩, e1, e2⟩ := shiftLoc_eq a0 a1 a2 h0
  refine ⟨20, ?_⟩
  unfold laws_FnExactShiftLocator.f
  simp only [e1, e2, Option.bind_some, if_true]
  split <;> rfl
end Go.Proofs.Ytillihiadpgalaa.Pure
