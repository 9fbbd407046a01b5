/- The law FnExactCommonLocator: the program's CommonLocator and the reference's return the same text and answer. No condition. -/
import Derived.Test.YtdnehiakmaacgaaPx29
import Derived.Test.YtdnehiakmaacgaaReadLocator
namespace Go.Proofs.Ytdnehiakmaacgaa.Pure
open Go.RowKit Go.Proofs.Ytdnehiakmaacgaa.P Go.Proofs.YtdnehiakmaacgaaW.PrintWords Go.Proofs.YtdnehiakmaacgaaW.PrintLast

theorem commonLoc_l0 (a b : ByteArray) (d : Nat) : ∀ n : Int, 0 ≤ n → n % 2 = 0 → (a.size : Int) % 2 = 0 → (b.size : Int) % 2 = 0 → n ≤ a.size → n ≤ b.size → (a.size : Int) ≤ n + 2 * d → (a.size : Int) ≤ 10 →
    ∃ r, spec_CommonLocator.l0 (d + 1) a b n = some r ∧ impl_CommonLocator.l0 (d + 1) a b n = some r := by
  induction d with
  | zero =>
    intro n h0 h1 h2 h3 h4 h5 h6 h7
    have hw : wrap64 (n + 2) = n + 2 := w64 _ (by omega) (by omega)
    refine ⟨_, by rw [spec_CommonLocator.l0, hw, if_neg (by omega), if_pos h0, if_pos h4], ?_⟩
    rw [impl_CommonLocator.l0, if_neg (by omega), if_pos h0, if_pos h4]
  | succ d ih =>
    intro n h0 h1 h2 h3 h4 h5 h6 h7
    have hw : wrap64 (n + 2) = n + 2 := w64 _ (by omega) (by omega)
    rw [spec_CommonLocator.l0, impl_CommonLocator.l0, hw]
    by_cases ha : n < (a.size : Int)
    · rw [if_pos (show n + 2 ≤ (a.size : Int) by omega), if_pos ha]
      by_cases hb : n < (b.size : Int)
      · rw [if_pos (show n + 2 ≤ (b.size : Int) by omega), if_pos hb, if_pos h0, if_pos (show n ≤ n + 2 by omega)]
        simp only [if_pos (show n + 2 ≤ (a.size : Int) by omega), if_pos (show n + 2 ≤ (b.size : Int) by omega), if_pos (show n ≤ n + 2 by omega), if_pos h0]
        split
        · exact ih (n + 2) (by omega) (by omega) h2 h3 (by omega) (by omega) (by omega) h7
        · exact ⟨_, rfl, rfl⟩
      · rw [if_neg (show ¬ n + 2 ≤ (b.size : Int) by omega), if_neg hb, if_pos h0, if_pos h4]
        exact ⟨_, rfl, rfl⟩
    · rw [if_neg (show ¬ n + 2 ≤ (a.size : Int) by omega), if_neg ha, if_pos h0, if_pos h4]
      exact ⟨_, rfl, rfl⟩

theorem commonLoc_j0 (a b : ByteArray) (ha : a.size ≤ 140737488351232) (hb : b.size ≤ 140737488351232) : ∃ r, spec_CommonLocator.f 12 a b = some r ∧ impl_CommonLocator.f 12 a b = some r := by
  unfold spec_CommonLocator.f impl_CommonLocator.f
  rcases readLoc a ha with ⟨e1, e2⟩ | ⟨x, y, n, hn1, hn2, hs, _, _, _, _, e1, e2⟩
  · rcases readLoc b hb with ⟨g1, g2⟩ | ⟨x2, y2, n2, _, _, hs2, _, _, _, _, g1, g2⟩
    all_goals
      rw [e1 12 (by omega), e2 12 (by omega), g1 12 (by omega), g2 12 (by omega)]
      exact ⟨_, rfl, rfl⟩
  · rcases readLoc b hb with ⟨g1, g2⟩ | ⟨x2, y2, n2, _, _, hs2, _, _, _, _, g1, g2⟩
    · rw [e1 12 (by omega), e2 12 (by omega), g1 12 (by omega), g2 12 (by omega)]
      exact ⟨_, rfl, rfl⟩
    · rw [e1 12 (by omega), e2 12 (by omega), g1 12 (by omega), g2 12 (by omega)]
      simp only [Option.bind_some, if_true]
      rw [spec_CommonLocator.j0, impl_CommonLocator.j0, if_neg (by decide), if_neg (by decide)]
      obtain ⟨r, q1, q2⟩ := commonLoc_l0 a b 10 0 (by omega) (by omega) (by omega) (by omega) (by omega) (by omega) (by omega) (by omega)
      exact ⟨r, q1, q2⟩

theorem FnExactCommonLocator (a0 a1 : ByteArray) (h0 : a0.size ≤ 140737488351232) (h1 : a1.size ≤ 140737488351232) : ∃ k, laws_FnExactCommonLocator.f k a0 a1 = some true := by
  obtain ⟨⟨r1, r2⟩, e1, e2⟩ := commonLoc_j0 a0 a1 h0 h1
  refine ⟨12, ?_⟩
  unfold laws_FnExactCommonLocator.f
  rw [e1, e2]
  simp only [Option.bind_some, if_true, bne_self_eq_false]
  repeat' split
  all_goals first | rfl | contradiction
end Go.Proofs.Ytdnehiakmaacgaa.Pure
