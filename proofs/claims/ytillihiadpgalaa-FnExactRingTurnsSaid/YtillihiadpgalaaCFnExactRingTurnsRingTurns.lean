/- The law FnExactRingTurns: the program's RingTurns and the reference's return the same number and code. No condition. -/
import Derived.Test.YtillihiadpgalaaCFnExactRingTurnsx6
import Derived.Test.YtillihiadpgalaaCFnExactRingTurnsRing
import Derived.Test.YtillihiadpgalaaCFnExactRingTurnsToPoints
import Derived.Test.YtillihiadpgalaaCFnExactRingTurnsEqPoint
namespace Go.Proofs.Ytillihiadpgalaa.Pure
open Go.RowKit Go.Proofs.Ytillihiadpgalaa.P Go.Proofs.YtillihiadpgalaaW.PrintWords Go.Proofs.YtillihiadpgalaaW.PrintLast

theorem turns_l0 (xs : List S25) (hn : xs.length ≤ 1048576) (d : Nat) : ∀ (s i : Int), 0 ≤ i → i + d = xs.length → ∃ r, spec_l24Turns.l0 (d + 1) xs s i = some r ∧ impl_ringTurns.l0 (d + 1) xs s xs xs.length i = some r := by
  induction d with
  | zero =>
    intro s i h0 h
    exact ⟨_, by rw [spec_l24Turns.l0, if_neg (by omega)], by rw [impl_ringTurns.l0, if_neg (by omega)]⟩
  | succ d ih =>
    intro s i h0 h
    obtain ⟨p, e1, e2⟩ := next_some xs i h0 (by omega) hn
    rw [spec_l24Turns.l0, impl_ringTurns.l0, if_pos (by omega), if_pos (by omega), e1, e2]
    simp only [Option.bind_some, if_pos h0, if_pos (show i < (xs.length : Int) by omega), wrap_some, wrapLon_some]
    rw [w64 (i + 1) (by omega) (by omega)]
    exact ih _ (i + 1) (by omega) (by omega)

theorem turns_eq (xs : List S25) (hn : xs.length ≤ 1048576) : ∃ r, (∀ k, xs.length < k → spec_l24Turns.f k xs = some r) ∧ ∀ k, xs.length < k → impl_ringTurns.f k xs = some r := by
  obtain ⟨r, h1, h2⟩ := turns_l0 xs hn xs.length 0 0 (by omega) (by omega)
  exact ⟨r, fun k hk => at_rounds (g := fun k => spec_l24Turns.f k xs) (fun k => spec_l24Turns.mono xs k) hk h1, fun k hk => at_rounds (g := fun k => impl_ringTurns.f k xs) (fun k => impl_ringTurns.mono xs k) hk h2⟩

theorem ringTurns_eq (xs : List S25) (hn : xs.length ≤ 1048576) : ∃ r, (∀ k, xs.length < k → spec_RingTurns.f k xs = some r) ∧ ∀ k, xs.length < k → impl_RingTurns.f k xs = some r := by
  obtain ⟨b, _, h1, h2⟩ := ring_eq xs hn
  obtain ⟨r, h3, h4⟩ := turns_eq xs hn
  unfold spec_RingTurns.f impl_RingTurns.f
  cases b with
  | true => exact ⟨(r, 0), fun k hk => by rw [h1 k hk]; simp only [Option.bind_some, if_true, h3 k hk], fun k hk => by rw [h2 k hk]; simp only [Option.bind_some, if_true, h4 k hk]⟩
  | false => exact ⟨(0, 1), fun k hk => by rw [h1 k hk]; rfl, fun k hk => by rw [h2 k hk]; rfl⟩

theorem FnExactRingTurns (l0 : List S23) (h0 : l0.length ≤ 9223372036854775807) : ∃ k, laws_FnExactRingTurns.f k l0 = some true := by
  unfold laws_FnExactRingTurns.f
  rw [szPointS_some l0 1048576 (by decide) (by decide) h0]
  simp only [Option.bind_some]
  by_cases h : (1048576 : Int) < l0.length
  · exact ⟨0, by rw [if_pos h, if_pos (by decide)]⟩
  · have hn : l0.length ≤ 1048576 := by omega
    have hm : (l0.map cvPt).length = l0.length := List.length_map _
    obtain ⟨⟨r1, r2⟩, h1, h2⟩ := ringTurns_eq (l0.map cvPt) (by omega)
    refine ⟨l0.length + 3, ?_⟩
    rw [if_neg h, if_neg (by omega), toPointS_some l0 hn _ (by omega)]
    simp only [Option.bind_some, h1 _ (show (l0.map cvPt).length < l0.length + 3 by omega), h2 _ (show (l0.map cvPt).length < l0.length + 3 by omega), if_true, bne_self_eq_false]
    rw [laws_FnExactRingTurns.j0, if_neg (by decide), toPointS_some l0 hn _ (by omega)]
    simp only [Option.bind_some]
    rw [eqPointS_refl _ (by omega) _ (by omega)]
    rfl
end Go.Proofs.Ytillihiadpgalaa.Pure
