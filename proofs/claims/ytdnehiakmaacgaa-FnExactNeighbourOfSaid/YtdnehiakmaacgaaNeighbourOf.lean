/- The law FnExactNeighbourOf: the program's NeighbourOf and the reference's return the same tile and code. No condition. -/
import Derived.Test.YtdnehiakmaacgaaPx18
import Derived.Test.YtdnehiakmaacgaaTile
namespace Go.Proofs.Ytdnehiakmaacgaa.Pure
open Go.RowKit Go.Proofs.Ytdnehiakmaacgaa.P Go.Proofs.YtdnehiakmaacgaaW.PrintWords Go.Proofs.YtdnehiakmaacgaaW.PrintLast

theorem neighbour_eq (l x y dx dy : Int) : ∃ r, spec_NeighbourOf.f l x y dx dy = some r ∧ impl_NeighbourOf.f l x y dx dy = some r := by
  unfold spec_NeighbourOf.f impl_NeighbourOf.f
  rw [ok_tile, valid_tile]
  simp only [Option.bind_some]
  by_cases h : Tl l x y
  · rw [decide_eq_true h, if_pos rfl, if_pos rfl]
    obtain ⟨s, hs, h1, h2, e1, e2⟩ := side_val l h.1 h.2.1
    rw [e1, e2]
    simp only [Option.bind_some, in_some, within_some]
    rw [isCell_some _ l ⟨h.1, h.2.1⟩]
    simp only [Option.bind_some]
    have e : decide (0 ≤ wrap64 (y + dy) ∧ wrap64 (y + dy) < 2 ^ l.toNat) = decide (0 ≤ wrap64 (y + dy) ∧ wrap64 (y + dy) ≤ wrap64 (s - 1)) := by
      rw [w64 (s - 1) (by omega) (by omega), ← hs, decide_eq_decide]; omega
    rw [e, if_neg (show ¬ s = 0 by omega)]
    repeat' split
    all_goals exact ⟨_, rfl, rfl⟩
  · rw [decide_eq_false h]
    exact ⟨_, rfl, rfl⟩

theorem FnExactNeighbourOf (a0_0 a0_1 a0_2 a1 a2 : Int) (_ : (Lit.int .i64 a0_0).wf = true) (_ : (Lit.int .i64 a0_1).wf = true) (_ : (Lit.int .i64 a0_2).wf = true) (_ : (Lit.int .i64 a1).wf = true) (_ : (Lit.int .i64 a2).wf = true) :
    laws_FnExactNeighbourOf.f a0_0 a0_1 a0_2 a1 a2 = some true := by
  obtain ⟨⟨r1, r2, r3, r4⟩, h1, h2⟩ := neighbour_eq a0_0 a0_1 a0_2 a1 a2
  simp only [laws_FnExactNeighbourOf.f, laws_toTile.f, laws_eqTile.f, h1, h2, Option.bind_some, if_true]
end Go.Proofs.Ytdnehiakmaacgaa.Pure
