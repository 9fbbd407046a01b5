/- The law FnExactChildrenOf: the program's ChildrenOf and the reference's return the same tiles and code, in memory of the result's own. No condition. -/
import Derived.Test.YtdnehiakmaacgaaPx35
import Derived.Test.YtdnehiakmaacgaaTile
import Derived.Test.YtdnehiakmaacgaaMarkTile
namespace Go.Proofs.Ytdnehiakmaacgaa.Pure
open Go.RowKit Go.Proofs.Ytdnehiakmaacgaa.P Go.Proofs.YtdnehiakmaacgaaW.PrintWords Go.Proofs.YtdnehiakmaacgaaW.PrintLast

theorem children_l0 (l x y : Int) (d : Nat) : ∀ (xs : List S25) (i : Int), 0 ≤ i → i + d = 4 → xs.length + d ≤ 4 → ∃ ys : List S25, ys.length ≤ 4 ∧ spec_ChildrenOf.l0 (d + 1) xs i l x y = some (ys, 0) ∧ impl_ChildrenOf.l0 (d + 1) xs i l x y = some (ys, 0) := by
  induction d with
  | zero =>
    intro xs i h0 h hx
    exact ⟨xs, by omega, by rw [spec_ChildrenOf.l0, if_neg (by omega)], by rw [impl_ChildrenOf.l0, if_neg (by omega)]⟩
  | succ d ih =>
    intro xs i h0 h hx
    rw [spec_ChildrenOf.l0, impl_ChildrenOf.l0, if_pos (by omega), if_pos (by omega), if_pos (by omega), if_pos (by omega), w64 (i + 1) (by omega) (by omega)]
    exact ih _ (i + 1) (by omega) (by omega) (by rw [List.length_append]; simp; omega)

theorem children_eq (l x y : Int) : ∃ ys c, ys.length ≤ 4 ∧ (∀ k, 6 ≤ k → spec_ChildrenOf.f k l x y = some (ys, c)) ∧ ∀ k, 6 ≤ k → impl_ChildrenOf.f k l x y = some (ys, c) := by
  unfold spec_ChildrenOf.f impl_ChildrenOf.f
  rw [ok_tile, valid_tile]
  simp only [Option.bind_some]
  by_cases h : Tl l x y
  · rw [decide_eq_true h]
    by_cases hl : l = 20
    · exact ⟨[], 2, by simp, fun k _ => by rw [if_pos rfl, if_pos hl], fun k _ => by rw [if_pos rfl, if_pos hl]⟩
    · obtain ⟨ys, hy, h1, h2⟩ := children_l0 l x y 4 [] 0 (by omega) (by omega) (by simp)
      refine ⟨ys, 0, hy, fun k hk => ?_, fun k hk => ?_⟩
      · rw [if_pos rfl, if_neg hl]; exact at_rounds (g := fun k => spec_ChildrenOf.l0 k [] 0 l x y) (fun k => spec_ChildrenOf.mono_l k _ _ _ _ _) (k := 5) (by omega) h1
      · rw [if_pos rfl, if_neg hl]; exact at_rounds (g := fun k => impl_ChildrenOf.l0 k [] 0 l x y) (fun k => impl_ChildrenOf.mono_l k _ _ _ _ _) (k := 5) (by omega) h2
  · rw [decide_eq_false h]
    exact ⟨[], 1, by simp, fun k _ => rfl, fun k _ => rfl⟩

theorem FnExactChildrenOf (a0_0 a0_1 a0_2 : Int) (_ : (Lit.int .i64 a0_0).wf = true) (_ : (Lit.int .i64 a0_1).wf = true) (_ : (Lit.int .i64 a0_2).wf = true) :
    ∃ k, laws_FnExactChildrenOf.f k a0_0 a0_1 a0_2 = some true := by
  obtain ⟨ys, c, hy, h1, h2⟩ := children_eq a0_0 a0_1 a0_2
  obtain ⟨m, zs, hm, hmk⟩ := markTileS_held ys (by omega)
  have he : ∀ k, 5 ≤ k → laws_eqTileS.f k ys ys = some true := fun k hk => eqTileS_refl ys (by omega) k (by omega)
  refine ⟨12, ?_⟩
  unfold laws_FnExactChildrenOf.f
  simp only [laws_toTile.f, Option.bind_some, h1 12 (by omega), h2 12 (by omega), he 12 (by omega), if_true, bne_self_eq_false]
  rw [laws_FnExactChildrenOf.j0]
  simp only [laws_toTile.f, Option.bind_some, (hmk 11 (by omega)).1, (hmk 11 (by omega)).2, h2 11 (by omega), he 11 (by omega), if_true, bne_self_eq_false]
  rw [if_neg (by decide), if_neg (by omega), laws_FnExactChildrenOf.j1]
  simp only [(hmk 10 (by omega)).2, Option.bind_some, if_true]
  rw [if_neg (by decide), if_neg (by omega)]
end Go.Proofs.Ytdnehiakmaacgaa.Pure
