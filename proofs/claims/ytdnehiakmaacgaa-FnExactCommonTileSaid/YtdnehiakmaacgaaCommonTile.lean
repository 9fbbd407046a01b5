/- The law FnExactCommonTile: the program's CommonTile and the reference's return the same tile and code. No condition. -/
import Derived.Test.YtdnehiakmaacgaaPx22
import Derived.Test.YtdnehiakmaacgaaTile
namespace Go.Proofs.Ytdnehiakmaacgaa.Pure
open Go.RowKit Go.Proofs.Ytdnehiakmaacgaa.P Go.Proofs.YtdnehiakmaacgaaW.PrintWords Go.Proofs.YtdnehiakmaacgaaW.PrintLast

theorem tile_zero {l x y : Int} (h : Tl l x y) (hl : l = 0) : x = 0 ∧ y = 0 := by
  subst hl
  obtain ⟨_, _, h3, h4, h5, h6⟩ := h
  have : (2 : Int) ^ (0 : Int).toNat = 1 := rfl
  omega

theorem common_l0 (d : Nat) : ∀ (l x y m u v : Int), Tl l x y → Tl m u v → l + m ≤ d → ∃ p q s, Tl p q s ∧ spec_CommonTile.l0 (d + 1) l x y m u v = some (p, q, s, 0) ∧ impl_CommonTile.l0 (d + 1) l x y m u v = some (p, q, s, 0) := by
  induction d with
  | zero =>
    intro l x y m u v h1 h2 hd
    have hl : l = 0 := by have := h1.1; have := h2.1; omega
    have hm : m = 0 := by have := h1.1; have := h2.1; omega
    obtain ⟨rfl, rfl⟩ := tile_zero h1 hl
    obtain ⟨rfl, rfl⟩ := tile_zero h2 hm
    subst hl
    subst hm
    exact ⟨0, 0, 0, h1, by rw [spec_CommonTile.l0]; rfl, by rw [impl_CommonTile.l0]; rfl⟩
  | succ d ih =>
    intro l x y m u v h1 h2 hd
    rw [spec_CommonTile.l0, impl_CommonTile.l0]
    by_cases hc : (!(l == m) || (!(x == u) || (!(y == v)))) = true
    · rw [if_pos hc, if_pos hc]
      have hne : ¬ (l = 0 ∧ m = 0) := by
        rintro ⟨hl, hm⟩
        obtain ⟨rfl, rfl⟩ := tile_zero h1 hl
        obtain ⟨rfl, rfl⟩ := tile_zero h2 hm
        subst hl
        subst hm
        exact absurd hc (by decide)
      have := h1.1
      have := h2.1
      by_cases hg : l ≥ m
      · obtain ⟨e1, e2, e3, hp⟩ := parent_valid l x y h1 (by omega)
        rw [if_pos hg, if_pos hg, parent_some, parent_some', e1, e2, e3]
        exact ih _ _ _ _ _ _ hp h2 (by omega)
      · obtain ⟨e1, e2, e3, hp⟩ := parent_valid m u v h2 (by omega)
        rw [if_neg hg, if_neg hg, parent_some, parent_some', e1, e2, e3]
        exact ih _ _ _ _ _ _ h1 hp (by omega)
    · rw [if_neg hc, if_neg hc]
      exact ⟨l, x, y, h1, rfl, rfl⟩

theorem common_eq (l x y m u v : Int) : ∃ r, spec_CommonTile.f 42 l x y m u v = some r ∧ impl_CommonTile.f 42 l x y m u v = some r := by
  unfold spec_CommonTile.f impl_CommonTile.f
  rw [ok_tile, valid_tile, ok_tile, valid_tile]
  simp only [Option.bind_some]
  by_cases h1 : Tl l x y
  · rw [decide_eq_true h1, if_pos rfl, if_pos rfl, spec_CommonTile.j0, impl_CommonTile.j0]
    by_cases h2 : Tl m u v
    · rw [decide_eq_true h2]
      obtain ⟨p, q, s, _, e1, e2⟩ := common_l0 40 l x y m u v h1 h2 (by have := h1.2.1; have := h2.2.1; omega)
      exact ⟨_, by rw [if_neg (by decide)]; exact e1, by rw [if_neg (by decide)]; exact e2⟩
    · rw [decide_eq_false h2]
      exact ⟨_, rfl, rfl⟩
  · rw [decide_eq_false h1, if_neg (by decide), if_neg (by decide), spec_CommonTile.j0, impl_CommonTile.j0]
    exact ⟨_, rfl, rfl⟩

theorem FnExactCommonTile (a0_0 a0_1 a0_2 a1_0 a1_1 a1_2 : Int) (_ : (Lit.int .i64 a0_0).wf = true) (_ : (Lit.int .i64 a0_1).wf = true) (_ : (Lit.int .i64 a0_2).wf = true) (_ : (Lit.int .i64 a1_0).wf = true) (_ : (Lit.int .i64 a1_1).wf = true) (_ : (Lit.int .i64 a1_2).wf = true) :
    ∃ k, laws_FnExactCommonTile.f k a0_0 a0_1 a0_2 a1_0 a1_1 a1_2 = some true := by
  obtain ⟨⟨r1, r2, r3, r4⟩, h1, h2⟩ := common_eq a0_0 a0_1 a0_2 a1_0 a1_1 a1_2
  refine ⟨42, ?_⟩
  simp only [laws_FnExactCommonTile.f, laws_toTile.f, laws_eqTile.f, h1, h2, Option.bind_some, if_true]
end Go.Proofs.Ytdnehiakmaacgaa.Pure
