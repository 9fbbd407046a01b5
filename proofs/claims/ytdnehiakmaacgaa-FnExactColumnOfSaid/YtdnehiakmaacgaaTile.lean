/- Tiles: levels, sides, validity, parents: what both sides compute. No condition. -/
import Derived.Test.YtdnehiakmaacgaaPx2
import Derived.Test.YtdnehiakmaacgaaPx3
import Derived.Test.YtdnehiakmaacgaaPx4
import Derived.Test.YtdnehiakmaacgaaPx18
import Derived.Test.YtdnehiakmaacgaaPx19
import Derived.Test.YtdnehiakmaacgaaBase
import Derived.Test.YtdnehiakmaacgaaIn
namespace Go.Proofs.Ytdnehiakmaacgaa.Pure
open Go.RowKit Go.Proofs.Ytdnehiakmaacgaa.P Go.Proofs.YtdnehiakmaacgaaW.PrintWords Go.Proofs.YtdnehiakmaacgaaW.PrintLast

theorem side_val (a : Int) (h0 : 0 ≤ a) (h1 : a ≤ 20) : ∃ s : Int, s = 2 ^ a.toNat ∧ 1 ≤ s ∧ s ≤ 1048576 ∧ spec_l25Count.f a = some s ∧ impl_side.f a = some s := by
  have e : IntKind.u64.wrap a = a := u64w a h0 (by omega)
  have hp : (2 : Nat) ^ a.toNat ≤ 2 ^ 20 := Nat.pow_le_pow_right (by decide) (by omega)
  have hp1 : 1 ≤ (2 : Nat) ^ a.toNat := Nat.one_le_two_pow
  have hi : ((2 : Int) ^ a.toNat) = (((2 : Nat) ^ a.toNat : Nat) : Int) := by push_cast; rfl
  have hs : shl .i64 1 a = 2 ^ a.toNat := by
    unfold shl
    rw [Nat.min_eq_left (by show a.toNat ≤ 64; omega), Int.one_mul, Go.Proofs.YtdnehiakmaacgaaW.PrintLast.i64_w, w64 _ (by rw [hi]; omega) (by rw [hi]; omega)]
  refine ⟨2 ^ a.toNat, rfl, by rw [hi]; omega, by rw [hi]; omega, ?_, ?_⟩
  · unfold spec_l25Count.f; rw [e, if_pos h0, hs]
  · unfold impl_side.f; rw [if_pos h0, hs]

/-- A valid tile. -/
abbrev Tl (l x y : Int) : Prop := 0 ≤ l ∧ l ≤ 20 ∧ 0 ≤ x ∧ x < 2 ^ l.toNat ∧ 0 ≤ y ∧ y < 2 ^ l.toNat

theorem level_some (l : Int) : spec_l25Level.f l = some (decide (0 ≤ l ∧ l ≤ 20)) := by unfold spec_l25Level.f; rw [in_some]; rfl
theorem isLevel_some (l : Int) : impl_isLevel.f l = some (decide (0 ≤ l ∧ l ≤ 20)) := level_some l

theorem isCell_some (n l : Int) (h : 0 ≤ l ∧ l ≤ 20) : impl_isCell.f n l = some (decide (0 ≤ n ∧ n < 2 ^ l.toNat)) := by
  obtain ⟨s, hs, h1, h2, _, e2⟩ := side_val l h.1 h.2
  unfold impl_isCell.f
  rw [e2]
  simp only [Option.bind_some, within_some]
  rw [w64 _ (by omega) (by omega), ← hs]
  congr 1
  rw [decide_eq_decide]
  omega

theorem ok_tile (l x y : Int) : spec_l25Ok.f l x y = some (decide (Tl l x y), l, x, y) := by
  unfold spec_l25Ok.f
  rw [level_some]
  simp only [Option.bind_some]
  by_cases h : 0 ≤ l ∧ l ≤ 20
  · rw [decide_eq_true h, if_pos rfl]
    obtain ⟨s, hs, h1, h2, e1, _⟩ := side_val l h.1 h.2
    rw [e1]
    simp only [Option.bind_some, in_some]
    rw [w64 _ (by omega) (by omega)]
    by_cases hx : 0 ≤ x ∧ x ≤ s - 1
    · rw [decide_eq_true hx, if_pos rfl]
      congr 2
      rw [decide_eq_decide]
      show 0 ≤ y ∧ y ≤ s - 1 ↔ 0 ≤ l ∧ l ≤ 20 ∧ 0 ≤ x ∧ x < 2 ^ l.toNat ∧ 0 ≤ y ∧ y < 2 ^ l.toNat
      rw [← hs]
      omega
    · rw [decide_eq_false hx, if_neg (by decide)]
      congr 2
      symm
      rw [decide_eq_false_iff_not]
      show ¬ (0 ≤ l ∧ l ≤ 20 ∧ 0 ≤ x ∧ x < 2 ^ l.toNat ∧ 0 ≤ y ∧ y < 2 ^ l.toNat)
      rw [← hs]
      omega
  · rw [decide_eq_false h, if_neg (by decide)]
    congr 2
    symm
    rw [decide_eq_false_iff_not]
    omega

theorem valid_tile (l x y : Int) : impl_ValidTile.f l x y = some (decide (Tl l x y)) := by
  unfold impl_ValidTile.f
  rw [isLevel_some]
  simp only [Option.bind_some]
  by_cases h : 0 ≤ l ∧ l ≤ 20
  · rw [decide_eq_true h, if_pos rfl, isCell_some x l h]
    simp only [Option.bind_some]
    by_cases hx : 0 ≤ x ∧ x < 2 ^ l.toNat
    · rw [decide_eq_true hx, if_pos rfl, isCell_some y l h]
      simp only [Option.bind_some]
      congr 1
      rw [decide_eq_decide]
      constructor
      · intro hy; exact ⟨h.1, h.2, hx.1, hx.2, hy.1, hy.2⟩
      · intro hy; exact ⟨hy.2.2.2.2.1, hy.2.2.2.2.2⟩
    · rw [decide_eq_false hx, if_neg (by decide)]
      congr 1
      symm
      rw [decide_eq_false_iff_not]
      intro hy
      exact hx ⟨hy.2.2.1, hy.2.2.2.1⟩
  · rw [decide_eq_false h, if_neg (by decide)]
    congr 1
    symm
    rw [decide_eq_false_iff_not]
    intro hy
    exact h ⟨hy.1, hy.2.1⟩

theorem parent_some (l x y : Int) : spec_l25Parent.f l x y = some (wrap64 (l - 1), wrap64 (Int.tdiv x 2), wrap64 (Int.tdiv y 2)) := rfl
theorem parent_some' (l x y : Int) : impl_Tile_parent.f l x y = some (wrap64 (l - 1), wrap64 (Int.tdiv x 2), wrap64 (Int.tdiv y 2)) := rfl
theorem pow_le (l : Int) (h : l ≤ 20) : (2 : Int) ^ l.toNat ≤ 1048576 := by
  have hp : (2 : Nat) ^ l.toNat ≤ 2 ^ 20 := Nat.pow_le_pow_right (by decide) (by omega)
  have hi : ((2 : Int) ^ l.toNat) = (((2 : Nat) ^ l.toNat : Nat) : Int) := by push_cast; rfl
  rw [hi]; omega
theorem parent_valid (l x y : Int) (h : Tl l x y) (hl : 1 ≤ l) : wrap64 (l - 1) = l - 1 ∧ wrap64 (Int.tdiv x 2) = x / 2 ∧ wrap64 (Int.tdiv y 2) = y / 2 ∧ Tl (l - 1) (x / 2) (y / 2) := by
  obtain ⟨h1, h2, h3, h4, h5, h6⟩ := h
  have hb := pow_le l h2
  have e : (2 : Int) ^ l.toNat = 2 * 2 ^ (l - 1).toNat := by
    rw [show l.toNat = (l - 1).toNat + 1 from by omega, Int.pow_succ]; omega
  refine ⟨w64 _ (by omega) (by omega), ?_, ?_, by omega, by omega, by omega, by omega, by omega, by omega⟩
  · rw [tdiv_pos _ _ h3, w64 _ (by omega) (by omega)]
  · rw [tdiv_pos _ _ h5, w64 _ (by omega) (by omega)]
end Go.Proofs.Ytdnehiakmaacgaa.Pure
