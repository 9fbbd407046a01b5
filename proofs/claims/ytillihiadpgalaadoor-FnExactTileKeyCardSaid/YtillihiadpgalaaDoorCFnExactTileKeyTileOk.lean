/- Tiles: levels, sides, validity: what both sides compute. No condition. -/
import Derived.Test.YtillihiadpgalaaDoorCFnExactTileKeyx1
import Derived.Test.YtillihiadpgalaaDoorCFnExactTileKeyBase
import Derived.Test.YtillihiadpgalaaDoorCFnExactTileKeyIn
namespace Go.Proofs.YtillihiadpgalaaDoor.Pure
open Go.RowKit Go.Proofs.YtillihiadpgalaaDoor.P Go.Proofs.YtillihiadpgalaaDoorW.PrintWords Go.Proofs.YtillihiadpgalaaDoorW.PrintLast

theorem side_val (a : Int) (h0 : 0 ≤ a) (h1 : a ≤ 20) : ∃ s : Int, s = 2 ^ a.toNat ∧ 1 ≤ s ∧ s ≤ 1048576 ∧ spec_l25Count.f a = some s ∧ impl_side.f a = some s := by
  have e : IntKind.u64.wrap a = a := u64w a h0 (by omega)
  have hp : (2 : Nat) ^ a.toNat ≤ 2 ^ 20 := Nat.pow_le_pow_right (by decide) (by omega)
  have hp1 : 1 ≤ (2 : Nat) ^ a.toNat := Nat.one_le_two_pow
  have hi : ((2 : Int) ^ a.toNat) = (((2 : Nat) ^ a.toNat : Nat) : Int) := by push_cast; rfl
  have hs : shl .i64 1 a = 2 ^ a.toNat := by
    unfold shl
    rw [Nat.min_eq_left (by show a.toNat ≤ 64; omega), Int.one_mul, Go.Proofs.YtillihiadpgalaaDoorW.PrintLast.i64_w, w64 _ (by rw [hi]; omega) (by rw [hi]; omega)]
  refine ⟨2 ^ a.toNat, rfl, by rw [hi]; omega, by rw [hi]; omega, ?_, ?_⟩
  · unfold spec_l25Count.f; rw [e, if_pos h0, hs]
  · unfold impl_side.f; rw [if_pos h0, hs]

/-- A valid tile. -/
abbrev Tl (l x y : Int) : Prop := 0 ≤ l ∧ l ≤ 20 ∧ 0 ≤ x ∧ x < 2 ^ l.toNat ∧ 0 ≤ y ∧ y < 2 ^ l.toNat

theorem level_some (l : Int) : spec_l25Level.f l = some (decide (0 ≤ l ∧ l ≤ 20)) := by unfold spec_l25Level.f; rw [in_some]; rfl
theorem isLevel_some (l : Int) : impl_isLevel.f l = some (decide (0 ≤ l ∧ l ≤ 20)) := level_some l

theorem isCell_some (n l : Int) (h : 0 ≤ l ∧ l ≤ 20) : impl_isCell.f n l = some (decide (0 ≤ n ∧ n < 2 ^ l.toNat)) := by
  obtain ⟨s, hs, h1, h2, _, e2⟩ := side_val l h.1 h.2
  unfold impl_isCell.f
  rw [e2]
  simp only [Option.bind_some, within_some]
  rw [w64 _ (by omega) (by omega), ← hs]
  congr 1
  rw [decide_eq_decide]
  omega

theorem ok_tile (l x y : Int) : spec_l25Ok.f l x y = some (decide (Tl l x y), l, x, y) := by
  unfold spec_l25Ok.f
  rw [level_some]
  simp only [Option.bind_some]
  by_cases h : 0 ≤ l ∧ l ≤ 20
  · rw [decide_eq_true h, if_pos rfl]
    obtain ⟨s, hs, h1, h2, e1, _⟩ := side_val l h.1 h.2
    rw [e1]
    simp only [Option.bind_some, in_some]
    rw [w64 _ (by omega) (by omega)]
    by_cases hx : 0 ≤ x ∧ x ≤ s - 1
    · rw [decide_eq_true hx, if_pos rfl]
      congr 2
      rw [decide_eq_decide]
      show 0 ≤ y ∧ y ≤ s - 1 ↔ 0 ≤ l ∧ l ≤ 20 ∧ 0 ≤ x ∧ x < 2 ^ l.toNat ∧ 0 ≤ y ∧ y < 2 ^ l.toNat
      rw [← hs]
      omega
    · rw [decide_eq_false hx, if_neg (by decide)]
      congr 2
      symm
      rw [decide_eq_false_iff_not]
      show ¬ (0 ≤ l ∧ l ≤ 20 ∧ 0 ≤ x ∧ x < 2 ^ l.toNat ∧ 0 ≤ y ∧ y < 2 ^ l.toNat)
      rw [← hs]
      omega
  · rw [decide_eq_false h, if_neg (by decide)]
    congr 2
    symm
    rw [decide_eq_false_iff_not]
    omega

theorem valid_tile (l x y : Int) : impl_ValidTile.f l x y = some (decide (Tl l x y)) := by
  unfold impl_ValidTile.f
  rw [isLevel_some]
  simp only [Option.bind_some]
  by_cases h : 0 ≤ l ∧ l ≤ 20
  · rw [decide_eq_true h, if_pos rfl, isCell_some x l h]
    simp only [Option.bind_some]
    by_cases hx : 0 ≤ x ∧ x < 2 ^ l.toNat
    · rw [decide_eq_true hx, if_pos rfl, isCell_some y l h]
      simp only [Option.bind_some]
      congr 1
      rw [decide_eq_decide]
      constructor
      · intro hy; exact ⟨h.1, h.2, hx.1, hx.2, hy.1, hy.2⟩
      · intro hy; exact ⟨hy.2.2.2.2.1, hy.2.2.2.2.2⟩
    · rw [decide_eq_false hx, if_neg (by decide)]
      congr 1
      symm
      rw [decide_eq_false_iff_not]
      intro hy
      exact hx ⟨hy.2.2.1, hy.2.2.2.1⟩
  · rw [decide_eq_false h, if_neg (by decide)]
    congr 1
    symm
    rw [decide_eq_false_iff_not]
    intro hy
    exact h ⟨hy.1, hy.2.1⟩

end Go.Proofs.YtillihiadpgalaaDoor.Pure
