/- The law FnExactGeorefBox: the program's GeorefBox and the reference's return the same corners. No condition. -/
import Derived.Test.YtajbomdeehaaiaaDoorPRead
namespace Go.Proofs.YtajbomdeehaaiaaDoor.Ev
open Go Go.RowKit
set_option linter.unusedSimpArgs false
set_option linter.unusedVariables false
theorem wrapLon_same (k : Nat) (n : Int) : ∃ r, spec_l11Wrap k n = some [.i r] ∧ impl_WrapLon k n = some [.i r] := by
  unfold spec_l11Wrap impl_WrapLon
  dsimp only
  have h1 : -3600000000 < Int.tmod n 3600000000 := Int.neg_lt_of_neg_lt (by have := Int.tmod_lt_of_pos (-n) (show (0 : Int) < 3600000000 by decide); rw [Int.neg_tmod] at this; omega)
  have h2 := Int.tmod_lt_of_pos n (show (0 : Int) < 3600000000 by decide)
  by_cases h : 1800000000 < Int.tmod n 3600000000
  · rw [bif_t (ltI_t h), bif_t (ltI_t h), wr _ (by omega) (by omega), bif_f (leI_f (by omega))]; exact ⟨_, rfl, rfl⟩
  · rw [bif_f (ltI_f (by omega)), bif_f (ltI_f (by omega))]
    cases leI (Int.tmod n 3600000000) (-1800000000) <;> exact ⟨_, rfl, rfl⟩
theorem box_same (k : Nat) (i j m n : Int) (hm : m ≠ 0) (hn : n ≠ 0) : ∃ a b c d, spec_l26Box k i j m n = some [.i a, .i b, .i c, .i d] ∧ impl_cell_box k i j m n = some [.i a, .i b, .i c, .i d] := by
  unfold spec_l26Box impl_cell_box spec_l26Ends impl_ceilDiv
  dsimp only
  rw [bif_f (eqI_f hm), bif_f (eqI_f hm), bif_f (eqI_f hn), bif_f (eqI_f hn), bif_f (eqI_f hn), bif_f (eqI_f hm), bif_f (eqI_f hn), bif_f (eqI_f hm)]
  simp only [Option.bind_some, gi0, giS]
  obtain ⟨a, a1, a2⟩ := wrapLon_same k (IntKind.wrap .i64 (IntKind.wrap .i64 (Int.tdiv (IntKind.wrap .i64 ((IntKind.wrap .i64 ((IntKind.wrap .i64 (i * 3600000000)) + m)) - 1)) m) - 1800000000))
  obtain ⟨b, b1, b2⟩ := wrapLon_same k (IntKind.wrap .i64 (IntKind.wrap .i64 ((IntKind.wrap .i64 (Int.tdiv (IntKind.wrap .i64 ((IntKind.wrap .i64 ((IntKind.wrap .i64 ((IntKind.wrap .i64 (i + 1)) * 3600000000)) + m)) - 1)) m)) - 1) - 1800000000))
  rw [a1, a2, b1, b2]
  simp only [Option.bind_some, gi0, giS, b1, b2]
  cases (j == IntKind.wrap .i64 (n - 1)) with
  | true => exact ⟨_, _, _, _, rfl, by rw [cond_true]; rfl⟩
  | false => exact ⟨_, _, _, _, rfl, rfl⟩
theorem FnExactGeorefBox_pure (s : ByteArray) (hs : s.size ≤ 140737488351232) : ∃ k, laws_FnExactGeorefBox k s = some [.b true] := by
  refine ⟨40, ?_⟩
  have hr : ∃ a b c d e, spec_GeorefBox 40 s = some [.i a, .i b, .i c, .i d, .b e] ∧ impl_GeorefBox 40 s = some [.i a, .i b, .i c, .i d, .b e] := by
    unfold spec_GeorefBox impl_GeorefBox
    rcases read_same s 40 (Nat.le_refl _) with ⟨e1, e2⟩ | ⟨i, j, lvl, e1, e2, hl, hi, hj⟩
    · rw [e1, e2]; exact ⟨0, 0, 0, 0, false, rfl, rfl⟩
    · have hm := mOf_in (lvl := lvl)
      obtain ⟨a, b, c, d, b1, b2⟩ := box_same 40 i j (mOf lvl) (mOf lvl / 2) (by omega) (by omega)
      rw [e1, e2]
      simp only [Option.bind_some, gb0, gbS, gi0, giS, Bool.not_true, cond_false, cond_true, grid_some 40 lvl hl, b1, b2]
      exact ⟨a, b, c, d, true, rfl, rfl⟩
  obtain ⟨a, b, c, d, e, e1, e2⟩ := hr
  have eq : ∀ x y, laws_eqPoint 40 x y x y = some [.b true] := by
    intro x y
    unfold laws_eqPoint
    rw [bif_f (bne_f rfl), bif_f (bne_f rfl)]
  unfold laws_FnExactGeorefBox
  simp only [e1, e2, Option.bind_some, gi0, giS, gb0, gbS, eq, Bool.not_true, cond_false]
  cases ltI 1048576 (s.size : Int) <;> cases e <;> rfl
end Go.Proofs.YtajbomdeehaaiaaDoor.Ev
