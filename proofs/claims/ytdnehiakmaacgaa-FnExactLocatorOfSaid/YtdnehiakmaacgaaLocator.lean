/- Locators: what the program and the reference compute of a valid point's cell, and its text. No condition. -/
import Derived.Test.YtdnehiakmaacgaaPx5
import Derived.Test.YtdnehiakmaacgaaPx26
import Derived.Test.YtdnehiakmaacgaaPx42
import Derived.Test.YtdnehiakmaacgaaPx43
import Derived.Test.YtdnehiakmaacgaaPx44
import Derived.Test.YtdnehiakmaacgaaPx45
import Derived.Test.YtdnehiakmaacgaaPx47
import Derived.Test.YtdnehiakmaacgaaPx48
import Derived.Test.YtdnehiakmaacgaaBase
namespace Go.Proofs.Ytdnehiakmaacgaa.Pure
open Go.RowKit Go.Proofs.Ytdnehiakmaacgaa.P Go.Proofs.YtdnehiakmaacgaaW.PrintWords Go.Proofs.YtdnehiakmaacgaaW.PrintLast

theorem in_some (a b c : Int) : spec_l00In.f a b c = some (decide (b ≤ a ∧ a ≤ c)) := by
  unfold spec_l00In.f
  by_cases h : b ≤ a
  · simp [h]
  · simp [h]
theorem within_some (a b c : Int) : impl_within.f a b c = some (decide (b ≤ a ∧ a ≤ c)) := in_some a b c

/-- A valid point. -/
abbrev Pt (lat lon : Int) : Prop := -900000000 ≤ lat ∧ lat ≤ 900000000 ∧ -1800000000 < lon ∧ lon ≤ 1800000000
theorem ok_some (lat lon : Int) : spec_l11Ok.f lat lon = some (decide (Pt lat lon)) := by
  unfold spec_l11Ok.f
  simp only [in_some, Option.bind_some]
  by_cases h : -900000000 ≤ lat ∧ lat ≤ 900000000
  · simp [h.1, h.2]
    constructor <;> (intro h2; omega)
  · rw [decide_eq_false h, if_neg (by decide)]
    congr 1
    symm
    rw [decide_eq_false_iff_not]
    omega
theorem valid_some (lat lon : Int) : impl_ValidPoint.f lat lon = some (decide (Pt lat lon)) := by
  unfold impl_ValidPoint.f
  simp only [within_some, Option.bind_some]
  by_cases h : -900000000 ≤ lat ∧ lat ≤ 900000000
  · rw [decide_eq_true h, if_pos rfl]
    by_cases h2 : lon > -1800000000
    · rw [if_pos h2]; congr 1; rw [decide_eq_decide]; omega
    · rw [if_neg h2]; congr 1; symm; rw [decide_eq_false_iff_not]; omega
  · rw [decide_eq_false h, if_neg (by decide)]
    congr 1
    symm
    rw [decide_eq_false_iff_not]
    omega

/-- The cell of a valid point, by both. -/
theorem cell_eq (lat lon c d : Int) (h : Pt lat lon) : ∃ x y, spec_l26Cell.f lat lon c d = some (x, y) ∧ impl_cellOf.f lat lon c d = some (x, y, c, d) := by
  obtain ⟨h1, h2, h3, h4⟩ := h
  unfold spec_l26Cell.f impl_cellOf.f spec_l26X.f spec_l26Y.f
  have ex : wrap64 (lon + 1800000000) = lon + 1800000000 := w64 _ (by omega) (by omega)
  have ey : wrap64 (lat + 900000000) = lat + 900000000 := w64 _ (by omega) (by omega)
  rw [ex, ey, tmod_pos _ _ (by omega)]
  have hx : (if lon + 1800000000 = 3600000000 then (some 0 : Option Int) else some (lon + 1800000000)) = some ((lon + 1800000000) % 3600000000) := by
    by_cases h : lon + 1800000000 = 3600000000
    · rw [if_pos h, h]; rfl
    · rw [if_neg h]; congr 1; omega
  have hy : (if lat + 900000000 = 1800000000 then (some (wrap64 (lat + 900000000 - 1)) : Option Int) else some (lat + 900000000)) = some (mn (lat + 900000000) 1799999999) := by
    unfold mn
    by_cases h : lat + 900000000 = 1800000000
    · rw [if_pos h, h]; decide +kernel
    · rw [if_neg h, if_neg (by omega)]
  rw [hx, hy]
  exact ⟨_, _, rfl, rfl⟩

theorem side_eq (a : Int) (h : 1 ≤ a ∧ a ≤ 5) : ∃ c, 1 ≤ c ∧ c ≤ 1036800 ∧ spec_l26Parts.f 8 a = some c ∧ impl_locatorSide.f 8 a = some c := by
  have : a = 1 ∨ a = 2 ∨ a = 3 ∨ a = 4 ∨ a = 5 := by omega
  rcases this with rfl | rfl | rfl | rfl | rfl
  · exact ⟨18, by decide, by decide, by decide +kernel, by decide +kernel⟩
  · exact ⟨180, by decide, by decide, by decide +kernel, by decide +kernel⟩
  · exact ⟨4320, by decide, by decide, by decide +kernel, by decide +kernel⟩
  · exact ⟨43200, by decide, by decide, by decide +kernel, by decide +kernel⟩
  · exact ⟨1036800, by decide, by decide, by decide +kernel, by decide +kernel⟩

theorem factor_some (i : Int) : ∃ p f, p ≠ 0 ∧ spec_l26Factor.f i = some (p, f) ∧ impl_locatorParts.f i = some (p, f) := by
  unfold spec_l26Factor.f impl_locatorParts.f
  repeat' split
  all_goals exact ⟨_, _, by decide, rfl, rfl⟩

/-- The text of a cell, by both, for at most five pairs. -/
theorem text_eq (c c' : Int) (d : Nat) : ∀ (x y : Int) (t : ByteArray), d ≤ 5 → t.size + 2 * d ≤ 10 → ∃ r, r.size = t.size + 2 * d ∧ spec_l26Locator.l0 (d + 1) x y t ((d : Int) - 1) = some r ∧ impl_locatorText.l0 (d + 1) t ((d : Int) - 1) x y c c' = some r := by
  induction d with
  | zero =>
    intro x y t _ _
    refine ⟨t, by omega, ?_, ?_⟩
    · simp only [spec_l26Locator.l0]; rw [if_neg (by decide)]
    · simp only [impl_locatorText.l0]; rw [if_neg (by decide)]
  | succ d ih =>
    intro x y t hd ht
    obtain ⟨p, f, hp, e1, e2⟩ := factor_some ((d : Int) + 1 - 1)
    obtain ⟨r, hr, h1, h2⟩ := ih (wrap64 (Int.tdiv x p)) (wrap64 (Int.tdiv y p)) (strOfNums [(f + ((Int.tmod x p) % 256)) % 256, (f + ((Int.tmod y p) % 256)) % 256] ++ t) (by omega) (by rw [ByteArray.size_append, strOfNums_size]; simp; omega)
    have hw : wrap64 ((d : Int) + 1 - 1 - 1) = (d : Int) - 1 := by rw [w64 _ (by omega) (by omega)]; omega
    refine ⟨r, by rw [hr, ByteArray.size_append, strOfNums_size]; simp; omega, ?_, ?_⟩
    · rw [spec_l26Locator.l0]
      rw [if_pos (by omega)]
      simp only [Int.natCast_add, Int.natCast_one, e1, Option.bind_some, if_neg hp]
      rw [if_pos (by rw [strOfNums_size]; simp; omega), hw, h1]
    · rw [impl_locatorText.l0]
      rw [if_pos (by omega)]
      simp only [Int.natCast_add, Int.natCast_one, e2, Option.bind_some, if_neg hp]
      rw [if_pos (by rw [strOfNums_size]; simp; omega), hw, h2]

theorem locText_eq (x y c c' a : Int) (h : 1 ≤ a ∧ a ≤ 5) : ∃ r, r.size = (2 * a).toNat ∧ (∀ k, 6 ≤ k → spec_l26Locator.f k x y a = some r) ∧ ∀ k, 6 ≤ k → impl_locatorText.f k x y c c' a = some r := by
  obtain ⟨d, rfl⟩ := Int.eq_ofNat_of_zero_le (a := a) (by omega)
  obtain ⟨r, hr, h1, h2⟩ := text_eq c c' d x y ⟨#[]⟩ (by omega) (by show 0 + 2 * d ≤ 10; omega)
  have hw : wrap64 ((d : Int) - 1) = (d : Int) - 1 := w64 _ (by omega) (by omega)
  have he : (⟨#[]⟩ : ByteArray).size = 0 := rfl
  refine ⟨r, by rw [hr, he]; omega, fun k hk => ?_, fun k hk => ?_⟩
  · exact at_rounds (g := fun k => spec_l26Locator.f k x y d) (fun k => spec_l26Locator.mono _ _ _ k) (k := d + 1) (by omega) (by unfold spec_l26Locator.f; rw [hw]; exact h1)
  · exact at_rounds (g := fun k => impl_locatorText.f k x y c c' d) (fun k => impl_locatorText.mono _ _ _ _ _ k) (k := d + 1) (by omega) (by unfold impl_locatorText.f; rw [hw]; exact h2)
end Go.Proofs.Ytdnehiakmaacgaa.Pure
