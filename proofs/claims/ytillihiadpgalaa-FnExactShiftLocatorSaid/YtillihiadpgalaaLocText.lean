/- The text of a locator's cell, by both. No condition. -/
import Derived.Test.YtillihiadpgalaaPx16
import Derived.Test.YtillihiadpgalaaPx18
import Derived.Test.YtillihiadpgalaaBase
namespace Go.Proofs.Ytillihiadpgalaa.Pure
open Go.RowKit Go.Proofs.Ytillihiadpgalaa.P Go.Proofs.YtillihiadpgalaaW.PrintWords Go.Proofs.YtillihiadpgalaaW.PrintLast

theorem factor_some (i : Int) : ∃ p f, p ≠ 0 ∧ spec_l26Factor.f i = some (p, f) ∧ impl_locatorParts.f i = some (p, f) := by
  unfold spec_l26Factor.f impl_locatorParts.f
  repeat' split
  all_goals exact ⟨_, _, by decide, rfl, rfl⟩

/-- The text of a cell, by both, for at most five pairs. -/
theorem text_eq (c c' : Int) (d : Nat) : ∀ (x y : Int) (t : ByteArray), d ≤ 5 → t.size + 2 * d ≤ 10 → ∃ r, r.size = t.size + 2 * d ∧ spec_l26Locator.l0 (d + 1) x y t ((d : Int) - 1) = some r ∧ impl_locatorText.l0 (d + 1) t ((d : Int) - 1) x y c c' = some r := by
  induction d with
  | zero =>
    intro x y t _ _
    refine ⟨t, by omega, ?_, ?_⟩
    · simp only [spec_l26Locator.l0]; rw [if_neg (by decide)]
    · simp only [impl_locatorText.l0]; rw [if_neg (by decide)]
  | succ d ih =>
    intro x y t hd ht
    obtain ⟨p, f, hp, e1, e2⟩ := factor_some ((d : Int) + 1 - 1)
    obtain ⟨r, hr, h1, h2⟩ := ih (wrap64 (Int.tdiv x p)) (wrap64 (Int.tdiv y p)) (strOfNums [(f + ((Int.tmod x p) % 256)) % 256, (f + ((Int.tmod y p) % 256)) % 256] ++ t) (by omega) (by rw [ByteArray.size_append, strOfNums_size]; simp; omega)
    have hw : wrap64 ((d : Int) + 1 - 1 - 1) = (d : Int) - 1 := by rw [w64 _ (by omega) (by omega)]; omega
    refine ⟨r, by rw [hr, ByteArray.size_append, strOfNums_size]; simp; omega, ?_, ?_⟩
    · rw [spec_l26Locator.l0]
      rw [if_pos (by omega)]
      simp only [Int.natCast_add, Int.natCast_one, e1, Option.bind_some, if_neg hp]
      rw [if_pos (by rw [strOfNums_size]; simp; omega), hw, h1]
    · rw [impl_locatorText.l0]
      rw [if_pos (by omega)]
      simp only [Int.natCast_add, Int.natCast_one, e2, Option.bind_some, if_neg hp]
      rw [if_pos (by rw [strOfNums_size]; simp; omega), hw, h2]

theorem locText_eq (x y c c' a : Int) (h : 1 ≤ a ∧ a ≤ 5) : ∃ r, r.size = (2 * a).toNat ∧ (∀ k, 6 ≤ k → spec_l26Locator.f k x y a = some r) ∧ ∀ k, 6 ≤ k → impl_locatorText.f k x y c c' a = some r := by
  obtain ⟨d, rfl⟩ := Int.eq_ofNat_of_zero_le (a := a) (by omega)
  obtain ⟨r, hr, h1, h2⟩ := text_eq c c' d x y ⟨#[]⟩ (by omega) (by show 0 + 2 * d ≤ 10; omega)
  have hw : wrap64 ((d : Int) - 1) = (d : Int) - 1 := w64 _ (by omega) (by omega)
  have he : (⟨#[]⟩ : ByteArray).size = 0 := rfl
  refine ⟨r, by rw [hr, he]; omega, fun k hk => ?_, fun k hk => ?_⟩
  · exact at_rounds (g := fun k => spec_l26Locator.f k x y d) (fun k => spec_l26Locator.mono _ _ _ k) (k := d + 1) (by omega) (by unfold spec_l26Locator.f; rw [hw]; exact h1)
  · exact at_rounds (g := fun k => impl_locatorText.f k x y c c' d) (fun k => impl_locatorText.mono _ _ _ _ _ k) (k := d + 1) (by omega) (by unfold impl_locatorText.f; rw [hw]; exact h2)
end Go.Proofs.Ytillihiadpgalaa.Pure
