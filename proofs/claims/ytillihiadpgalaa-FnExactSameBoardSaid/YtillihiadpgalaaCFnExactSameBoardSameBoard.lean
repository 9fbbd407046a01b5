/- The law FnExactSameBoard: the program's SameBoard and the reference's return the same, and leave their arguments alone. No condition. -/
import Derived.Test.YtillihiadpgalaaCFnExactSameBoardx6
import Derived.Test.YtillihiadpgalaaCFnExactSameBoardToPoints
import Derived.Test.YtillihiadpgalaaCFnExactSameBoardEqPoint
namespace Go.Proofs.Ytillihiadpgalaa.Pure
open Go.RowKit Go.Proofs.Ytillihiadpgalaa.P Go.Proofs.YtillihiadpgalaaW.PrintWords Go.Proofs.YtillihiadpgalaaW.PrintLast

theorem same_l0 (a0 a1 a2 a3 a4 a5 a6 a7 b0 b1 b2 b3 b4 b5 b6 b7 : Int) (xs ys : List S25) (hn : xs.length ≤ 1048576) (he : xs.length = ys.length) (d : Nat) : ∀ i : Int, 0 ≤ i → i + d = xs.length →
    ∃ r, spec_SameBoard.l0 (d + 1) i a0 a1 a2 a3 a4 a5 a6 a7 xs b0 b1 b2 b3 b4 b5 b6 b7 ys = some r ∧ impl_Point.l0 (d + 1) xs ys xs.length i = some r := by
  induction d with
  | zero =>
    intro i h0 h
    exact ⟨true, by rw [spec_SameBoard.l0, if_neg (by omega)], by rw [impl_Point.l0, if_neg (by omega)]⟩
  | succ d ih =>
    intro i h0 h
    rw [spec_SameBoard.l0, impl_Point.l0, if_pos (by omega), if_pos (by omega)]
    simp only [if_pos h0, if_pos (show i < (xs.length : Int) by omega), if_pos (show i < (ys.length : Int) by omega)]
    split
    · exact ⟨false, rfl, rfl⟩
    · rw [w64 _ (by omega) (by omega)]
      exact ih (i + 1) (by omega) (by omega)

theorem sameBoard_eq (a0 a1 a2 a3 a4 a5 a6 a7 b0 b1 b2 b3 b4 b5 b6 b7 : Int) (xs ys : List S25) (hn : xs.length ≤ 1048576) (k : Nat) (hk : xs.length + 2 < k) :
    ∃ r, spec_SameBoard.f k a0 a1 a2 a3 a4 a5 a6 a7 xs b0 b1 b2 b3 b4 b5 b6 b7 ys = some r ∧ impl_SameBoard.f k a0 a1 a2 a3 a4 a5 a6 a7 xs b0 b1 b2 b3 b4 b5 b6 b7 ys = some r := by
  obtain ⟨k, rfl⟩ : ∃ m, k = m + 1 := ⟨k - 1, by omega⟩
  unfold spec_SameBoard.f impl_SameBoard.f
  have n1 : (!(a0 == b0) || (!(a1 == b1) || (!(a2 == b2)))) = !(a0 == b0 && (a1 == b1 && (a2 == b2))) := by cases a0 == b0 <;> cases a1 == b1 <;> cases a2 == b2 <;> rfl
  have n2 : (!(a3 == b3) || (!(a4 == b4) || (!(a5 == b5) || (!(a6 == b6) || (!(a7 == b7)))))) = !(a3 == b3 && (a4 == b4 && (a5 == b5 && (a6 == b6 && (a7 == b7))))) := by cases a3 == b3 <;> cases a4 == b4 <;> cases a5 == b5 <;> cases a6 == b6 <;> cases a7 == b7 <;> rfl
  rw [n1, n2]
  cases a0 == b0 && (a1 == b1 && (a2 == b2)) with
  | false => exact ⟨false, by rw [if_pos (show (!false) = true from rfl), spec_SameBoard.j0, if_pos rfl], by rw [if_neg (by decide)]⟩
  | true =>
    cases a3 == b3 && (a4 == b4 && (a5 == b5 && (a6 == b6 && (a7 == b7)))) with
    | false => exact ⟨false, by rw [if_neg (by decide), if_pos (show (!false) = true from rfl), spec_SameBoard.j0, if_pos rfl], by rw [if_pos rfl, if_neg (by decide)]⟩
    | true =>
      rw [if_neg (by decide), if_neg (by decide), if_pos rfl, if_pos rfl, spec_SameBoard.j0]
      unfold impl_Point.f
      by_cases he : xs.length = ys.length
      · obtain ⟨r, h1, h2⟩ := same_l0 a0 a1 a2 a3 a4 a5 a6 a7 b0 b1 b2 b3 b4 b5 b6 b7 xs ys hn he xs.length 0 (by omega) (by omega)
        refine ⟨r, ?_, ?_⟩
        · rw [he, bne_self_eq_false, if_neg (by decide)]
          exact at_rounds (g := fun k => spec_SameBoard.l0 k 0 a0 a1 a2 a3 a4 a5 a6 a7 xs b0 b1 b2 b3 b4 b5 b6 b7 ys) (fun k => (spec_SameBoard.mono_l k).2 _ _ _ _ _ _ _ _ _ _ _ _ _ _ _ _ _ _ _) (k := xs.length + 1) (by omega) h1
        · rw [if_pos (by omega), at_rounds (g := fun k => impl_Point.l0 k xs ys xs.length 0) (fun k => impl_Point.mono_l k _ _ _ _) (k := xs.length + 1) (k' := k + 1) (by omega) h2]
          rfl
      · refine ⟨false, ?_, ?_⟩
        · rw [show ((xs.length : Int) != (ys.length : Int)) = true by rw [bne_iff_ne]; omega, if_pos rfl]
        · rw [if_neg (by omega)]
          rfl

theorem eqBoard_refl (a0 a1 a2 a3 a4 a5 a6 a7 : Int) (xs : List S25) (hn : xs.length ≤ 1048576) (k : Nat) (hk : xs.length < k) : laws_eqBoard.f k a0 a1 a2 a3 a4 a5 a6 a7 xs a0 a1 a2 a3 a4 a5 a6 a7 xs = some true := by
  simp only [laws_eqBoard.f, laws_eqEllipsoid.f, laws_eqProjection.f, if_true, Option.bind_some, eqPointS_refl xs (by omega) k hk]

theorem toBoard_some (a0 a1 a2 a3 a4 a5 a6 a7 : Int) (xs : List S23) (hn : xs.length ≤ 1048576) (k : Nat) (hk : xs.length < k) : laws_toBoard.f k a0 a1 a2 a3 a4 a5 a6 a7 xs = some (a0, a1, a2, a3, a4, a5, a6, a7, xs.map cvPt) := by
  simp only [laws_toBoard.f, laws_toEllipsoid.f, laws_toProjection.f, Option.bind_some, toPointS_some xs hn k hk]

theorem FnExactSameBoard (a0 a1 a2 a3 a4 a5 a6 a7 : Int) (xs : List S23) (b0 b1 b2 b3 b4 b5 b6 b7 : Int) (ys : List S23) (hx : xs.length ≤ 9223372036854775807) (hy : ys.length ≤ 9223372036854775807) :
    ∃ k, laws_FnExactSameBoard.f k a0 a1 a2 a3 a4 a5 a6 a7 xs b0 b1 b2 b3 b4 b5 b6 b7 ys = some true := by
  unfold laws_FnExactSameBoard.f laws_szBoard.f
  rw [szPointS_some xs 1048576 (by decide) (by decide) hx]
  simp only [Option.bind_some]
  by_cases h : (1048576 : Int) < xs.length
  · exact ⟨0, by rw [if_pos h]; rfl⟩
  · rw [if_neg h, if_neg (by omega)]
    simp only [Option.bind_some]
    rw [szPointS_some ys _ (by omega) (by omega) hy]
    simp only [Option.bind_some]
    by_cases h2 : (1048576 : Int) - xs.length < ys.length
    · exact ⟨0, by rw [if_neg (by omega), if_pos h2]; rfl⟩
    · have hn : xs.length ≤ 1048576 := by omega
      have hm : ys.length ≤ 1048576 := by omega
      have hl : (xs.map cvPt).length = xs.length := List.length_map _
      have hl2 : (ys.map cvPt).length = ys.length := List.length_map _
      obtain ⟨r, e1, e2⟩ := sameBoard_eq a0 a1 a2 a3 a4 a5 a6 a7 b0 b1 b2 b3 b4 b5 b6 b7 (xs.map cvPt) (ys.map cvPt) (by omega) (xs.length + ys.length + 4) (by omega)
      refine ⟨xs.length + ys.length + 4, ?_⟩
      rw [if_neg (by omega), if_neg h2, if_neg (by omega)]
      simp only [Option.bind_some]
      rw [if_neg (by omega), toBoard_some _ _ _ _ _ _ _ _ xs hn _ (by omega), toBoard_some _ _ _ _ _ _ _ _ ys hm _ (by omega)]
      simp only [Option.bind_some, e1, e2, bne_self_eq_false]
      rw [if_neg (by decide), eqBoard_refl _ _ _ _ _ _ _ _ _ (by omega) _ (by omega), eqBoard_refl _ _ _ _ _ _ _ _ _ (by omega) _ (by omega)]
      rfl
end Go.Proofs.Ytillihiadpgalaa.Pure
