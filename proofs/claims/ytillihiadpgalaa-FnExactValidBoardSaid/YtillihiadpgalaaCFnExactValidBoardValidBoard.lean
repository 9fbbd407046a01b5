/- The law FnExactValidBoard: the program's ValidBoard and the reference's return the same, and leave their argument alone. No condition. -/
import Derived.Test.YtillihiadpgalaaCFnExactValidBoardx6
import Derived.Test.YtillihiadpgalaaCFnExactValidBoardBoards
import Derived.Test.YtillihiadpgalaaCFnExactValidBoardProjection
namespace Go.Proofs.Ytillihiadpgalaa.Pure
open Go.RowKit Go.Proofs.Ytillihiadpgalaa.P Go.Proofs.YtillihiadpgalaaW.PrintWords Go.Proofs.YtillihiadpgalaaW.PrintLast

theorem points_l0 (a0 a1 a2 a3 a4 a5 a6 a7 : Int) (r : Bool) (xs : List S25) (hn : xs.length ≤ 1048576) (d : Nat) (hr : ∀ n, ((spec_l12Ok.f a0 a1 a2).bind fun t160 => (if t160 = true then ((spec_l17Ok.f (n + 4) a3 a4 a5 a6 a7).bind fun t161 => (if t161 = true then (some (decide ((xs.length : Int) ≤ 24), a0, a1, a2, a3, a4, a5, a6, a7)) else (some (false, a0, a1, a2, a3, a4, a5, a6, a7)))) else (some (false, a0, a1, a2, a3, a4, a5, a6, a7)))) = some (r, a0, a1, a2, a3, a4, a5, a6, a7)) : ∀ i : Int, 0 ≤ i → i + d = xs.length →
    ∃ q, spec_l28Ok.l0 (d + 5) i a0 a1 a2 a3 a4 a5 a6 a7 xs = some (q && r, a0, a1, a2, a3, a4, a5, a6, a7) ∧ impl_areAllValid.l0 (d + 1) xs xs.length i = some q := by
  induction d with
  | zero =>
    intro i h0 h
    refine ⟨true, ?_, by rw [impl_areAllValid.l0, if_neg (by omega)]⟩
    rw [spec_l28Ok.l0, if_neg (by omega), Bool.true_and]
    exact hr 0
  | succ d ih =>
    intro i h0 h
    rw [spec_l28Ok.l0, impl_areAllValid.l0, if_pos (show i < (xs.length : Int) by omega), if_pos h0, if_pos (show i < (xs.length : Int) by omega), if_pos (show i < (xs.length : Int) by omega), ok_some, valid_some, Option.bind_some, Option.bind_some]
    split
    · rw [w64 _ (by omega) (by omega)]
      exact ih (i + 1) (by omega) (by omega)
    · exact ⟨false, rfl, rfl⟩

theorem validBoard_eq (a0 a1 a2 a3 a4 a5 a6 a7 : Int) (xs : List S25) (hn : xs.length ≤ 1048576) (k : Nat) (hk : xs.length + 5 < k) :
    ∃ r, spec_ValidBoard.f k a0 a1 a2 a3 a4 a5 a6 a7 xs = some r ∧ impl_ValidBoard.f k a0 a1 a2 a3 a4 a5 a6 a7 xs = some r := by
  obtain ⟨b, e1, e2⟩ := ellipsoid_eq a0 a1 a2
  have hj : ∃ c, ∀ n, spec_l17Ok.f (n + 4) a3 a4 a5 a6 a7 = some c ∧ impl_ValidProjection.f (n + 4) a3 a4 a5 a6 a7 = some c := by
    obtain ⟨c, c1, c2⟩ := projection_eq a3 a4 a5 a6 a7 0
    exact ⟨c, fun n => ⟨at_rounds (g := fun k => spec_l17Ok.f k a3 a4 a5 a6 a7) (fun k => spec_l17Ok.mono _ _ _ _ _ k) (k := 4) (by omega) c1, at_rounds (g := fun k => impl_ValidProjection.f k a3 a4 a5 a6 a7) (fun k => impl_ValidProjection.mono _ _ _ _ _ k) (k := 4) (by omega) c2⟩⟩
  obtain ⟨c, hc⟩ := hj
  obtain ⟨q, h1, h2⟩ := points_l0 a0 a1 a2 a3 a4 a5 a6 a7 (b && (c && decide ((xs.length : Int) ≤ 24))) xs hn xs.length (fun n => by
    rw [e1, Option.bind_some, (hc n).1, Option.bind_some]
    cases b <;> cases c <;> simp) 0 (by omega) (by omega)
  refine ⟨q && (b && (c && decide ((xs.length : Int) ≤ 24))), ?_, ?_⟩
  · unfold spec_ValidBoard.f spec_l28Ok.f
    rw [at_rounds (g := fun k => spec_l28Ok.l0 k 0 a0 a1 a2 a3 a4 a5 a6 a7 xs) (fun k => spec_l28Ok.mono_l k _ _ _ _ _ _ _ _ _ _) (k := xs.length + 5) (by omega) h1]
    rfl
  · unfold impl_ValidBoard.f impl_areAllValid.f
    obtain ⟨n, rfl⟩ : ∃ n, k = n + 4 := ⟨k - 4, by omega⟩
    rw [e2, Option.bind_some, (hc n).2, Option.bind_some, at_rounds (g := fun k => impl_areAllValid.l0 k xs xs.length 0) (fun k => impl_areAllValid.mono_l k _ _ _) (k := xs.length + 1) (by omega) h2]
    by_cases hl : (xs.length : Int) ≤ 24 <;> cases b <;> cases c <;> cases q <;> simp [hl]

theorem FnExactValidBoard (a0 a1 a2 a3 a4 a5 a6 a7 : Int) (xs : List S23) (hx : xs.length ≤ 9223372036854775807) :
    ∃ k, laws_FnExactValidBoard.f k a0 a1 a2 a3 a4 a5 a6 a7 xs = some true := by
  unfold laws_FnExactValidBoard.f laws_szBoard.f
  rw [szPointS_some xs 1048576 (by decide) (by decide) hx, Option.bind_some]
  by_cases h : (1048576 : Int) < xs.length
  · exact ⟨0, by rw [if_pos h]; rfl⟩
  · have hn : xs.length ≤ 1048576 := by omega
    have hl : (xs.map cvPt).length = xs.length := List.length_map _
    obtain ⟨r, e1, e2⟩ := validBoard_eq a0 a1 a2 a3 a4 a5 a6 a7 (xs.map cvPt) (by omega) (xs.length + 6) (by omega)
    refine ⟨xs.length + 6, ?_⟩
    rw [if_neg h, if_neg (by omega), Option.bind_some, if_neg (by omega), toBoard_some _ _ _ _ _ _ _ _ xs hn _ (by omega)]
    simp only [Option.bind_some, e1, e2, bne_self_eq_false]
    rw [if_neg (by decide), eqBoard_refl _ _ _ _ _ _ _ _ _ (by omega) _ (by omega)]
    rfl
end Go.Proofs.Ytillihiadpgalaa.Pure
