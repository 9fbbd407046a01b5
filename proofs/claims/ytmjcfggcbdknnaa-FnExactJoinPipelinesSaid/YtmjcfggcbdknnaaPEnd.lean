/- A pipeline's steps: what form they lead to, by both. No condition. -/
import Derived.Test.YtmjcfggcbdknnaaPStep
import Derived.Test.YtmjcfggcbdknnaaPList
namespace Go.Proofs.Ytmjcfggcbdknnaa.Ev
open Go Go.RowKit
set_option linter.unusedSimpArgs false
set_option linter.unusedVariables false
theorem forms_eq (k : Nat) (a : Int) : ∃ p q : Int, spec_l27Forms k a = some [.i p, .i q] ∧ impl_StepForms k a = some [.i p, .i q] := by
  unfold spec_l27Forms impl_StepForms
  cases a == 1 <;> cases a == 2 <;> cases a == 3 <;> cases a == 4 <;> cases a == 5 <;> cases a == 6 <;> cases a == 7 <;> exact ⟨_, _, rfl, rfl⟩
theorem end_l0 (k : Nat) (hk : 5 ≤ k) (xs : List (List D)) (hn : xs.length ≤ 1048576) (d : Nat) : ∀ (f i : Int) (n : Nat), 0 ≤ i → i + d = xs.length →
    ∃ c f' i1 : Int, spec_l27End_l0 k (d + 1 + n) xs 0 false f i = some [.i c, .l xs, .i 0, .b false, .i f', .i i1] ∧ impl_formOf_l0 k (d + 1 + n) xs 0 false f xs xs.length i = some [.i c, .l xs, .i 0, .b false, .i f', .l xs, .i xs.length, .i i1] ∧ (c = 0 → ∀ j : Int, i ≤ j → j < xs.length → 1 ≤ ri xs j 0 ∧ ri xs j 0 ≤ 7) := by
  induction d with
  | zero =>
    intro f i n h0 h
    refine ⟨0, f, i, ?_, ?_, fun _ j h1 h2 => by omega⟩
    · rw [show 0 + 1 + n = n + 1 by omega, spec_l27End_l0]
      try dsimp only
      rw [bif_n (by omega)]
    · rw [show 0 + 1 + n = n + 1 by omega, impl_formOf_l0]
      try dsimp only
      rw [bif_n (by omega)]
  | succ d ih =>
    intro f i n h0 h
    obtain ⟨p, q, f1, f2⟩ := forms_eq k (ri xs i 0)
    obtain ⟨r, s1, s2, s3⟩ := step_eq k hk (ri xs i 0) (ri xs i 1) (ri xs i 2) (ri xs i 3) (ri xs i 4) (ri xs i 5) (ri xs i 6) (ri xs i 7) (ri xs i 8) (ri xs i 9) (ri xs i 10) (ri xs i 11) (ri xs i 12) (ri xs i 13) (ri xs i 14) (ri xs i 15)
    rw [show d + 1 + 1 + n = (d + 1 + n) + 1 by omega, spec_l27End_l0, impl_formOf_l0]
    try dsimp only
    rw [bif_p (show i < (xs.length : Int) by omega), bif_in h0 (by omega), bif_p (show i < (xs.length : Int) by omega), bif_in h0 (by omega)]
    simp only [bif_in h0 (show i < (xs.length : Int) by omega), f1, f2, s1, s2, Option.bind_some, gb0, gi0, giS]
    cases r with
    | false => exact ⟨1, f, i, rfl, rfl, fun h => by cases h⟩
    | true =>
      cases hf : p != f with
      | true => exact ⟨1, f, i, rfl, rfl, fun h => by cases h⟩
      | false =>
        simp only [Bool.not_true, cond_false]
        rw [wr _ (by omega) (by omega)]
        obtain ⟨c, f', i1, e1, e2, e3⟩ := ih q (i + 1) n (by omega) (by omega)
        refine ⟨c, f', i1, e1, e2, fun hc j h1 h2 => ?_⟩
        by_cases hj : j = i
        · subst hj; exact s3 rfl
        · exact e3 hc j (by omega) h2
theorem end_eq (k : Nat) (xs : List (List D)) (hn : xs.length ≤ 1048576) (hk : xs.length + 5 < k) : ∃ (q : Int) (b : Bool), spec_l27End k xs = some [.i q, .b b] ∧ impl_formOf k xs = some [.i q, .b b] ∧ (b = true → ∀ j : Int, 0 ≤ j → j < xs.length → 1 ≤ ri xs j 0 ∧ ri xs j 0 ≤ 7) := by
  obtain ⟨c, f', i1, e1, e2, e3⟩ := end_l0 k (by omega) xs hn xs.length 1 0 (k - (xs.length + 1)) (by omega) (by omega)
  rw [show xs.length + 1 + (k - (xs.length + 1)) = k by omega] at e1 e2
  unfold spec_l27End impl_formOf
  rw [e1, e2]
  by_cases hc : c = 0
  · subst hc
    exact ⟨f', decide ((xs.length : Int) ≤ 12), rfl, rfl, fun _ => e3 rfl⟩
  · exact ⟨0, false, bif_n hc _ _, bif_n hc _ _, fun h => by cases h⟩
end Go.Proofs.Ytmjcfggcbdknnaa.Ev
