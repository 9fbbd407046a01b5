/- The law FnExactOppositePipeline: the program's OppositePipeline and the reference's return the same steps and code; what they return is their own, and they leave their argument alone. No condition. -/
import Derived.Test.YtmjcfggcbdknnaaPStep
import Derived.Test.YtmjcfggcbdknnaaPList
namespace Go.Proofs.Ytmjcfggcbdknnaa.Ev
open Go Go.RowKit
set_option linter.unusedSimpArgs false
set_option linter.unusedVariables false
theorem forms_eq (k : Nat) (a : Int) : ∃ p q : Int, spec_l27Forms k a = some [.i p, .i q] ∧ impl_StepForms k a = some [.i p, .i q] := by
  unfold spec_l27Forms impl_StepForms
  cases a == 1 <;> cases a == 2 <;> cases a == 3 <;> cases a == 4 <;> cases a == 5 <;> cases a == 6 <;> cases a == 7 <;> exact ⟨_, _, rfl, rfl⟩
theorem end_l0 (k : Nat) (hk : 5 ≤ k) (xs : List (List D)) (hn : xs.length ≤ 1048576) (d : Nat) : ∀ (f i : Int) (n : Nat), 0 ≤ i → i + d = xs.length →
    ∃ c f' i1 : Int, spec_l27End_l0 k (d + 1 + n) xs 0 false f i = some [.i c, .l xs, .i 0, .b false, .i f', .i i1] ∧ impl_formOf_l0 k (d + 1 + n) xs 0 false f xs xs.length i = some [.i c, .l xs, .i 0, .b false, .i f', .l xs, .i xs.length, .i i1] ∧ (c = 0 → ∀ j : Int, i ≤ j → j < xs.length → 1 ≤ ri xs j 0 ∧ ri xs j 0 ≤ 7) := by
  induction d with
  | zero =>
    intro f i n h0 h
    refine ⟨0, f, i, ?_, ?_, fun _ j h1 h2 => by omega⟩
    · rw [show 0 + 1 + n = n + 1 by omega, spec_l27End_l0]
      try dsimp only
      rw [bif_n (by omega)]
    · rw [show 0 + 1 + n = n + 1 by omega, impl_formOf_l0]
      try dsimp only
      rw [bif_n (by omega)]
  | succ d ih =>
    intro f i n h0 h
    obtain ⟨p, q, f1, f2⟩ := forms_eq k (ri xs i 0)
    obtain ⟨r, s1, s2, s3⟩ := step_eq k hk (ri xs i 0) (ri xs i 1) (ri xs i 2) (ri xs i 3) (ri xs i 4) (ri xs i 5) (ri xs i 6) (ri xs i 7) (ri xs i 8) (ri xs i 9) (ri xs i 10) (ri xs i 11) (ri xs i 12) (ri xs i 13) (ri xs i 14) (ri xs i 15)
    rw [show d + 1 + 1 + n = (d + 1 + n) + 1 by omega, spec_l27End_l0, impl_formOf_l0]
    try dsimp only
    rw [bif_p (show i < (xs.length : Int) by omega), bif_in h0 (by omega), bif_p (show i < (xs.length : Int) by omega), bif_in h0 (by omega)]
    simp only [bif_in h0 (show i < (xs.length : Int) by omega), f1, f2, s1, s2, Option.bind_some, gb0, gi0, giS]
    cases r with
    | false => exact ⟨1, f, i, rfl, rfl, fun h => by cases h⟩
    | true =>
      cases hf : p != f with
      | true => exact ⟨1, f, i, rfl, rfl, fun h => by cases h⟩
      | false =>
        simp only [Bool.not_true, cond_false]
        rw [wr _ (by omega) (by omega)]
        obtain ⟨c, f', i1, e1, e2, e3⟩ := ih q (i + 1) n (by omega) (by omega)
        refine ⟨c, f', i1, e1, e2, fun hc j h1 h2 => ?_⟩
        by_cases hj : j = i
        · subst hj; exact s3 rfl
        · exact e3 hc j (by omega) h2
theorem end_eq (k : Nat) (xs : List (List D)) (hn : xs.length ≤ 1048576) (hk : xs.length + 5 < k) : ∃ (q : Int) (b : Bool), spec_l27End k xs = some [.i q, .b b] ∧ impl_formOf k xs = some [.i q, .b b] ∧ (b = true → ∀ j : Int, 0 ≤ j → j < xs.length → 1 ≤ ri xs j 0 ∧ ri xs j 0 ≤ 7) := by
  obtain ⟨c, f', i1, e1, e2, e3⟩ := end_l0 k (by omega) xs hn xs.length 1 0 (k - (xs.length + 1)) (by omega) (by omega)
  rw [show xs.length + 1 + (k - (xs.length + 1)) = k by omega] at e1 e2
  unfold spec_l27End impl_formOf
  rw [e1, e2]
  by_cases hc : c = 0
  · subst hc
    exact ⟨f', decide ((xs.length : Int) ≤ 12), rfl, rfl, fun _ => e3 rfl⟩
  · exact ⟨0, false, bif_n hc _ _, bif_n hc _ _, fun h => by cases h⟩
theorem back_same (k : Nat) (a : Int) (h : 1 ≤ a ∧ a ≤ 7) (h7 : ¬ a = 7) : spec_l27Back k a = some [.i (List.getD [0, 2, 1, 4, 3, 6, 5, 7] (Int.toNat a) 0)] := by
  have hc : a = 1 ∨ a = 2 ∨ a = 3 ∨ a = 4 ∨ a = 5 ∨ a = 6 := by omega
  rcases hc with rfl | rfl | rfl | rfl | rfl | rfl <;> rfl
theorem opp_l0 (k : Nat) (xs : List (List D)) (hn : xs.length ≤ 1048576) (hk : ∀ j : Int, 0 ≤ j → j < xs.length → 1 ≤ ri xs j 0 ∧ ri xs j 0 ≤ 7) (d : Nat) : ∀ (acc : List (List D)) (i : Int) (n : Nat), i = (d : Int) - 1 → d ≤ xs.length → acc.length + 2 * d ≤ 10000000 →
    ∃ (r : List (List D)) (i1 : Int), r.length ≤ acc.length + 2 * d ∧ spec_OppositePipeline_l0 k (d + 1 + n) xs [] 0 acc i = some [.i 0, .l xs, .l [], .i 0, .l r, .i i1] ∧ impl_OppositePipeline_l1 k (d + 1 + n) xs [] 0 acc i = some [.i 0, .l xs, .l [], .i 0, .l r, .i i1] := by
  induction d with
  | zero =>
    intro acc i n hi hd ha
    refine ⟨acc, i, by omega, ?_, ?_⟩
    · rw [show 0 + 1 + n = n + 1 by omega, spec_OppositePipeline_l0, bif_n (by omega)]
    · rw [show 0 + 1 + n = n + 1 by omega, impl_OppositePipeline_l1, bif_n (by omega)]
  | succ d ih =>
    intro acc i n hi hd ha
    have hki := hk i (by omega) (by omega)
    rw [show d + 1 + 1 + n = (d + 1 + n) + 1 by omega, spec_OppositePipeline_l0, impl_OppositePipeline_l1, bif_p (show i ≥ 0 by omega), bif_p (show i ≥ 0 by omega)]
    simp only [bif_in (show 0 ≤ i by omega) (show i < (xs.length : Int) by omega), wr (i - 1) (by omega) (by omega)]
    by_cases h7 : ri xs i 0 = 7
    · have hb : (ri xs i 0 == 7) = true := by rw [h7]; rfl
      simp only [hb, cond_true]
      obtain ⟨r, i1, h1, h2, h3⟩ := ih acc (i - 1) n (by omega) (by omega) (by omega)
      exact ⟨r, i1, by omega, h2, h3⟩
    · have hb : (ri xs i 0 == 7) = false := by rw [beq_eq_false_iff_ne]; exact h7
      simp only [hb, cond_false, back_same k _ hki h7, impl_Step_opposite]
      rw [bif_in (show 0 ≤ ri xs i 0 by omega) (show ri xs i 0 < 8 by omega)]
      simp only [Option.bind_some, gi0, giS]
      obtain ⟨p, q, e1, e2⟩ := forms_eq k (List.getD [0, 2, 1, 4, 3, 6, 5, 7] (Int.toNat (ri xs i 0)) 0)
      have key : ∀ acc' : List (List D), acc'.length ≤ acc.length + 2 → ∃ (r : List (List D)) (i1 : Int), r.length ≤ acc.length + 2 * (d + 1) ∧ spec_OppositePipeline_l0 k (d + 1 + n) xs [] 0 acc' (i - 1) = some [.i 0, .l xs, .l [], .i 0, .l r, .i i1] ∧ impl_OppositePipeline_l1 k (d + 1 + n) xs [] 0 acc' (i - 1) = some [.i 0, .l xs, .l [], .i 0, .l r, .i i1] := fun acc' h => by
        obtain ⟨r, i1, h1, h2, h3⟩ := ih acc' (i - 1) n (by omega) (by omega) (by omega)
        exact ⟨r, i1, by omega, h2, h3⟩
      rw [bif_and, bif_and]
      rotate_left
      · simp only [List.length_cons, List.length_nil]; omega
      · simp only [List.length_cons, List.length_nil]; omega
      · simp only [List.length_cons, List.length_nil]; omega
      · simp only [List.length_cons, List.length_nil]; omega
      simp only [e1, e2, Option.bind_some, gi0, giS]
      cases hq : q == 4 with
      | true =>
        simp only [cond_true]
        erw [bif_and, bif_and]
        · refine key _ ?_
          simp only [List.length_append, List.length_cons, List.length_nil]
          omega
        all_goals (simp only [List.length_append, List.length_cons, List.length_nil]; omega)
      | false =>
        simp only [cond_false]
        refine key _ ?_
        simp only [List.length_append, List.length_cons, List.length_nil]
        omega
theorem opposite_eq (k : Nat) (xs : List (List D)) (hn : xs.length ≤ 1048576) (hk : xs.length + 5 < k) : ∃ (r : List (List D)) (c : Int), r.length ≤ 2 * xs.length ∧ spec_OppositePipeline k xs = some [.l r, .i c] ∧ impl_OppositePipeline k xs = some [.l r, .i c] := by
  obtain ⟨q, b, h1, h2, h3⟩ := end_eq k xs hn hk
  unfold spec_OppositePipeline impl_OppositePipeline
  simp only [h1, h2, Option.bind_some, gb0, gi0, gbS]
  cases b with
  | false => exact ⟨[], 1, Nat.zero_le _, rfl, rfl⟩
  | true =>
    simp only [Bool.not_true, cond_false]
    cases hq : q != 1 with
    | true => exact ⟨[], 6, Nat.zero_le _, rfl, rfl⟩
    | false =>
      simp only [cond_false]
      obtain ⟨r, i1, e0, e1, e2⟩ := opp_l0 k xs hn (h3 rfl) xs.length [] ((xs.length : Int) - 1) (k - (xs.length + 1)) rfl (Nat.le_refl _) (by simp; omega)
      rw [show xs.length + 1 + (k - (xs.length + 1)) = k by omega] at e1 e2
      rw [wr _ (by omega) (by omega), e1, e2]
      exact ⟨r, 0, by simpa using e0, rfl, rfl⟩
theorem opp_law (zs : List (List D)) (h0 : zs.length ≤ 9223372036854775807) : ∃ k, laws_FnExactOppositePipeline k zs = some [.b true] := by
  refine ⟨2 * zs.length + 15, ?_⟩
  generalize hk : 2 * zs.length + 15 = k
  unfold laws_FnExactOppositePipeline
  rw [szStepS_some k zs 1048576 (by decide) (by decide) h0]
  simp only [Option.bind_some, gi0]
  by_cases h : (1048576 : Int) < zs.length
  · rw [if_pos h]; erw [bif_p (show (-1 : Int) < 0 by decide)]
  · rw [if_neg h]; erw [bif_n (show ¬ (1048576 : Int) - zs.length < 0 by omega)]
    have hn : zs.length ≤ 1048576 := by omega
    have hm : (zs.map nrm).length = zs.length := List.length_map _
    obtain ⟨r, c, hr, e1, e2⟩ := opposite_eq k (zs.map nrm) (by omega) (by omega)
    obtain ⟨m1, ys1, hm1, q1, q2⟩ := markStepS_held k (zs.map nrm) (by omega) (by omega)
    obtain ⟨m2, ys2, hm2, q3, q4⟩ := markStepS_held k r (by omega) (by omega)
    have u1 : laws_eqStepS k r r = some [.b true] := eqStepS_refl k r (by omega) (by omega)
    have u2 : laws_eqStepS k (zs.map nrm) (zs.map nrm) = some [.b true] := eqStepS_refl k _ (by omega) (by omega)
    simp only [toStepS_some k zs hn (by omega), e1, e2, u1, u2, q1, q3, q4, Option.bind_some, gl0, gi0, gb0, giS, glS, gbS, bne_self_eq_false, Bool.not_true, cond_false]
    refine (bif_n (show ¬ m1 < 0 by omega) _ _).trans ?_
    refine (bif_n (show ¬ m2 < 0 by omega) _ _).trans ?_
    exact bif_n (show ¬ m2 < 0 by omega) _ _
/-- The law, in the row's form. -/
theorem FnExactOppositePipeline_pure (zs : List (List Int)) (h1 : ∀ z ∈ zs, z.length = 16) (h2 : ∀ z ∈ zs, ∀ n ∈ z, (Lit.int .i64 n).wf = true) (h3 : zs.length ≤ 9223372036854775807) : ∃ k, laws_FnExactOppositePipeline k (zs.map fun z => z.map D.i) = some [.b true] := opp_law _ (by rw [List.length_map]; exact h3)
end Go.Proofs.Ytmjcfggcbdknnaa.Ev
