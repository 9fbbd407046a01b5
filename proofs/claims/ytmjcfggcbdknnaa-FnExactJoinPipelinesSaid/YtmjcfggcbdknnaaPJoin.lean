/- The law FnExactJoinPipelines: the program's JoinPipelines and the reference's return the same steps and code; what they return is their own, and they leave their arguments alone. No condition. -/
import Derived.Test.YtmjcfggcbdknnaaPEnd
namespace Go.Proofs.Ytmjcfggcbdknnaa.Ev
open Go Go.RowKit
set_option linter.unusedSimpArgs false
set_option linter.unusedVariables false
theorem grow_eq (k : Nat) (x : List (List D)) (m : Int) (h0 : 0 ≤ m) (h1 : m ≤ 1000000000) : slices_Grow k x m = some [.l []] := by
  unfold slices_Grow
  rw [bif_n (by omega), show IntKind.wrap .i64 (0 - 0) = 0 by decide, Int.sub_zero, wr m (by omega) (by omega)]
  try dsimp only
  by_cases h : m > 0
  · rw [bif_p h, bif_and (by omega) (by omega), bif_and (by omega) (by omega)]; rfl
  · rw [bif_n h]
theorem concat_eq (k : Nat) (hk : 5 ≤ k) (a b : List (List D)) (h : a.length + b.length ≤ 10000000) : slices_Concat k [[.l a], [.l b]] = some [.l (a ++ b)] := by
  obtain ⟨n, rfl⟩ : ∃ n, k = n + 5 := ⟨k - 5, by omega⟩
  have r0 : rl [[.l a], [.l b]] 0 0 = a := rfl
  have r1 : rl [[.l a], [.l b]] 1 0 = b := rfl
  have w1 : IntKind.wrap .i64 (a.length : Int) = a.length := wr _ (by omega) (by omega)
  have w2 : IntKind.wrap .i64 ((a.length : Int) + b.length) = (a.length : Int) + b.length := wr _ (by omega) (by omega)
  have d1 : decide ((a.length : Int) < 0) = false := decide_eq_false (by omega)
  have d2 : decide ((a.length : Int) + b.length < 0) = false := decide_eq_false (by omega)
  have e0 : slices_Concat_l0 (n + 5) (n + 5) [[.l a], [.l b]] [] 0 [[.l a], [.l b]] 2 0 = some [.i 0, .l [[.l a], [.l b]], .l [], .i ((a.length : Int) + b.length), .l [[.l a], [.l b]], .i 2, .i 2] := by
    simp [slices_Concat_l0, r0, r1, w1, w2, d1, d2, wn1, wn2]
  have c1 : a.length * 128 ≤ 140737488355328 := by omega
  have c2 : a.length ≤ 4611686018427387904 := by omega
  have c3 : (a.length + b.length) * 128 ≤ 140737488355328 := by omega
  have c4 : a.length + b.length ≤ 4611686018427387904 := by omega
  have e2 : ∀ x, slices_Concat_l2 (n + 5) (n + 5) x [] [[.l a], [.l b]] 2 0 = some [.i 0, .l x, .l (a ++ b), .l [[.l a], [.l b]], .i 2, .i 2] := by
    intro x
    simp [slices_Concat_l2, r0, r1, c1, c2, c3, c4, wn1, wn2]
  unfold slices_Concat
  rw [show ((List.length [[D.l a], [.l b]] : Nat) : Int) = 2 from rfl, e0]
  simp only [Option.bind_some, gi0, giS, gl0, glS, grow_eq _ _ _ (show (0 : Int) ≤ (a.length : Int) + b.length by omega) (by omega)]
  rw [show ((List.length [[D.l a], [.l b]] : Nat) : Int) = 2 from rfl, e2]
  rfl
theorem join_eq (k : Nat) (xs ys : List (List D)) (hx : xs.length ≤ 1048576) (hy : ys.length ≤ 1048576) (hkx : xs.length + 5 < k) (hky : ys.length + 5 < k) : ∃ (r : List (List D)) (c : Int), r.length ≤ 12 ∧ spec_JoinPipelines k xs ys = some [.l r, .i c] ∧ impl_JoinPipelines k xs ys = some [.l r, .i c] := by
  obtain ⟨q, b, h1, h2, _⟩ := end_eq k xs hx hkx
  obtain ⟨q', b', g1, g2, _⟩ := end_eq k ys hy hky
  unfold spec_JoinPipelines impl_JoinPipelines spec_l27Ok impl_ValidPipeline
  simp only [h1, h2, g1, g2, Option.bind_some, gb0, gi0, gbS]
  cases b with
  | false => exact ⟨[], 1, Nat.zero_le _, rfl, rfl⟩
  | true =>
    cases b' with
    | false => exact ⟨[], 1, Nat.zero_le _, rfl, rfl⟩
    | true =>
      simp only [Bool.not_true, cond_false]
      cases hq : q != 1 with
      | true => exact ⟨[], 6, Nat.zero_le _, rfl, rfl⟩
      | false =>
        simp only [cond_false]
        rw [wr _ (by omega) (by omega)]
        by_cases h12 : (xs.length : Int) + ys.length > 12
        · rw [bif_p h12, bif_p h12]; exact ⟨[], 5, Nat.zero_le _, rfl, rfl⟩
        · rw [bif_n h12, bif_n h12, concat_eq k (by omega) xs ys (by omega)]
          refine ⟨xs ++ ys, 0, by rw [List.length_append]; omega, ?_, rfl⟩
          rw [bif_and (by simp; omega) (by simp; omega), bif_and (by simp; omega) (by simp; omega)]
          rfl
theorem join_law (ps qs : List (List D)) (h0 : ps.length ≤ 9223372036854775807) (h1 : qs.length ≤ 9223372036854775807) : ∃ k, laws_FnExactJoinPipelines k ps qs = some [.b true] := by
  refine ⟨ps.length + qs.length + 30, ?_⟩
  generalize hk : ps.length + qs.length + 30 = k
  unfold laws_FnExactJoinPipelines
  rw [szStepS_some k ps 1048576 (by decide) (by decide) h0]
  simp only [Option.bind_some, gi0]
  by_cases h : (1048576 : Int) < ps.length
  · rw [if_pos h]; rfl
  · rw [if_neg h]
    refine (bif_n (show ¬ (1048576 : Int) - ps.length < 0 by omega) _ _).trans ?_
    rw [szStepS_some k qs _ (show (0 : Int) ≤ 1048576 - ps.length by omega) (by omega) h1]
    simp only [Option.bind_some, gi0]
    by_cases h' : (1048576 : Int) - ps.length < qs.length
    · rw [if_pos h']; rfl
    · rw [if_neg h']
      refine (bif_n (show ¬ (1048576 : Int) - ps.length - qs.length < 0 by omega) _ _).trans ?_
      have hna : ps.length ≤ 1048576 := by omega
      have hnb : qs.length ≤ 1048576 := by omega
      have hma : (ps.map nrm).length = ps.length := List.length_map _
      have hmb : (qs.map nrm).length = qs.length := List.length_map _
      obtain ⟨r, c, hr, e1, e2⟩ := join_eq k (ps.map nrm) (qs.map nrm) (by omega) (by omega) (by omega) (by omega)
      obtain ⟨ya, m1⟩ := markStepS_m k (ps.map nrm) 1 (by omega) (by omega) (by omega) (by omega)
      obtain ⟨yb, m2⟩ := markStepS_m k (qs.map nrm) (1 + 16 * (ps.map nrm).length) (by omega) (by omega) (by omega) (by omega)
      obtain ⟨m3, yr, hm3, q3, q4⟩ := markStepS_held k r (by omega) (by omega)
      have u1 : laws_eqStepS k r r = some [.b true] := eqStepS_refl k r (by omega) (by omega)
      have u2 : laws_eqStepS k (ps.map nrm) (ps.map nrm) = some [.b true] := eqStepS_refl k _ (by omega) (by omega)
      have u3 : laws_eqStepS k (qs.map nrm) (qs.map nrm) = some [.b true] := eqStepS_refl k _ (by omega) (by omega)
      simp only [toStepS_some k ps hna (by omega), toStepS_some k qs hnb (by omega), e1, e2, u1, u2, u3, m1, m2, q3, q4, Option.bind_some, gl0, gi0, gb0, giS, glS, gbS, bne_self_eq_false, Bool.not_true, cond_false]
      refine (bif_n (show ¬ (1 + 16 * ((ps.map nrm).length : Int)) + 16 * ((qs.map nrm).length : Int) < 0 by omega) _ _).trans ?_
      refine (bif_n (show ¬ m3 < 0 by omega) _ _).trans ?_
      exact bif_n (show ¬ m3 < 0 by omega) _ _
/-- The law, in the row's form. -/
theorem FnExactJoinPipelines_pure (zs ws : List (List Int)) (h1 : ∀ z ∈ zs, z.length = 16) (h2 : ∀ z ∈ zs, ∀ n ∈ z, (Lit.int .i64 n).wf = true) (h3 : zs.length ≤ 9223372036854775807) (g1 : ∀ z ∈ ws, z.length = 16) (g2 : ∀ z ∈ ws, ∀ n ∈ z, (Lit.int .i64 n).wf = true) (g3 : ws.length ≤ 9223372036854775807) : ∃ k, laws_FnExactJoinPipelines k (zs.map fun z => z.map D.i) (ws.map fun z => z.map D.i) = some [.b true] := join_law _ _ (by rw [List.length_map]; exact h3) (by rw [List.length_map]; exact g3)
end Go.Proofs.Ytmjcfggcbdknnaa.Ev
