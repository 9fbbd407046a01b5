/- Steps of a pipeline: what is valid, by both. No condition. -/
import Derived.Test.YtmjcfggcbdknnaaJoinF
import Derived.Test.YtmjcfggcbdknnaaPBase
namespace Go.Proofs.Ytmjcfggcbdknnaa.Ev
open Go Go.RowKit
set_option linter.unusedSimpArgs false
set_option linter.unusedVariables false
theorem in_some (k : Nat) (a b c : Int) : spec_l00In k a b c = some [.b (decide (b ≤ a ∧ a ≤ c))] := by
  unfold spec_l00In
  by_cases h : b ≤ a
  · rw [bif_p h]; exact b_eq (by simp [h])
  · rw [bif_n (by omega)]; simp [h]
theorem within_some (k : Nat) (a b c : Int) : impl_within k a b c = some [.b (decide (b ≤ a ∧ a ≤ c))] := in_some k a b c
def Pt (a b : Int) : Prop := (-900000000 ≤ a ∧ a ≤ 900000000) ∧ -1799999999 ≤ b ∧ b ≤ 1800000000
instance (a b : Int) : Decidable (Pt a b) := by unfold Pt; infer_instance
theorem pt_some (k : Nat) (a b : Int) : spec_l11Ok k a b = some [.b (decide (Pt a b))] := by
  unfold spec_l11Ok
  simp only [in_some, Option.bind_some, gb0]
  by_cases h : -900000000 ≤ a ∧ a ≤ 900000000
  · rw [bif_p h]; exact b_eq (by simp only [Pt, h, true_and])
  · rw [bif_n h]; simp only [Pt, h, false_and, decide_false]
theorem point_some (k : Nat) (a b : Int) : impl_ValidPoint k a b = some [.b (decide (Pt a b))] := by
  unfold impl_ValidPoint
  simp only [within_some, Option.bind_some, gb0]
  by_cases h : -900000000 ≤ a ∧ a ≤ 900000000
  · rw [bif_p h]
    by_cases h2 : b > -1800000000
    · rw [bif_p h2]; exact b_eq (by simp only [Pt, h, true_and]; omega)
    · rw [bif_n h2]; simp only [Pt, h, true_and]; rw [decide_eq_false (by omega)]
  · rw [bif_n h]; simp only [Pt, h, false_and, decide_false]
theorem std_some (k : Nat) (a : Int) : spec_l17Standard k a = some [.b (decide (-890000000 ≤ a ∧ a ≤ 890000000))] := by
  unfold spec_l17Standard; simp only [in_some, Option.bind_some, gb0]
theorem standard_some (k : Nat) (a : Int) : impl_isStandard k a = some [.b (decide (-890000000 ≤ a ∧ a ≤ 890000000))] := by
  unfold impl_isStandard; simp only [within_some, Option.bind_some, gb0]
theorem azi_some (k : Nat) (a : Int) : impl_isAzimuthal k a = some [.b (decide (5 ≤ a ∧ a ≤ 9))] := by
  unfold impl_isAzimuthal; simp only [within_some, Option.bind_some, gb0]
theorem con_some (k : Nat) (a : Int) : impl_isConic k a = some [.b (decide (10 ≤ a ∧ a ≤ 12))] := by
  unfold impl_isConic; simp only [within_some, Option.bind_some, gb0]
theorem ellipsoid_eq (k : Nat) (a n d : Int) : ∃ r, spec_l12Ok k a n d = some [.b r] ∧ impl_ValidEllipsoid k a n d = some [.b r] := by
  unfold spec_l12Ok impl_ValidEllipsoid
  simp only [in_some, within_some, Option.bind_some, gb0]
  by_cases h1 : 1000 ≤ a ∧ a ≤ 100000000000
  · rw [bif_p h1, bif_p h1]
    by_cases h2 : 1 ≤ d ∧ d ≤ 1000000000000
    · rw [bif_p h2, bif_p h2]
      by_cases h3 : 0 ≤ n
      · rw [bif_p h3]; exact ⟨_, rfl, b_eq (by simp only [h3, true_and])⟩
      · rw [bif_n h3]; refine ⟨false, rfl, ?_⟩; rw [decide_eq_false (fun h => h3 h.1)]
    · rw [bif_n h2, bif_n h2]; exact ⟨false, rfl, rfl⟩
  · rw [bif_n h1, bif_n h1]; exact ⟨false, rfl, rfl⟩
theorem abs_some (k : Nat) (s : Int) (h : -2000000000 ≤ s ∧ s ≤ 2000000000) : impl_abs k s = some [.i (if s < 0 then -s else s)] := by
  unfold impl_abs
  rw [wr (0 - s) (by omega) (by omega)]
  dsimp only
  congr 3
  split <;> split <;> omega
theorem projection_eq (k : Nat) (p a b d e : Int) : ∃ r, spec_l17Ok k p a b d e = some [.b r] ∧ impl_ValidProjection k p a b d e = some [.b r] := by
  unfold spec_l17Ok impl_ValidProjection
  simp only [pt_some, point_some, std_some, standard_some, azi_some, con_some, within_some, Option.bind_some, gb0]
  by_cases h1 : Pt a b
  · simp only [h1, decide_true, Bool.not_true, cond_false]
    by_cases h2 : -890000000 ≤ d ∧ d ≤ 890000000
    · simp only [h2, and_self, decide_true, Bool.not_true, cond_false]
      by_cases h3 : -890000000 ≤ e ∧ e ≤ 890000000
      · simp only [h3, and_self, decide_true, Bool.not_true, cond_false]
        have hw : IntKind.wrap .i64 (d + e) = d + e := wr _ (by omega) (by omega)
        have hs := abs_some k (d + e) (by omega)
        obtain ⟨m, hm0⟩ : ∃ m, m = if d + e < 0 then -(d + e) else d + e := ⟨_, rfl⟩
        rw [← hm0] at hs
        by_cases hc : 10 ≤ p ∧ p ≤ 12
        · have hk : p = 10 ∨ p = 11 ∨ p = 12 := by omega
          have hm : (bif decide (d + e ≥ 10000000) then some [D.b true] else some [.b (decide (d + e ≤ -10000000))]) = some [.b (decide (m ≥ 10000000))] := by
            by_cases h : d + e ≥ 10000000
            · rw [bif_p h, decide_eq_true (by rw [hm0]; split <;> omega)]
            · rw [bif_n h]; exact b_eq (by rw [hm0]; split <;> omega)
          rcases hk with rfl | rfl | rfl <;> (simp [hw, hs, hm, gi0]; try exact decide_eq_decide.2 Iff.rfl)
        · by_cases hp : 1 ≤ p ∧ p ≤ 16
          · have hk : p = 1 ∨ p = 2 ∨ p = 3 ∨ p = 4 ∨ p = 5 ∨ p = 6 ∨ p = 7 ∨ p = 8 ∨ p = 9 ∨ p = 13 ∨ p = 14 ∨ p = 15 ∨ p = 16 := by omega
            rcases z0 a with ⟨ha, ha'⟩ | ⟨ha, ha'⟩ <;> rcases z0 d with ⟨hd, hd'⟩ | ⟨hd, hd'⟩ <;> rcases z0 e with ⟨he, he'⟩ | ⟨he, he'⟩ <;>
              rcases hk with rfl | rfl | rfl | rfl | rfl | rfl | rfl | rfl | rfl | rfl | rfl | rfl | rfl <;> simp [ha, hd, he, ha', hd', he']
          · have hq : ∀ i : Int, 1 ≤ i → i ≤ 16 → (p == i) = false := fun i _ _ => by rw [beq_eq_false_iff_ne]; omega
            rw [decide_eq_false hp]
            simp [hq 1 (by decide) (by decide), hq 2 (by decide) (by decide), hq 3 (by decide) (by decide), hq 4 (by decide) (by decide), hq 5 (by decide) (by decide), hq 6 (by decide) (by decide), hq 7 (by decide) (by decide), hq 8 (by decide) (by decide), hq 9 (by decide) (by decide), hq 10 (by decide) (by decide), hq 11 (by decide) (by decide), hq 12 (by decide) (by decide), hq 13 (by decide) (by decide), hq 14 (by decide) (by decide), hq 15 (by decide) (by decide), hq 16 (by decide) (by decide)]
      · simp only [h3, decide_false, Bool.not_false, cond_true]
        refine ⟨false, rfl, ?_⟩
        cases decide (1 ≤ p ∧ p ≤ 16) <;> rfl
    · simp only [h2, decide_false, Bool.not_false, cond_true]
      refine ⟨false, rfl, ?_⟩
      cases decide (1 ≤ p ∧ p ≤ 16) <;> rfl
  · simp only [h1, decide_false, Bool.not_false, cond_true]
    refine ⟨false, rfl, ?_⟩
    cases decide (1 ≤ p ∧ p ≤ 16) <;> rfl
theorem wn1 : IntKind.wrap .i64 1 = 1 := by decide
theorem wn2 : IntKind.wrap .i64 2 = 2 := by decide
theorem wn3 : IntKind.wrap .i64 3 = 3 := by decide
theorem areWithin3 (k : Nat) (hk : 5 ≤ k) (m a b c : Int) (hm : IntKind.wrap .i64 (-m) = -m) : impl_areWithin k m [[.i a], [.i b], [.i c]] = some [.b (decide (-m ≤ a ∧ a ≤ m) && (decide (-m ≤ b ∧ b ≤ m) && decide (-m ≤ c ∧ c ≤ m)))] := by
  obtain ⟨n, rfl⟩ : ∃ n, k = n + 5 := ⟨k - 5, by omega⟩
  simp [impl_areWithin, impl_areWithin_l0, within_some, hm, ri, gi, D.int, gb0, wn1, wn2, wn3]
  generalize decide (-m ≤ a) = p1
  generalize decide (a ≤ m) = p2
  generalize decide (-m ≤ b) = p3
  generalize decide (b ≤ m) = p4
  generalize decide (-m ≤ c) = p5
  generalize decide (c ≤ m) = p6
  cases p1 <;> cases p2 <;> cases p3 <;> cases p4 <;> cases p5 <;> cases p6 <;> rfl
theorem areWithin1 (k : Nat) (hk : 5 ≤ k) (m a : Int) (hm : IntKind.wrap .i64 (-m) = -m) : impl_areWithin k m [[.i a]] = some [.b (decide (-m ≤ a ∧ a ≤ m))] := by
  obtain ⟨n, rfl⟩ : ∃ n, k = n + 5 := ⟨k - 5, by omega⟩
  simp [impl_areWithin, impl_areWithin_l0, within_some, hm, ri, gi, D.int, gb0, wn1, wn2, wn3]
  generalize decide (-m ≤ a) = p1
  generalize decide (a ≤ m) = p2
  cases p1 <;> cases p2 <;> rfl
theorem shift_spec (k : Nat) (hk : 5 ≤ k) (a b c d e f g : Int) : spec_l23Ok k a b c d e f g = some [.b ((decide (-10000000 ≤ a ∧ a ≤ 10000000) && (decide (-10000000 ≤ b ∧ b ≤ 10000000) && decide (-10000000 ≤ c ∧ c ≤ 10000000))) && ((decide (-100000000 ≤ d ∧ d ≤ 100000000) && (decide (-100000000 ≤ e ∧ e ≤ 100000000) && decide (-100000000 ≤ f ∧ f ≤ 100000000))) && decide (-1000000 ≤ g ∧ g ≤ 1000000)))] := by
  obtain ⟨n, rfl⟩ : ∃ n, k = n + 5 := ⟨k - 5, by omega⟩
  have r0 : ri [[.i a], [.i b], [.i c]] 0 0 = a := rfl
  have r1 : ri [[.i a], [.i b], [.i c]] 1 0 = b := rfl
  have r2 : ri [[.i a], [.i b], [.i c]] 2 0 = c := rfl
  have s0 : ri [[.i d], [.i e], [.i f]] 0 0 = d := rfl
  have s1 : ri [[.i d], [.i e], [.i f]] 1 0 = e := rfl
  have s2 : ri [[.i d], [.i e], [.i f]] 2 0 = f := rfl
  unfold spec_l23Ok
  simp [spec_l23Ok_l0, in_some, r0, r1, r2, s0, s1, s2, gb0, wn1, wn2, wn3]
  generalize (decide (-10000000 ≤ a) && decide (a ≤ 10000000)) = p1
  generalize (decide (-10000000 ≤ b) && decide (b ≤ 10000000)) = p2
  generalize (decide (-10000000 ≤ c) && decide (c ≤ 10000000)) = p3
  generalize (decide (-100000000 ≤ d) && decide (d ≤ 100000000)) = q1
  generalize (decide (-100000000 ≤ e) && decide (e ≤ 100000000)) = q2
  generalize (decide (-100000000 ≤ f) && decide (f ≤ 100000000)) = q3
  cases p1 <;> cases p2 <;> cases p3 <;> cases q1 <;> cases q2 <;> cases q3 <;> rfl
theorem shift_eq (k : Nat) (hk : 5 ≤ k) (a b c d e f g : Int) : ∃ r, spec_l23Ok k a b c d e f g = some [.b r] ∧ impl_ValidShift k a b c d e f g = some [.b r] := by
  refine ⟨_, shift_spec k hk a b c d e f g, ?_⟩
  unfold impl_ValidShift
  rw [areWithin3 k hk _ a b c (by decide), areWithin3 k hk _ d e f (by decide), areWithin1 k hk _ g (by decide)]
  simp only [Option.bind_some, gb0]
  generalize (decide (-10000000 ≤ a ∧ a ≤ 10000000) && (decide (-10000000 ≤ b ∧ b ≤ 10000000) && decide (-10000000 ≤ c ∧ c ≤ 10000000))) = p
  generalize (decide (-100000000 ≤ d ∧ d ≤ 100000000) && (decide (-100000000 ≤ e ∧ e ≤ 100000000) && decide (-100000000 ≤ f ∧ f ≤ 100000000))) = q
  cases p <;> cases q <;> rfl
theorem step_eq (k : Nat) (hk : 5 ≤ k) (a0 a1 a2 a3 a4 a5 a6 a7 a8 a9 a10 a11 a12 a13 a14 a15 : Int) :
    ∃ r, spec_l27Step k a0 a1 a2 a3 a4 a5 a6 a7 a8 a9 a10 a11 a12 a13 a14 a15 = some [.b r] ∧ impl_ValidStep k a0 a1 a2 a3 a4 a5 a6 a7 a8 a9 a10 a11 a12 a13 a14 a15 = some [.b r] ∧ (r = true → 1 ≤ a0 ∧ a0 ≤ 7) := by
  obtain ⟨pr, p1, p2⟩ := projection_eq k a1 a2 a3 a4 a5
  obtain ⟨er, e1, e2⟩ := ellipsoid_eq k a6 a7 a8
  obtain ⟨sr, s1, s2⟩ := shift_eq k hk a9 a10 a11 a12 a13 a14 a15
  have n1 : ∀ j, gi [.i 0, .i 0, .i 0, .i 0, .i 0, .i 0, .i 0, .i 0, .i 0, .i 0, .i 0, .i 0, .i 0, .i 0, .i 0, .i 0] j = 0 := by
    intro j
    match j with
    | 0 | 1 | 2 | 3 | 4 | 5 | 6 | 7 | 8 | 9 | 10 | 11 | 12 | 13 | 14 | 15 => rfl
    | j + 16 => rfl
  unfold spec_l27Step impl_ValidStep spec_l27None spec_ValidProjection spec_ValidEllipsoid
  simp only [Option.bind_some, p1, p2, e1, e2, s1, s2, impl_isProjecting, impl_isMeasuring, impl_isShifting, n1, gb0, beq_self_eq_true, Bool.true_and, Bool.and_true]
  generalize (a1 == 0 && (a2 == 0 && (a3 == 0 && (a4 == 0 && (a5 == 0))))) = P
  generalize (a6 == 0 && (a7 == 0 && (a8 == 0))) = E
  generalize (a9 == 0 && (a10 == 0 && (a11 == 0 && (a12 == 0 && (a13 == 0 && (a14 == 0 && (a15 == 0))))))) = S
  have hc : a0 = 1 ∨ a0 = 2 ∨ a0 = 3 ∨ a0 = 4 ∨ a0 = 5 ∨ a0 = 6 ∨ a0 = 7 ∨ ∀ j : Int, 1 ≤ j → j ≤ 7 → (a0 == j) = false := by
    by_cases h : 1 ≤ a0 ∧ a0 ≤ 7
    · omega
    · exact .inr (.inr (.inr (.inr (.inr (.inr (.inr fun j h1 h2 => by rw [beq_eq_false_iff_ne]; omega))))))
  rcases hc with rfl | rfl | rfl | rfl | rfl | rfl | rfl | hc
  case inr.inr.inr.inr.inr.inr.inr =>
    simp only [hc 1 (by decide) (by decide), hc 2 (by decide) (by decide), hc 3 (by decide) (by decide), hc 4 (by decide) (by decide), hc 5 (by decide) (by decide), hc 6 (by decide) (by decide), hc 7 (by decide) (by decide), cond_false, gb0, Option.bind_some, Bool.false_and]
    exact ⟨false, rfl, rfl, fun h => by cases h⟩
  all_goals
    clear n1 p1 p2 e1 e2 s1 s2
    cases P <;> cases E <;> cases S <;> cases pr <;> cases er <;> cases sr <;> first | exact ⟨false, rfl, rfl, fun h => by cases h⟩ | exact ⟨true, rfl, rfl, fun _ => by decide⟩
end Go.Proofs.Ytmjcfggcbdknnaa.Ev
