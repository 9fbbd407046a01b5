/- Shifts of the datum: what is valid, by both. No condition. -/
import Derived.Test.YtillihiadpgalaaCFnExactValidPipelinex7
import Derived.Test.YtillihiadpgalaaCFnExactValidPipelinex11
import Derived.Test.YtillihiadpgalaaCFnExactValidPipelineIn
namespace Go.Proofs.Ytillihiadpgalaa.Pure
open Go.RowKit Go.Proofs.Ytillihiadpgalaa.P Go.Proofs.YtillihiadpgalaaW.PrintWords Go.Proofs.YtillihiadpgalaaW.PrintLast

theorem areWithin3 (n : Nat) (m a b c : Int) (hm : wrap64 (-m) = -m) : impl_areWithin.f (n + 5) m [a, b, c] = some (decide (-m ≤ a ∧ a ≤ m) && (decide (-m ≤ b ∧ b ≤ m) && decide (-m ≤ c ∧ c ≤ m))) := by
  have w1 : wrap64 (0 + 1) = 1 := by decide +kernel
  have w2 : wrap64 (1 + 1) = 2 := by decide +kernel
  have w3 : wrap64 (2 + 1) = 3 := by decide +kernel
  have r0 : rd [a, b, c] 0 = a := rfl
  have r1 : rd [a, b, c] 1 = b := rfl
  have r2 : rd [a, b, c] 2 = c := rfl
  have hl : (([a, b, c] : List Int).length : Int) = 3 := rfl
  unfold impl_areWithin.f
  rw [hl, impl_areWithin.l0, if_pos (show (0 : Int) < 3 by decide), if_pos (show (0 : Int) ≤ 0 by decide), if_pos (show (0 : Int) < (([a, b, c] : List Int).length : Int) by rw [hl]; decide), within_some, hm, r0, Option.bind_some, w1]
  rw [impl_areWithin.l0, if_pos (show (1 : Int) < 3 by decide), if_pos (show (0 : Int) ≤ 1 by decide), if_pos (show (1 : Int) < (([a, b, c] : List Int).length : Int) by rw [hl]; decide), within_some, hm, r1, Option.bind_some, w2]
  rw [impl_areWithin.l0, if_pos (show (2 : Int) < 3 by decide), if_pos (show (0 : Int) ≤ 2 by decide), if_pos (show (2 : Int) < (([a, b, c] : List Int).length : Int) by rw [hl]; decide), within_some, hm, r2, Option.bind_some, w3]
  rw [impl_areWithin.l0, if_neg (show ¬ (3 : Int) < 3 by decide)]
  generalize decide (-m ≤ a ∧ a ≤ m) = p
  generalize decide (-m ≤ b ∧ b ≤ m) = q
  generalize decide (-m ≤ c ∧ c ≤ m) = s
  cases p <;> cases q <;> cases s <;> rfl

theorem areWithin1 (n : Nat) (m a : Int) (hm : wrap64 (-m) = -m) : impl_areWithin.f (n + 5) m [a] = some (decide (-m ≤ a ∧ a ≤ m)) := by
  have w1 : wrap64 (0 + 1) = 1 := by decide +kernel
  have r0 : rd [a] 0 = a := rfl
  have hl : (([a] : List Int).length : Int) = 1 := rfl
  unfold impl_areWithin.f
  rw [hl, impl_areWithin.l0, if_pos (show (0 : Int) < 1 by decide), if_pos (show (0 : Int) ≤ 0 by decide), if_pos (show (0 : Int) < (([a] : List Int).length : Int) by rw [hl]; decide), within_some, hm, r0, Option.bind_some, w1]
  rw [impl_areWithin.l0, if_neg (show ¬ (1 : Int) < 1 by decide)]
  generalize decide (-m ≤ a ∧ a ≤ m) = p
  cases p <;> rfl

theorem shift_eq (n : Nat) (a b c d e f g : Int) : ∃ r, spec_l23Ok.f (n + 5) a b c d e f g = some r ∧ impl_ValidShift.f (n + 5) a b c d e f g = some r := by
  have w1 : wrap64 (0 + 1) = 1 := by decide +kernel
  have w2 : wrap64 (1 + 1) = 2 := by decide +kernel
  have w3 : wrap64 (2 + 1) = 3 := by decide +kernel
  unfold impl_ValidShift.f
  rw [areWithin3 n _ a b c (by decide +kernel), areWithin3 n _ d e f (by decide +kernel), areWithin1 n _ g (by decide +kernel)]
  simp only [Option.bind_some]
  unfold spec_l23Ok.f
  have hl : (([a, b, c] : List Int).length : Int) = 3 := rfl
  have hl2 : (([d, e, f] : List Int).length : Int) = 3 := rfl
  have r0 : rd [a, b, c] 0 = a := rfl
  have r1 : rd [a, b, c] 1 = b := rfl
  have r2 : rd [a, b, c] 2 = c := rfl
  have s0 : rd [d, e, f] 0 = d := rfl
  have s1 : rd [d, e, f] 1 = e := rfl
  have s2 : rd [d, e, f] 2 = f := rfl
  rw [spec_l23Ok.l0, if_pos (show (0 : Int) < 3 by decide), if_pos (show (0 : Int) ≤ 0 by decide), if_pos (show (0 : Int) < (([a, b, c] : List Int).length : Int) by rw [hl]; decide)]
  simp only [if_pos (show (0 : Int) < (([d, e, f] : List Int).length : Int) by rw [hl2]; decide)]
  rw [r0, s0, w1]
  rw [spec_l23Ok.l0, if_pos (show (1 : Int) < 3 by decide), if_pos (show (0 : Int) ≤ 1 by decide), if_pos (show (1 : Int) < (([a, b, c] : List Int).length : Int) by rw [hl]; decide)]
  simp only [if_pos (show (1 : Int) < (([d, e, f] : List Int).length : Int) by rw [hl2]; decide)]
  rw [r1, s1, w2]
  rw [spec_l23Ok.l0, if_pos (show (2 : Int) < 3 by decide), if_pos (show (0 : Int) ≤ 2 by decide), if_pos (show (2 : Int) < (([a, b, c] : List Int).length : Int) by rw [hl]; decide)]
  simp only [if_pos (show (2 : Int) < (([d, e, f] : List Int).length : Int) by rw [hl2]; decide)]
  rw [r2, s2, w3]
  rw [spec_l23Ok.l0, if_neg (show ¬ (3 : Int) < 3 by decide)]
  simp only [in_some, Option.bind_some]
  generalize decide (-10000000 ≤ a ∧ a ≤ 10000000) = p0
  generalize decide (-10000000 ≤ b ∧ b ≤ 10000000) = p1
  generalize decide (-10000000 ≤ c ∧ c ≤ 10000000) = p2
  generalize decide (-100000000 ≤ d ∧ d ≤ 100000000) = p3
  generalize decide (-100000000 ≤ e ∧ e ≤ 100000000) = p4
  generalize decide (-100000000 ≤ f ∧ f ≤ 100000000) = p5
  generalize decide (-1000000 ≤ g ∧ g ≤ 1000000) = p6
  cases p0 <;> cases p1 <;> cases p2 <;> cases p3 <;> cases p4 <;> cases p5 <;> exact ⟨_, rfl, rfl⟩
end Go.Proofs.Ytillihiadpgalaa.Pure
