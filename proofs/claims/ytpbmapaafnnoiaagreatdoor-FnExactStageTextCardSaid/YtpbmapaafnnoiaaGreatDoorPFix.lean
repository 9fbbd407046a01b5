/- Fixes: products and quotients, rounded, by both. No condition. -/
import Derived.Test.YtpbmapaafnnoiaaGreatDoorPWideI
import Derived.Test.YtpbmapaafnnoiaaGreatDoorPIn
namespace Go.Proofs.YtpbmapaafnnoiaaGreatDoor.Ev
open Go Go.RowKit
set_option linter.unusedSimpArgs false
set_option linter.unusedVariables false
def fixB (a : Int) : Bool := leI (-1152921504606846976) a && leI a 1152921504606846976
theorem fixB_iff {a : Int} : fixB a = true ↔ -1152921504606846976 ≤ a ∧ a ≤ 1152921504606846976 := by unfold fixB; simp only [Bool.and_eq_true, leI_iff]
theorem fixB_f {a : Int} : fixB a = false ↔ ¬ (-1152921504606846976 ≤ a ∧ a ≤ 1152921504606846976) := by rw [← fixB_iff]; simp
theorem l03Ok_some (k : Nat) (a : Int) : spec_l03Ok k a = some [.b (fixB a)] := by unfold spec_l03Ok; rw [in_some]; rfl
theorem validFix_some (k : Nat) (a : Int) : impl_ValidFix k a = some [.b (fixB a)] := by unfold impl_ValidFix; rw [within_some]; rfl
/-- A number, if there is one and it is a fix. -/
def endR (n : Int) (b : Bool) : List D := bif b && fixB n then [.i n, .b true] else [.i 0, .b false]
theorem l03End_some (k : Nat) (n : Int) (b : Bool) : spec_l03End k n b = some (endR n b) := by
  unfold spec_l03End endR
  rw [l03Ok_some]
  cases b <;> cases h : fixB n <;> simp [h, gb0]
theorem fixed_some (k : Nat) (n : Int) (b : Bool) : impl_fixed k n b = some (endR n b) := by
  unfold impl_fixed endR
  rw [validFix_some]
  cases b <;> cases h : fixB n <;> simp [h, gb0]
theorem endR_form (n : Int) (b : Bool) : ∃ m o, endR n b = [.i m, .b o] ∧ fixB m = true ∧ (o = false → m = 0) := by
  unfold endR
  cases b with
  | false => exact ⟨0, false, rfl, rfl, fun _ => rfl⟩
  | true => cases h : fixB n with
    | false => exact ⟨0, false, by simp [h], rfl, fun _ => rfl⟩
    | true => exact ⟨n, true, by simp [h], h, fun h => by cases h⟩
theorem fix_I64 {a : Int} (h : fixB a = true) : I64 a := by have := fixB_iff.1 h; exact ⟨by omega, by omega⟩
theorem intR_form (N : Int) : ∃ m o, intR N = [.i m, .b o] := by unfold intR; split <;> exact ⟨_, _, rfl⟩
theorem mulDown_same (k : Nat) (a b : Int) : ∃ m o, spec_l03MulDown k a b = some [.i m, .b o] ∧ impl_MulDown k a b = some [.i m, .b o] ∧ fixB m = true ∧ (o = false → m = 0) ∧ ((fixB a && fixB b) = false → m = 0 ∧ o = false) := by
  unfold spec_l03MulDown impl_MulDown
  rw [l03Ok_some, l03Ok_some, validFix_some, validFix_some]
  simp only [Option.bind_some, gb0]
  cases ha : fixB a with
  | false => exact ⟨0, false, rfl, rfl, rfl, fun _ => rfl, fun _ => ⟨rfl, rfl⟩⟩
  | true =>
    cases hb : fixB b with
    | false => exact ⟨0, false, rfl, rfl, rfl, fun _ => rfl, fun _ => ⟨rfl, rfl⟩⟩
    | true =>
      simp only [Bool.not_true, cond_false]
      rw [mulFloor32_some k a b (fix_I64 ha) (fix_I64 hb), implMulFloor32_some k a b (fix_I64 ha) (fix_I64 hb)]
      obtain ⟨n, p, e⟩ := intR_form (a * b / 4294967296)
      rw [e]
      simp only [Option.bind_some, gi0, giS, gb0, gbS, l03End_some, fixed_some]
      obtain ⟨m, o, e', h1, h2⟩ := endR_form n p
      rw [e']
      exact ⟨m, o, rfl, rfl, h1, h2, fun h => by cases h⟩
theorem mulUp_same (k : Nat) (a b : Int) : ∃ m o, spec_l03MulUp k a b = some [.i m, .b o] ∧ impl_MulUp k a b = some [.i m, .b o] ∧ fixB m = true := by
  obtain ⟨m, o, e1, e2, h1, h2, h3⟩ := mulDown_same k (IntKind.wrap .i64 (0 - a)) b
  unfold spec_l03MulUp impl_MulUp
  rw [e1, e2, l03Ok_some, validFix_some, validFix_some]
  simp only [Option.bind_some, gb0, gi0, giS, gbS]
  cases ha : fixB a with
  | false => exact ⟨0, false, rfl, rfl, rfl⟩
  | true =>
    have hm := fixB_iff.1 h1
    cases hb : fixB b with
    | false =>
      obtain ⟨_, rfl⟩ := h3 (by rw [hb, Bool.and_false])
      exact ⟨0, false, rfl, rfl, rfl⟩
    | true =>
      simp only [Bool.not_true, cond_false]
      cases o with
      | false => obtain rfl := h2 rfl; exact ⟨0, false, rfl, rfl, rfl⟩
      | true =>
        rw [wr (0 - m) (by omega) (by omega)]
        exact ⟨0 - m, true, rfl, rfl, fixB_iff.2 ⟨by omega, by omega⟩⟩
end Go.Proofs.YtpbmapaafnnoiaaGreatDoor.Ev
