/- Fixes: products and quotients, rounded, by both. No condition. -/
import Derived.Test.YtaimjfippclbcaaGreatPWideI
import Derived.Test.YtaimjfippclbcaaGreatPIn
namespace Go.Proofs.YtaimjfippclbcaaGreat.Ev
open Go Go.RowKit
set_option linter.unusedSimpArgs false
set_option linter.unusedVariables false
def fixB (a : Int) : Bool := leI (-1152921504606846976) a && leI a 1152921504606846976
theorem fixB_iff {a : Int} : fixB a = true ↔ -1152921504606846976 ≤ a ∧ a ≤ 1152921504606846976 := by unfold fixB; simp only [Bool.and_eq_true, leI_iff]
theorem l03Ok_some (k : Nat) (a : Int) : spec_l03Ok k a = some [.b (fixB a)] := by unfold spec_l03Ok; rw [in_some]; rfl
theorem validFix_some (k : Nat) (a : Int) : impl_ValidFix k a = some [.b (fixB a)] := by unfold impl_ValidFix; rw [within_some]; rfl
def endR (n : Int) (b : Bool) : List D := bif b && fixB n then [.i n, .b true] else [.i 0, .b false]
theorem l03End_some (k : Nat) (n : Int) (b : Bool) : spec_l03End k n b = some (endR n b) := by
 unfold spec_l03End endR
 rw [l03Ok_some]
 cases b <;> cases h : fixB n <;> simp [h, gb0]
theorem fixed_some (k : Nat) (n : Int) (b : Bool) : impl_fixed k n b = some (endR n b) := by
 unfold impl_fixed endR
 rw [validFix_some]
 cases b <;> cases h : fixB n <;> simp [h, gb0]
theorem endR_form (n : Int) (b : Bool) : ∃ m o, endR n b = [.i m, .b o] ∧ fixB m = true ∧ (o = false → m = 0) := by
 unfold endR
 cases b with
 | false => exact ⟨0, false, rfl, rfl, fun _ => rfl⟩
 | true => cases h : fixB n with
  | false => exact ⟨0, false, by simp [h], rfl, fun _ => rfl⟩
  | true => exact ⟨n, true, by simp [h], h, fun h => by cases h⟩
theorem fix_I64 {a : Int} (h : fixB a = true) : I64 a := by have := fixB_iff.1 h; exact ⟨by omega, by omega⟩
theorem intR_form (N : Int) : ∃ m o, intR N = [.i m, .b o] := by unfold intR; split <;> exact ⟨_, _, rfl⟩
theorem mulDown_same (k : Nat) (a b : Int) : ∃ m o, spec_l03MulDown k a b = some [.i m, .b o] ∧ impl_MulDown k a b = some [.i m, .b o] ∧ fixB m = true ∧ (o = false → m = 0) ∧ ((fixB a && fixB b) = false → m = 0 ∧ o = false) := by
 unfold spec_l03MulDown impl_MulDown
 rw [l03Ok_some, l03Ok_some, validFix_some, validFix_some]
 simp only [Option.bind_some, gb0]
 cases ha : fixB a with
 | false => exact ⟨0, false, rfl, rfl, rfl, fun _ => rfl, fun _ => ⟨rfl, rfl⟩⟩
 | true =>
  cases hb : fixB b with
  | false => exact ⟨0, false, rfl, rfl, rfl, fun _ => rfl, fun _ => ⟨rfl, rfl⟩⟩
  | true =>
   simp only [Bool.not_true, cond_false]
   rw [mulFloor32_some k a b (fix_I64 ha) (fix_I64 hb), implMulFloor32_some k a b (fix_I64 ha) (fix_I64 hb)]
   obtain ⟨n, p, e⟩ := intR_form (a * b / 4294967296)
   rw [e]
   simp only [Option.bind_some, gi0, giS, gb0, gbS, l03End_some, fixed_some]
   obtain ⟨m, o, e', h1, h2⟩ := endR_form n p
   rw [e']
   exact ⟨m, o, rfl, rfl, h1, h2, fun h => by cases h⟩
theorem mulUp_same (k : Nat) (a b : Int) : ∃ m o, spec_l03MulUp k a b = some [.i m, .b o] ∧ impl_MulUp k a b = some [.i m, .b o] ∧ fixB m = true := by
 obtain ⟨m, o, e1, e2, h1, h2, h3⟩ := mulDown_same k (IntKind.wrap .i64 (0 - a)) b
 unfold spec_l03MulUp impl_MulUp
 rw [e1, e2, l03Ok_some, validFix_some, validFix_some]
 simp only [Option.bind_some, gb0, gi0, giS, gbS]
 cases ha : fixB a with
 | false => exact ⟨0, false, rfl, rfl, rfl⟩
 | true =>
  have hm := fixB_iff.1 h1
  cases hb : fixB b with
  | false =>
   obtain ⟨_, rfl⟩ := h3 (by rw [hb, Bool.and_false])
   exact ⟨0, false, rfl, rfl, rfl⟩
  | true =>
   simp only [Bool.not_true, cond_false]
   cases o with
   | false => obtain rfl := h2 rfl; exact ⟨0, false, rfl, rfl, rfl⟩
   | true =>
    rw [wr (0 - m) (by omega) (by omega)]
    exact ⟨0 - m, true, rfl, rfl, fixB_iff.2 ⟨by omega, by omega⟩⟩
theorem floor_same (k : Nat) (hk : 66 ≤ k) (a d : Int) (ha : I64 a) (hd : I64 d) : ∃ m o, spec_l03Floor k a d = some [.i m, .b o] ∧ impl_FixFloor k a d = some [.i m, .b o] := by
 have hu : I64 4294967296 := ⟨by decide, by decide⟩
 unfold spec_l03Floor impl_FixFloor
 rw [mulDivFloor_some k hk a _ d ha hu hd, implMulDivFloor_some k (by omega) a _ d ha hu hd]
 by_cases h : d ≤ 0
 ·rw [bif_t (leI_t h), if_pos h]
  exact ⟨0, false, rfl, rfl⟩
 ·rw [bif_f (leI_f (by omega)), if_neg h]
  obtain ⟨n, p, e⟩ := intR_form (a * 4294967296 / d)
  rw [e]
  simp only [Option.bind_some, gi0, giS, gb0, gbS, l03End_some, fixed_some]
  obtain ⟨m, o, e', _, _⟩ := endR_form n p
  rw [e']
  exact ⟨m, o, rfl, rfl⟩
theorem ceil_same (k : Nat) (hk : 66 ≤ k) (a d : Int) (ha : I64 a) (hd : I64 d) : ∃ m o, spec_l03Ceil k a d = some [.i m, .b o] ∧ impl_FixCeil k a d = some [.i m, .b o] := by
 have hu : I64 4294967296 := ⟨by decide, by decide⟩
 have fin : ∀ (n : Int) (p : Bool), ∃ m o, (some (endR n p) : Option (List D)) = some [.i m, .b o] := by
  intro n p
  obtain ⟨m, o, e, _, _⟩ := endR_form n p
  exact ⟨m, o, by rw [e]⟩
 unfold spec_l03Ceil impl_FixCeil
 rw [mulDivFloor_some k hk a _ d ha hu hd, implMulDivCeil_some k (by omega) a _ d ha hu hd]
 by_cases h : d ≤ 0
 ·rw [bif_t (leI_t h), if_pos h]
  exact ⟨0, false, rfl, rfl⟩
 ·rw [bif_f (leI_f (by omega)), if_neg h, if_neg h]
  have e1 := Int.mul_ediv_add_emod (a * 4294967296) d
  have e2 := Int.emod_nonneg (a * 4294967296) (show d ≠ 0 by omega)
  have e3 := Int.emod_lt_of_pos (a * 4294967296) (show 0 < d by omega)
  obtain ⟨hd1, hd2⟩ := hd
  unfold ceilR intR
  generalize hq : a * 4294967296 / d = q at *
  generalize hr : a * 4294967296 % d = r at *
  by_cases c1 : -9223372036854775808 ≤ q ∧ q ≤ 9223372036854775807
  ·rw [if_pos c1, if_pos c1, Option.bind_some]
   simp only [gi0, giS, gb0, gbS, Bool.not_true, cond_false]
   have hw : IntKind.wrap .i64 (q * d) = IntKind.wrap .i64 (a * 4294967296) ↔ r = 0 := by
    rw [Int.mul_comm q d, IntKind.wrap_i64, IntKind.wrap_i64]
    generalize d * q = p at *
    constructor <;> intro hh <;> omega
   by_cases c2 : 0 < r
   ·rw [bif_t (bne_t (fun hh => by have := hw.1 hh; omega)), l03End_some, if_pos c2]
    by_cases c3 : q = 9223372036854775807
    ·rw [if_pos c3, Option.bind_some]
     simp only [gi0, giS, gb0, gbS, fixed_some, Option.bind_some]
     have e5 : endR (IntKind.wrap .i64 (q + 1)) true = [.i 0, .b false] := by rw [c3]; rfl
     have e6 : endR 0 false = [.i 0, .b false] := rfl
     rw [e5, e6]
     exact ⟨0, false, rfl, rfl⟩
    ·rw [if_neg c3, wr _ (by omega) (by omega)]
     simp only [Option.bind_some, gi0, giS, gb0, gbS, fixed_some]
     obtain ⟨m, o, e', _, _⟩ := endR_form (q + 1) true
     rw [e']
     exact ⟨m, o, rfl, rfl⟩
   ·rw [bif_f (bne_f (hw.2 (by omega))), l03End_some, if_neg c2]
    simp only [Option.bind_some, gi0, giS, gb0, gbS, fixed_some]
    obtain ⟨m, o, e', _, _⟩ := endR_form q true
    rw [e']
    exact ⟨m, o, rfl, rfl⟩
  ·rw [if_neg c1, if_neg c1]
   exact ⟨0, false, rfl, rfl⟩
end Go.Proofs.YtaimjfippclbcaaGreat.Ev
