-- Printed by drive.py, which calls the kit's print.py with changes of its own.
import Derived.Test.YtelajgllidngiaaDoorCFnExactGeorefOfx0
import Derived.Test.YtelajgllidngiaaDoorCFnExactGeorefOfx1
namespace Go.Proofs.YtelajgllidngiaaDoor.P
open Go.RowKit Go.Proofs.YtelajgllidngiaaDoorW.PrintWords Go.Proofs.YtelajgllidngiaaDoorW.PrintLast Go.Proofs.YtelajgllidngiaaDoorW.PrintMore
attribute [local go_sem] max2_int min2_int max_two min_two max_three min_three max_four min_four   -- for this text's walks alone
set_option linter.unusedVariables false
set_option linter.unusedSimpArgs false

/-! ### spec_l26Georef: function 34 -/
def spec_l26Georef.f (k : Nat) (a0 : Int) (a1 : Int) (a2 : Int) : Option (ByteArray) := if a2 > 2 then ((some (([60, 600] : List Int) : List Int)).bind fun y129 => (if 0 ≤ (wrap64 (a2 - 3)) then (if (wrap64 (a2 - 3)) < (y129.length : Int) then (if (rd y129 (wrap64 (a2 - 3))) = 0 then (none) else ((spec_l26Digits.f k (Int.tmod a0 (rd y129 (wrap64 (a2 - 3)))) (wrap64 (a2 - 1))).bind fun t133 => ((spec_l26Digits.f k (Int.tmod a1 (rd y129 (wrap64 (a2 - 3)))) (wrap64 (a2 - 1))).bind fun t134 => (if t133.size + t134.size ≤ 9223372036854775807 then ((spec_l26Letters.f).bind fun t135 => (if a2 > 1 then (if 0 ≤ (Int.tmod (wrap64 (Int.tdiv a0 (rd y129 (wrap64 (a2 - 3))))) 15) then (if (Int.tmod (wrap64 (Int.tdiv a0 (rd y129 (wrap64 (a2 - 3))))) 15) < (t135.size : Int) then (if 0 ≤ (Int.tmod (wrap64 (Int.tdiv a1 (rd y129 (wrap64 (a2 - 3))))) 15) then (if (Int.tmod (wrap64 (Int.tdiv a1 (rd y129 (wrap64 (a2 - 3))))) 15) < (t135.size : Int) then ((some (([bt t135 (Int.tmod (wrap64 (Int.tdiv a0 (rd y129 (wrap64 (a2 - 3))))) 15), bt t135 (Int.tmod (wrap64 (Int.tdiv a1 (rd y129 (wrap64 (a2 - 3))))) 15)] : List Int) : List Int)).bind fun y136 => (if (strOfNums y136).size + (t133 ++ t134).size ≤ 9223372036854775807 then (if 0 ≤ (wrap64 (Int.tdiv (wrap64 (Int.tdiv a0 (rd y129 (wrap64 (a2 - 3))))) 15)) then (if (wrap64 (Int.tdiv (wrap64 (Int.tdiv a0 (rd y129 (wrap64 (a2 - 3))))) 15)) < (t135.size : Int) then (if 0 ≤ (wrap64 (Int.tdiv (wrap64 (Int.tdiv a1 (rd y129 (wrap64 (a2 - 3))))) 15)) then (if (wrap64 (Int.tdiv (wrap64 (Int.tdiv a1 (rd y129 (wrap64 (a2 - 3))))) 15)) < (t135.size : Int) then ((some (([bt t135 (wrap64 (Int.tdiv (wrap64 (Int.tdiv a0 (rd y129 (wrap64 (a2 - 3))))) 15)), bt t135 (wrap64 (Int.tdiv (wrap64 (Int.tdiv a1 (rd y129 (wrap64 (a2 - 3))))) 15))] : List Int) : List Int)).bind fun y139 => (if (strOfNums y139).size + ((strOfNums y136) ++ (t133 ++ t134)).size ≤ 9223372036854775807 then (some ((strOfNums y139) ++ ((strOfNums y136) ++ (t133 ++ t134)))) else (none))) else (none)) else (none)) else (none)) else (none)) else (none))) else (none)) else (none)) else (none)) else (none)) else (if 0 ≤ (wrap64 (Int.tdiv a0 (rd y129 (wrap64 (a2 - 3))))) then (if (wrap64 (Int.tdiv a0 (rd y129 (wrap64 (a2 - 3))))) < (t135.size : Int) then (if 0 ≤ (wrap64 (Int.tdiv a1 (rd y129 (wrap64 (a2 - 3))))) then (if (wrap64 (Int.tdiv a1 (rd y129 (wrap64 (a2 - 3))))) < (t135.size : Int) then ((some (([bt t135 (wrap64 (Int.tdiv a0 (rd y129 (wrap64 (a2 - 3))))), bt t135 (wrap64 (Int.tdiv a1 (rd y129 (wrap64 (a2 - 3)))))] : List Int) : List Int)).bind fun y142 => (if (strOfNums y142).size + (t133 ++ t134).size ≤ 9223372036854775807 then (some ((strOfNums y142) ++ (t133 ++ t134))) else (none))) else (none)) else (none)) else (none)) else (none)))) else (none))))) else (none)) else (none))) else ((spec_l26Letters.f).bind fun t145 => (if a2 > 1 then (if 0 ≤ (Int.tmod a0 15) then (if (Int.tmod a0 15) < (t145.size : Int) then (if 0 ≤ (Int.tmod a1 15) then (if (Int.tmod a1 15) < (t145.size : Int) then ((some (([bt t145 (Int.tmod a0 15), bt t145 (Int.tmod a1 15)] : List Int) : List Int)).bind fun y146 => (if (strOfNums y146).size + 0 ≤ 9223372036854775807 then (if 0 ≤ (wrap64 (Int.tdiv a0 15)) then (if (wrap64 (Int.tdiv a0 15)) < (t145.size : Int) then (if 0 ≤ (wrap64 (Int.tdiv a1 15)) then (if (wrap64 (Int.tdiv a1 15)) < (t145.size : Int) then ((some (([bt t145 (wrap64 (Int.tdiv a0 15)), bt t145 (wrap64 (Int.tdiv a1 15))] : List Int) : List Int)).bind fun y149 => (if (strOfNums y149).size + ((strOfNums y146) ++ (⟨#[]⟩ : ByteArray)).size ≤ 9223372036854775807 then (some ((strOfNums y149) ++ ((strOfNums y146) ++ (⟨#[]⟩ : ByteArray)))) else (none))) else (none)) else (none)) else (none)) else (none)) else (none))) else (none)) else (none)) else (none)) else (none)) else (if 0 ≤ a0 then (if a0 < (t145.size : Int) then (if 0 ≤ a1 then (if a1 < (t145.size : Int) then ((some (([bt t145 a0, bt t145 a1] : List Int) : List Int)).bind fun y152 => (if (strOfNums y152).size + 0 ≤ 9223372036854775807 then (some ((strOfNums y152) ++ (⟨#[]⟩ : ByteArray))) else (none))) else (none)) else (none)) else (none)) else (none))))
theorem spec_l26Georef.mono : ∀ a0 a1 a2 k, LeO (spec_l26Georef.f k a0 a1 a2) (spec_l26Georef.f (k + 1) a0 a1 a2) := by
 intro a0 a1 a2 k
 unfold spec_l26Georef.f
 repeat' first
   | (with_reducible exact spec_l26Digits.mono _ _ _)
   | (with_reducible exact LeO.refl _)
   | (with_reducible exact LeO.none _)
   | (with_reducible refine LeO.ite ?_ ?_)
   | (with_reducible refine LeO.bind ?_ (fun _ => ?_))
   | exact spec_l26Digits.mono _ _ _
   | exact LeO.none _
   | refine LeO.ite ?_ ?_
   | refine LeO.bind ?_ (fun _ => ?_)
def spec_l26Georef.T4 : Bool × List (List Nat × List Nat) := (true, [([], []), ([], []), ([0, 1], [0, 1]), ([], []), ([3], [3]), ([2, 4], [2, 4]), ([], []), ([], []), ([6, 7], [6, 7]), ([], []), ([9], [9]), ([8, 10, 5], [8, 10]), ([5, 11], [5, 11]), ([12, 11, 0, 1, 2, 3, 4, 5, 6, 7, 8, 9, 10, 11, 12], [12])])
def spec_l26Georef.B4 : List Nat := [0, 0, 3, 0, 8, 31, 0, 0, 192, 0, 512, 2047, 4095, 8191]
theorem spec_l26Georef.tab4 : rtab .any (opsOf Tryd.f34 4) = spec_l26Georef.T4 := by kernel_rfl
theorem spec_l26Georef.bits4 : waitsOk spec_l26Georef.T4.2 spec_l26Georef.B4 = true := by kernel_rfl
def spec_l26Georef.T9 : Bool × List (List Nat × List Nat) := (true, [([], []), ([], []), ([1], [1]), ([0, 2], [0, 2]), ([], []), ([], []), ([5], [5]), ([4, 6], [4, 6]), ([3, 7], [3, 7]), ([8], [8]), ([], []), ([9, 10], [9, 10]), ([11, 0, 1, 2, 3, 4, 5, 6, 7, 8, 9, 10, 11], [10, 11])])
def spec_l26Georef.B9 : List Nat := [0, 0, 2, 7, 0, 0, 32, 112, 255, 511, 0, 2047, 4095]
theorem spec_l26Georef.tab9 : rtab .any (opsOf Tryd.f34 9) = spec_l26Georef.T9 := by kernel_rfl
theorem spec_l26Georef.bits9 : waitsOk spec_l26Georef.T9.2 spec_l26Georef.B9 = true := by kernel_rfl
def spec_l26Georef.T12 : Bool × List (List Nat × List Nat) := (true, [([], []), ([], []), ([0, 1], [0, 1]), ([], []), ([], []), ([3, 4], [3, 4]), ([2, 5], [2, 5]), ([6], [6]), ([], []), ([7, 8], [7, 8]), ([9, 0, 1, 2, 3, 4, 5, 6, 7, 8, 9], [9])])
def spec_l26Georef.B12 : List Nat := [0, 0, 3, 0, 0, 24, 63, 127, 0, 511, 1023]
theorem spec_l26Georef.tab12 : rtab .any (opsOf Tryd.f34 12) = spec_l26Georef.T12 := by kernel_rfl
theorem spec_l26Georef.bits12 : waitsOk spec_l26Georef.T12.2 spec_l26Georef.B12 = true := by kernel_rfl
set_option maxHeartbeats 8000000 in
set_option maxRecDepth 100000 in
theorem spec_l26Georef.calls (k : Nat) (a0 : Int) (a1 : Int) (a2 : Int) (r : ByteArray) (w : World) (h : spec_l26Georef.f k a0 a1 a2 = some r) :
  Calls Tryd.prog 34 #[.int .i64 a0, .int .i64 a1, .int .i64 a2] w fun e w' => e = .returned (.string r) ∧ Below w.heap.size w w' := by
 have HB := Aside0.mk (Below.refl w.heap.size w)
 have H : (if a2 > 2 then ((some (([60, 600] : List Int) : List Int)).bind fun y129 => (if 0 ≤ (wrap64 (a2 - 3)) then (if (wrap64 (a2 - 3)) < (y129.length : Int) then (if (rd y129 (wrap64 (a2 - 3))) = 0 then (none) else ((spec_l26Digits.f k (Int.tmod a0 (rd y129 (wrap64 (a2 - 3)))) (wrap64 (a2 - 1))).bind fun t133 => ((spec_l26Digits.f k (Int.tmod a1 (rd y129 (wrap64 (a2 - 3)))) (wrap64 (a2 - 1))).bind fun t134 => (if t133.size + t134.size ≤ 9223372036854775807 then ((spec_l26Letters.f).bind fun t135 => (if a2 > 1 then (if 0 ≤ (Int.tmod (wrap64 (Int.tdiv a0 (rd y129 (wrap64 (a2 - 3))))) 15) then (if (Int.tmod (wrap64 (Int.tdiv a0 (rd y129 (wrap64 (a2 - 3))))) 15) < (t135.size : Int) then (if 0 ≤ (Int.tmod (wrap64 (Int.tdiv a1 (rd y129 (wrap64 (a2 - 3))))) 15) then (if (Int.tmod (wrap64 (Int.tdiv a1 (rd y129 (wrap64 (a2 - 3))))) 15) < (t135.size : Int) then ((some (([bt t135 (Int.tmod (wrap64 (Int.tdiv a0 (rd y129 (wrap64 (a2 - 3))))) 15), bt t135 (Int.tmod (wrap64 (Int.tdiv a1 (rd y129 (wrap64 (a2 - 3))))) 15)] : List Int) : List Int)).bind fun y136 => (if (strOfNums y136).size + (t133 ++ t134).size ≤ 9223372036854775807 then (if 0 ≤ (wrap64 (Int.tdiv (wrap64 (Int.tdiv a0 (rd y129 (wrap64 (a2 - 3))))) 15)) then (if (wrap64 (Int.tdiv (wrap64 (Int.tdiv a0 (rd y129 (wrap64 (a2 - 3))))) 15)) < (t135.size : Int) then (if 0 ≤ (wrap64 (Int.tdiv (wrap64 (Int.tdiv a1 (rd y129 (wrap64 (a2 - 3))))) 15)) then (if (wrap64 (Int.tdiv (wrap64 (Int.tdiv a1 (rd y129 (wrap64 (a2 - 3))))) 15)) < (t135.size : Int) then ((some (([bt t135 (wrap64 (Int.tdiv (wrap64 (Int.tdiv a0 (rd y129 (wrap64 (a2 - 3))))) 15)), bt t135 (wrap64 (Int.tdiv (wrap64 (Int.tdiv a1 (rd y129 (wrap64 (a2 - 3))))) 15))] : List Int) : List Int)).bind fun y139 => (if (strOfNums y139).size + ((strOfNums y136) ++ (t133 ++ t134)).size ≤ 9223372036854775807 then (some ((strOfNums y139) ++ ((strOfNums y136) ++ (t133 ++ t134)))) else (none))) else (none)) else (none)) else (none)) else (none)) else (none))) else (none)) else (none)) else (none)) else (none)) else (if 0 ≤ (wrap64 (Int.tdiv a0 (rd y129 (wrap64 (a2 - 3))))) then (if (wrap64 (Int.tdiv a0 (rd y129 (wrap64 (a2 - 3))))) < (t135.size : Int) then (if 0 ≤ (wrap64 (Int.tdiv a1 (rd y129 (wrap64 (a2 - 3))))) then (if (wrap64 (Int.tdiv a1 (rd y129 (wrap64 (a2 - 3))))) < (t135.size : Int) then ((some (([bt t135 (wrap64 (Int.tdiv a0 (rd y129 (wrap64 (a2 - 3))))), bt t135 (wrap64 (Int.tdiv a1 (rd y129 (wrap64 (a2 - 3)))))] : List Int) : List Int)).bind fun y142 => (if (strOfNums y142).size + (t133 ++ t134).size ≤ 9223372036854775807 then (some ((strOfNums y142) ++ (t133 ++ t134))) else (none))) else (none)) else (none)) else (none)) else (none)))) else (none))))) else (none)) else (none))) else ((spec_l26Letters.f).bind fun t145 => (if a2 > 1 then (if 0 ≤ (Int.tmod a0 15) then (if (Int.tmod a0 15) < (t145.size : Int) then (if 0 ≤ (Int.tmod a1 15) then (if (Int.tmod a1 15) < (t145.size : Int) then ((some (([bt t145 (Int.tmod a0 15), bt t145 (Int.tmod a1 15)] : List Int) : List Int)).bind fun y146 => (if (strOfNums y146).size + 0 ≤ 9223372036854775807 then (if 0 ≤ (wrap64 (Int.tdiv a0 15)) then (if (wrap64 (Int.tdiv a0 15)) < (t145.size : Int) then (if 0 ≤ (wrap64 (Int.tdiv a1 15)) then (if (wrap64 (Int.tdiv a1 15)) < (t145.size : Int) then ((some (([bt t145 (wrap64 (Int.tdiv a0 15)), bt t145 (wrap64 (Int.tdiv a1 15))] : List Int) : List Int)).bind fun y149 => (if (strOfNums y149).size + ((strOfNums y146) ++ (⟨#[]⟩ : ByteArray)).size ≤ 9223372036854775807 then (some ((strOfNums y149) ++ ((strOfNums y146) ++ (⟨#[]⟩ : ByteArray)))) else (none))) else (none)) else (none)) else (none)) else (none)) else (none))) else (none)) else (none)) else (none)) else (none)) else (if 0 ≤ a0 then (if a0 < (t145.size : Int) then (if 0 ≤ a1 then (if a1 < (t145.size : Int) then ((some (([bt t145 a0, bt t145 a1] : List Int) : List Int)).bind fun y152 => (if (strOfNums y152).size + 0 ≤ 9223372036854775807 then (some ((strOfNums y152) ++ (⟨#[]⟩ : ByteArray))) else (none))) else (none)) else (none)) else (none)) else (none))))) = some r := h
 clear h
 by_cases c4 : a2 > 2
 ·rw [if_pos c4] at H
  have c4b0 : decide (2 < a2) = true := decide_eq_true c4
  clear c4
  obtain ⟨y129, hy129⟩ : ∃ y_ : List Int, y_ = (([60, 600] : List Int)) := ⟨_, rfl⟩
  replace H : (if 0 ≤ (wrap64 (a2 - 3)) then (if (wrap64 (a2 - 3)) < (y129.length : Int) then (if (rd y129 (wrap64 (a2 - 3))) = 0 then (none) else ((spec_l26Digits.f k (Int.tmod a0 (rd y129 (wrap64 (a2 - 3)))) (wrap64 (a2 - 1))).bind fun t133 => ((spec_l26Digits.f k (Int.tmod a1 (rd y129 (wrap64 (a2 - 3)))) (wrap64 (a2 - 1))).bind fun t134 => (if t133.size + t134.size ≤ 9223372036854775807 then ((spec_l26Letters.f).bind fun t135 => (if a2 > 1 then (if 0 ≤ (Int.tmod (wrap64 (Int.tdiv a0 (rd y129 (wrap64 (a2 - 3))))) 15) then (if (Int.tmod (wrap64 (Int.tdiv a0 (rd y129 (wrap64 (a2 - 3))))) 15) < (t135.size : Int) then (if 0 ≤ (Int.tmod (wrap64 (Int.tdiv a1 (rd y129 (wrap64 (a2 - 3))))) 15) then (if (Int.tmod (wrap64 (Int.tdiv a1 (rd y129 (wrap64 (a2 - 3))))) 15) < (t135.size : Int) then ((some (([bt t135 (Int.tmod (wrap64 (Int.tdiv a0 (rd y129 (wrap64 (a2 - 3))))) 15), bt t135 (Int.tmod (wrap64 (Int.tdiv a1 (rd y129 (wrap64 (a2 - 3))))) 15)] : List Int) : List Int)).bind fun y136 => (if (strOfNums y136).size + (t133 ++ t134).size ≤ 9223372036854775807 then (if 0 ≤ (wrap64 (Int.tdiv (wrap64 (Int.tdiv a0 (rd y129 (wrap64 (a2 - 3))))) 15)) then (if (wrap64 (Int.tdiv (wrap64 (Int.tdiv a0 (rd y129 (wrap64 (a2 - 3))))) 15)) < (t135.size : Int) then (if 0 ≤ (wrap64 (Int.tdiv (wrap64 (Int.tdiv a1 (rd y129 (wrap64 (a2 - 3))))) 15)) then (if (wrap64 (Int.tdiv (wrap64 (Int.tdiv a1 (rd y129 (wrap64 (a2 - 3))))) 15)) < (t135.size : Int) then ((some (([bt t135 (wrap64 (Int.tdiv (wrap64 (Int.tdiv a0 (rd y129 (wrap64 (a2 - 3))))) 15)), bt t135 (wrap64 (Int.tdiv (wrap64 (Int.tdiv a1 (rd y129 (wrap64 (a2 - 3))))) 15))] : List Int) : List Int)).bind fun y139 => (if (strOfNums y139).size + ((strOfNums y136) ++ (t133 ++ t134)).size ≤ 9223372036854775807 then (some ((strOfNums y139) ++ ((strOfNums y136) ++ (t133 ++ t134)))) else (none))) else (none)) else (none)) else (none)) else (none)) else (none))) else (none)) else (none)) else (none)) else (none)) else (if 0 ≤ (wrap64 (Int.tdiv a0 (rd y129 (wrap64 (a2 - 3))))) then (if (wrap64 (Int.tdiv a0 (rd y129 (wrap64 (a2 - 3))))) < (t135.size : Int) then (if 0 ≤ (wrap64 (Int.tdiv a1 (rd y129 (wrap64 (a2 - 3))))) then (if (wrap64 (Int.tdiv a1 (rd y129 (wrap64 (a2 - 3))))) < (t135.size : Int) then ((some (([bt t135 (wrap64 (Int.tdiv a0 (rd y129 (wrap64 (a2 - 3))))), bt t135 (wrap64 (Int.tdiv a1 (rd y129 (wrap64 (a2 - 3)))))] : List Int) : List Int)).bind fun y142 => (if (strOfNums y142).size + (t133 ++ t134).size ≤ 9223372036854775807 then (some ((strOfNums y142) ++ (t133 ++ t134))) else (none))) else (none)) else (none)) else (none)) else (none)))) else (none))))) else (none)) else (none)) = some r := by first | (rw [hy129]; with_reducible exact H) | (have H2_ := (Option.bind_some _ _).symm.trans H; rw [hy129]; with_reducible exact H2_) | (have H2_ := (Option.bind_some _ _).symm.trans H; with_reducible exact H2_) | with_reducible exact H | (rw [hy129]; exact H) | exact H
  have Ny129 := Aside0.mk hy129
  clear hy129
  obtain ⟨ji5, hji5⟩ : ∃ j_ : Int, (wrap64 (a2 - 3)) = j_ := ⟨_, rfl⟩
  replace H : (if 0 ≤ (ji5) then (if (ji5) < (y129.length : Int) then (if (rd y129 (ji5)) = 0 then (none) else ((spec_l26Digits.f k (Int.tmod a0 (rd y129 (ji5))) (wrap64 (a2 - 1))).bind fun t133 => ((spec_l26Digits.f k (Int.tmod a1 (rd y129 (ji5))) (wrap64 (a2 - 1))).bind fun t134 => (if t133.size + t134.size ≤ 9223372036854775807 then ((spec_l26Letters.f).bind fun t135 => (if a2 > 1 then (if 0 ≤ (Int.tmod (wrap64 (Int.tdiv a0 (rd y129 (ji5)))) 15) then (if (Int.tmod (wrap64 (Int.tdiv a0 (rd y129 (ji5)))) 15) < (t135.size : Int) then (if 0 ≤ (Int.tmod (wrap64 (Int.tdiv a1 (rd y129 (ji5)))) 15) then (if (Int.tmod (wrap64 (Int.tdiv a1 (rd y129 (ji5)))) 15) < (t135.size : Int) then ((some (([bt t135 (Int.tmod (wrap64 (Int.tdiv a0 (rd y129 (ji5)))) 15), bt t135 (Int.tmod (wrap64 (Int.tdiv a1 (rd y129 (ji5)))) 15)] : List Int) : List Int)).bind fun y136 => (if (strOfNums y136).size + (t133 ++ t134).size ≤ 9223372036854775807 then (if 0 ≤ (wrap64 (Int.tdiv (wrap64 (Int.tdiv a0 (rd y129 (ji5)))) 15)) then (if (wrap64 (Int.tdiv (wrap64 (Int.tdiv a0 (rd y129 (ji5)))) 15)) < (t135.size : Int) then (if 0 ≤ (wrap64 (Int.tdiv (wrap64 (Int.tdiv a1 (rd y129 (ji5)))) 15)) then (if (wrap64 (Int.tdiv (wrap64 (Int.tdiv a1 (rd y129 (ji5)))) 15)) < (t135.size : Int) then ((some (([bt t135 (wrap64 (Int.tdiv (wrap64 (Int.tdiv a0 (rd y129 (ji5)))) 15)), bt t135 (wrap64 (Int.tdiv (wrap64 (Int.tdiv a1 (rd y129 (ji5)))) 15))] : List Int) : List Int)).bind fun y139 => (if (strOfNums y139).size + ((strOfNums y136) ++ (t133 ++ t134)).size ≤ 9223372036854775807 then (some ((strOfNums y139) ++ ((strOfNums y136) ++ (t133 ++ t134)))) else (none))) else (none)) else (none)) else (none)) else (none)) else (none))) else (none)) else (none)) else (none)) else (none)) else (if 0 ≤ (wrap64 (Int.tdiv a0 (rd y129 (ji5)))) then (if (wrap64 (Int.tdiv a0 (rd y129 (ji5)))) < (t135.size : Int) then (if 0 ≤ (wrap64 (Int.tdiv a1 (rd y129 (ji5)))) then (if (wrap64 (Int.tdiv a1 (rd y129 (ji5)))) < (t135.size : Int) then ((some (([bt t135 (wrap64 (Int.tdiv a0 (rd y129 (ji5)))), bt t135 (wrap64 (Int.tdiv a1 (rd y129 (ji5))))] : List Int) : List Int)).bind fun y142 => (if (strOfNums y142).size + (t133 ++ t134).size ≤ 9223372036854775807 then (some ((strOfNums y142) ++ (t133 ++ t134))) else (none))) else (none)) else (none)) else (none)) else (none)))) else (none))))) else (none)) else (none)) = some r := by first | (rw [hji5] at H; exact H) | (simp only [hji5] at H ⊢; exact H)
  have hji5w : (IntKind.i64.wrap (a2 - 3)) = ji5 := (i64_w _).trans hji5
  by_cases c6 : 0 ≤ (ji5)
  ·rw [if_pos c6] at H
   have c6b0 : decide (0 ≤ (ji5)) = true := decide_eq_true c6
   clear c6
   by_cases c7 : (ji5) < (y129.length : Int)
   ·rw [if_pos c7] at H
    have c7b0 : decide ((ji5) < (y129.length : Int)) = true := decide_eq_true c7
    clear c7
    by_cases c8 : (rd y129 (ji5)) = 0
    ·rw [if_pos c8] at H
     exact absurd H (by simp)
    ·rw [if_neg c8] at H
     have c8b0 : ((rd y129 (ji5)) == 0) = false := beq_eq_false_iff_ne.mpr c8
     have c8b1 : ((rd y129 (ji5)) != 0) = true := bne_iff_ne.mpr c8
     replace H := Option.bind_eq_some_iff.mp H
     obtain ⟨t133, A90, H⟩ := H
     replace H : ((spec_l26Digits.f k (Int.tmod a1 (rd y129 (ji5))) (wrap64 (a2 - 1))).bind fun t134 => (if t133.size + t134.size ≤ 9223372036854775807 then ((spec_l26Letters.f).bind fun t135 => (if a2 > 1 then (if 0 ≤ (Int.tmod (wrap64 (Int.tdiv a0 (rd y129 (ji5)))) 15) then (if (Int.tmod (wrap64 (Int.tdiv a0 (rd y129 (ji5)))) 15) < (t135.size : Int) then (if 0 ≤ (Int.tmod (wrap64 (Int.tdiv a1 (rd y129 (ji5)))) 15) then (if (Int.tmod (wrap64 (Int.tdiv a1 (rd y129 (ji5)))) 15) < (t135.size : Int) then ((some (([bt t135 (Int.tmod (wrap64 (Int.tdiv a0 (rd y129 (ji5)))) 15), bt t135 (Int.tmod (wrap64 (Int.tdiv a1 (rd y129 (ji5)))) 15)] : List Int) : List Int)).bind fun y136 => (if (strOfNums y136).size + (t133 ++ t134).size ≤ 9223372036854775807 then (if 0 ≤ (wrap64 (Int.tdiv (wrap64 (Int.tdiv a0 (rd y129 (ji5)))) 15)) then (if (wrap64 (Int.tdiv (wrap64 (Int.tdiv a0 (rd y129 (ji5)))) 15)) < (t135.size : Int) then (if 0 ≤ (wrap64 (Int.tdiv (wrap64 (Int.tdiv a1 (rd y129 (ji5)))) 15)) then (if (wrap64 (Int.tdiv (wrap64 (Int.tdiv a1 (rd y129 (ji5)))) 15)) < (t135.size : Int) then ((some (([bt t135 (wrap64 (Int.tdiv (wrap64 (Int.tdiv a0 (rd y129 (ji5)))) 15)), bt t135 (wrap64 (Int.tdiv (wrap64 (Int.tdiv a1 (rd y129 (ji5)))) 15))] : List Int) : List Int)).bind fun y139 => (if (strOfNums y139).size + ((strOfNums y136) ++ (t133 ++ t134)).size ≤ 9223372036854775807 then (some ((strOfNums y139) ++ ((strOfNums y136) ++ (t133 ++ t134)))) else (none))) else (none)) else (none)) else (none)) else (none)) else (none))) else (none)) else (none)) else (none)) else (none)) else (if 0 ≤ (wrap64 (Int.tdiv a0 (rd y129 (ji5)))) then (if (wrap64 (Int.tdiv a0 (rd y129 (ji5)))) < (t135.size : Int) then (if 0 ≤ (wrap64 (Int.tdiv a1 (rd y129 (ji5)))) then (if (wrap64 (Int.tdiv a1 (rd y129 (ji5)))) < (t135.size : Int) then ((some (([bt t135 (wrap64 (Int.tdiv a0 (rd y129 (ji5)))), bt t135 (wrap64 (Int.tdiv a1 (rd y129 (ji5))))] : List Int) : List Int)).bind fun y142 => (if (strOfNums y142).size + (t133 ++ t134).size ≤ 9223372036854775807 then (some ((strOfNums y142) ++ (t133 ++ t134))) else (none))) else (none)) else (none)) else (none)) else (none)))) else (none))) = some r := H
     have A9 := Aside0.mk A90
     clear A90
     replace H := Option.bind_eq_some_iff.mp H
     obtain ⟨t134, A100, H⟩ := H
     replace H : (if t133.size + t134.size ≤ 9223372036854775807 then ((spec_l26Letters.f).bind fun t135 => (if a2 > 1 then (if 0 ≤ (Int.tmod (wrap64 (Int.tdiv a0 (rd y129 (ji5)))) 15) then (if (Int.tmod (wrap64 (Int.tdiv a0 (rd y129 (ji5)))) 15) < (t135.size : Int) then (if 0 ≤ (Int.tmod (wrap64 (Int.tdiv a1 (rd y129 (ji5)))) 15) then (if (Int.tmod (wrap64 (Int.tdiv a1 (rd y129 (ji5)))) 15) < (t135.size : Int) then ((some (([bt t135 (Int.tmod (wrap64 (Int.tdiv a0 (rd y129 (ji5)))) 15), bt t135 (Int.tmod (wrap64 (Int.tdiv a1 (rd y129 (ji5)))) 15)] : List Int) : List Int)).bind fun y136 => (if (strOfNums y136).size + (t133 ++ t134).size ≤ 9223372036854775807 then (if 0 ≤ (wrap64 (Int.tdiv (wrap64 (Int.tdiv a0 (rd y129 (ji5)))) 15)) then (if (wrap64 (Int.tdiv (wrap64 (Int.tdiv a0 (rd y129 (ji5)))) 15)) < (t135.size : Int) then (if 0 ≤ (wrap64 (Int.tdiv (wrap64 (Int.tdiv a1 (rd y129 (ji5)))) 15)) then (if (wrap64 (Int.tdiv (wrap64 (Int.tdiv a1 (rd y129 (ji5)))) 15)) < (t135.size : Int) then ((some (([bt t135 (wrap64 (Int.tdiv (wrap64 (Int.tdiv a0 (rd y129 (ji5)))) 15)), bt t135 (wrap64 (Int.tdiv (wrap64 (Int.tdiv a1 (rd y129 (ji5)))) 15))] : List Int) : List Int)).bind fun y139 => (if (strOfNums y139).size + ((strOfNums y136) ++ (t133 ++ t134)).size ≤ 9223372036854775807 then (some ((strOfNums y139) ++ ((strOfNums y136) ++ (t133 ++ t134)))) else (none))) else (none)) else (none)) else (none)) else (none)) else (none))) else (none)) else (none)) else (none)) else (none)) else (if 0 ≤ (wrap64 (Int.tdiv a0 (rd y129 (ji5)))) then (if (wrap64 (Int.tdiv a0 (rd y129 (ji5)))) < (t135.size : Int) then (if 0 ≤ (wrap64 (Int.tdiv a1 (rd y129 (ji5)))) then (if (wrap64 (Int.tdiv a1 (rd y129 (ji5)))) < (t135.size : Int) then ((some (([bt t135 (wrap64 (Int.tdiv a0 (rd y129 (ji5)))), bt t135 (wrap64 (Int.tdiv a1 (rd y129 (ji5))))] : List Int) : List Int)).bind fun y142 => (if (strOfNums y142).size + (t133 ++ t134).size ≤ 9223372036854775807 then (some ((strOfNums y142) ++ (t133 ++ t134))) else (none))) else (none)) else (none)) else (none)) else (none)))) else (none)) = some r := H
     have A10 := Aside0.mk A100
     clear A100
     by_cases c11 : t133.size + t134.size ≤ 9223372036854775807
     ·rw [if_pos c11] at H
      have c11b0 := eq_true c11
      have c11b1 : decide (t133.size + t134.size ≤ 9223372036854775807) = true := decide_eq_true c11
      try have c11b2 : (9223372036854775807 < t133.size + t134.size) = False := eq_false (Nat.not_lt.2 c11)
      replace H := Option.bind_eq_some_iff.mp H
      obtain ⟨t135, A120, H⟩ := H
      replace H : (if a2 > 1 then (if 0 ≤ (Int.tmod (wrap64 (Int.tdiv a0 (rd y129 (ji5)))) 15) then (if (Int.tmod (wrap64 (Int.tdiv a0 (rd y129 (ji5)))) 15) < (t135.size : Int) then (if 0 ≤ (Int.tmod (wrap64 (Int.tdiv a1 (rd y129 (ji5)))) 15) then (if (Int.tmod (wrap64 (Int.tdiv a1 (rd y129 (ji5)))) 15) < (t135.size : Int) then ((some (([bt t135 (Int.tmod (wrap64 (Int.tdiv a0 (rd y129 (ji5)))) 15), bt t135 (Int.tmod (wrap64 (Int.tdiv a1 (rd y129 (ji5)))) 15)] : List Int) : List Int)).bind fun y136 => (if (strOfNums y136).size + (t133 ++ t134).size ≤ 9223372036854775807 then (if 0 ≤ (wrap64 (Int.tdiv (wrap64 (Int.tdiv a0 (rd y129 (ji5)))) 15)) then (if (wrap64 (Int.tdiv (wrap64 (Int.tdiv a0 (rd y129 (ji5)))) 15)) < (t135.size : Int) then (if 0 ≤ (wrap64 (Int.tdiv (wrap64 (Int.tdiv a1 (rd y129 (ji5)))) 15)) then (if (wrap64 (Int.tdiv (wrap64 (Int.tdiv a1 (rd y129 (ji5)))) 15)) < (t135.size : Int) then ((some (([bt t135 (wrap64 (Int.tdiv (wrap64 (Int.tdiv a0 (rd y129 (ji5)))) 15)), bt t135 (wrap64 (Int.tdiv (wrap64 (Int.tdiv a1 (rd y129 (ji5)))) 15))] : List Int) : List Int)).bind fun y139 => (if (strOfNums y139).size + ((strOfNums y136) ++ (t133 ++ t134)).size ≤ 9223372036854775807 then (some ((strOfNums y139) ++ ((strOfNums y136) ++ (t133 ++ t134)))) else (none))) else (none)) else (none)) else (none)) else (none)) else (none))) else (none)) else (none)) else (none)) else (none)) else (if 0 ≤ (wrap64 (Int.tdiv a0 (rd y129 (ji5)))) then (if (wrap64 (Int.tdiv a0 (rd y129 (ji5)))) < (t135.size : Int) then (if 0 ≤ (wrap64 (Int.tdiv a1 (rd y129 (ji5)))) then (if (wrap64 (Int.tdiv a1 (rd y129 (ji5)))) < (t135.size : Int) then ((some (([bt t135 (wrap64 (Int.tdiv a0 (rd y129 (ji5)))), bt t135 (wrap64 (Int.tdiv a1 (rd y129 (ji5))))] : List Int) : List Int)).bind fun y142 => (if (strOfNums y142).size + (t133 ++ t134).size ≤ 9223372036854775807 then (some ((strOfNums y142) ++ (t133 ++ t134))) else (none))) else (none)) else (none)) else (none)) else (none))) = some r := H
      have A12 := Aside0.mk A120
      clear A120
      by_cases c13 : a2 > 1
      ·rw [if_pos c13] at H
       have c13b0 : decide (1 < a2) = true := decide_eq_true c13
       clear c13
       obtain ⟨ji14, hji14⟩ : ∃ j_ : Int, (Int.tmod (wrap64 (Int.tdiv a0 (rd y129 (ji5)))) 15) = j_ := ⟨_, rfl⟩
       replace H : (if 0 ≤ (ji14) then (if (ji14) < (t135.size : Int) then (if 0 ≤ (Int.tmod (wrap64 (Int.tdiv a1 (rd y129 (ji5)))) 15) then (if (Int.tmod (wrap64 (Int.tdiv a1 (rd y129 (ji5)))) 15) < (t135.size : Int) then ((some (([bt t135 (ji14), bt t135 (Int.tmod (wrap64 (Int.tdiv a1 (rd y129 (ji5)))) 15)] : List Int) : List Int)).bind fun y136 => (if (strOfNums y136).size + (t133 ++ t134).size ≤ 9223372036854775807 then (if 0 ≤ (wrap64 (Int.tdiv (wrap64 (Int.tdiv a0 (rd y129 (ji5)))) 15)) then (if (wrap64 (Int.tdiv (wrap64 (Int.tdiv a0 (rd y129 (ji5)))) 15)) < (t135.size : Int) then (if 0 ≤ (wrap64 (Int.tdiv (wrap64 (Int.tdiv a1 (rd y129 (ji5)))) 15)) then (if (wrap64 (Int.tdiv (wrap64 (Int.tdiv a1 (rd y129 (ji5)))) 15)) < (t135.size : Int) then ((some (([bt t135 (wrap64 (Int.tdiv (wrap64 (Int.tdiv a0 (rd y129 (ji5)))) 15)), bt t135 (wrap64 (Int.tdiv (wrap64 (Int.tdiv a1 (rd y129 (ji5)))) 15))] : List Int) : List Int)).bind fun y139 => (if (strOfNums y139).size + ((strOfNums y136) ++ (t133 ++ t134)).size ≤ 9223372036854775807 then (some ((strOfNums y139) ++ ((strOfNums y136) ++ (t133 ++ t134)))) else (none))) else (none)) else (none)) else (none)) else (none)) else (none))) else (none)) else (none)) else (none)) else (none)) = some r := by first | (rw [hji14] at H; exact H) | (simp only [hji14] at H ⊢; exact H)
       (try rw [hji14] at A9)
       (try rw [hji14] at A10)
       (try rw [hji14] at A12)
       by_cases c15 : 0 ≤ (ji14)
       ·rw [if_pos c15] at H
        have c15b0 : decide (0 ≤ (ji14)) = true := decide_eq_true c15
        clear c15
        by_cases c16 : (ji14) < (t135.size : Int)
        ·rw [if_pos c16] at H
         have c16b0 : decide ((ji14) < (t135.size : Int)) = true := decide_eq_true c16
         clear c16
         obtain ⟨ji18, hji18⟩ : ∃ j_ : Int, (Int.tmod (wrap64 (Int.tdiv a1 (rd y129 (ji5)))) 15) = j_ := ⟨_, rfl⟩
         replace H : (if 0 ≤ (ji18) then (if (ji18) < (t135.size : Int) then ((some (([bt t135 (ji14), bt t135 (ji18)] : List Int) : List Int)).bind fun y136 => (if (strOfNums y136).size + (t133 ++ t134).size ≤ 9223372036854775807 then (if 0 ≤ (wrap64 (Int.tdiv (wrap64 (Int.tdiv a0 (rd y129 (ji5)))) 15)) then (if (wrap64 (Int.tdiv (wrap64 (Int.tdiv a0 (rd y129 (ji5)))) 15)) < (t135.size : Int) then (if 0 ≤ (wrap64 (Int.tdiv (wrap64 (Int.tdiv a1 (rd y129 (ji5)))) 15)) then (if (wrap64 (Int.tdiv (wrap64 (Int.tdiv a1 (rd y129 (ji5)))) 15)) < (t135.size : Int) then ((some (([bt t135 (wrap64 (Int.tdiv (wrap64 (Int.tdiv a0 (rd y129 (ji5)))) 15)), bt t135 (wrap64 (Int.tdiv (wrap64 (Int.tdiv a1 (rd y129 (ji5)))) 15))] : List Int) : List Int)).bind fun y139 => (if (strOfNums y139).size + ((strOfNums y136) ++ (t133 ++ t134)).size ≤ 9223372036854775807 then (some ((strOfNums y139) ++ ((strOfNums y136) ++ (t133 ++ t134)))) else (none))) else (none)) else (none)) else (none)) else (none)) else (none))) else (none)) else (none)) = some r := by first | (rw [hji18] at H; exact H) | (simp only [hji18] at H ⊢; exact H)
         (try rw [hji18] at A9)
         (try rw [hji18] at A10)
         (try rw [hji18] at A12)
         by_cases c19 : 0 ≤ (ji18)
         ·rw [if_pos c19] at H
          have c19b0 : decide (0 ≤ (ji18)) = true := decide_eq_true c19
          clear c19
          by_cases c20 : (ji18) < (t135.size : Int)
          ·rw [if_pos c20] at H
           have c20b0 : decide ((ji18) < (t135.size : Int)) = true := decide_eq_true c20
           clear c20
           obtain ⟨y136, hy136⟩ : ∃ y_ : List Int, y_ = (([bt t135 (ji14), bt t135 (ji18)] : List Int)) := ⟨_, rfl⟩
           replace H : (if (strOfNums y136).size + (t133 ++ t134).size ≤ 9223372036854775807 then (if 0 ≤ (wrap64 (Int.tdiv (wrap64 (Int.tdiv a0 (rd y129 (ji5)))) 15)) then (if (wrap64 (Int.tdiv (wrap64 (Int.tdiv a0 (rd y129 (ji5)))) 15)) < (t135.size : Int) then (if 0 ≤ (wrap64 (Int.tdiv (wrap64 (Int.tdiv a1 (rd y129 (ji5)))) 15)) then (if (wrap64 (Int.tdiv (wrap64 (Int.tdiv a1 (rd y129 (ji5)))) 15)) < (t135.size : Int) then ((some (([bt t135 (wrap64 (Int.tdiv (wrap64 (Int.tdiv a0 (rd y129 (ji5)))) 15)), bt t135 (wrap64 (Int.tdiv (wrap64 (Int.tdiv a1 (rd y129 (ji5)))) 15))] : List Int) : List Int)).bind fun y139 => (if (strOfNums y139).size + ((strOfNums y136) ++ (t133 ++ t134)).size ≤ 9223372036854775807 then (some ((strOfNums y139) ++ ((strOfNums y136) ++ (t133 ++ t134)))) else (none))) else (none)) else (none)) else (none)) else (none)) else (none)) = some r := by first | (rw [hy136]; with_reducible exact H) | (have H2_ := (Option.bind_some _ _).symm.trans H; rw [hy136]; with_reducible exact H2_) | (have H2_ := (Option.bind_some _ _).symm.trans H; with_reducible exact H2_) | with_reducible exact H | (rw [hy136]; exact H) | exact H
           have Ny136 := Aside0.mk hy136
           clear hy136
           by_cases c22 : (strOfNums y136).size + (t133 ++ t134).size ≤ 9223372036854775807
           ·rw [if_pos c22] at H
            have c22b0 := eq_true c22
            have c22b1 : decide ((strOfNums y136).size + (t133 ++ t134).size ≤ 9223372036854775807) = true := decide_eq_true c22
            try have c22b2 : (9223372036854775807 < (strOfNums y136).size + (t133 ++ t134).size) = False := eq_false (Nat.not_lt.2 c22)
            have c22b8 : (strOfNums y136).size + (t133.size + t134.size) ≤ 9223372036854775807 := by have h_ := c22; (try simp only [ByteArray.size_append] at h_ ⊢); omega
            have c22b9 : (9223372036854775807 < (strOfNums y136).size + (t133.size + t134.size)) = False := eq_false (Nat.not_lt.2 c22b8)
            obtain ⟨ji23, hji23⟩ : ∃ j_ : Int, (wrap64 (Int.tdiv (wrap64 (Int.tdiv a0 (rd y129 (ji5)))) 15)) = j_ := ⟨_, rfl⟩
            replace H : (if 0 ≤ (ji23) then (if (ji23) < (t135.size : Int) then (if 0 ≤ (wrap64 (Int.tdiv (wrap64 (Int.tdiv a1 (rd y129 (ji5)))) 15)) then (if (wrap64 (Int.tdiv (wrap64 (Int.tdiv a1 (rd y129 (ji5)))) 15)) < (t135.size : Int) then ((some (([bt t135 (ji23), bt t135 (wrap64 (Int.tdiv (wrap64 (Int.tdiv a1 (rd y129 (ji5)))) 15))] : List Int) : List Int)).bind fun y139 => (if (strOfNums y139).size + ((strOfNums y136) ++ (t133 ++ t134)).size ≤ 9223372036854775807 then (some ((strOfNums y139) ++ ((strOfNums y136) ++ (t133 ++ t134)))) else (none))) else (none)) else (none)) else (none)) else (none)) = some r := by first | (rw [hji23] at H; exact H) | (simp only [hji23] at H ⊢; exact H)
            (try rw [hji23] at A9)
            (try rw [hji23] at A10)
            (try rw [hji23] at A12)
            have hji23w : (IntKind.i64.wrap (Int.tdiv (wrap64 (Int.tdiv a0 (rd y129 (ji5)))) 15)) = ji23 := (i64_w _).trans hji23
            by_cases c24 : 0 ≤ (ji23)
            ·rw [if_pos c24] at H
             have c24b0 : decide (0 ≤ (ji23)) = true := decide_eq_true c24
             clear c24
             by_cases c25 : (ji23) < (t135.size : Int)
             ·rw [if_pos c25] at H
              have c25b0 : decide ((ji23) < (t135.size : Int)) = true := decide_eq_true c25
              clear c25
              obtain ⟨ji27, hji27⟩ : ∃ j_ : Int, (wrap64 (Int.tdiv (wrap64 (Int.tdiv a1 (rd y129 (ji5)))) 15)) = j_ := ⟨_, rfl⟩
              replace H : (if 0 ≤ (ji27) then (if (ji27) < (t135.size : Int) then ((some (([bt t135 (ji23), bt t135 (ji27)] : List Int) : List Int)).bind fun y139 => (if (strOfNums y139).size + ((strOfNums y136) ++ (t133 ++ t134)).size ≤ 9223372036854775807 then (some ((strOfNums y139) ++ ((strOfNums y136) ++ (t133 ++ t134)))) else (none))) else (none)) else (none)) = some r := by first | (rw [hji27] at H; exact H) | (simp only [hji27] at H ⊢; exact H)
              (try rw [hji27] at A9)
              (try rw [hji27] at A10)
              (try rw [hji27] at A12)
              have hji27w : (IntKind.i64.wrap (Int.tdiv (wrap64 (Int.tdiv a1 (rd y129 (ji5)))) 15)) = ji27 := (i64_w _).trans hji27
              by_cases c28 : 0 ≤ (ji27)
              ·rw [if_pos c28] at H
               have c28b0 : decide (0 ≤ (ji27)) = true := decide_eq_true c28
               clear c28
               by_cases c29 : (ji27) < (t135.size : Int)
               ·rw [if_pos c29] at H
                have c29b0 : decide ((ji27) < (t135.size : Int)) = true := decide_eq_true c29
                clear c29
                obtain ⟨y139, hy139⟩ : ∃ y_ : List Int, y_ = (([bt t135 (ji23), bt t135 (ji27)] : List Int)) := ⟨_, rfl⟩
                replace H : (if (strOfNums y139).size + ((strOfNums y136) ++ (t133 ++ t134)).size ≤ 9223372036854775807 then (some ((strOfNums y139) ++ ((strOfNums y136) ++ (t133 ++ t134)))) else (none)) = some r := by first | (rw [hy139]; with_reducible exact H) | (have H2_ := (Option.bind_some _ _).symm.trans H; rw [hy139]; with_reducible exact H2_) | (have H2_ := (Option.bind_some _ _).symm.trans H; with_reducible exact H2_) | with_reducible exact H | (rw [hy139]; exact H) | exact H
                have Ny139 := Aside0.mk hy139
                clear hy139
                by_cases c31 : (strOfNums y139).size + ((strOfNums y136) ++ (t133 ++ t134)).size ≤ 9223372036854775807
                ·rw [if_pos c31] at H
                 have c31b0 := eq_true c31
                 have c31b1 : decide ((strOfNums y139).size + ((strOfNums y136) ++ (t133 ++ t134)).size ≤ 9223372036854775807) = true := decide_eq_true c31
                 try have c31b2 : (9223372036854775807 < (strOfNums y139).size + ((strOfNums y136) ++ (t133 ++ t134)).size) = False := eq_false (Nat.not_lt.2 c31)
                 have c31b8 : (strOfNums y139).size + ((strOfNums y136).size + (t133.size + t134.size)) ≤ 9223372036854775807 := by have h_ := c31; (try simp only [ByteArray.size_append] at h_ ⊢); omega
                 have c31b9 : (9223372036854775807 < (strOfNums y139).size + ((strOfNums y136).size + (t133.size + t134.size))) = False := eq_false (Nat.not_lt.2 c31b8)
                 obtain rfl := Option.some.inj H
                 go_enter Tryd.func34, Tryd.ntmps34
                 try go_wp2_with (first | ((with_reducible refine gate_dst (N := 12) rfl ?_); refine Kd.R_lit (Kd.int .i64) _ 2 ?hg (N := 12) ?hd (xs := ([60, 600] : List Int)) (inner := [.int .i64 60, .int .i64 600]) (ok := fun _ => True) (okp := fun _ => True) ?hr ?hp (fun _ hk => hk) trivial (Below.refl _ _) (Nat.le_refl _) (by simp) ?_; (case hd => rfl); (case hg => rfl); (case hr => first | (go_simp; done) | (go_simp; rfl) | (go_simp; simp only [IntKind.wrap_u8, Int.emod_emod_of_dvd, Int.add_emod_emod, Int.emod_add_emod, Int.emod_emod]; done)); (case hp => exact (Reps.one (show Kd.M (Kd.int .i64) _ _ _ 60 [.int .i64 60] from rfl) (Reps.one (show Kd.M (Kd.int .i64) _ _ _ 600 [.int .i64 600] from rfl) (Reps.none _ _)))); intro v130 w32 ho33 hb hg_ hnew_; clear hg_ hnew_; (first | rw [← Ny129.out] at ho33 | (simp only [Int.reduceToNat] at ho33; rw [← Ny129.out] at ho33)); have n0_ := Aside0.mk (Kd.R_lower ho33 (by first | exact Nat.le_refl w.heap.size | exact (below_size (by repeat (first | (with_reducible first | exact HB.out | apply below_alloc | apply pw_below_drewN | apply below_drew1) | exact HB.out))))); have n1_ := Aside0.mk (below_step (by repeat (first | (with_reducible first | exact HB.out | apply below_alloc | apply pw_below_drewN | apply below_drew1) | exact HB.out)) hb); clear HB; have HO131 := n0_; have HB := n1_; clear n0_ n1_; clear hb ho33; obtain ⟨Ao34, co34, eo34⟩ := Kd.R_slice HO131.out; subst eo34; have p132 : 0 ≤ ((ji5) : Int) := of_decide_eq_true (by first | (with_reducible assumption) | assumption); have q132 : (ji5) < (y129.length : Int) := of_decide_eq_true (by first | (with_reducible assumption) | assumption); obtain ⟨ad132, e132, hx132_0⟩ := Kd.at_int (Kd.R_reads' HO131.out).2.2 (ji5) p132 q132; cases e132; replace p132 := eq_true p132; replace q132 := eq_true q132))
                 have n0_ := Aside0.mk (Kd.R_drew HO131.out)
                 have n1_ := Aside0.mk (below_drew1 HB.out)
                 clear HO131
                 clear HB
                 have HO131 := n0_
                 have HB := n1_
                 clear n0_ n1_
                 refine start_ (n := 14) (S := fun w' => True) (ds := []) #[false, false, false, false, false, false, false, false, false, false, false, false, false, false] (by kernel_rfl) rfl rfl trivial (fun hHeld => ?_); refine with_tabW spec_l26Georef.tab4 spec_l26Georef.bits4 (fun HT_ HW_ => ?_)
                 generalize w32.drew = w35 at HO131 HB hHeld ⊢
                 refine pure_ (i := 0) (N := some 17) (v := ?_) (a' := ?_) #[true, false, false, false, false, false, false, false, false, false, false, false, false, false] rfl rfl (any_of HT_.out (by kernel_rfl)) (fun _ _ _ h => h) (Or.inl ⟨by rfl, ?_⟩) ?_ ?_
                 rotate_left
                 ·intro w'
                  go_simp
                  with_reducible rfl
                 rotate_left
                 ·simp only [Act.put, List.setIfInBounds_toArray, List.set_cons_zero, List.set_cons_succ, i64_w, i32_w]
                  rfl
                 refine pure_ (i := 1) (N := some 18) (v := ?_) (a' := ?_) #[true, true, false, false, false, false, false, false, false, false, false, false, false, false] rfl rfl (any_of HT_.out (by kernel_rfl)) (fun _ _ _ h => h) (Or.inl ⟨by rfl, ?_⟩) ?_ ?_
                 rotate_left
                 ·intro w'
                  go_simp
                  with_reducible rfl
                 rotate_left
                 ·simp only [Act.put, List.setIfInBounds_toArray, List.set_cons_zero, List.set_cons_succ, i64_w, i32_w]
                  rfl
                 refine pure_ (i := 2) (N := some 19) (v := ?_) (a' := ?_) #[true, true, true, false, false, false, false, false, false, false, false, false, false, false] rfl rfl (any_of HT_.out (by kernel_rfl)) (fun _ _ _ h => h) (Or.inl ⟨by rfl, ?_⟩) ?_ ?_
                 rotate_left
                 ·intro w'
                  go_simp
                  with_reducible rfl
                 rotate_left
                 ·simp only [Act.put, List.setIfInBounds_toArray, List.set_cons_zero, List.set_cons_succ, i64_w, i32_w]
                  rfl
                 refine pure_ (i := 3) (N := some 20) (v := ?_) (a' := ?_) #[true, true, true, true, false, false, false, false, false, false, false, false, false, false] rfl rfl (any_of HT_.out (by kernel_rfl)) (fun _ _ _ h => h) (Or.inl ⟨by rfl, ?_⟩) ?_ ?_
                 rotate_left
                 ·intro w'
                  go_simp
                  with_reducible rfl
                 rotate_left
                 ·simp only [Act.put, List.setIfInBounds_toArray, List.set_cons_zero, List.set_cons_succ, i64_w, i32_w]
                  rfl
                 refine pure_ (i := 4) (N := some 21) (v := ?_) (a' := ?_) #[true, true, true, true, true, false, false, false, false, false, false, false, false, false] rfl rfl (any_of HT_.out (by kernel_rfl)) (fun _ _ _ h => h) (Or.inl ⟨by rfl, ?_⟩) ?_ ?_
                 rotate_left
                 ·intro w'
                  go_simp
                  with_reducible rfl
                 rotate_left
                 ·simp only [Act.put, List.setIfInBounds_toArray, List.set_cons_zero, List.set_cons_succ, i64_w, i32_w]
                  rfl
                 refine pure_ (i := 6) (N := some 23) (v := ?_) (a' := ?_) #[true, true, true, true, true, false, true, false, false, false, false, false, false, false] rfl rfl (any_of HT_.out (by kernel_rfl)) (fun _ _ _ h => h) (Or.inl ⟨by rfl, ?_⟩) ?_ ?_
                 rotate_left
                 ·intro w'
                  go_simp
                  with_reducible rfl
                 rotate_left
                 ·simp only [Act.put, List.setIfInBounds_toArray, List.set_cons_zero, List.set_cons_succ, i64_w, i32_w]
                  rfl
                 refine pure_ (i := 7) (N := some 24) (v := ?_) (a' := ?_) #[true, true, true, true, true, false, true, true, false, false, false, false, false, false] rfl rfl (any_of HT_.out (by kernel_rfl)) (fun _ _ _ h => h) (Or.inl ⟨by rfl, ?_⟩) ?_ ?_
                 rotate_left
                 ·intro w'
                  go_simp
                  with_reducible rfl
                 rotate_left
                 ·simp only [Act.put, List.setIfInBounds_toArray, List.set_cons_zero, List.set_cons_succ, i64_w, i32_w]
                  rfl
                 refine pure_ (i := 8) (N := some 25) (v := ?_) (a' := ?_) #[true, true, true, true, true, false, true, true, true, false, false, false, false, false] rfl rfl (any_of HT_.out (by kernel_rfl)) (fun _ _ _ h => h) (Or.inl ⟨by rfl, ?_⟩) ?_ ?_
                 rotate_left
                 ·intro w'
                  go_simp
                  with_reducible rfl
                 rotate_left
                 ·simp only [Act.put, List.setIfInBounds_toArray, List.set_cons_zero, List.set_cons_succ, i64_w, i32_w]
                  rfl
                 refine pure_ (i := 9) (N := some 26) (v := ?_) (a' := ?_) #[true, true, true, true, true, false, true, true, true, true, false, false, false, false] rfl rfl (any_of HT_.out (by kernel_rfl)) (fun _ _ _ h => h) (Or.inl ⟨by rfl, ?_⟩) ?_ ?_
                 rotate_left
                 ·intro w'
                  go_simp
                  with_reducible rfl
                 rotate_left
                 ·simp only [Act.put, List.setIfInBounds_toArray, List.set_cons_zero, List.set_cons_succ, i64_w, i32_w]
                  rfl
                 refine pure_ (i := 10) (N := some 27) (v := ?_) (a' := ?_) #[true, true, true, true, true, false, true, true, true, true, true, false, false, false] rfl rfl (any_of HT_.out (by kernel_rfl)) (fun _ _ _ h => h) (Or.inl ⟨by rfl, ?_⟩) ?_ ?_
                 rotate_left
                 ·intro w'
                  go_simp
                  with_reducible rfl
                 rotate_left
                 ·simp only [Act.put, List.setIfInBounds_toArray, List.set_cons_zero, List.set_cons_succ, i64_w, i32_w]
                  rfl
                 refine one_ (i := 5) (N := some 22) #[true, true, true, true, true, true, true, true, true, true, true, false, false, false] rfl rfl (one_of HT_.out (by kernel_rfl)) (by decide) (fun K hK => ?_)
                 refine goes_ Tryd.func71 (by kernel_rfl) rfl #[.int .i64 (Int.tmod a0 (rd y129 (ji5))), .int .i64 (wrap64 (a2 - 1))] (by rfl) rfl rfl (by (try simp only [List.map_toArray, List.map_cons, List.map_nil]); first | done | (simp only [hji5]; rfl) | rfl | (simp only [List.length_drop, List.length_take]; rfl)) ?_
                 with_reducible refine (spec_l26Digits.calls k (Int.tmod a0 (rd y129 (ji5))) (wrap64 (a2 - 1)) t133 _ A9.out).mono ?_
                 rintro e w36 ⟨rfl, hb⟩
                 refine ⟨_, rfl, ?_⟩
                 have n0_ := Aside0.mk (Kd.R_below (by (with_reducible repeat (first | apply Kd.R_alloc | apply Kd.R_drewN | apply Kd.R_drew)); exact HO131.out) hb)
                 have n1_ := Aside0.mk (below_step (by repeat (first | (with_reducible first | exact HB.out | apply below_alloc | apply pw_below_drewN | apply below_drew1) | exact HB.out)) hb)
                 clear HO131
                 clear HB
                 have HO131 := n0_
                 have HB := n1_
                 clear n0_ n1_
                 (try clear hb)
                 (try clear hb2)
                 (try clear hk)
                 (try clear hi)
                 refine hK.out _ _ trivial (fun hHeld => ?_)
                 clear hK K
                 refine norm_ (a' := ?_) ?_ ?_
                 rotate_left
                 ·show Act.put _ (some 22) _ = _
                  simp only [Act.put, List.setIfInBounds_toArray, List.set_cons_zero, List.set_cons_succ, i64_w, i32_w]
                  rfl
                 refine one_ (i := 11) (N := some 28) #[true, true, true, true, true, true, true, true, true, true, true, true, false, false] rfl rfl (one_of HT_.out (by kernel_rfl)) (by decide) (fun K hK => ?_)
                 refine goes_ Tryd.func71 (by kernel_rfl) rfl #[.int .i64 (Int.tmod a1 (rd y129 (ji5))), .int .i64 (wrap64 (a2 - 1))] (by rfl) rfl rfl (by (try simp only [List.map_toArray, List.map_cons, List.map_nil]); first | done | (simp only [hji5]; rfl) | rfl | (simp only [List.length_drop, List.length_take]; rfl)) ?_
                 with_reducible refine (spec_l26Digits.calls k (Int.tmod a1 (rd y129 (ji5))) (wrap64 (a2 - 1)) t134 _ A10.out).mono ?_
                 rintro e w37 ⟨rfl, hb⟩
                 refine ⟨_, rfl, ?_⟩
                 have n0_ := Aside0.mk (Kd.R_below (by (with_reducible repeat (first | apply Kd.R_alloc | apply Kd.R_drewN | apply Kd.R_drew)); exact HO131.out) hb)
                 have n1_ := Aside0.mk (below_step (by repeat (first | (with_reducible first | exact HB.out | apply below_alloc | apply pw_below_drewN | apply below_drew1) | exact HB.out)) hb)
                 clear HO131
                 clear HB
                 have HO131 := n0_
                 have HB := n1_
                 clear n0_ n1_
                 (try clear hb)
                 (try clear hb2)
                 (try clear hk)
                 (try clear hi)
                 refine hK.out _ _ trivial (fun hHeld => ?_)
                 clear hK K
                 refine norm_ (a' := ?_) ?_ ?_
                 rotate_left
                 ·show Act.put _ (some 28) _ = _
                  simp only [Act.put, List.setIfInBounds_toArray, List.set_cons_zero, List.set_cons_succ, i64_w, i32_w]
                  rfl
                 refine pure_ (i := 12) (N := some 29) (v := ?_) (a' := ?_) #[true, true, true, true, true, true, true, true, true, true, true, true, true, false] rfl rfl (any_of HT_.out (by kernel_rfl)) (fun _ _ _ h => h) (Or.inl ⟨by rfl, ?_⟩) ?_ ?_
                 rotate_left
                 ·intro w'
                  go_simp
                  with_reducible rfl
                 rotate_left
                 ·simp only [Act.put, List.setIfInBounds_toArray, List.set_cons_zero, List.set_cons_succ, i64_w, i32_w]
                  rfl
                 refine pure_ (i := 13) (N := some 7) (v := ?_) (a' := ?_) #[true, true, true, true, true, true, true, true, true, true, true, true, true, true] rfl rfl (any_of HT_.out (by kernel_rfl)) (fun _ _ _ h => h) (Or.inl ⟨by rfl, ?_⟩) ?_ ?_
                 rotate_left
                 ·intro w'
                  go_simp
                  with_reducible rfl
                 rotate_left
                 ·simp only [Act.put, List.setIfInBounds_toArray, List.set_cons_zero, List.set_cons_succ, i64_w, i32_w]
                  rfl
                 refine done_ (done_of HT_.out (by kernel_rfl)) ?_
                 try go_wp2_with (first | ((with_reducible refine gate_callee (f := 72) rfl ?_); refine goesL_ (some 36) rfl rfl Tryd.func72 (by kernel_rfl) rfl #[] rfl (by (try simp only [List.map_toArray, List.map_cons, List.map_nil]); first | done | rfl | (simp only [List.length_drop, List.length_take]; rfl)) ?_; (with_reducible refine (spec_l26Letters.calls  t135 _ A12.out).mono ?_); rintro e w' ⟨rfl, ⟨nd, rfl⟩⟩; refine ⟨_, rfl, ?_⟩))
                 (try (rw [drewN_self w37]; generalize hq_ : World.drewN w37 _ = w37; have n0_ : Aside0 (Kd.R (Kd.int .i64) 2 w37 w.heap.size (fun _ => True) (.slice (some ad132) y129.length co34) y129) := ⟨by rw [← hq_]; exact (by (with_reducible repeat (first | apply Kd.R_alloc | apply Kd.R_drewN | apply Kd.R_drew)); exact HO131.out)⟩; have n1_ : Aside0 (Below w.heap.size w w37) := ⟨by rw [← hq_]; exact (by repeat (first | (with_reducible first | exact HB.out | apply below_alloc | apply pw_below_drewN | apply below_drew1) | exact HB.out))⟩; clear HO131 HB hq_; have HO131 := n0_; have HB := n1_; clear n0_ n1_))
                 have n0_ := Aside0.mk (Kd.R_drew HO131.out)
                 have n1_ := Aside0.mk (below_drew1 HB.out)
                 clear HO131
                 clear HB
                 have HO131 := n0_
                 have HB := n1_
                 clear n0_ n1_
                 have p17 : 0 ≤ ((ji14) : Int) := of_decide_eq_true (by first | (with_reducible assumption) | assumption)
                 have q17 : (ji14) < (t135.size : Int) := of_decide_eq_true (by first | (with_reducible assumption) | assumption)
                 have hx17 := bt_at t135 (ji14)
                 replace p17 := eq_true p17
                 replace q17 := eq_true q17
                 have p21 : 0 ≤ ((ji18) : Int) := of_decide_eq_true (by first | (with_reducible assumption) | assumption)
                 have q21 : (ji18) < (t135.size : Int) := of_decide_eq_true (by first | (with_reducible assumption) | assumption)
                 have hx21 := bt_at t135 (ji18)
                 replace p21 := eq_true p21
                 replace q21 := eq_true q21
                 refine start_ (n := 13) (S := fun w' => True) (ds := []) #[false, false, false, false, false, false, false, false, false, false, false, false, false] (by kernel_rfl) rfl rfl trivial (fun hHeld => ?_); refine with_tabW spec_l26Georef.tab9 spec_l26Georef.bits9 (fun HT_ HW_ => ?_)
                 generalize w37.drew = w38 at HO131 HB hHeld ⊢
                 refine pure_ (i := 0) (N := some 39) (v := ?_) (a' := ?_) #[true, false, false, false, false, false, false, false, false, false, false, false, false] rfl rfl (any_of HT_.out (by kernel_rfl)) (fun _ _ _ h => h) (Or.inl ⟨by rfl, ?_⟩) ?_ ?_
                 rotate_left
                 ·intro w'
                  go_simp
                  with_reducible rfl
                 rotate_left
                 ·simp only [Act.put, List.setIfInBounds_toArray, List.set_cons_zero, List.set_cons_succ, i64_w, i32_w]
                  rfl
                 refine pure_ (i := 1) (N := some 40) (v := ?_) (a' := ?_) #[true, true, false, false, false, false, false, false, false, false, false, false, false] rfl rfl (any_of HT_.out (by kernel_rfl)) (fun _ _ _ h => h) (Or.inl ⟨by rfl, ?_⟩) ?_ ?_
                 rotate_left
                 ·intro w'
                  go_simp
                  with_reducible rfl
                 rotate_left
                 ·simp only [Act.put, List.setIfInBounds_toArray, List.set_cons_zero, List.set_cons_succ, i64_w, i32_w]
                  rfl
                 refine pure_ (i := 2) (N := some 41) (v := ?_) (a' := ?_) #[true, true, true, false, false, false, false, false, false, false, false, false, false] rfl rfl (any_of HT_.out (by kernel_rfl)) (fun _ _ _ h => h) (Or.inl ⟨by rfl, ?_⟩) ?_ ?_
                 rotate_left
                 ·intro w'
                  go_simp
                  with_reducible rfl
                 rotate_left
                 ·simp only [Act.put, List.setIfInBounds_toArray, List.set_cons_zero, List.set_cons_succ, i64_w, i32_w]
                  rfl
                 refine pure_ (i := 4) (N := some 43) (v := ?_) (a' := ?_) #[true, true, true, false, true, false, false, false, false, false, false, false, false] rfl rfl (any_of HT_.out (by kernel_rfl)) (fun _ _ _ h => h) (Or.inl ⟨by rfl, ?_⟩) ?_ ?_
                 rotate_left
                 ·intro w'
                  go_simp
                  with_reducible rfl
                 rotate_left
                 ·simp only [Act.put, List.setIfInBounds_toArray, List.set_cons_zero, List.set_cons_succ, i64_w, i32_w]
                  rfl
                 refine pure_ (i := 5) (N := some 44) (v := ?_) (a' := ?_) #[true, true, true, false, true, true, false, false, false, false, false, false, false] rfl rfl (any_of HT_.out (by kernel_rfl)) (fun _ _ _ h => h) (Or.inl ⟨by rfl, ?_⟩) ?_ ?_
                 rotate_left
                 ·intro w'
                  go_simp
                  with_reducible rfl
                 rotate_left
                 ·simp only [Act.put, List.setIfInBounds_toArray, List.set_cons_zero, List.set_cons_succ, i64_w, i32_w]
                  rfl
                 refine pure_ (i := 6) (N := some 45) (v := ?_) (a' := ?_) #[true, true, true, false, true, true, true, false, false, false, false, false, false] rfl rfl (any_of HT_.out (by kernel_rfl)) (fun _ _ _ h => h) (Or.inl ⟨by rfl, ?_⟩) ?_ ?_
                 rotate_left
                 ·intro w'
                  go_simp
                  with_reducible rfl
                 rotate_left
                 ·simp only [Act.put, List.setIfInBounds_toArray, List.set_cons_zero, List.set_cons_succ, i64_w, i32_w]
                  rfl
                 refine pure_ (i := 10) (N := some 49) (v := ?_) (a' := ?_) #[true, true, true, false, true, true, true, false, false, false, true, false, false] rfl rfl (any_of HT_.out (by kernel_rfl)) (fun _ _ _ h => h) (Or.inl ⟨by rfl, ?_⟩) ?_ ?_
                 rotate_left
                 ·intro w'
                  go_simp
                  with_reducible rfl
                 rotate_left
                 ·simp only [Act.put, List.setIfInBounds_toArray, List.set_cons_zero, List.set_cons_succ, i64_w, i32_w]
                  rfl
                 refine take_ (i := 3) (N := some 42) (v := ?_) (a' := ?_) #[true, true, true, true, true, true, true, false, false, false, true, false, false] rfl rfl (take_ofW HT_.out HW_.out (by kernel_rfl)) (fun _ _ _ h => h) (Or.inl ⟨by rfl, ?_⟩) hHeld ?_ ?_
                 rotate_left
                 ·intro w' _
                  go_simp
                  with_reducible rfl
                 rotate_left
                 ·simp only [Act.put, List.setIfInBounds_toArray, List.set_cons_zero, List.set_cons_succ, i64_w, i32_w]
                  rfl
                 refine take_ (i := 7) (N := some 46) (v := ?_) (a' := ?_) #[true, true, true, true, true, true, true, true, false, false, true, false, false] rfl rfl (take_ofW HT_.out HW_.out (by kernel_rfl)) (fun _ _ _ h => h) (Or.inl ⟨by rfl, ?_⟩) hHeld ?_ ?_
                 rotate_left
                 ·intro w' _
                  go_simp
                  with_reducible rfl
                 rotate_left
                 ·simp only [Act.put, List.setIfInBounds_toArray, List.set_cons_zero, List.set_cons_succ, i64_w, i32_w]
                  rfl
                 refine one_ (i := 8) (N := some 47) #[true, true, true, true, true, true, true, true, true, false, true, false, false] rfl rfl (one_of HT_.out (by kernel_rfl)) (by decide) (fun K hK => ?_)
                 refine Kd.R_lit_step (Kd.int .u8) _ 5 ?hg (N := 47) ?hd (xs := ([bt t135 (ji14), bt t135 (ji18)] : List Int)) (inner := [.int .u8 (bt t135 (ji14)), .int .u8 (bt t135 (ji18))]) (ok := fun _ => True) (okp := fun _ => True) ?hr ?hp (fun _ hk => hk) trivial (Below.refl _ _) (Nat.le_refl _) (by simp) ?_; (case hd => rfl); (case hg => rfl); (case hr => first | (go_simp; done) | (go_simp; rfl) | (go_simp; simp only [IntKind.wrap_u8, Int.emod_emod_of_dvd, Int.add_emod_emod, Int.emod_add_emod, Int.emod_emod]; done)); (case hp => exact (Reps.one (show Kd.M (Kd.int .u8) _ _ _ (bt t135 (ji14)) [.int .u8 (bt t135 (ji14))] from rfl) (Reps.one (show Kd.M (Kd.int .u8) _ _ _ (bt t135 (ji18)) [.int .u8 (bt t135 (ji18))] from rfl) (Reps.none _ _))))
                 intro v137 w39 ho40 hb hg_ hnew_
                 clear hg_ hnew_
                 (first | rw [← Ny136.out] at ho40 | (simp only [Int.reduceToNat] at ho40; rw [← Ny136.out] at ho40))
                 have n0_ := Aside0.mk (Kd.R_below (by (with_reducible repeat (first | apply Kd.R_alloc | apply Kd.R_drewN | apply Kd.R_drew)); exact HO131.out) hb)
                 have n1_ := Aside0.mk (Kd.R_lower ho40 (by first | exact Nat.le_refl w.heap.size | exact (below_size (by repeat (first | (with_reducible first | exact HB.out | apply below_alloc | apply pw_below_drewN | apply below_drew1) | exact HB.out)))))
                 have n2_ := Aside0.mk (below_step (by repeat (first | (with_reducible first | exact HB.out | apply below_alloc | apply pw_below_drewN | apply below_drew1) | exact HB.out)) hb)
                 clear HO131
                 clear HB
                 have HO131 := n0_
                 have HO138 := n1_
                 have HB := n2_
                 clear n0_ n1_ n2_
                 clear hb ho40
                 refine hK.out _ _ trivial (fun hHeld => ?_)
                 clear hK K
                 refine norm_ (a' := ?_) ?_ ?_
                 rotate_left
                 ·show Act.put _ (some 47) _ = _
                  simp only [Act.put, List.setIfInBounds_toArray, List.set_cons_zero, List.set_cons_succ, i64_w, i32_w]
                  rfl
                 refine one_ (i := 9) (N := some 48) #[true, true, true, true, true, true, true, true, true, true, true, false, false] rfl rfl (one_of HT_.out (by kernel_rfl)) (by decide) (fun K hK => ?_)
                 have hcv41 := own_string (P := Tryd.prog) Tryd.underlying51 Tryd.underlying5 Tryd.underlying9 (Kd.own_of_R HO138.out)
                 refine value_ (w1 := ?_) (v := ?_) (by rfl) rfl ?_ ?_
                 rotate_left 2
                 ·go_simp
                  constructor
                  ·rfl
                  ·rfl
                 clear hcv41
                 refine hK.out _ _ trivial (fun hHeld => ?_)
                 clear hK K
                 refine norm_ (a' := ?_) ?_ ?_
                 rotate_left
                 ·show Act.put _ (some 48) _ = _
                  simp only [Act.put, List.setIfInBounds_toArray, List.set_cons_zero, List.set_cons_succ, i64_w, i32_w]
                  rfl
                 refine pure_ (i := 11) (N := some 50) (v := ?_) (a' := ?_) #[true, true, true, true, true, true, true, true, true, true, true, true, false] rfl rfl (any_of HT_.out (by kernel_rfl)) (fun _ _ _ h => h) (Or.inl ⟨by rfl, ?_⟩) ?_ ?_
                 rotate_left
                 ·intro w'
                  go_simp
                  with_reducible rfl
                 rotate_left
                 ·simp only [Act.put, List.setIfInBounds_toArray, List.set_cons_zero, List.set_cons_succ, i64_w, i32_w]
                  rfl
                 refine pure_ (i := 12) (N := some 7) (v := ?_) (a' := ?_) #[true, true, true, true, true, true, true, true, true, true, true, true, true] rfl rfl (any_of HT_.out (by kernel_rfl)) (fun _ _ _ h => h) (Or.inl ⟨by rfl, ?_⟩) ?_ ?_
                 rotate_left
                 ·intro w'
                  go_simp
                  with_reducible rfl
                 rotate_left
                 ·simp only [Act.put, List.setIfInBounds_toArray, List.set_cons_zero, List.set_cons_succ, i64_w, i32_w]
                  rfl
                 refine done_ (done_of HT_.out (by kernel_rfl)) ?_
                 try go_wp2
                 have n0_ := Aside0.mk (Kd.R_drew HO131.out)
                 have n1_ := Aside0.mk (Kd.R_drew HO138.out)
                 have n2_ := Aside0.mk (below_drew1 HB.out)
                 clear HO131
                 clear HO138
                 clear HB
                 have HO131 := n0_
                 have HO138 := n1_
                 have HB := n2_
                 clear n0_ n1_ n2_
                 have p26 : 0 ≤ ((ji23) : Int) := of_decide_eq_true (by first | (with_reducible assumption) | assumption)
                 have q26 : (ji23) < (t135.size : Int) := of_decide_eq_true (by first | (with_reducible assumption) | assumption)
                 have hx26 := bt_at t135 (ji23)
                 replace p26 := eq_true p26
                 replace q26 := eq_true q26
                 have p30 : 0 ≤ ((ji27) : Int) := of_decide_eq_true (by first | (with_reducible assumption) | assumption)
                 have q30 : (ji27) < (t135.size : Int) := of_decide_eq_true (by first | (with_reducible assumption) | assumption)
                 have hx30 := bt_at t135 (ji27)
                 replace p30 := eq_true p30
                 replace q30 := eq_true q30
                 refine start_ (n := 11) (S := fun w' => True) (ds := []) #[false, false, false, false, false, false, false, false, false, false, false] (by kernel_rfl) rfl rfl trivial (fun hHeld => ?_); refine with_tabW spec_l26Georef.tab12 spec_l26Georef.bits12 (fun HT_ HW_ => ?_)
                 generalize w39.drew = w42 at HO131 HO138 HB hHeld ⊢
                 refine pure_ (i := 0) (N := some 55) (v := ?_) (a' := ?_) #[true, false, false, false, false, false, false, false, false, false, false] rfl rfl (any_of HT_.out (by kernel_rfl)) (fun _ _ _ h => h) (Or.inl ⟨by rfl, ?_⟩) ?_ ?_
                 rotate_left
                 ·intro w'
                  go_simp
                  with_reducible rfl
                 rotate_left
                 ·simp only [Act.put, List.setIfInBounds_toArray, List.set_cons_zero, List.set_cons_succ, i64_w, i32_w]
                  rfl
                 refine pure_ (i := 1) (N := some 56) (v := ?_) (a' := ?_) #[true, true, false, false, false, false, false, false, false, false, false] rfl rfl (any_of HT_.out (by kernel_rfl)) (fun _ _ _ h => h) (Or.inl ⟨by rfl, ?_⟩) ?_ ?_
                 rotate_left
                 ·intro w'
                  go_simp
                  with_reducible rfl
                 rotate_left
                 ·simp only [Act.put, List.setIfInBounds_toArray, List.set_cons_zero, List.set_cons_succ, i64_w, i32_w]
                  rfl
                 refine pure_ (i := 3) (N := some 58) (v := ?_) (a' := ?_) #[true, true, false, true, false, false, false, false, false, false, false] rfl rfl (any_of HT_.out (by kernel_rfl)) (fun _ _ _ h => h) (Or.inl ⟨by rfl, ?_⟩) ?_ ?_
                 rotate_left
                 ·intro w'
                  go_simp
                  with_reducible rfl
                 rotate_left
                 ·simp only [Act.put, List.setIfInBounds_toArray, List.set_cons_zero, List.set_cons_succ, i64_w, i32_w]
                  rfl
                 refine pure_ (i := 4) (N := some 59) (v := ?_) (a' := ?_) #[true, true, false, true, true, false, false, false, false, false, false] rfl rfl (any_of HT_.out (by kernel_rfl)) (fun _ _ _ h => h) (Or.inl ⟨by rfl, ?_⟩) ?_ ?_
                 rotate_left
                 ·intro w'
                  go_simp
                  with_reducible rfl
                 rotate_left
                 ·simp only [Act.put, List.setIfInBounds_toArray, List.set_cons_zero, List.set_cons_succ, i64_w, i32_w]
                  rfl
                 refine pure_ (i := 8) (N := some 63) (v := ?_) (a' := ?_) #[true, true, false, true, true, false, false, false, true, false, false] rfl rfl (any_of HT_.out (by kernel_rfl)) (fun _ _ _ h => h) (Or.inl ⟨by rfl, ?_⟩) ?_ ?_
                 rotate_left
                 ·intro w'
                  go_simp
                  with_reducible rfl
                 rotate_left
                 ·simp only [Act.put, List.setIfInBounds_toArray, List.set_cons_zero, List.set_cons_succ, i64_w, i32_w]
                  rfl
                 refine take_ (i := 2) (N := some 57) (v := ?_) (a' := ?_) #[true, true, true, true, true, false, false, false, true, false, false] rfl rfl (take_ofW HT_.out HW_.out (by kernel_rfl)) (fun _ _ _ h => h) (Or.inl ⟨by rfl, ?_⟩) hHeld ?_ ?_
                 rotate_left
                 ·intro w' _
                  go_simp
                  with_reducible rfl
                 rotate_left
                 ·simp only [Act.put, List.setIfInBounds_toArray, List.set_cons_zero, List.set_cons_succ, i64_w, i32_w]
                  rfl
                 refine take_ (i := 5) (N := some 60) (v := ?_) (a' := ?_) #[true, true, true, true, true, true, false, false, true, false, false] rfl rfl (take_ofW HT_.out HW_.out (by kernel_rfl)) (fun _ _ _ h => h) (Or.inl ⟨by rfl, ?_⟩) hHeld ?_ ?_
                 rotate_left
                 ·intro w' _
                  go_simp
                  with_reducible rfl
                 rotate_left
                 ·simp only [Act.put, List.setIfInBounds_toArray, List.set_cons_zero, List.set_cons_succ, i64_w, i32_w]
                  rfl
                 refine one_ (i := 6) (N := some 61) #[true, true, true, true, true, true, true, false, true, false, false] rfl rfl (one_of HT_.out (by kernel_rfl)) (by decide) (fun K hK => ?_)
                 refine Kd.R_lit_step (Kd.int .u8) _ 5 ?hg (N := 61) ?hd (xs := ([bt t135 (ji23), bt t135 (ji27)] : List Int)) (inner := [.int .u8 (bt t135 (ji23)), .int .u8 (bt t135 (ji27))]) (ok := fun _ => True) (okp := fun _ => True) ?hr ?hp (fun _ hk => hk) trivial (Below.refl _ _) (Nat.le_refl _) (by simp) ?_; (case hd => rfl); (case hg => rfl); (case hr => first | (go_simp; done) | (go_simp; rfl) | (go_simp; simp only [IntKind.wrap_u8, Int.emod_emod_of_dvd, Int.add_emod_emod, Int.emod_add_emod, Int.emod_emod]; done)); (case hp => exact (Reps.one (show Kd.M (Kd.int .u8) _ _ _ (bt t135 (ji23)) [.int .u8 (bt t135 (ji23))] from rfl) (Reps.one (show Kd.M (Kd.int .u8) _ _ _ (bt t135 (ji27)) [.int .u8 (bt t135 (ji27))] from rfl) (Reps.none _ _))))
                 intro v140 w43 ho44 hb hg_ hnew_
                 clear hg_ hnew_
                 (first | rw [← Ny139.out] at ho44 | (simp only [Int.reduceToNat] at ho44; rw [← Ny139.out] at ho44))
                 have n0_ := Aside0.mk (Kd.R_below (by (with_reducible repeat (first | apply Kd.R_alloc | apply Kd.R_drewN | apply Kd.R_drew)); exact HO131.out) hb)
                 have n1_ := Aside0.mk (Kd.R_elder' (by (with_reducible repeat (first | apply Kd.R_alloc | apply Kd.R_drewN | apply Kd.R_drew)); exact HO138.out) (Kd.R_base ho44) hb)
                 have n2_ := Aside0.mk (Kd.R_lower (Kd.R_new' ho44 (Kd.R_lt (by (with_reducible repeat (first | apply Kd.R_alloc | apply Kd.R_drewN | apply Kd.R_drew)); exact HO138.out))) (below_size (by repeat (first | (with_reducible first | exact HB.out | apply below_alloc | apply pw_below_drewN | apply below_drew1) | exact HB.out))))
                 have n3_ := Aside0.mk (below_step (by repeat (first | (with_reducible first | exact HB.out | apply below_alloc | apply pw_below_drewN | apply below_drew1) | exact HB.out)) hb)
                 clear HO131
                 clear HO138
                 clear HB
                 have HO131 := n0_
                 have HO138 := n1_
                 have HO141 := n2_
                 have HB := n3_
                 clear n0_ n1_ n2_ n3_
                 clear hb ho44
                 refine hK.out _ _ trivial (fun hHeld => ?_)
                 clear hK K
                 refine norm_ (a' := ?_) ?_ ?_
                 rotate_left
                 ·show Act.put _ (some 61) _ = _
                  simp only [Act.put, List.setIfInBounds_toArray, List.set_cons_zero, List.set_cons_succ, i64_w, i32_w]
                  rfl
                 refine one_ (i := 7) (N := some 62) #[true, true, true, true, true, true, true, true, true, false, false] rfl rfl (one_of HT_.out (by kernel_rfl)) (by decide) (fun K hK => ?_)
                 have hcv45 := own_string (P := Tryd.prog) Tryd.underlying51 Tryd.underlying5 Tryd.underlying9 (Kd.own_of_R HO141.out)
                 refine value_ (w1 := ?_) (v := ?_) (by rfl) rfl ?_ ?_
                 rotate_left 2
                 ·go_simp
                  constructor
                  ·rfl
                  ·rfl
                 clear hcv45
                 refine hK.out _ _ trivial (fun hHeld => ?_)
                 clear hK K
                 refine norm_ (a' := ?_) ?_ ?_
                 rotate_left
                 ·show Act.put _ (some 62) _ = _
                  simp only [Act.put, List.setIfInBounds_toArray, List.set_cons_zero, List.set_cons_succ, i64_w, i32_w]
                  rfl
                 refine pure_ (i := 9) (N := some 64) (v := ?_) (a' := ?_) #[true, true, true, true, true, true, true, true, true, true, false] rfl rfl (any_of HT_.out (by kernel_rfl)) (fun _ _ _ h => h) (Or.inl ⟨by rfl, ?_⟩) ?_ ?_
                 rotate_left
                 ·intro w'
                  go_simp
                  with_reducible rfl
                 rotate_left
                 ·simp only [Act.put, List.setIfInBounds_toArray, List.set_cons_zero, List.set_cons_succ, i64_w, i32_w]
                  rfl
                 refine pure_ (i := 10) (N := some 6) (v := ?_) (a' := ?_) #[true, true, true, true, true, true, true, true, true, true, true] rfl rfl (any_of HT_.out (by kernel_rfl)) (fun _ _ _ h => h) (Or.inl ⟨by rfl, ?_⟩) ?_ ?_
                 rotate_left
                 ·intro w'
                  go_simp
                  with_reducible rfl
                 rotate_left
                 ·simp only [Act.put, List.setIfInBounds_toArray, List.set_cons_zero, List.set_cons_succ, i64_w, i32_w]
                  rfl
                 refine done_ (done_of HT_.out (by kernel_rfl)) ?_
                 try go_wp2
                 go_ret
                 exact ⟨by first | rfl | (simp [errW_none, errW_some] <;> rfl) | (simp only [← hji5, ← hji14, ← hji18, ← hji23, ← hji27]; first | rfl | (simp [errW_none, errW_some] <;> rfl)) | (simp [errW_none, errW_some]; decide +kernel) | (simp [*, errW_none, errW_some] <;> rfl), by repeat (first | (with_reducible first | exact HB.out | apply below_alloc | apply pw_below_drewN | apply below_drew1) | exact HB.out)⟩
                ·rw [if_neg c31] at H
                 exact absurd H (by simp)
               ·rw [if_neg c29] at H
                exact absurd H (by simp)
              ·rw [if_neg c28] at H
               exact absurd H (by simp)
             ·rw [if_neg c25] at H
              exact absurd H (by simp)
            ·rw [if_neg c24] at H
             exact absurd H (by simp)
           ·rw [if_neg c22] at H
            exact absurd H (by simp)
          ·rw [if_neg c20] at H
           exact absurd H (by simp)
         ·rw [if_neg c19] at H
          exact absurd H (by simp)
        ·rw [if_neg c16] at H
         exact absurd H (by simp)
       ·rw [if_neg c15] at H
        exact absurd H (by simp)
      ·rw [if_neg c13] at H
       have c13b0 : decide (1 < a2) = false := decide_eq_false c13
       clear c13
       obtain ⟨ji46, hji46⟩ : ∃ j_ : Int, (wrap64 (Int.tdiv a0 (rd y129 (ji5)))) = j_ := ⟨_, rfl⟩
       replace H : (if 0 ≤ (ji46) then (if (ji46) < (t135.size : Int) then (if 0 ≤ (wrap64 (Int.tdiv a1 (rd y129 (ji5)))) then (if (wrap64 (Int.tdiv a1 (rd y129 (ji5)))) < (t135.size : Int) then ((some (([bt t135 (ji46), bt t135 (wrap64 (Int.tdiv a1 (rd y129 (ji5))))] : List Int) : List Int)).bind fun y142 => (if (strOfNums y142).size + (t133 ++ t134).size ≤ 9223372036854775807 then (some ((strOfNums y142) ++ (t133 ++ t134))) else (none))) else (none)) else (none)) else (none)) else (none)) = some r := by first | (rw [hji46] at H; exact H) | (simp only [hji46] at H ⊢; exact H)
       (try rw [hji46] at A9)
       (try rw [hji46] at A10)
       (try rw [hji46] at A12)
       have hji46w : (IntKind.i64.wrap (Int.tdiv a0 (rd y129 (ji5)))) = ji46 := (i64_w _).trans hji46
       by_cases c47 : 0 ≤ (ji46)
       ·rw [if_pos c47] at H
        have c47b0 : decide (0 ≤ (ji46)) = true := decide_eq_true c47
        clear c47
        by_cases c48 : (ji46) < (t135.size : Int)
        ·rw [if_pos c48] at H
         have c48b0 : decide ((ji46) < (t135.size : Int)) = true := decide_eq_true c48
         clear c48
         obtain ⟨ji50, hji50⟩ : ∃ j_ : Int, (wrap64 (Int.tdiv a1 (rd y129 (ji5)))) = j_ := ⟨_, rfl⟩
         replace H : (if 0 ≤ (ji50) then (if (ji50) < (t135.size : Int) then ((some (([bt t135 (ji46), bt t135 (ji50)] : List Int) : List Int)).bind fun y142 => (if (strOfNums y142).size + (t133 ++ t134).size ≤ 9223372036854775807 then (some ((strOfNums y142) ++ (t133 ++ t134))) else (none))) else (none)) else (none)) = some r := by first | (rw [hji50] at H; exact H) | (simp only [hji50] at H ⊢; exact H)
         (try rw [hji50] at A9)
         (try rw [hji50] at A10)
         (try rw [hji50] at A12)
         have hji50w : (IntKind.i64.wrap (Int.tdiv a1 (rd y129 (ji5)))) = ji50 := (i64_w _).trans hji50
         by_cases c51 : 0 ≤ (ji50)
         ·rw [if_pos c51] at H
          have c51b0 : decide (0 ≤ (ji50)) = true := decide_eq_true c51
          clear c51
          by_cases c52 : (ji50) < (t135.size : Int)
          ·rw [if_pos c52] at H
           have c52b0 : decide ((ji50) < (t135.size : Int)) = true := decide_eq_true c52
           clear c52
           obtain ⟨y142, hy142⟩ : ∃ y_ : List Int, y_ = (([bt t135 (ji46), bt t135 (ji50)] : List Int)) := ⟨_, rfl⟩
           replace H : (if (strOfNums y142).size + (t133 ++ t134).size ≤ 9223372036854775807 then (some ((strOfNums y142) ++ (t133 ++ t134))) else (none)) = some r := by first | (rw [hy142]; with_reducible exact H) | (have H2_ := (Option.bind_some _ _).symm.trans H; rw [hy142]; with_reducible exact H2_) | (have H2_ := (Option.bind_some _ _).symm.trans H; with_reducible exact H2_) | with_reducible exact H | (rw [hy142]; exact H) | exact H
           have Ny142 := Aside0.mk hy142
           clear hy142
           by_cases c54 : (strOfNums y142).size + (t133 ++ t134).size ≤ 9223372036854775807
           ·rw [if_pos c54] at H
            have c54b0 := eq_true c54
            have c54b1 : decide ((strOfNums y142).size + (t133 ++ t134).size ≤ 9223372036854775807) = true := decide_eq_true c54
            try have c54b2 : (9223372036854775807 < (strOfNums y142).size + (t133 ++ t134).size) = False := eq_false (Nat.not_lt.2 c54)
            have c54b8 : (strOfNums y142).size + (t133.size + t134.size) ≤ 9223372036854775807 := by have h_ := c54; (try simp only [ByteArray.size_append] at h_ ⊢); omega
            have c54b9 : (9223372036854775807 < (strOfNums y142).size + (t133.size + t134.size)) = False := eq_false (Nat.not_lt.2 c54b8)
            obtain rfl := Option.some.inj H
            go_enter Tryd.func34, Tryd.ntmps34
            try go_wp2_with (first | ((with_reducible refine gate_dst (N := 12) rfl ?_); refine Kd.R_lit (Kd.int .i64) _ 2 ?hg (N := 12) ?hd (xs := ([60, 600] : List Int)) (inner := [.int .i64 60, .int .i64 600]) (ok := fun _ => True) (okp := fun _ => True) ?hr ?hp (fun _ hk => hk) trivial (Below.refl _ _) (Nat.le_refl _) (by simp) ?_; (case hd => rfl); (case hg => rfl); (case hr => first | (go_simp; done) | (go_simp; rfl) | (go_simp; simp only [IntKind.wrap_u8, Int.emod_emod_of_dvd, Int.add_emod_emod, Int.emod_add_emod, Int.emod_emod]; done)); (case hp => exact (Reps.one (show Kd.M (Kd.int .i64) _ _ _ 60 [.int .i64 60] from rfl) (Reps.one (show Kd.M (Kd.int .i64) _ _ _ 600 [.int .i64 600] from rfl) (Reps.none _ _)))); intro v130 w55 ho56 hb hg_ hnew_; clear hg_ hnew_; (first | rw [← Ny129.out] at ho56 | (simp only [Int.reduceToNat] at ho56; rw [← Ny129.out] at ho56)); have n0_ := Aside0.mk (Kd.R_lower ho56 (by first | exact Nat.le_refl w.heap.size | exact (below_size (by repeat (first | (with_reducible first | exact HB.out | apply below_alloc | apply pw_below_drewN | apply below_drew1) | exact HB.out))))); have n1_ := Aside0.mk (below_step (by repeat (first | (with_reducible first | exact HB.out | apply below_alloc | apply pw_below_drewN | apply below_drew1) | exact HB.out)) hb); clear HB; have HO131 := n0_; have HB := n1_; clear n0_ n1_; clear hb ho56; obtain ⟨Ao57, co57, eo57⟩ := Kd.R_slice HO131.out; subst eo57; have p132 : 0 ≤ ((ji5) : Int) := of_decide_eq_true (by first | (with_reducible assumption) | assumption); have q132 : (ji5) < (y129.length : Int) := of_decide_eq_true (by first | (with_reducible assumption) | assumption); obtain ⟨ad132, e132, hx132_0⟩ := Kd.at_int (Kd.R_reads' HO131.out).2.2 (ji5) p132 q132; cases e132; replace p132 := eq_true p132; replace q132 := eq_true q132))
            have n0_ := Aside0.mk (Kd.R_drew HO131.out)
            have n1_ := Aside0.mk (below_drew1 HB.out)
            clear HO131
            clear HB
            have HO131 := n0_
            have HB := n1_
            clear n0_ n1_
            refine start_ (n := 14) (S := fun w' => True) (ds := []) #[false, false, false, false, false, false, false, false, false, false, false, false, false, false] (by kernel_rfl) rfl rfl trivial (fun hHeld => ?_); refine with_tabW spec_l26Georef.tab4 spec_l26Georef.bits4 (fun HT_ HW_ => ?_)
            generalize w55.drew = w58 at HO131 HB hHeld ⊢
            refine pure_ (i := 0) (N := some 17) (v := ?_) (a' := ?_) #[true, false, false, false, false, false, false, false, false, false, false, false, false, false] rfl rfl (any_of HT_.out (by kernel_rfl)) (fun _ _ _ h => h) (Or.inl ⟨by rfl, ?_⟩) ?_ ?_
            rotate_left
            ·intro w'
             go_simp
             with_reducible rfl
            rotate_left
            ·simp only [Act.put, List.setIfInBounds_toArray, List.set_cons_zero, List.set_cons_succ, i64_w, i32_w]
             rfl
            refine pure_ (i := 1) (N := some 18) (v := ?_) (a' := ?_) #[true, true, false, false, false, false, false, false, false, false, false, false, false, false] rfl rfl (any_of HT_.out (by kernel_rfl)) (fun _ _ _ h => h) (Or.inl ⟨by rfl, ?_⟩) ?_ ?_
            rotate_left
            ·intro w'
             go_simp
             with_reducible rfl
            rotate_left
            ·simp only [Act.put, List.setIfInBounds_toArray, List.set_cons_zero, List.set_cons_succ, i64_w, i32_w]
             rfl
            refine pure_ (i := 2) (N := some 19) (v := ?_) (a' := ?_) #[true, true, true, false, false, false, false, false, false, false, false, false, false, false] rfl rfl (any_of HT_.out (by kernel_rfl)) (fun _ _ _ h => h) (Or.inl ⟨by rfl, ?_⟩) ?_ ?_
            rotate_left
            ·intro w'
             go_simp
             with_reducible rfl
            rotate_left
            ·simp only [Act.put, List.setIfInBounds_toArray, List.set_cons_zero, List.set_cons_succ, i64_w, i32_w]
             rfl
            refine pure_ (i := 3) (N := some 20) (v := ?_) (a' := ?_) #[true, true, true, true, false, false, false, false, false, false, false, false, false, false] rfl rfl (any_of HT_.out (by kernel_rfl)) (fun _ _ _ h => h) (Or.inl ⟨by rfl, ?_⟩) ?_ ?_
            rotate_left
            ·intro w'
             go_simp
             with_reducible rfl
            rotate_left
            ·simp only [Act.put, List.setIfInBounds_toArray, List.set_cons_zero, List.set_cons_succ, i64_w, i32_w]
             rfl
            refine pure_ (i := 4) (N := some 21) (v := ?_) (a' := ?_) #[true, true, true, true, true, false, false, false, false, false, false, false, false, false] rfl rfl (any_of HT_.out (by kernel_rfl)) (fun _ _ _ h => h) (Or.inl ⟨by rfl, ?_⟩) ?_ ?_
            rotate_left
            ·intro w'
             go_simp
             with_reducible rfl
            rotate_left
            ·simp only [Act.put, List.setIfInBounds_toArray, List.set_cons_zero, List.set_cons_succ, i64_w, i32_w]
             rfl
            refine pure_ (i := 6) (N := some 23) (v := ?_) (a' := ?_) #[true, true, true, true, true, false, true, false, false, false, false, false, false, false] rfl rfl (any_of HT_.out (by kernel_rfl)) (fun _ _ _ h => h) (Or.inl ⟨by rfl, ?_⟩) ?_ ?_
            rotate_left
            ·intro w'
             go_simp
             with_reducible rfl
            rotate_left
            ·simp only [Act.put, List.setIfInBounds_toArray, List.set_cons_zero, List.set_cons_succ, i64_w, i32_w]
             rfl
            refine pure_ (i := 7) (N := some 24) (v := ?_) (a' := ?_) #[true, true, true, true, true, false, true, true, false, false, false, false, false, false] rfl rfl (any_of HT_.out (by kernel_rfl)) (fun _ _ _ h => h) (Or.inl ⟨by rfl, ?_⟩) ?_ ?_
            rotate_left
            ·intro w'
             go_simp
             with_reducible rfl
            rotate_left
            ·simp only [Act.put, List.setIfInBounds_toArray, List.set_cons_zero, List.set_cons_succ, i64_w, i32_w]
             rfl
            refine pure_ (i := 8) (N := some 25) (v := ?_) (a' := ?_) #[true, true, true, true, true, false, true, true, true, false, false, false, false, false] rfl rfl (any_of HT_.out (by kernel_rfl)) (fun _ _ _ h => h) (Or.inl ⟨by rfl, ?_⟩) ?_ ?_
            rotate_left
            ·intro w'
             go_simp
             with_reducible rfl
            rotate_left
            ·simp only [Act.put, List.setIfInBounds_toArray, List.set_cons_zero, List.set_cons_succ, i64_w, i32_w]
             rfl
            refine pure_ (i := 9) (N := some 26) (v := ?_) (a' := ?_) #[true, true, true, true, true, false, true, true, true, true, false, false, false, false] rfl rfl (any_of HT_.out (by kernel_rfl)) (fun _ _ _ h => h) (Or.inl ⟨by rfl, ?_⟩) ?_ ?_
            rotate_left
            ·intro w'
             go_simp
             with_reducible rfl
            rotate_left
            ·simp only [Act.put, List.setIfInBounds_toArray, List.set_cons_zero, List.set_cons_succ, i64_w, i32_w]
             rfl
            refine pure_ (i := 10) (N := some 27) (v := ?_) (a' := ?_) #[true, true, true, true, true, false, true, true, true, true, true, false, false, false] rfl rfl (any_of HT_.out (by kernel_rfl)) (fun _ _ _ h => h) (Or.inl ⟨by rfl, ?_⟩) ?_ ?_
            rotate_left
            ·intro w'
             go_simp
             with_reducible rfl
            rotate_left
            ·simp only [Act.put, List.setIfInBounds_toArray, List.set_cons_zero, List.set_cons_succ, i64_w, i32_w]
             rfl
            refine one_ (i := 5) (N := some 22) #[true, true, true, true, true, true, true, true, true, true, true, false, false, false] rfl rfl (one_of HT_.out (by kernel_rfl)) (by decide) (fun K hK => ?_)
            refine goes_ Tryd.func71 (by kernel_rfl) rfl #[.int .i64 (Int.tmod a0 (rd y129 (ji5))), .int .i64 (wrap64 (a2 - 1))] (by rfl) rfl rfl (by (try simp only [List.map_toArray, List.map_cons, List.map_nil]); first | done | (simp only [hji5]; rfl) | rfl | (simp only [List.length_drop, List.length_take]; rfl)) ?_
            with_reducible refine (spec_l26Digits.calls k (Int.tmod a0 (rd y129 (ji5))) (wrap64 (a2 - 1)) t133 _ A9.out).mono ?_
            rintro e w59 ⟨rfl, hb⟩
            refine ⟨_, rfl, ?_⟩
            have n0_ := Aside0.mk (Kd.R_below (by (with_reducible repeat (first | apply Kd.R_alloc | apply Kd.R_drewN | apply Kd.R_drew)); exact HO131.out) hb)
            have n1_ := Aside0.mk (below_step (by repeat (first | (with_reducible first | exact HB.out | apply below_alloc | apply pw_below_drewN | apply below_drew1) | exact HB.out)) hb)
            clear HO131
            clear HB
            have HO131 := n0_
            have HB := n1_
            clear n0_ n1_
            (try clear hb)
            (try clear hb2)
            (try clear hk)
            (try clear hi)
            refine hK.out _ _ trivial (fun hHeld => ?_)
            clear hK K
            refine norm_ (a' := ?_) ?_ ?_
            rotate_left
            ·show Act.put _ (some 22) _ = _
             simp only [Act.put, List.setIfInBounds_toArray, List.set_cons_zero, List.set_cons_succ, i64_w, i32_w]
             rfl
            refine one_ (i := 11) (N := some 28) #[true, true, true, true, true, true, true, true, true, true, true, true, false, false] rfl rfl (one_of HT_.out (by kernel_rfl)) (by decide) (fun K hK => ?_)
            refine goes_ Tryd.func71 (by kernel_rfl) rfl #[.int .i64 (Int.tmod a1 (rd y129 (ji5))), .int .i64 (wrap64 (a2 - 1))] (by rfl) rfl rfl (by (try simp only [List.map_toArray, List.map_cons, List.map_nil]); first | done | (simp only [hji5]; rfl) | rfl | (simp only [List.length_drop, List.length_take]; rfl)) ?_
            with_reducible refine (spec_l26Digits.calls k (Int.tmod a1 (rd y129 (ji5))) (wrap64 (a2 - 1)) t134 _ A10.out).mono ?_
            rintro e w60 ⟨rfl, hb⟩
            refine ⟨_, rfl, ?_⟩
            have n0_ := Aside0.mk (Kd.R_below (by (with_reducible repeat (first | apply Kd.R_alloc | apply Kd.R_drewN | apply Kd.R_drew)); exact HO131.out) hb)
            have n1_ := Aside0.mk (below_step (by repeat (first | (with_reducible first | exact HB.out | apply below_alloc | apply pw_below_drewN | apply below_drew1) | exact HB.out)) hb)
            clear HO131
            clear HB
            have HO131 := n0_
            have HB := n1_
            clear n0_ n1_
            (try clear hb)
            (try clear hb2)
            (try clear hk)
            (try clear hi)
            refine hK.out _ _ trivial (fun hHeld => ?_)
            clear hK K
            refine norm_ (a' := ?_) ?_ ?_
            rotate_left
            ·show Act.put _ (some 28) _ = _
             simp only [Act.put, List.setIfInBounds_toArray, List.set_cons_zero, List.set_cons_succ, i64_w, i32_w]
             rfl
            refine pure_ (i := 12) (N := some 29) (v := ?_) (a' := ?_) #[true, true, true, true, true, true, true, true, true, true, true, true, true, false] rfl rfl (any_of HT_.out (by kernel_rfl)) (fun _ _ _ h => h) (Or.inl ⟨by rfl, ?_⟩) ?_ ?_
            rotate_left
            ·intro w'
             go_simp
             with_reducible rfl
            rotate_left
            ·simp only [Act.put, List.setIfInBounds_toArray, List.set_cons_zero, List.set_cons_succ, i64_w, i32_w]
             rfl
            refine pure_ (i := 13) (N := some 7) (v := ?_) (a' := ?_) #[true, true, true, true, true, true, true, true, true, true, true, true, true, true] rfl rfl (any_of HT_.out (by kernel_rfl)) (fun _ _ _ h => h) (Or.inl ⟨by rfl, ?_⟩) ?_ ?_
            rotate_left
            ·intro w'
             go_simp
             with_reducible rfl
            rotate_left
            ·simp only [Act.put, List.setIfInBounds_toArray, List.set_cons_zero, List.set_cons_succ, i64_w, i32_w]
             rfl
            refine done_ (done_of HT_.out (by kernel_rfl)) ?_
            try go_wp2_with (first | ((with_reducible refine gate_callee (f := 72) rfl ?_); refine goesL_ (some 36) rfl rfl Tryd.func72 (by kernel_rfl) rfl #[] rfl (by (try simp only [List.map_toArray, List.map_cons, List.map_nil]); first | done | rfl | (simp only [List.length_drop, List.length_take]; rfl)) ?_; (with_reducible refine (spec_l26Letters.calls  t135 _ A12.out).mono ?_); rintro e w' ⟨rfl, ⟨nd, rfl⟩⟩; refine ⟨_, rfl, ?_⟩))
            (try (rw [drewN_self w60]; generalize hq_ : World.drewN w60 _ = w60; have n0_ : Aside0 (Kd.R (Kd.int .i64) 2 w60 w.heap.size (fun _ => True) (.slice (some ad132) y129.length co57) y129) := ⟨by rw [← hq_]; exact (by (with_reducible repeat (first | apply Kd.R_alloc | apply Kd.R_drewN | apply Kd.R_drew)); exact HO131.out)⟩; have n1_ : Aside0 (Below w.heap.size w w60) := ⟨by rw [← hq_]; exact (by repeat (first | (with_reducible first | exact HB.out | apply below_alloc | apply pw_below_drewN | apply below_drew1) | exact HB.out))⟩; clear HO131 HB hq_; have HO131 := n0_; have HB := n1_; clear n0_ n1_))
            have n0_ := Aside0.mk (Kd.R_drew HO131.out)
            have n1_ := Aside0.mk (below_drew1 HB.out)
            clear HO131
            clear HB
            have HO131 := n0_
            have HB := n1_
            clear n0_ n1_
            have p49 : 0 ≤ ((ji46) : Int) := of_decide_eq_true (by first | (with_reducible assumption) | assumption)
            have q49 : (ji46) < (t135.size : Int) := of_decide_eq_true (by first | (with_reducible assumption) | assumption)
            have hx49 := bt_at t135 (ji46)
            replace p49 := eq_true p49
            replace q49 := eq_true q49
            have p53 : 0 ≤ ((ji50) : Int) := of_decide_eq_true (by first | (with_reducible assumption) | assumption)
            have q53 : (ji50) < (t135.size : Int) := of_decide_eq_true (by first | (with_reducible assumption) | assumption)
            have hx53 := bt_at t135 (ji50)
            replace p53 := eq_true p53
            replace q53 := eq_true q53
            refine start_ (n := 11) (S := fun w' => True) (ds := []) #[false, false, false, false, false, false, false, false, false, false, false] (by kernel_rfl) rfl rfl trivial (fun hHeld => ?_); refine with_tabW spec_l26Georef.tab12 spec_l26Georef.bits12 (fun HT_ HW_ => ?_)
            generalize w60.drew = w61 at HO131 HB hHeld ⊢
            refine pure_ (i := 0) (N := some 55) (v := ?_) (a' := ?_) #[true, false, false, false, false, false, false, false, false, false, false] rfl rfl (any_of HT_.out (by kernel_rfl)) (fun _ _ _ h => h) (Or.inl ⟨by rfl, ?_⟩) ?_ ?_
            rotate_left
            ·intro w'
             go_simp
             with_reducible rfl
            rotate_left
            ·simp only [Act.put, List.setIfInBounds_toArray, List.set_cons_zero, List.set_cons_succ, i64_w, i32_w]
             rfl
            refine pure_ (i := 1) (N := some 56) (v := ?_) (a' := ?_) #[true, true, false, false, false, false, false, false, false, false, false] rfl rfl (any_of HT_.out (by kernel_rfl)) (fun _ _ _ h => h) (Or.inl ⟨by rfl, ?_⟩) ?_ ?_
            rotate_left
            ·intro w'
             go_simp
             with_reducible rfl
            rotate_left
            ·simp only [Act.put, List.setIfInBounds_toArray, List.set_cons_zero, List.set_cons_succ, i64_w, i32_w]
             rfl
            refine pure_ (i := 3) (N := some 58) (v := ?_) (a' := ?_) #[true, true, false, true, false, false, false, false, false, false, false] rfl rfl (any_of HT_.out (by kernel_rfl)) (fun _ _ _ h => h) (Or.inl ⟨by rfl, ?_⟩) ?_ ?_
            rotate_left
            ·intro w'
             go_simp
             with_reducible rfl
            rotate_left
            ·simp only [Act.put, List.setIfInBounds_toArray, List.set_cons_zero, List.set_cons_succ, i64_w, i32_w]
             rfl
            refine pure_ (i := 4) (N := some 59) (v := ?_) (a' := ?_) #[true, true, false, true, true, false, false, false, false, false, false] rfl rfl (any_of HT_.out (by kernel_rfl)) (fun _ _ _ h => h) (Or.inl ⟨by rfl, ?_⟩) ?_ ?_
            rotate_left
            ·intro w'
             go_simp
             with_reducible rfl
            rotate_left
            ·simp only [Act.put, List.setIfInBounds_toArray, List.set_cons_zero, List.set_cons_succ, i64_w, i32_w]
             rfl
            refine pure_ (i := 8) (N := some 63) (v := ?_) (a' := ?_) #[true, true, false, true, true, false, false, false, true, false, false] rfl rfl (any_of HT_.out (by kernel_rfl)) (fun _ _ _ h => h) (Or.inl ⟨by rfl, ?_⟩) ?_ ?_
            rotate_left
            ·intro w'
             go_simp
             with_reducible rfl
            rotate_left
            ·simp only [Act.put, List.setIfInBounds_toArray, List.set_cons_zero, List.set_cons_succ, i64_w, i32_w]
             rfl
            refine take_ (i := 2) (N := some 57) (v := ?_) (a' := ?_) #[true, true, true, true, true, false, false, false, true, false, false] rfl rfl (take_ofW HT_.out HW_.out (by kernel_rfl)) (fun _ _ _ h => h) (Or.inl ⟨by rfl, ?_⟩) hHeld ?_ ?_
            rotate_left
            ·intro w' _
             go_simp
             with_reducible rfl
            rotate_left
            ·simp only [Act.put, List.setIfInBounds_toArray, List.set_cons_zero, List.set_cons_succ, i64_w, i32_w]
             rfl
            refine take_ (i := 5) (N := some 60) (v := ?_) (a' := ?_) #[true, true, true, true, true, true, false, false, true, false, false] rfl rfl (take_ofW HT_.out HW_.out (by kernel_rfl)) (fun _ _ _ h => h) (Or.inl ⟨by rfl, ?_⟩) hHeld ?_ ?_
            rotate_left
            ·intro w' _
             go_simp
             with_reducible rfl
            rotate_left
            ·simp only [Act.put, List.setIfInBounds_toArray, List.set_cons_zero, List.set_cons_succ, i64_w, i32_w]
             rfl
            refine one_ (i := 6) (N := some 61) #[true, true, true, true, true, true, true, false, true, false, false] rfl rfl (one_of HT_.out (by kernel_rfl)) (by decide) (fun K hK => ?_)
            refine Kd.R_lit_step (Kd.int .u8) _ 5 ?hg (N := 61) ?hd (xs := ([bt t135 (ji46), bt t135 (ji50)] : List Int)) (inner := [.int .u8 (bt t135 (ji46)), .int .u8 (bt t135 (ji50))]) (ok := fun _ => True) (okp := fun _ => True) ?hr ?hp (fun _ hk => hk) trivial (Below.refl _ _) (Nat.le_refl _) (by simp) ?_; (case hd => rfl); (case hg => rfl); (case hr => first | (go_simp; done) | (go_simp; rfl) | (go_simp; simp only [IntKind.wrap_u8, Int.emod_emod_of_dvd, Int.add_emod_emod, Int.emod_add_emod, Int.emod_emod]; done)); (case hp => exact (Reps.one (show Kd.M (Kd.int .u8) _ _ _ (bt t135 (ji46)) [.int .u8 (bt t135 (ji46))] from rfl) (Reps.one (show Kd.M (Kd.int .u8) _ _ _ (bt t135 (ji50)) [.int .u8 (bt t135 (ji50))] from rfl) (Reps.none _ _))))
            intro v143 w62 ho63 hb hg_ hnew_
            clear hg_ hnew_
            (first | rw [← Ny142.out] at ho63 | (simp only [Int.reduceToNat] at ho63; rw [← Ny142.out] at ho63))
            have n0_ := Aside0.mk (Kd.R_below (by (with_reducible repeat (first | apply Kd.R_alloc | apply Kd.R_drewN | apply Kd.R_drew)); exact HO131.out) hb)
            have n1_ := Aside0.mk (Kd.R_lower ho63 (by first | exact Nat.le_refl w.heap.size | exact (below_size (by repeat (first | (with_reducible first | exact HB.out | apply below_alloc | apply pw_below_drewN | apply below_drew1) | exact HB.out)))))
            have n2_ := Aside0.mk (below_step (by repeat (first | (with_reducible first | exact HB.out | apply below_alloc | apply pw_below_drewN | apply below_drew1) | exact HB.out)) hb)
            clear HO131
            clear HB
            have HO131 := n0_
            have HO144 := n1_
            have HB := n2_
            clear n0_ n1_ n2_
            clear hb ho63
            refine hK.out _ _ trivial (fun hHeld => ?_)
            clear hK K
            refine norm_ (a' := ?_) ?_ ?_
            rotate_left
            ·show Act.put _ (some 61) _ = _
             simp only [Act.put, List.setIfInBounds_toArray, List.set_cons_zero, List.set_cons_succ, i64_w, i32_w]
             rfl
            refine one_ (i := 7) (N := some 62) #[true, true, true, true, true, true, true, true, true, false, false] rfl rfl (one_of HT_.out (by kernel_rfl)) (by decide) (fun K hK => ?_)
            have hcv64 := own_string (P := Tryd.prog) Tryd.underlying51 Tryd.underlying5 Tryd.underlying9 (Kd.own_of_R HO144.out)
            refine value_ (w1 := ?_) (v := ?_) (by rfl) rfl ?_ ?_
            rotate_left 2
            ·go_simp
             constructor
             ·rfl
             ·rfl
            clear hcv64
            refine hK.out _ _ trivial (fun hHeld => ?_)
            clear hK K
            refine norm_ (a' := ?_) ?_ ?_
            rotate_left
            ·show Act.put _ (some 62) _ = _
             simp only [Act.put, List.setIfInBounds_toArray, List.set_cons_zero, List.set_cons_succ, i64_w, i32_w]
             rfl
            refine pure_ (i := 9) (N := some 64) (v := ?_) (a' := ?_) #[true, true, true, true, true, true, true, true, true, true, false] rfl rfl (any_of HT_.out (by kernel_rfl)) (fun _ _ _ h => h) (Or.inl ⟨by rfl, ?_⟩) ?_ ?_
            rotate_left
            ·intro w'
             go_simp
             with_reducible rfl
            rotate_left
            ·simp only [Act.put, List.setIfInBounds_toArray, List.set_cons_zero, List.set_cons_succ, i64_w, i32_w]
             rfl
            refine pure_ (i := 10) (N := some 6) (v := ?_) (a' := ?_) #[true, true, true, true, true, true, true, true, true, true, true] rfl rfl (any_of HT_.out (by kernel_rfl)) (fun _ _ _ h => h) (Or.inl ⟨by rfl, ?_⟩) ?_ ?_
            rotate_left
            ·intro w'
             go_simp
             with_reducible rfl
            rotate_left
            ·simp only [Act.put, List.setIfInBounds_toArray, List.set_cons_zero, List.set_cons_succ, i64_w, i32_w]
             rfl
            refine done_ (done_of HT_.out (by kernel_rfl)) ?_
            try go_wp2
            go_ret
            exact ⟨by first | rfl | (simp [errW_none, errW_some] <;> rfl) | (simp only [← hji5, ← hji46, ← hji50]; first | rfl | (simp [errW_none, errW_some] <;> rfl)) | (simp [errW_none, errW_some]; decide +kernel) | (simp [*, errW_none, errW_some] <;> rfl), by repeat (first | (with_reducible first | exact HB.out | apply below_alloc | apply pw_below_drewN | apply below_drew1) | exact HB.out)⟩
           ·rw [if_neg c54] at H
            exact absurd H (by simp)
          ·rw [if_neg c52] at H
           exact absurd H (by simp)
         ·rw [if_neg c51] at H
          exact absurd H (by simp)
        ·rw [if_neg c48] at H
         exact absurd H (by simp)
       ·rw [if_neg c47] at H
        exact absurd H (by simp)
     ·rw [if_neg c11] at H
      exact absurd H (by simp)
   ·rw [if_neg c7] at H
    exact absurd H (by simp)
  ·rw [if_neg c6] at H
   exact absurd H (by simp)
 ·rw [if_neg c4] at H
  have c4b0 : decide (2 < a2) = false := decide_eq_false c4
  clear c4
  replace H := Option.bind_eq_some_iff.mp H
  obtain ⟨t145, A650, H⟩ := H
  replace H : (if a2 > 1 then (if 0 ≤ (Int.tmod a0 15) then (if (Int.tmod a0 15) < (t145.size : Int) then (if 0 ≤ (Int.tmod a1 15) then (if (Int.tmod a1 15) < (t145.size : Int) then ((some (([bt t145 (Int.tmod a0 15), bt t145 (Int.tmod a1 15)] : List Int) : List Int)).bind fun y146 => (if (strOfNums y146).size + 0 ≤ 9223372036854775807 then (if 0 ≤ (wrap64 (Int.tdiv a0 15)) then (if (wrap64 (Int.tdiv a0 15)) < (t145.size : Int) then (if 0 ≤ (wrap64 (Int.tdiv a1 15)) then (if (wrap64 (Int.tdiv a1 15)) < (t145.size : Int) then ((some (([bt t145 (wrap64 (Int.tdiv a0 15)), bt t145 (wrap64 (Int.tdiv a1 15))] : List Int) : List Int)).bind fun y149 => (if (strOfNums y149).size + ((strOfNums y146) ++ (⟨#[]⟩ : ByteArray)).size ≤ 9223372036854775807 then (some ((strOfNums y149) ++ ((strOfNums y146) ++ (⟨#[]⟩ : ByteArray)))) else (none))) else (none)) else (none)) else (none)) else (none)) else (none))) else (none)) else (none)) else (none)) else (none)) else (if 0 ≤ a0 then (if a0 < (t145.size : Int) then (if 0 ≤ a1 then (if a1 < (t145.size : Int) then ((some (([bt t145 a0, bt t145 a1] : List Int) : List Int)).bind fun y152 => (if (strOfNums y152).size + 0 ≤ 9223372036854775807 then (some ((strOfNums y152) ++ (⟨#[]⟩ : ByteArray))) else (none))) else (none)) else (none)) else (none)) else (none))) = some r := H
  have A65 := Aside0.mk A650
  clear A650
  by_cases c66 : a2 > 1
  ·rw [if_pos c66] at H
   have c66b0 : decide (1 < a2) = true := decide_eq_true c66
   clear c66
   obtain ⟨ji67, hji67⟩ : ∃ j_ : Int, (Int.tmod a0 15) = j_ := ⟨_, rfl⟩
   replace H : (if 0 ≤ (ji67) then (if (ji67) < (t145.size : Int) then (if 0 ≤ (Int.tmod a1 15) then (if (Int.tmod a1 15) < (t145.size : Int) then ((some (([bt t145 (ji67), bt t145 (Int.tmod a1 15)] : List Int) : List Int)).bind fun y146 => (if (strOfNums y146).size + 0 ≤ 9223372036854775807 then (if 0 ≤ (wrap64 (Int.tdiv a0 15)) then (if (wrap64 (Int.tdiv a0 15)) < (t145.size : Int) then (if 0 ≤ (wrap64 (Int.tdiv a1 15)) then (if (wrap64 (Int.tdiv a1 15)) < (t145.size : Int) then ((some (([bt t145 (wrap64 (Int.tdiv a0 15)), bt t145 (wrap64 (Int.tdiv a1 15))] : List Int) : List Int)).bind fun y149 => (if (strOfNums y149).size + ((strOfNums y146) ++ (⟨#[]⟩ : ByteArray)).size ≤ 9223372036854775807 then (some ((strOfNums y149) ++ ((strOfNums y146) ++ (⟨#[]⟩ : ByteArray)))) else (none))) else (none)) else (none)) else (none)) else (none)) else (none))) else (none)) else (none)) else (none)) else (none)) = some r := by first | (rw [hji67] at H; exact H) | (simp only [hji67] at H ⊢; exact H)
   (try rw [hji67] at A65)
   by_cases c68 : 0 ≤ (ji67)
   ·rw [if_pos c68] at H
    have c68b0 : decide (0 ≤ (ji67)) = true := decide_eq_true c68
    clear c68
    by_cases c69 : (ji67) < (t145.size : Int)
    ·rw [if_pos c69] at H
     have c69b0 : decide ((ji67) < (t145.size : Int)) = true := decide_eq_true c69
     clear c69
     obtain ⟨ji71, hji71⟩ : ∃ j_ : Int, (Int.tmod a1 15) = j_ := ⟨_, rfl⟩
     replace H : (if 0 ≤ (ji71) then (if (ji71) < (t145.size : Int) then ((some (([bt t145 (ji67), bt t145 (ji71)] : List Int) : List Int)).bind fun y146 => (if (strOfNums y146).size + 0 ≤ 9223372036854775807 then (if 0 ≤ (wrap64 (Int.tdiv a0 15)) then (if (wrap64 (Int.tdiv a0 15)) < (t145.size : Int) then (if 0 ≤ (wrap64 (Int.tdiv a1 15)) then (if (wrap64 (Int.tdiv a1 15)) < (t145.size : Int) then ((some (([bt t145 (wrap64 (Int.tdiv a0 15)), bt t145 (wrap64 (Int.tdiv a1 15))] : List Int) : List Int)).bind fun y149 => (if (strOfNums y149).size + ((strOfNums y146) ++ (⟨#[]⟩ : ByteArray)).size ≤ 9223372036854775807 then (some ((strOfNums y149) ++ ((strOfNums y146) ++ (⟨#[]⟩ : ByteArray)))) else (none))) else (none)) else (none)) else (none)) else (none)) else (none))) else (none)) else (none)) = some r := by first | (rw [hji71] at H; exact H) | (simp only [hji71] at H ⊢; exact H)
     (try rw [hji71] at A65)
     by_cases c72 : 0 ≤ (ji71)
     ·rw [if_pos c72] at H
      have c72b0 : decide (0 ≤ (ji71)) = true := decide_eq_true c72
      clear c72
      by_cases c73 : (ji71) < (t145.size : Int)
      ·rw [if_pos c73] at H
       have c73b0 : decide ((ji71) < (t145.size : Int)) = true := decide_eq_true c73
       clear c73
       obtain ⟨y146, hy146⟩ : ∃ y_ : List Int, y_ = (([bt t145 (ji67), bt t145 (ji71)] : List Int)) := ⟨_, rfl⟩
       replace H : (if (strOfNums y146).size + 0 ≤ 9223372036854775807 then (if 0 ≤ (wrap64 (Int.tdiv a0 15)) then (if (wrap64 (Int.tdiv a0 15)) < (t145.size : Int) then (if 0 ≤ (wrap64 (Int.tdiv a1 15)) then (if (wrap64 (Int.tdiv a1 15)) < (t145.size : Int) then ((some (([bt t145 (wrap64 (Int.tdiv a0 15)), bt t145 (wrap64 (Int.tdiv a1 15))] : List Int) : List Int)).bind fun y149 => (if (strOfNums y149).size + ((strOfNums y146) ++ (⟨#[]⟩ : ByteArray)).size ≤ 9223372036854775807 then (some ((strOfNums y149) ++ ((strOfNums y146) ++ (⟨#[]⟩ : ByteArray)))) else (none))) else (none)) else (none)) else (none)) else (none)) else (none)) = some r := by first | (rw [hy146]; with_reducible exact H) | (have H2_ := (Option.bind_some _ _).symm.trans H; rw [hy146]; with_reducible exact H2_) | (have H2_ := (Option.bind_some _ _).symm.trans H; with_reducible exact H2_) | with_reducible exact H | (rw [hy146]; exact H) | exact H
       have Ny146 := Aside0.mk hy146
       clear hy146
       by_cases c75 : (strOfNums y146).size + 0 ≤ 9223372036854775807
       ·rw [if_pos c75] at H
        have c75b0 := eq_true c75
        have c75b1 : decide ((strOfNums y146).size + 0 ≤ 9223372036854775807) = true := decide_eq_true c75
        try have c75b2 : (9223372036854775807 < (strOfNums y146).size + 0) = False := eq_false (Nat.not_lt.2 c75)
        have c75b8 : (strOfNums y146).size ≤ 9223372036854775807 := by have h_ := c75; (try simp only [ByteArray.size_append] at h_ ⊢); omega
        have c75b9 : (9223372036854775807 < (strOfNums y146).size) = False := eq_false (Nat.not_lt.2 c75b8)
        obtain ⟨ji76, hji76⟩ : ∃ j_ : Int, (wrap64 (Int.tdiv a0 15)) = j_ := ⟨_, rfl⟩
        replace H : (if 0 ≤ (ji76) then (if (ji76) < (t145.size : Int) then (if 0 ≤ (wrap64 (Int.tdiv a1 15)) then (if (wrap64 (Int.tdiv a1 15)) < (t145.size : Int) then ((some (([bt t145 (ji76), bt t145 (wrap64 (Int.tdiv a1 15))] : List Int) : List Int)).bind fun y149 => (if (strOfNums y149).size + ((strOfNums y146) ++ (⟨#[]⟩ : ByteArray)).size ≤ 9223372036854775807 then (some ((strOfNums y149) ++ ((strOfNums y146) ++ (⟨#[]⟩ : ByteArray)))) else (none))) else (none)) else (none)) else (none)) else (none)) = some r := by first | (rw [hji76] at H; exact H) | (simp only [hji76] at H ⊢; exact H)
        (try rw [hji76] at A65)
        have hji76w : (IntKind.i64.wrap (Int.tdiv a0 15)) = ji76 := (i64_w _).trans hji76
        by_cases c77 : 0 ≤ (ji76)
        ·rw [if_pos c77] at H
         have c77b0 : decide (0 ≤ (ji76)) = true := decide_eq_true c77
         clear c77
         by_cases c78 : (ji76) < (t145.size : Int)
         ·rw [if_pos c78] at H
          have c78b0 : decide ((ji76) < (t145.size : Int)) = true := decide_eq_true c78
          clear c78
          obtain ⟨ji80, hji80⟩ : ∃ j_ : Int, (wrap64 (Int.tdiv a1 15)) = j_ := ⟨_, rfl⟩
          replace H : (if 0 ≤ (ji80) then (if (ji80) < (t145.size : Int) then ((some (([bt t145 (ji76), bt t145 (ji80)] : List Int) : List Int)).bind fun y149 => (if (strOfNums y149).size + ((strOfNums y146) ++ (⟨#[]⟩ : ByteArray)).size ≤ 9223372036854775807 then (some ((strOfNums y149) ++ ((strOfNums y146) ++ (⟨#[]⟩ : ByteArray)))) else (none))) else (none)) else (none)) = some r := by first | (rw [hji80] at H; exact H) | (simp only [hji80] at H ⊢; exact H)
          (try rw [hji80] at A65)
          have hji80w : (IntKind.i64.wrap (Int.tdiv a1 15)) = ji80 := (i64_w _).trans hji80
          by_cases c81 : 0 ≤ (ji80)
          ·rw [if_pos c81] at H
           have c81b0 : decide (0 ≤ (ji80)) = true := decide_eq_true c81
           clear c81
           by_cases c82 : (ji80) < (t145.size : Int)
           ·rw [if_pos c82] at H
            have c82b0 : decide ((ji80) < (t145.size : Int)) = true := decide_eq_true c82
            clear c82
            obtain ⟨y149, hy149⟩ : ∃ y_ : List Int, y_ = (([bt t145 (ji76), bt t145 (ji80)] : List Int)) := ⟨_, rfl⟩
            replace H : (if (strOfNums y149).size + ((strOfNums y146) ++ (⟨#[]⟩ : ByteArray)).size ≤ 9223372036854775807 then (some ((strOfNums y149) ++ ((strOfNums y146) ++ (⟨#[]⟩ : ByteArray)))) else (none)) = some r := by first | (rw [hy149]; with_reducible exact H) | (have H2_ := (Option.bind_some _ _).symm.trans H; rw [hy149]; with_reducible exact H2_) | (have H2_ := (Option.bind_some _ _).symm.trans H; with_reducible exact H2_) | with_reducible exact H | (rw [hy149]; exact H) | exact H
            have Ny149 := Aside0.mk hy149
            clear hy149
            by_cases c84 : (strOfNums y149).size + ((strOfNums y146) ++ (⟨#[]⟩ : ByteArray)).size ≤ 9223372036854775807
            ·rw [if_pos c84] at H
             have c84b0 := eq_true c84
             have c84b1 : decide ((strOfNums y149).size + ((strOfNums y146) ++ (⟨#[]⟩ : ByteArray)).size ≤ 9223372036854775807) = true := decide_eq_true c84
             try have c84b2 : (9223372036854775807 < (strOfNums y149).size + ((strOfNums y146) ++ (⟨#[]⟩ : ByteArray)).size) = False := eq_false (Nat.not_lt.2 c84)
             have c84b8 : (strOfNums y149).size + (strOfNums y146).size ≤ 9223372036854775807 := by have h_ := c84; have e0_ : (⟨#[]⟩ : ByteArray).size = 0 := rfl; (try simp only [ByteArray.size_append] at h_ ⊢); omega
             have c84b9 : (9223372036854775807 < (strOfNums y149).size + (strOfNums y146).size) = False := eq_false (Nat.not_lt.2 c84b8)
             obtain rfl := Option.some.inj H
             go_enter Tryd.func34, Tryd.ntmps34
             try go_wp2_with (first | ((with_reducible refine gate_callee (f := 72) rfl ?_); refine goesL_ (some 36) rfl rfl Tryd.func72 (by kernel_rfl) rfl #[] rfl (by (try simp only [List.map_toArray, List.map_cons, List.map_nil]); first | done | rfl | (simp only [List.length_drop, List.length_take]; rfl)) ?_; (with_reducible refine (spec_l26Letters.calls  t145 _ A65.out).mono ?_); rintro e w' ⟨rfl, ⟨nd, rfl⟩⟩; refine ⟨_, rfl, ?_⟩))
             have n0_ := Aside0.mk (below_drew1 (pw_below_drewN HB.out nd))
             clear HB
             have HB := n0_
             clear n0_
             have p70 : 0 ≤ ((ji67) : Int) := of_decide_eq_true (by first | (with_reducible assumption) | assumption)
             have q70 : (ji67) < (t145.size : Int) := of_decide_eq_true (by first | (with_reducible assumption) | assumption)
             have hx70 := bt_at t145 (ji67)
             replace p70 := eq_true p70
             replace q70 := eq_true q70
             have p74 : 0 ≤ ((ji71) : Int) := of_decide_eq_true (by first | (with_reducible assumption) | assumption)
             have q74 : (ji71) < (t145.size : Int) := of_decide_eq_true (by first | (with_reducible assumption) | assumption)
             have hx74 := bt_at t145 (ji71)
             replace p74 := eq_true p74
             replace q74 := eq_true q74
             refine start_ (n := 13) (S := fun w' => True) (ds := []) #[false, false, false, false, false, false, false, false, false, false, false, false, false] (by kernel_rfl) rfl rfl trivial (fun hHeld => ?_); refine with_tabW spec_l26Georef.tab9 spec_l26Georef.bits9 (fun HT_ HW_ => ?_)
             generalize (w.drewN nd).drew = w85 at HB hHeld ⊢
             refine pure_ (i := 0) (N := some 39) (v := ?_) (a' := ?_) #[true, false, false, false, false, false, false, false, false, false, false, false, false] rfl rfl (any_of HT_.out (by kernel_rfl)) (fun _ _ _ h => h) (Or.inl ⟨by rfl, ?_⟩) ?_ ?_
             rotate_left
             ·intro w'
              go_simp
              with_reducible rfl
             rotate_left
             ·simp only [Act.put, List.setIfInBounds_toArray, List.set_cons_zero, List.set_cons_succ, i64_w, i32_w]
              rfl
             refine pure_ (i := 1) (N := some 40) (v := ?_) (a' := ?_) #[true, true, false, false, false, false, false, false, false, false, false, false, false] rfl rfl (any_of HT_.out (by kernel_rfl)) (fun _ _ _ h => h) (Or.inl ⟨by rfl, ?_⟩) ?_ ?_
             rotate_left
             ·intro w'
              go_simp
              with_reducible rfl
             rotate_left
             ·simp only [Act.put, List.setIfInBounds_toArray, List.set_cons_zero, List.set_cons_succ, i64_w, i32_w]
              rfl
             refine pure_ (i := 2) (N := some 41) (v := ?_) (a' := ?_) #[true, true, true, false, false, false, false, false, false, false, false, false, false] rfl rfl (any_of HT_.out (by kernel_rfl)) (fun _ _ _ h => h) (Or.inl ⟨by rfl, ?_⟩) ?_ ?_
             rotate_left
             ·intro w'
              go_simp
              with_reducible rfl
             rotate_left
             ·simp only [Act.put, List.setIfInBounds_toArray, List.set_cons_zero, List.set_cons_succ, i64_w, i32_w]
              rfl
             refine pure_ (i := 4) (N := some 43) (v := ?_) (a' := ?_) #[true, true, true, false, true, false, false, false, false, false, false, false, false] rfl rfl (any_of HT_.out (by kernel_rfl)) (fun _ _ _ h => h) (Or.inl ⟨by rfl, ?_⟩) ?_ ?_
             rotate_left
             ·intro w'
              go_simp
              with_reducible rfl
             rotate_left
             ·simp only [Act.put, List.setIfInBounds_toArray, List.set_cons_zero, List.set_cons_succ, i64_w, i32_w]
              rfl
             refine pure_ (i := 5) (N := some 44) (v := ?_) (a' := ?_) #[true, true, true, false, true, true, false, false, false, false, false, false, false] rfl rfl (any_of HT_.out (by kernel_rfl)) (fun _ _ _ h => h) (Or.inl ⟨by rfl, ?_⟩) ?_ ?_
             rotate_left
             ·intro w'
              go_simp
              with_reducible rfl
             rotate_left
             ·simp only [Act.put, List.setIfInBounds_toArray, List.set_cons_zero, List.set_cons_succ, i64_w, i32_w]
              rfl
             refine pure_ (i := 6) (N := some 45) (v := ?_) (a' := ?_) #[true, true, true, false, true, true, true, false, false, false, false, false, false] rfl rfl (any_of HT_.out (by kernel_rfl)) (fun _ _ _ h => h) (Or.inl ⟨by rfl, ?_⟩) ?_ ?_
             rotate_left
             ·intro w'
              go_simp
              with_reducible rfl
             rotate_left
             ·simp only [Act.put, List.setIfInBounds_toArray, List.set_cons_zero, List.set_cons_succ, i64_w, i32_w]
              rfl
             refine pure_ (i := 10) (N := some 49) (v := ?_) (a' := ?_) #[true, true, true, false, true, true, true, false, false, false, true, false, false] rfl rfl (any_of HT_.out (by kernel_rfl)) (fun _ _ _ h => h) (Or.inl ⟨by rfl, ?_⟩) ?_ ?_
             rotate_left
             ·intro w'
              go_simp
              with_reducible rfl
             rotate_left
             ·simp only [Act.put, List.setIfInBounds_toArray, List.set_cons_zero, List.set_cons_succ, i64_w, i32_w]
              rfl
             refine take_ (i := 3) (N := some 42) (v := ?_) (a' := ?_) #[true, true, true, true, true, true, true, false, false, false, true, false, false] rfl rfl (take_ofW HT_.out HW_.out (by kernel_rfl)) (fun _ _ _ h => h) (Or.inl ⟨by rfl, ?_⟩) hHeld ?_ ?_
             rotate_left
             ·intro w' _
              go_simp
              with_reducible rfl
             rotate_left
             ·simp only [Act.put, List.setIfInBounds_toArray, List.set_cons_zero, List.set_cons_succ, i64_w, i32_w]
              rfl
             refine take_ (i := 7) (N := some 46) (v := ?_) (a' := ?_) #[true, true, true, true, true, true, true, true, false, false, true, false, false] rfl rfl (take_ofW HT_.out HW_.out (by kernel_rfl)) (fun _ _ _ h => h) (Or.inl ⟨by rfl, ?_⟩) hHeld ?_ ?_
             rotate_left
             ·intro w' _
              go_simp
              with_reducible rfl
             rotate_left
             ·simp only [Act.put, List.setIfInBounds_toArray, List.set_cons_zero, List.set_cons_succ, i64_w, i32_w]
              rfl
             refine one_ (i := 8) (N := some 47) #[true, true, true, true, true, true, true, true, true, false, true, false, false] rfl rfl (one_of HT_.out (by kernel_rfl)) (by decide) (fun K hK => ?_)
             refine Kd.R_lit_step (Kd.int .u8) _ 5 ?hg (N := 47) ?hd (xs := ([bt t145 (ji67), bt t145 (ji71)] : List Int)) (inner := [.int .u8 (bt t145 (ji67)), .int .u8 (bt t145 (ji71))]) (ok := fun _ => True) (okp := fun _ => True) ?hr ?hp (fun _ hk => hk) trivial (Below.refl _ _) (Nat.le_refl _) (by simp) ?_; (case hd => rfl); (case hg => rfl); (case hr => first | (go_simp; done) | (go_simp; rfl) | (go_simp; simp only [IntKind.wrap_u8, Int.emod_emod_of_dvd, Int.add_emod_emod, Int.emod_add_emod, Int.emod_emod]; done)); (case hp => exact (Reps.one (show Kd.M (Kd.int .u8) _ _ _ (bt t145 (ji67)) [.int .u8 (bt t145 (ji67))] from rfl) (Reps.one (show Kd.M (Kd.int .u8) _ _ _ (bt t145 (ji71)) [.int .u8 (bt t145 (ji71))] from rfl) (Reps.none _ _))))
             intro v147 w86 ho87 hb hg_ hnew_
             clear hg_ hnew_
             (first | rw [← Ny146.out] at ho87 | (simp only [Int.reduceToNat] at ho87; rw [← Ny146.out] at ho87))
             have n0_ := Aside0.mk (Kd.R_lower ho87 (by first | exact Nat.le_refl w.heap.size | exact (below_size (by repeat (first | (with_reducible first | exact HB.out | apply below_alloc | apply pw_below_drewN | apply below_drew1) | exact HB.out)))))
             have n1_ := Aside0.mk (below_step (by repeat (first | (with_reducible first | exact HB.out | apply below_alloc | apply pw_below_drewN | apply below_drew1) | exact HB.out)) hb)
             clear HB
             have HO148 := n0_
             have HB := n1_
             clear n0_ n1_
             clear hb ho87
             refine hK.out _ _ trivial (fun hHeld => ?_)
             clear hK K
             refine norm_ (a' := ?_) ?_ ?_
             rotate_left
             ·show Act.put _ (some 47) _ = _
              simp only [Act.put, List.setIfInBounds_toArray, List.set_cons_zero, List.set_cons_succ, i64_w, i32_w]
              rfl
             refine one_ (i := 9) (N := some 48) #[true, true, true, true, true, true, true, true, true, true, true, false, false] rfl rfl (one_of HT_.out (by kernel_rfl)) (by decide) (fun K hK => ?_)
             have hcv88 := own_string (P := Tryd.prog) Tryd.underlying51 Tryd.underlying5 Tryd.underlying9 (Kd.own_of_R HO148.out)
             refine value_ (w1 := ?_) (v := ?_) (by rfl) rfl ?_ ?_
             rotate_left 2
             ·go_simp
              constructor
              ·rfl
              ·rfl
             clear hcv88
             refine hK.out _ _ trivial (fun hHeld => ?_)
             clear hK K
             refine norm_ (a' := ?_) ?_ ?_
             rotate_left
             ·show Act.put _ (some 48) _ = _
              simp only [Act.put, List.setIfInBounds_toArray, List.set_cons_zero, List.set_cons_succ, i64_w, i32_w]
              rfl
             refine pure_ (i := 11) (N := some 50) (v := ?_) (a' := ?_) #[true, true, true, true, true, true, true, true, true, true, true, true, false] rfl rfl (any_of HT_.out (by kernel_rfl)) (fun _ _ _ h => h) (Or.inl ⟨by rfl, ?_⟩) ?_ ?_
             rotate_left
             ·intro w'
              go_simp
              with_reducible rfl
             rotate_left
             ·simp only [Act.put, List.setIfInBounds_toArray, List.set_cons_zero, List.set_cons_succ, i64_w, i32_w]
              rfl
             refine pure_ (i := 12) (N := some 7) (v := ?_) (a' := ?_) #[true, true, true, true, true, true, true, true, true, true, true, true, true] rfl rfl (any_of HT_.out (by kernel_rfl)) (fun _ _ _ h => h) (Or.inl ⟨by rfl, ?_⟩) ?_ ?_
             rotate_left
             ·intro w'
              go_simp
              with_reducible rfl
             rotate_left
             ·simp only [Act.put, List.setIfInBounds_toArray, List.set_cons_zero, List.set_cons_succ, i64_w, i32_w]
              rfl
             refine done_ (done_of HT_.out (by kernel_rfl)) ?_
             try go_wp2
             have n0_ := Aside0.mk (Kd.R_drew HO148.out)
             have n1_ := Aside0.mk (below_drew1 HB.out)
             clear HO148
             clear HB
             have HO148 := n0_
             have HB := n1_
             clear n0_ n1_
             have p79 : 0 ≤ ((ji76) : Int) := of_decide_eq_true (by first | (with_reducible assumption) | assumption)
             have q79 : (ji76) < (t145.size : Int) := of_decide_eq_true (by first | (with_reducible assumption) | assumption)
             have hx79 := bt_at t145 (ji76)
             replace p79 := eq_true p79
             replace q79 := eq_true q79
             have p83 : 0 ≤ ((ji80) : Int) := of_decide_eq_true (by first | (with_reducible assumption) | assumption)
             have q83 : (ji80) < (t145.size : Int) := of_decide_eq_true (by first | (with_reducible assumption) | assumption)
             have hx83 := bt_at t145 (ji80)
             replace p83 := eq_true p83
             replace q83 := eq_true q83
             refine start_ (n := 11) (S := fun w' => True) (ds := []) #[false, false, false, false, false, false, false, false, false, false, false] (by kernel_rfl) rfl rfl trivial (fun hHeld => ?_); refine with_tabW spec_l26Georef.tab12 spec_l26Georef.bits12 (fun HT_ HW_ => ?_)
             generalize w86.drew = w89 at HO148 HB hHeld ⊢
             refine pure_ (i := 0) (N := some 55) (v := ?_) (a' := ?_) #[true, false, false, false, false, false, false, false, false, false, false] rfl rfl (any_of HT_.out (by kernel_rfl)) (fun _ _ _ h => h) (Or.inl ⟨by rfl, ?_⟩) ?_ ?_
             rotate_left
             ·intro w'
              go_simp
              with_reducible rfl
             rotate_left
             ·simp only [Act.put, List.setIfInBounds_toArray, List.set_cons_zero, List.set_cons_succ, i64_w, i32_w]
              rfl
             refine pure_ (i := 1) (N := some 56) (v := ?_) (a' := ?_) #[true, true, false, false, false, false, false, false, false, false, false] rfl rfl (any_of HT_.out (by kernel_rfl)) (fun _ _ _ h => h) (Or.inl ⟨by rfl, ?_⟩) ?_ ?_
             rotate_left
             ·intro w'
              go_simp
              with_reducible rfl
             rotate_left
             ·simp only [Act.put, List.setIfInBounds_toArray, List.set_cons_zero, List.set_cons_succ, i64_w, i32_w]
              rfl
             refine pure_ (i := 3) (N := some 58) (v := ?_) (a' := ?_) #[true, true, false, true, false, false, false, false, false, false, false] rfl rfl (any_of HT_.out (by kernel_rfl)) (fun _ _ _ h => h) (Or.inl ⟨by rfl, ?_⟩) ?_ ?_
             rotate_left
             ·intro w'
              go_simp
              with_reducible rfl
             rotate_left
             ·simp only [Act.put, List.setIfInBounds_toArray, List.set_cons_zero, List.set_cons_succ, i64_w, i32_w]
              rfl
             refine pure_ (i := 4) (N := some 59) (v := ?_) (a' := ?_) #[true, true, false, true, true, false, false, false, false, false, false] rfl rfl (any_of HT_.out (by kernel_rfl)) (fun _ _ _ h => h) (Or.inl ⟨by rfl, ?_⟩) ?_ ?_
             rotate_left
             ·intro w'
              go_simp
              with_reducible rfl
             rotate_left
             ·simp only [Act.put, List.setIfInBounds_toArray, List.set_cons_zero, List.set_cons_succ, i64_w, i32_w]
              rfl
             refine pure_ (i := 8) (N := some 63) (v := ?_) (a' := ?_) #[true, true, false, true, true, false, false, false, true, false, false] rfl rfl (any_of HT_.out (by kernel_rfl)) (fun _ _ _ h => h) (Or.inl ⟨by rfl, ?_⟩) ?_ ?_
             rotate_left
             ·intro w'
              go_simp
              with_reducible rfl
             rotate_left
             ·simp only [Act.put, List.setIfInBounds_toArray, List.set_cons_zero, List.set_cons_succ, i64_w, i32_w]
              rfl
             refine take_ (i := 2) (N := some 57) (v := ?_) (a' := ?_) #[true, true, true, true, true, false, false, false, true, false, false] rfl rfl (take_ofW HT_.out HW_.out (by kernel_rfl)) (fun _ _ _ h => h) (Or.inl ⟨by rfl, ?_⟩) hHeld ?_ ?_
             rotate_left
             ·intro w' _
              go_simp
              with_reducible rfl
             rotate_left
             ·simp only [Act.put, List.setIfInBounds_toArray, List.set_cons_zero, List.set_cons_succ, i64_w, i32_w]
              rfl
             refine take_ (i := 5) (N := some 60) (v := ?_) (a' := ?_) #[true, true, true, true, true, true, false, false, true, false, false] rfl rfl (take_ofW HT_.out HW_.out (by kernel_rfl)) (fun _ _ _ h => h) (Or.inl ⟨by rfl, ?_⟩) hHeld ?_ ?_
             rotate_left
             ·intro w' _
              go_simp
              with_reducible rfl
             rotate_left
             ·simp only [Act.put, List.setIfInBounds_toArray, List.set_cons_zero, List.set_cons_succ, i64_w, i32_w]
              rfl
             refine one_ (i := 6) (N := some 61) #[true, true, true, true, true, true, true, false, true, false, false] rfl rfl (one_of HT_.out (by kernel_rfl)) (by decide) (fun K hK => ?_)
             refine Kd.R_lit_step (Kd.int .u8) _ 5 ?hg (N := 61) ?hd (xs := ([bt t145 (ji76), bt t145 (ji80)] : List Int)) (inner := [.int .u8 (bt t145 (ji76)), .int .u8 (bt t145 (ji80))]) (ok := fun _ => True) (okp := fun _ => True) ?hr ?hp (fun _ hk => hk) trivial (Below.refl _ _) (Nat.le_refl _) (by simp) ?_; (case hd => rfl); (case hg => rfl); (case hr => first | (go_simp; done) | (go_simp; rfl) | (go_simp; simp only [IntKind.wrap_u8, Int.emod_emod_of_dvd, Int.add_emod_emod, Int.emod_add_emod, Int.emod_emod]; done)); (case hp => exact (Reps.one (show Kd.M (Kd.int .u8) _ _ _ (bt t145 (ji76)) [.int .u8 (bt t145 (ji76))] from rfl) (Reps.one (show Kd.M (Kd.int .u8) _ _ _ (bt t145 (ji80)) [.int .u8 (bt t145 (ji80))] from rfl) (Reps.none _ _))))
             intro v150 w90 ho91 hb hg_ hnew_
             clear hg_ hnew_
             (first | rw [← Ny149.out] at ho91 | (simp only [Int.reduceToNat] at ho91; rw [← Ny149.out] at ho91))
             have n0_ := Aside0.mk (Kd.R_elder' (by (with_reducible repeat (first | apply Kd.R_alloc | apply Kd.R_drewN | apply Kd.R_drew)); exact HO148.out) (Kd.R_base ho91) hb)
             have n1_ := Aside0.mk (Kd.R_lower (Kd.R_new' ho91 (Kd.R_lt (by (with_reducible repeat (first | apply Kd.R_alloc | apply Kd.R_drewN | apply Kd.R_drew)); exact HO148.out))) (below_size (by repeat (first | (with_reducible first | exact HB.out | apply below_alloc | apply pw_below_drewN | apply below_drew1) | exact HB.out))))
             have n2_ := Aside0.mk (below_step (by repeat (first | (with_reducible first | exact HB.out | apply below_alloc | apply pw_below_drewN | apply below_drew1) | exact HB.out)) hb)
             clear HO148
             clear HB
             have HO148 := n0_
             have HO151 := n1_
             have HB := n2_
             clear n0_ n1_ n2_
             clear hb ho91
             refine hK.out _ _ trivial (fun hHeld => ?_)
             clear hK K
             refine norm_ (a' := ?_) ?_ ?_
             rotate_left
             ·show Act.put _ (some 61) _ = _
              simp only [Act.put, List.setIfInBounds_toArray, List.set_cons_zero, List.set_cons_succ, i64_w, i32_w]
              rfl
             refine one_ (i := 7) (N := some 62) #[true, true, true, true, true, true, true, true, true, false, false] rfl rfl (one_of HT_.out (by kernel_rfl)) (by decide) (fun K hK => ?_)
             have hcv92 := own_string (P := Tryd.prog) Tryd.underlying51 Tryd.underlying5 Tryd.underlying9 (Kd.own_of_R HO151.out)
             refine value_ (w1 := ?_) (v := ?_) (by rfl) rfl ?_ ?_
             rotate_left 2
             ·go_simp
              constructor
              ·rfl
              ·rfl
             clear hcv92
             refine hK.out _ _ trivial (fun hHeld => ?_)
             clear hK K
             refine norm_ (a' := ?_) ?_ ?_
             rotate_left
             ·show Act.put _ (some 62) _ = _
              simp only [Act.put, List.setIfInBounds_toArray, List.set_cons_zero, List.set_cons_succ, i64_w, i32_w]
              rfl
             refine pure_ (i := 9) (N := some 64) (v := ?_) (a' := ?_) #[true, true, true, true, true, true, true, true, true, true, false] rfl rfl (any_of HT_.out (by kernel_rfl)) (fun _ _ _ h => h) (Or.inl ⟨by rfl, ?_⟩) ?_ ?_
             rotate_left
             ·intro w'
              go_simp
              with_reducible rfl
             rotate_left
             ·simp only [Act.put, List.setIfInBounds_toArray, List.set_cons_zero, List.set_cons_succ, i64_w, i32_w]
              rfl
             refine pure_ (i := 10) (N := some 6) (v := ?_) (a' := ?_) #[true, true, true, true, true, true, true, true, true, true, true] rfl rfl (any_of HT_.out (by kernel_rfl)) (fun _ _ _ h => h) (Or.inl ⟨by rfl, ?_⟩) ?_ ?_
             rotate_left
             ·intro w'
              go_simp
              with_reducible rfl
             rotate_left
             ·simp only [Act.put, List.setIfInBounds_toArray, List.set_cons_zero, List.set_cons_succ, i64_w, i32_w]
              rfl
             refine done_ (done_of HT_.out (by kernel_rfl)) ?_
             try go_wp2
             go_ret
             exact ⟨by first | rfl | (simp [errW_none, errW_some] <;> rfl) | (simp only [← hji67, ← hji71, ← hji76, ← hji80]; first | rfl | (simp [errW_none, errW_some] <;> rfl)) | (simp [errW_none, errW_some]; decide +kernel) | (simp [*, errW_none, errW_some] <;> rfl), by repeat (first | (with_reducible first | exact HB.out | apply below_alloc | apply pw_below_drewN | apply below_drew1) | exact HB.out)⟩
            ·rw [if_neg c84] at H
             exact absurd H (by simp)
           ·rw [if_neg c82] at H
            exact absurd H (by simp)
          ·rw [if_neg c81] at H
           exact absurd H (by simp)
         ·rw [if_neg c78] at H
          exact absurd H (by simp)
        ·rw [if_neg c77] at H
         exact absurd H (by simp)
       ·rw [if_neg c75] at H
        exact absurd H (by simp)
      ·rw [if_neg c73] at H
       exact absurd H (by simp)
     ·rw [if_neg c72] at H
      exact absurd H (by simp)
    ·rw [if_neg c69] at H
     exact absurd H (by simp)
   ·rw [if_neg c68] at H
    exact absurd H (by simp)
  ·rw [if_neg c66] at H
   have c66b0 : decide (1 < a2) = false := decide_eq_false c66
   clear c66
   by_cases c93 : 0 ≤ a0
   ·rw [if_pos c93] at H
    have c93b0 : decide (0 ≤ a0) = true := decide_eq_true c93
    clear c93
    by_cases c94 : a0 < (t145.size : Int)
    ·rw [if_pos c94] at H
     have c94b0 : decide (a0 < (t145.size : Int)) = true := decide_eq_true c94
     clear c94
     by_cases c96 : 0 ≤ a1
     ·rw [if_pos c96] at H
      have c96b0 : decide (0 ≤ a1) = true := decide_eq_true c96
      clear c96
      by_cases c97 : a1 < (t145.size : Int)
      ·rw [if_pos c97] at H
       have c97b0 : decide (a1 < (t145.size : Int)) = true := decide_eq_true c97
       clear c97
       obtain ⟨y152, hy152⟩ : ∃ y_ : List Int, y_ = (([bt t145 a0, bt t145 a1] : List Int)) := ⟨_, rfl⟩
       replace H : (if (strOfNums y152).size + 0 ≤ 9223372036854775807 then (some ((strOfNums y152) ++ (⟨#[]⟩ : ByteArray))) else (none)) = some r := by first | (rw [hy152]; with_reducible exact H) | (have H2_ := (Option.bind_some _ _).symm.trans H; rw [hy152]; with_reducible exact H2_) | (have H2_ := (Option.bind_some _ _).symm.trans H; with_reducible exact H2_) | with_reducible exact H | (rw [hy152]; exact H) | exact H
       have Ny152 := Aside0.mk hy152
       clear hy152
       by_cases c99 : (strOfNums y152).size + 0 ≤ 9223372036854775807
       ·rw [if_pos c99] at H
        have c99b0 := eq_true c99
        have c99b1 : decide ((strOfNums y152).size + 0 ≤ 9223372036854775807) = true := decide_eq_true c99
        try have c99b2 : (9223372036854775807 < (strOfNums y152).size + 0) = False := eq_false (Nat.not_lt.2 c99)
        have c99b8 : (strOfNums y152).size ≤ 9223372036854775807 := by have h_ := c99; (try simp only [ByteArray.size_append] at h_ ⊢); omega
        have c99b9 : (9223372036854775807 < (strOfNums y152).size) = False := eq_false (Nat.not_lt.2 c99b8)
        obtain rfl := Option.some.inj H
        go_enter Tryd.func34, Tryd.ntmps34
        try go_wp2_with (first | ((with_reducible refine gate_callee (f := 72) rfl ?_); refine goesL_ (some 36) rfl rfl Tryd.func72 (by kernel_rfl) rfl #[] rfl (by (try simp only [List.map_toArray, List.map_cons, List.map_nil]); first | done | rfl | (simp only [List.length_drop, List.length_take]; rfl)) ?_; (with_reducible refine (spec_l26Letters.calls  t145 _ A65.out).mono ?_); rintro e w' ⟨rfl, ⟨nd, rfl⟩⟩; refine ⟨_, rfl, ?_⟩))
        have n0_ := Aside0.mk (below_drew1 (pw_below_drewN HB.out nd))
        clear HB
        have HB := n0_
        clear n0_
        have p95 : 0 ≤ (a0 : Int) := of_decide_eq_true (by first | (with_reducible assumption) | assumption)
        have q95 : a0 < (t145.size : Int) := of_decide_eq_true (by first | (with_reducible assumption) | assumption)
        have hx95 := bt_at t145 a0
        replace p95 := eq_true p95
        replace q95 := eq_true q95
        have p98 : 0 ≤ (a1 : Int) := of_decide_eq_true (by first | (with_reducible assumption) | assumption)
        have q98 : a1 < (t145.size : Int) := of_decide_eq_true (by first | (with_reducible assumption) | assumption)
        have hx98 := bt_at t145 a1
        replace p98 := eq_true p98
        replace q98 := eq_true q98
        refine start_ (n := 11) (S := fun w' => True) (ds := []) #[false, false, false, false, false, false, false, false, false, false, false] (by kernel_rfl) rfl rfl trivial (fun hHeld => ?_); refine with_tabW spec_l26Georef.tab12 spec_l26Georef.bits12 (fun HT_ HW_ => ?_)
        generalize (w.drewN nd).drew = w100 at HB hHeld ⊢
        refine pure_ (i := 0) (N := some 55) (v := ?_) (a' := ?_) #[true, false, false, false, false, false, false, false, false, false, false] rfl rfl (any_of HT_.out (by kernel_rfl)) (fun _ _ _ h => h) (Or.inl ⟨by rfl, ?_⟩) ?_ ?_
        rotate_left
        ·intro w'
         go_simp
         with_reducible rfl
        rotate_left
        ·simp only [Act.put, List.setIfInBounds_toArray, List.set_cons_zero, List.set_cons_succ, i64_w, i32_w]
         rfl
        refine pure_ (i := 1) (N := some 56) (v := ?_) (a' := ?_) #[true, true, false, false, false, false, false, false, false, false, false] rfl rfl (any_of HT_.out (by kernel_rfl)) (fun _ _ _ h => h) (Or.inl ⟨by rfl, ?_⟩) ?_ ?_
        rotate_left
        ·intro w'
         go_simp
         with_reducible rfl
        rotate_left
        ·simp only [Act.put, List.setIfInBounds_toArray, List.set_cons_zero, List.set_cons_succ, i64_w, i32_w]
         rfl
        refine pure_ (i := 3) (N := some 58) (v := ?_) (a' := ?_) #[true, true, false, true, false, false, false, false, false, false, false] rfl rfl (any_of HT_.out (by kernel_rfl)) (fun _ _ _ h => h) (Or.inl ⟨by rfl, ?_⟩) ?_ ?_
        rotate_left
        ·intro w'
         go_simp
         with_reducible rfl
        rotate_left
        ·simp only [Act.put, List.setIfInBounds_toArray, List.set_cons_zero, List.set_cons_succ, i64_w, i32_w]
         rfl
        refine pure_ (i := 4) (N := some 59) (v := ?_) (a' := ?_) #[true, true, false, true, true, false, false, false, false, false, false] rfl rfl (any_of HT_.out (by kernel_rfl)) (fun _ _ _ h => h) (Or.inl ⟨by rfl, ?_⟩) ?_ ?_
        rotate_left
        ·intro w'
         go_simp
         with_reducible rfl
        rotate_left
        ·simp only [Act.put, List.setIfInBounds_toArray, List.set_cons_zero, List.set_cons_succ, i64_w, i32_w]
         rfl
        refine pure_ (i := 8) (N := some 63) (v := ?_) (a' := ?_) #[true, true, false, true, true, false, false, false, true, false, false] rfl rfl (any_of HT_.out (by kernel_rfl)) (fun _ _ _ h => h) (Or.inl ⟨by rfl, ?_⟩) ?_ ?_
        rotate_left
        ·intro w'
         go_simp
         with_reducible rfl
        rotate_left
        ·simp only [Act.put, List.setIfInBounds_toArray, List.set_cons_zero, List.set_cons_succ, i64_w, i32_w]
         rfl
        refine take_ (i := 2) (N := some 57) (v := ?_) (a' := ?_) #[true, true, true, true, true, false, false, false, true, false, false] rfl rfl (take_ofW HT_.out HW_.out (by kernel_rfl)) (fun _ _ _ h => h) (Or.inl ⟨by rfl, ?_⟩) hHeld ?_ ?_
        rotate_left
        ·intro w' _
         go_simp
         with_reducible rfl
        rotate_left
        ·simp only [Act.put, List.setIfInBounds_toArray, List.set_cons_zero, List.set_cons_succ, i64_w, i32_w]
         rfl
        refine take_ (i := 5) (N := some 60) (v := ?_) (a' := ?_) #[true, true, true, true, true, true, false, false, true, false, false] rfl rfl (take_ofW HT_.out HW_.out (by kernel_rfl)) (fun _ _ _ h => h) (Or.inl ⟨by rfl, ?_⟩) hHeld ?_ ?_
        rotate_left
        ·intro w' _
         go_simp
         with_reducible rfl
        rotate_left
        ·simp only [Act.put, List.setIfInBounds_toArray, List.set_cons_zero, List.set_cons_succ, i64_w, i32_w]
         rfl
        refine one_ (i := 6) (N := some 61) #[true, true, true, true, true, true, true, false, true, false, false] rfl rfl (one_of HT_.out (by kernel_rfl)) (by decide) (fun K hK => ?_)
        refine Kd.R_lit_step (Kd.int .u8) _ 5 ?hg (N := 61) ?hd (xs := ([bt t145 a0, bt t145 a1] : List Int)) (inner := [.int .u8 (bt t145 a0), .int .u8 (bt t145 a1)]) (ok := fun _ => True) (okp := fun _ => True) ?hr ?hp (fun _ hk => hk) trivial (Below.refl _ _) (Nat.le_refl _) (by simp) ?_; (case hd => rfl); (case hg => rfl); (case hr => first | (go_simp; done) | (go_simp; rfl) | (go_simp; simp only [IntKind.wrap_u8, Int.emod_emod_of_dvd, Int.add_emod_emod, Int.emod_add_emod, Int.emod_emod]; done)); (case hp => exact (Reps.one (show Kd.M (Kd.int .u8) _ _ _ (bt t145 a0) [.int .u8 (bt t145 a0)] from rfl) (Reps.one (show Kd.M (Kd.int .u8) _ _ _ (bt t145 a1) [.int .u8 (bt t145 a1)] from rfl) (Reps.none _ _))))
        intro v153 w101 ho102 hb hg_ hnew_
        clear hg_ hnew_
        (first | rw [← Ny152.out] at ho102 | (simp only [Int.reduceToNat] at ho102; rw [← Ny152.out] at ho102))
        have n0_ := Aside0.mk (Kd.R_lower ho102 (by first | exact Nat.le_refl w.heap.size | exact (below_size (by repeat (first | (with_reducible first | exact HB.out | apply below_alloc | apply pw_below_drewN | apply below_drew1) | exact HB.out)))))
        have n1_ := Aside0.mk (below_step (by repeat (first | (with_reducible first | exact HB.out | apply below_alloc | apply pw_below_drewN | apply below_drew1) | exact HB.out)) hb)
        clear HB
        have HO154 := n0_
        have HB := n1_
        clear n0_ n1_
        clear hb ho102
        refine hK.out _ _ trivial (fun hHeld => ?_)
        clear hK K
        refine norm_ (a' := ?_) ?_ ?_
        rotate_left
        ·show Act.put _ (some 61) _ = _
         simp only [Act.put, List.setIfInBounds_toArray, List.set_cons_zero, List.set_cons_succ, i64_w, i32_w]
         rfl
        refine one_ (i := 7) (N := some 62) #[true, true, true, true, true, true, true, true, true, false, false] rfl rfl (one_of HT_.out (by kernel_rfl)) (by decide) (fun K hK => ?_)
        have hcv103 := own_string (P := Tryd.prog) Tryd.underlying51 Tryd.underlying5 Tryd.underlying9 (Kd.own_of_R HO154.out)
        refine value_ (w1 := ?_) (v := ?_) (by rfl) rfl ?_ ?_
        rotate_left 2
        ·go_simp
         constructor
         ·rfl
         ·rfl
        clear hcv103
        refine hK.out _ _ trivial (fun hHeld => ?_)
        clear hK K
        refine norm_ (a' := ?_) ?_ ?_
        rotate_left
        ·show Act.put _ (some 62) _ = _
         simp only [Act.put, List.setIfInBounds_toArray, List.set_cons_zero, List.set_cons_succ, i64_w, i32_w]
         rfl
        refine pure_ (i := 9) (N := some 64) (v := ?_) (a' := ?_) #[true, true, true, true, true, true, true, true, true, true, false] rfl rfl (any_of HT_.out (by kernel_rfl)) (fun _ _ _ h => h) (Or.inl ⟨by rfl, ?_⟩) ?_ ?_
        rotate_left
        ·intro w'
         go_simp
         with_reducible rfl
        rotate_left
        ·simp only [Act.put, List.setIfInBounds_toArray, List.set_cons_zero, List.set_cons_succ, i64_w, i32_w]
         rfl
        refine pure_ (i := 10) (N := some 6) (v := ?_) (a' := ?_) #[true, true, true, true, true, true, true, true, true, true, true] rfl rfl (any_of HT_.out (by kernel_rfl)) (fun _ _ _ h => h) (Or.inl ⟨by rfl, ?_⟩) ?_ ?_
        rotate_left
        ·intro w'
         go_simp
         with_reducible rfl
        rotate_left
        ·simp only [Act.put, List.setIfInBounds_toArray, List.set_cons_zero, List.set_cons_succ, i64_w, i32_w]
         rfl
        refine done_ (done_of HT_.out (by kernel_rfl)) ?_
        try go_wp2
        go_ret
        exact ⟨by first | rfl | (simp [errW_none, errW_some] <;> rfl) | (simp [errW_none, errW_some]; decide +kernel) | (simp [*, errW_none, errW_some] <;> rfl), by repeat (first | (with_reducible first | exact HB.out | apply below_alloc | apply pw_below_drewN | apply below_drew1) | exact HB.out)⟩
       ·rw [if_neg c99] at H
        exact absurd H (by simp)
      ·rw [if_neg c97] at H
       exact absurd H (by simp)
     ·rw [if_neg c96] at H
      exact absurd H (by simp)
    ·rw [if_neg c94] at H
     exact absurd H (by simp)
   ·rw [if_neg c93] at H
    exact absurd H (by simp)

end Go.Proofs.YtelajgllidngiaaDoor.P
