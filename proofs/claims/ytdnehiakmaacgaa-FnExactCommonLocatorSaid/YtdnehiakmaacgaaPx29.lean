-- Printed by drive.py, which calls the kit's print.py with changes of its own.
import Derived.Test.YtdnehiakmaacgaaPx0
import Derived.Test.YtdnehiakmaacgaaPx25
import Derived.Test.YtdnehiakmaacgaaPx28
namespace Go.Proofs.Ytdnehiakmaacgaa.P
open Go.RowKit Go.Proofs.YtdnehiakmaacgaaW.PrintWords Go.Proofs.YtdnehiakmaacgaaW.PrintLast Go.Proofs.YtdnehiakmaacgaaW.PrintMore
attribute [local go_sem] max2_int min2_int max_two min_two max_three min_three max_four min_four   -- for this text's walks alone
set_option linter.unusedVariables false
set_option linter.unusedSimpArgs false

/-! ### laws_FnExactCommonLocator: function 10 -/
def laws_FnExactCommonLocator.f (k : Nat) (a0 : ByteArray) (a1 : ByteArray) : Option (Bool) := if (a0.size : Int) > 1048576 then (some true) else (if (a1.size : Int) > 1048576 then (some true) else ((spec_CommonLocator.f k a0 a1).bind fun bt349 => ((impl_CommonLocator.f k a0 a1).bind fun bt351 => (if bt351.1.toList = bt349.1.toList then (if (bt351.2 != bt349.2) = true then (some false) else (some true)) else (some false)))))
theorem laws_FnExactCommonLocator.mono : ∀ a0 a1 k, LeO (laws_FnExactCommonLocator.f k a0 a1) (laws_FnExactCommonLocator.f (k + 1) a0 a1) := by
  intro a0 a1 k
  unfold laws_FnExactCommonLocator.f
  repeat' first
      | (with_reducible exact impl_CommonLocator.mono _ _ _)
      | (with_reducible exact spec_CommonLocator.mono _ _ _)
      | (with_reducible exact LeO.refl _)
      | (with_reducible exact LeO.none _)
      | (with_reducible refine LeO.ite ?_ ?_)
      | (with_reducible refine LeO.bind ?_ (fun _ => ?_))
      | exact impl_CommonLocator.mono _ _ _
      | exact spec_CommonLocator.mono _ _ _
      | exact LeO.none _
      | refine LeO.ite ?_ ?_
      | refine LeO.bind ?_ (fun _ => ?_)
set_option maxHeartbeats 8000000 in
set_option maxRecDepth 100000 in
theorem laws_FnExactCommonLocator.calls (k : Nat) (a0 : ByteArray) (a1 : ByteArray) (w : World) (h : laws_FnExactCommonLocator.f k a0 a1 = some true) :
    Calls Try.prog 10 #[.string a0, .string a1] w fun e w' => e = .returned (.bool true) ∧ Below w.heap.size w w' := by
  have HB := Aside0.mk (Below.refl w.heap.size w)
  have H : (if (a0.size : Int) > 1048576 then (some true) else (if (a1.size : Int) > 1048576 then (some true) else ((spec_CommonLocator.f k a0 a1).bind fun bt349 => ((impl_CommonLocator.f k a0 a1).bind fun bt351 => (if bt351.1.toList = bt349.1.toList then (if (bt351.2 != bt349.2) = true then (some false) else (some true)) else (some false)))))) = some true := h
  clear h
  by_cases c3 : (a0.size : Int) > 1048576
  · rw [if_pos c3] at H
    have c3b0 : decide (1048576 < (a0.size : Int)) = true := decide_eq_true c3
    have c3b1 : decide (1048576 < a0.size) = true := decide_eq_true (by omega)
    clear c3
    clear H
    go_enter Try.func10, Try.ntmps10
    go_wp2
    go_ret
    exact ⟨by first | rfl | (simp [errW_none, errW_some] <;> rfl) | (simp [errW_none, errW_some]; decide +kernel) | (simp [*, errW_none, errW_some] <;> rfl), by repeat (first | (with_reducible first | exact HB.out | apply below_alloc | apply pw_below_drewN | apply below_drew1) | exact HB.out)⟩
  · rw [if_neg c3] at H
    have c3b0 : decide (1048576 < (a0.size : Int)) = false := decide_eq_false c3
    have c3b1 : decide (1048576 < a0.size) = false := decide_eq_false (by omega)
    clear c3
    by_cases c4 : (a1.size : Int) > 1048576
    · rw [if_pos c4] at H
      have c4b0 : decide (1048576 < (a1.size : Int)) = true := decide_eq_true c4
      have c4b1 : decide (1048576 < a1.size) = true := decide_eq_true (by omega)
      clear c4
      clear H
      go_enter Try.func10, Try.ntmps10
      go_wp2
      go_ret
      exact ⟨by first | rfl | (simp [errW_none, errW_some] <;> rfl) | (simp [errW_none, errW_some]; decide +kernel) | (simp [*, errW_none, errW_some] <;> rfl), by repeat (first | (with_reducible first | exact HB.out | apply below_alloc | apply pw_below_drewN | apply below_drew1) | exact HB.out)⟩
    · rw [if_neg c4] at H
      have c4b0 : decide (1048576 < (a1.size : Int)) = false := decide_eq_false c4
      have c4b1 : decide (1048576 < a1.size) = false := decide_eq_false (by omega)
      clear c4
      replace H := Option.bind_eq_some_iff.mp H
      obtain ⟨⟨t349, t350⟩, A50, H⟩ := H
      replace H : ((impl_CommonLocator.f k a0 a1).bind fun bt351 => (if bt351.1.toList = t349.toList then (if (bt351.2 != t350) = true then (some false) else (some true)) else (some false))) = some true := H
      have A5 := Aside0.mk A50
      clear A50
      replace H := Option.bind_eq_some_iff.mp H
      obtain ⟨⟨t351, t352⟩, A60, H⟩ := H
      replace H : (if t351.toList = t349.toList then (if (t352 != t350) = true then (some false) else (some true)) else (some false)) = some true := H
      have A6 := Aside0.mk A60
      clear A60
      by_cases c7 : t351.toList = t349.toList
      · rw [if_pos c7] at H
        have c7b0 : (t351.toList == t349.toList) = true := beq_iff_eq.mpr c7
        have c7b1 : (t351.toList != t349.toList) = false := bne_eq_false_iff_eq.mpr c7
        clear c7
        by_cases c8 : (t352 != t350) = true
        · rw [if_pos c8] at H
          have c8b0 : (t352 != t350) = true := c8
          (try (have c8b1 : decide (t352 = t350) = false := by simpa using c8))
          (try (have c8b2 : (t352 == t350) = false := by simpa using c8))
          (try (have c8b3 : ¬ (t352 = t350) := by simpa using c8))
          clear c8
          exact absurd H (by simp)
        · rw [if_neg c8] at H
          have c8b0 : (t352 != t350) = false := by simpa using c8
          (try (have c8b1 : decide (t352 = t350) = true := by simpa using c8))
          (try (have c8b2 : (t352 == t350) = true := by simpa using c8))
          clear c8
          clear H
          go_enter Try.func10, Try.ntmps10
          go_wp2_with (first | ((with_reducible refine gate_callee (f := 33) rfl ?_); refine goesL_ (some 18) rfl rfl Try.func33 (by kernel_rfl) rfl #[.string a0, .string a1] rfl (by (try simp only [List.map_toArray, List.map_cons, List.map_nil]); first | done | rfl | (simp only [List.length_drop, List.length_take]; rfl)) ?_; (with_reducible refine (spec_CommonLocator.calls k a0 a1 t349 t350 _ A5.out).mono ?_); rintro e w' ⟨rfl, ⟨nd, rfl⟩⟩; refine ⟨_, rfl, ?_⟩) | ((with_reducible refine gate_callee (f := 34) rfl ?_); refine goesL_ (some 24) rfl rfl Try.func34 (by kernel_rfl) rfl #[.string a0, .string a1] rfl (by (try simp only [List.map_toArray, List.map_cons, List.map_nil]); first | done | rfl | (simp only [List.length_drop, List.length_take]; rfl)) ?_; (with_reducible refine (impl_CommonLocator.calls k a0 a1 t351 t352 _ A6.out).mono ?_); rintro e w9 ⟨rfl, hb⟩; refine ⟨_, rfl, ?_⟩; have n0_ := Aside0.mk (below_step (by repeat (first | (with_reducible first | exact HB.out | apply below_alloc | apply pw_below_drewN | apply below_drew1) | exact HB.out)) hb); clear HB; have HB := n0_; clear n0_; (try clear hb); (try clear hb2); (try clear hk); (try clear hi)))
          go_ret
          exact ⟨by first | rfl | (simp [errW_none, errW_some] <;> rfl) | (simp [errW_none, errW_some]; decide +kernel) | (simp [*, errW_none, errW_some] <;> rfl), by repeat (first | (with_reducible first | exact HB.out | apply below_alloc | apply pw_below_drewN | apply below_drew1) | exact HB.out)⟩
      · rw [if_neg c7] at H
        have c7b0 : (t351.toList == t349.toList) = false := beq_eq_false_iff_ne.mpr c7
        have c7b1 : (t351.toList != t349.toList) = true := bne_iff_ne.mpr c7
        exact absurd H (by simp)

end Go.Proofs.Ytdnehiakmaacgaa.P
