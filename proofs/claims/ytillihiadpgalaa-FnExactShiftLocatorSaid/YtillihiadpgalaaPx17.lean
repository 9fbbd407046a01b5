-- Printed by drive.py, which calls the kit's print.py with changes of its own.
import Derived.Test.YtillihiadpgalaaPx0
import Derived.Test.YtillihiadpgalaaPx6
import Derived.Test.YtillihiadpgalaaPx7
import Derived.Test.YtillihiadpgalaaPx8
import Derived.Test.YtillihiadpgalaaPx16
namespace Go.Proofs.Ytillihiadpgalaa.P
open Go.RowKit Go.Proofs.YtillihiadpgalaaW.PrintWords Go.Proofs.YtillihiadpgalaaW.PrintLast Go.Proofs.YtillihiadpgalaaW.PrintMore
attribute [local go_sem] max2_int min2_int max_two min_two max_three min_three max_four min_four   -- for this text's walks alone
set_option linter.unusedVariables false
set_option linter.unusedSimpArgs false

/-! ### spec_ShiftLocator: function 16 -/
def spec_ShiftLocator.j0 : Nat → Int → Int → Int → Int → Int → Bool → Option (ByteArray × Int)
  | 0, _, _, _, _, _, _ => none
  | k + 1, x1, x2, x8, x9, x10, x29 => if x29 = true then (some ((⟨#[]⟩ : ByteArray), 2)) else ((spec_l26Parts.f k x10).bind fun t176 => ((spec_l00In.f (wrap64 (x9 + x2)) 0 (wrap64 (t176 - 1))).bind fun t177 => (if t177 = true then (if t176 = 0 then (none) else ((spec_l26Locator.f k (Int.tmod (wrap64 ((Int.tmod (wrap64 (x8 + x1)) t176) + t176)) t176) (wrap64 (x9 + x2)) x10).bind fun t178 => (some (t178, 0)))) else (some ((⟨#[]⟩ : ByteArray), 8)))))
def spec_ShiftLocator.f (k : Nat) (a0 : ByteArray) (a1 : Int) (a2 : Int) : Option (ByteArray × Int) := (spec_l26Read.f k a0).bind fun bt170 => (if bt170.2.2.2 = true then ((spec_l00In.f a1 (-1000000) 1000000).bind fun t174 => (if t174 = true then ((spec_l00In.f a2 (-1000000) 1000000).bind fun t175 => (spec_ShiftLocator.j0 k a1 a2 bt170.1 bt170.2.1 bt170.2.2.1 (!t175))) else (spec_ShiftLocator.j0 k a1 a2 bt170.1 bt170.2.1 bt170.2.2.1 true))) else (some ((⟨#[]⟩ : ByteArray), 7)))
theorem spec_ShiftLocator.mono_l : ∀ k, (∀ y0 y1 y2 y3 y4 y5, LeO (spec_ShiftLocator.j0 k y0 y1 y2 y3 y4 y5) (spec_ShiftLocator.j0 (k + 1) y0 y1 y2 y3 y4 y5))
  | 0 => fun _ _ _ _ _ _ r h => by simp [spec_ShiftLocator.j0] at h
  | k + 1 => by
    have ih0 := spec_ShiftLocator.mono_l k
    · intro y0 y1 y2 y3 y4 y5
      unfold spec_ShiftLocator.j0
      repeat' first
      | (with_reducible exact ih0 _ _ _ _ _ _)
      | (with_reducible exact spec_l26Locator.mono _ _ _ _)
      | (with_reducible exact spec_l26Parts.mono _ _)
      | (with_reducible exact spec_l26Read.mono _ _)
      | (with_reducible exact LeO.refl _)
      | (with_reducible exact LeO.none _)
      | (with_reducible refine LeO.ite ?_ ?_)
      | (with_reducible refine LeO.bind ?_ (fun _ => ?_))
      | exact ih0 _ _ _ _ _ _
      | exact spec_l26Locator.mono _ _ _ _
      | exact spec_l26Parts.mono _ _
      | exact spec_l26Read.mono _ _
      | exact LeO.none _
      | refine LeO.ite ?_ ?_
      | refine LeO.bind ?_ (fun _ => ?_)
theorem spec_ShiftLocator.mono : ∀ a0 a1 a2 k, LeO (spec_ShiftLocator.f k a0 a1 a2) (spec_ShiftLocator.f (k + 1) a0 a1 a2) := by
  intro a0 a1 a2 k
  have ih0 := spec_ShiftLocator.mono_l k
  unfold spec_ShiftLocator.f
  repeat' first
      | (with_reducible exact ih0 _ _ _ _ _ _)
      | (with_reducible exact spec_l26Locator.mono _ _ _ _)
      | (with_reducible exact spec_l26Parts.mono _ _)
      | (with_reducible exact spec_l26Read.mono _ _)
      | (with_reducible exact LeO.refl _)
      | (with_reducible exact LeO.none _)
      | (with_reducible refine LeO.ite ?_ ?_)
      | (with_reducible refine LeO.bind ?_ (fun _ => ?_))
      | exact ih0 _ _ _ _ _ _
      | exact spec_l26Locator.mono _ _ _ _
      | exact spec_l26Parts.mono _ _
      | exact spec_l26Read.mono _ _
      | exact LeO.none _
      | refine LeO.ite ?_ ?_
      | refine LeO.bind ?_ (fun _ => ?_)
set_option maxHeartbeats 8000000 in
set_option maxRecDepth 100000 in
theorem spec_ShiftLocator.calls (k : Nat) (a0 : ByteArray) (a1 : Int) (a2 : Int) (r1 : ByteArray) (r2 : Int) (w : World) (h : spec_ShiftLocator.f k a0 a1 a2 = some (r1, r2)) :
    Calls Try.prog 16 #[.string a0, .int .i64 a1, .int .i64 a2] w fun e w' => e = .returned (.tuple #[.string r1, .int .i64 r2]) ∧ Below w.heap.size w w' := by
  have HB := Aside0.mk (Below.refl w.heap.size w)
  have H : ((spec_l26Read.f k a0).bind fun bt170 => (if bt170.2.2.2 = true then ((spec_l00In.f a1 (-1000000) 1000000).bind fun t174 => (if t174 = true then ((spec_l00In.f a2 (-1000000) 1000000).bind fun t175 => (spec_ShiftLocator.j0 k a1 a2 bt170.1 bt170.2.1 bt170.2.2.1 (!t175))) else (spec_ShiftLocator.j0 k a1 a2 bt170.1 bt170.2.1 bt170.2.2.1 true))) else (some ((⟨#[]⟩ : ByteArray), 7)))) = some (r1, r2) := h
  clear h
  replace H := Option.bind_eq_some_iff.mp H
  obtain ⟨⟨t170, t171, t172, t173⟩, A40, H⟩ := H
  replace H : (if t173 = true then ((spec_l00In.f a1 (-1000000) 1000000).bind fun t174 => (if t174 = true then ((spec_l00In.f a2 (-1000000) 1000000).bind fun t175 => (spec_ShiftLocator.j0 k a1 a2 t170 t171 t172 (!t175))) else (spec_ShiftLocator.j0 k a1 a2 t170 t171 t172 true))) else (some ((⟨#[]⟩ : ByteArray), 7))) = some (r1, r2) := H
  have A4 := Aside0.mk A40
  clear A40
  by_cases c5 : t173 = true
  · subst c5
    have H1 : ((spec_l00In.f a1 (-1000000) 1000000).bind fun t174 => (if t174 = true then ((spec_l00In.f a2 (-1000000) 1000000).bind fun t175 => (spec_ShiftLocator.j0 k a1 a2 t170 t171 t172 (!t175))) else (spec_ShiftLocator.j0 k a1 a2 t170 t171 t172 true))) = some (r1, r2) := by rw [if_pos rfl] at H; exact H
    clear H
    have H := H1
    clear H1
    have HC6 := Aside0.mk H
    clear H
    go_enter Try.func16, Try.ntmps16
    go_upto_region 4 with (first | ((with_reducible refine gate_callee (f := 47) rfl ?_); refine goesL_ (some 15) rfl rfl Try.func47 (by kernel_rfl) rfl #[.string a0] rfl (by (try simp only [List.map_toArray, List.map_cons, List.map_nil]); first | done | rfl | (simp only [List.length_drop, List.length_take]; rfl)) ?_; (with_reducible refine (spec_l26Read.calls k a0 t170 t171 t172 true _ A4.out).mono ?_); rintro e w' ⟨rfl, ⟨nd, rfl⟩⟩; refine ⟨_, rfl, ?_⟩))
    (try simp only [Act.put, List.setIfInBounds_toArray, List.set_cons_zero, List.set_cons_succ])
    go_cut [29] (fun v29 wc => ∃ (kq : Nat) (x29_5 : Bool), v29 = .bool x29_5 ∧ Aside0 (spec_ShiftLocator.j0 kq a1 a2 t170 t171 t172 x29_5 = some (r1, r2)) ∧ Aside0 (kq ≤ k) ∧ Aside0 (Below w.heap.size w wc))
    case first =>
      have H := HC6.out
      clear HC6
      replace H := Option.bind_eq_some_iff.mp H
      obtain ⟨t174, A70, H⟩ := H
      replace H : (if t174 = true then ((spec_l00In.f a2 (-1000000) 1000000).bind fun t175 => (spec_ShiftLocator.j0 k a1 a2 t170 t171 t172 (!t175))) else (spec_ShiftLocator.j0 k a1 a2 t170 t171 t172 true)) = some (r1, r2) := H
      have A7 := Aside0.mk A70
      clear A70
      by_cases c8 : t174 = true
      · subst c8
        have H1 : ((spec_l00In.f a2 (-1000000) 1000000).bind fun t175 => (spec_ShiftLocator.j0 k a1 a2 t170 t171 t172 (!t175))) = some (r1, r2) := by rw [if_pos rfl] at H; exact H
        clear H
        have H := H1
        clear H1
        replace H := Option.bind_eq_some_iff.mp H
        obtain ⟨t175, A90, H⟩ := H
        replace H : (spec_ShiftLocator.j0 k a1 a2 t170 t171 t172 (!t175)) = some (r1, r2) := H
        have A9 := Aside0.mk A90
        clear A90
        have H' := Aside0.mk H
        clear H
        go_wp2_with (first | ((with_reducible refine gate_callee (f := 53) rfl ?_); refine goesL_ (some 23) rfl rfl Try.func53 (by kernel_rfl) rfl #[.int .i64 a1, .int .i64 (-1000000), .int .i64 1000000] rfl (by (try simp only [List.map_toArray, List.map_cons, List.map_nil]); first | done | rfl | (simp only [List.length_drop, List.length_take]; rfl)) ?_; (with_reducible refine (spec_l00In.calls a1 (-1000000) 1000000 true _ A7.out).mono ?_); rintro e w' ⟨rfl, ⟨nd, rfl⟩⟩; refine ⟨_, rfl, ?_⟩) | (go_at_call 53; (with_reducible refine (spec_l00In.calls a2 (-1000000) 1000000 t175 _ A9.out).mono ?_); rintro e w' ⟨rfl, ⟨nd, rfl⟩⟩))
        go_meet
        case rel => exact ⟨_, (!t175), (by first | rfl | (simp; done) | (simp; decide +kernel) | (simp [*]; done)), H', ⟨by first | omega | exact Nat.le_refl _⟩, ⟨by repeat (first | (with_reducible first | exact HB.out | apply below_alloc | apply pw_below_drewN | apply below_drew1) | exact HB.out)⟩⟩
      · replace c8 := Bool.eq_false_iff.mpr c8
        subst c8
        have H1 : (spec_ShiftLocator.j0 k a1 a2 t170 t171 t172 true) = some (r1, r2) := by rw [if_neg (show ¬ (false = true) by decide)] at H; exact H
        clear H
        have H := H1
        clear H1
        have H' := Aside0.mk H
        clear H
        go_wp2_with (first | ((with_reducible refine gate_callee (f := 53) rfl ?_); refine goesL_ (some 23) rfl rfl Try.func53 (by kernel_rfl) rfl #[.int .i64 a1, .int .i64 (-1000000), .int .i64 1000000] rfl (by (try simp only [List.map_toArray, List.map_cons, List.map_nil]); first | done | rfl | (simp only [List.length_drop, List.length_take]; rfl)) ?_; (with_reducible refine (spec_l00In.calls a1 (-1000000) 1000000 false _ A7.out).mono ?_); rintro e w' ⟨rfl, ⟨nd, rfl⟩⟩; refine ⟨_, rfl, ?_⟩))
        go_meet
        case rel => exact ⟨_, (true), (by first | rfl | (simp; done) | (simp; decide +kernel) | (simp [*]; done)), H', ⟨by first | omega | exact Nat.le_refl _⟩, ⟨by repeat (first | (with_reducible first | exact HB.out | apply below_alloc | apply pw_below_drewN | apply below_drew1) | exact HB.out)⟩⟩
    case rest =>
      clear HC6
      try clear c1
      try clear p2
      try clear c4
      try clear c5
      try clear c8
      obtain ⟨kq, x29_5, rfl, HA, HJ5, HB⟩ := hcut
      cases kq with
      | zero => exact absurd HA.out (by simp [spec_ShiftLocator.j0])
      | succ kj5 =>
        have H := HA.out
        clear HA
        simp only [spec_ShiftLocator.j0] at H
        by_cases c10 : x29_5 = true
        · subst c10
          have H1 : (some ((⟨#[]⟩ : ByteArray), 2)) = some (r1, r2) := by rw [if_pos rfl] at H; exact H
          clear H
          have H := H1
          clear H1
          simp only [Option.some.injEq, Prod.mk.injEq] at H
          obtain ⟨rfl, rfl⟩ := H
          go_wp2
          go_ret2
          exact ⟨by first | rfl | (simp [errW_none, errW_some] <;> rfl) | (simp [errW_none, errW_some]; decide +kernel) | (simp [*, errW_none, errW_some] <;> rfl), by repeat (first | (with_reducible first | exact HB.out | apply below_alloc | apply pw_below_drewN | apply below_drew1) | exact HB.out)⟩
        · replace c10 := Bool.eq_false_iff.mpr c10
          subst c10
          have H1 : ((spec_l26Parts.f kj5 t172).bind fun t176 => ((spec_l00In.f (wrap64 (t171 + a2)) 0 (wrap64 (t176 - 1))).bind fun t177 => (if t177 = true then (if t176 = 0 then (none) else ((spec_l26Locator.f kj5 (Int.tmod (wrap64 ((Int.tmod (wrap64 (t170 + a1)) t176) + t176)) t176) (wrap64 (t171 + a2)) t172).bind fun t178 => (some (t178, 0)))) else (some ((⟨#[]⟩ : ByteArray), 8))))) = some (r1, r2) := by rw [if_neg (show ¬ (false = true) by decide)] at H; exact H
          clear H
          have H := H1
          clear H1
          replace H := Option.bind_eq_some_iff.mp H
          obtain ⟨t176, A110, H⟩ := H
          replace H : ((spec_l00In.f (wrap64 (t171 + a2)) 0 (wrap64 (t176 - 1))).bind fun t177 => (if t177 = true then (if t176 = 0 then (none) else ((spec_l26Locator.f kj5 (Int.tmod (wrap64 ((Int.tmod (wrap64 (t170 + a1)) t176) + t176)) t176) (wrap64 (t171 + a2)) t172).bind fun t178 => (some (t178, 0)))) else (some ((⟨#[]⟩ : ByteArray), 8)))) = some (r1, r2) := H
          have A11 := Aside0.mk A110
          clear A110
          replace H := Option.bind_eq_some_iff.mp H
          obtain ⟨t177, A120, H⟩ := H
          replace H : (if t177 = true then (if t176 = 0 then (none) else ((spec_l26Locator.f kj5 (Int.tmod (wrap64 ((Int.tmod (wrap64 (t170 + a1)) t176) + t176)) t176) (wrap64 (t171 + a2)) t172).bind fun t178 => (some (t178, 0)))) else (some ((⟨#[]⟩ : ByteArray), 8))) = some (r1, r2) := H
          have A12 := Aside0.mk A120
          clear A120
          by_cases c13 : t177 = true
          · subst c13
            have H1 : (if t176 = 0 then (none) else ((spec_l26Locator.f kj5 (Int.tmod (wrap64 ((Int.tmod (wrap64 (t170 + a1)) t176) + t176)) t176) (wrap64 (t171 + a2)) t172).bind fun t178 => (some (t178, 0)))) = some (r1, r2) := by rw [if_pos rfl] at H; exact H
            clear H
            have H := H1
            clear H1
            by_cases c14 : t176 = 0
            · rw [if_pos c14] at H
              exact absurd H (by simp)
            · rw [if_neg c14] at H
              have c14b0 : (t176 == 0) = false := beq_eq_false_iff_ne.mpr c14
              have c14b1 : (t176 != 0) = true := bne_iff_ne.mpr c14
              replace H := Option.bind_eq_some_iff.mp H
              obtain ⟨t178, A150, H⟩ := H
              replace H : (some (t178, 0)) = some (r1, r2) := H
              have A15 := Aside0.mk A150
              clear A150
              simp only [Option.some.injEq, Prod.mk.injEq] at H
              obtain ⟨rfl, rfl⟩ := H
              go_wp2_with (first | ((with_reducible refine gate_callee (f := 49) rfl ?_); refine goesL_ (some 31) rfl rfl Try.func49 (by kernel_rfl) rfl #[.int .i64 t172] rfl (by (try simp only [List.map_toArray, List.map_cons, List.map_nil]); first | done | rfl | (simp only [List.length_drop, List.length_take]; rfl)) ?_; (with_reducible refine (spec_l26Parts.calls kj5 t172 t176 _ A11.out).mono ?_); rintro e w' ⟨rfl, ⟨nd, rfl⟩⟩; refine ⟨_, rfl, ?_⟩) | ((with_reducible refine gate_callee (f := 53) rfl ?_); refine goesL_ (some 37) rfl rfl Try.func53 (by kernel_rfl) rfl #[.int .i64 (wrap64 (t171 + a2)), .int .i64 0, .int .i64 (wrap64 (t176 - 1))] rfl (by (try simp only [List.map_toArray, List.map_cons, List.map_nil]); first | done | rfl | (simp only [List.length_drop, List.length_take]; rfl)) ?_; (with_reducible refine (spec_l00In.calls (wrap64 (t171 + a2)) 0 (wrap64 (t176 - 1)) true _ A12.out).mono ?_); rintro e w' ⟨rfl, ⟨nd, rfl⟩⟩; refine ⟨_, rfl, ?_⟩) | ((with_reducible refine gate_callee (f := 54) rfl ?_); refine goesL_ (some 52) rfl rfl Try.func54 (by kernel_rfl) rfl #[.int .i64 (Int.tmod (wrap64 ((Int.tmod (wrap64 (t170 + a1)) t176) + t176)) t176), .int .i64 (wrap64 (t171 + a2)), .int .i64 t172] rfl (by (try simp only [List.map_toArray, List.map_cons, List.map_nil]); first | done | rfl | (simp only [List.length_drop, List.length_take]; rfl)) ?_; (with_reducible refine (spec_l26Locator.calls kj5 (Int.tmod (wrap64 ((Int.tmod (wrap64 (t170 + a1)) t176) + t176)) t176) (wrap64 (t171 + a2)) t172 t178 _ A15.out).mono ?_); rintro e w16 ⟨rfl, hb⟩; refine ⟨_, rfl, ?_⟩; have n0_ := Aside0.mk (below_step (by repeat (first | (with_reducible first | exact HB.out | apply below_alloc | apply pw_below_drewN | apply below_drew1) | exact HB.out)) hb); clear HB; have HB := n0_; clear n0_; (try clear hb); (try clear hb2); (try clear hk); (try clear hi)))
              go_ret2
              exact ⟨by first | rfl | (simp [errW_none, errW_some] <;> rfl) | (simp [errW_none, errW_some]; decide +kernel) | (simp [*, errW_none, errW_some] <;> rfl), by repeat (first | (with_reducible first | exact HB.out | apply below_alloc | apply pw_below_drewN | apply below_drew1) | exact HB.out)⟩
          · replace c13 := Bool.eq_false_iff.mpr c13
            subst c13
            have H1 : (some ((⟨#[]⟩ : ByteArray), 8)) = some (r1, r2) := by rw [if_neg (show ¬ (false = true) by decide)] at H; exact H
            clear H
            have H := H1
            clear H1
            simp only [Option.some.injEq, Prod.mk.injEq] at H
            obtain ⟨rfl, rfl⟩ := H
            go_wp2_with (first | ((with_reducible refine gate_callee (f := 49) rfl ?_); refine goesL_ (some 31) rfl rfl Try.func49 (by kernel_rfl) rfl #[.int .i64 t172] rfl (by (try simp only [List.map_toArray, List.map_cons, List.map_nil]); first | done | rfl | (simp only [List.length_drop, List.length_take]; rfl)) ?_; (with_reducible refine (spec_l26Parts.calls kj5 t172 t176 _ A11.out).mono ?_); rintro e w' ⟨rfl, ⟨nd, rfl⟩⟩; refine ⟨_, rfl, ?_⟩) | ((with_reducible refine gate_callee (f := 53) rfl ?_); refine goesL_ (some 37) rfl rfl Try.func53 (by kernel_rfl) rfl #[.int .i64 (wrap64 (t171 + a2)), .int .i64 0, .int .i64 (wrap64 (t176 - 1))] rfl (by (try simp only [List.map_toArray, List.map_cons, List.map_nil]); first | done | rfl | (simp only [List.length_drop, List.length_take]; rfl)) ?_; (with_reducible refine (spec_l00In.calls (wrap64 (t171 + a2)) 0 (wrap64 (t176 - 1)) false _ A12.out).mono ?_); rintro e w' ⟨rfl, ⟨nd, rfl⟩⟩; refine ⟨_, rfl, ?_⟩))
            go_ret2
            exact ⟨by first | rfl | (simp [errW_none, errW_some] <;> rfl) | (simp [errW_none, errW_some]; decide +kernel) | (simp [*, errW_none, errW_some] <;> rfl), by repeat (first | (with_reducible first | exact HB.out | apply below_alloc | apply pw_below_drewN | apply below_drew1) | exact HB.out)⟩
  · replace c5 := Bool.eq_false_iff.mpr c5
    subst c5
    have H1 : (some ((⟨#[]⟩ : ByteArray), 7)) = some (r1, r2) := by rw [if_neg (show ¬ (false = true) by decide)] at H; exact H
    clear H
    have H := H1
    clear H1
    simp only [Option.some.injEq, Prod.mk.injEq] at H
    obtain ⟨rfl, rfl⟩ := H
    go_enter Try.func16, Try.ntmps16
    go_wp2_with (first | ((with_reducible refine gate_callee (f := 47) rfl ?_); refine goesL_ (some 15) rfl rfl Try.func47 (by kernel_rfl) rfl #[.string a0] rfl (by (try simp only [List.map_toArray, List.map_cons, List.map_nil]); first | done | rfl | (simp only [List.length_drop, List.length_take]; rfl)) ?_; (with_reducible refine (spec_l26Read.calls k a0 t170 t171 t172 false _ A4.out).mono ?_); rintro e w' ⟨rfl, ⟨nd, rfl⟩⟩; refine ⟨_, rfl, ?_⟩))
    go_ret2
    exact ⟨by first | rfl | (simp [errW_none, errW_some] <;> rfl) | (simp [errW_none, errW_some]; decide +kernel) | (simp [*, errW_none, errW_some] <;> rfl), by repeat (first | (with_reducible first | exact HB.out | apply below_alloc | apply pw_below_drewN | apply below_drew1) | exact HB.out)⟩

end Go.Proofs.Ytillihiadpgalaa.P
