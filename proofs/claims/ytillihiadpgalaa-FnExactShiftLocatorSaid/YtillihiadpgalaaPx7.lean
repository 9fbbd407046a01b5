-- Printed by drive.py, which calls the kit's print.py with changes of its own.
import Derived.Test.YtillihiadpgalaaPx0
import Derived.Test.YtillihiadpgalaaPx6
namespace Go.Proofs.Ytillihiadpgalaa.P
open Go.RowKit Go.Proofs.YtillihiadpgalaaW.PrintWords Go.Proofs.YtillihiadpgalaaW.PrintLast Go.Proofs.YtillihiadpgalaaW.PrintMore
attribute [local go_sem] max2_int min2_int max_two min_two max_three min_three max_four min_four   -- for this text's walks alone
set_option linter.unusedVariables false
set_option linter.unusedSimpArgs false

/-! ### spec_l26Read: function 47 -/
mutual
def spec_l26Read.j0 : Nat → ByteArray → Int → Bool → Option (Int × Int × Int × Bool)
  | 0, _, _, _ => none
  | k + 1, x0, x6, x25 => if x25 = true then (some (0, 0, 0, false)) else (spec_l26Read.l0 k x0 x6 0 0 0)
def spec_l26Read.l0 : Nat → ByteArray → Int → Int → Int → Int → Option (Int × Int × Int × Bool)
  | 0, _, _, _, _, _ => none
  | k + 1, x0, x6, x7, x8, x9 => if x9 < x6 then ((spec_l26Factor.f x9).bind fun bt102 => (if 0 ≤ (wrap64 (2 * x9)) then (if (wrap64 (2 * x9)) < (x0.size : Int) then (if 0 ≤ (wrap64 ((wrap64 (2 * x9)) + 1)) then (if (wrap64 ((wrap64 (2 * x9)) + 1)) < (x0.size : Int) then ((spec_l00In.f (wrap64 ((wrap64 (bt x0 (wrap64 (2 * x9)))) - (wrap64 (bt102.2)))) 0 (wrap64 (bt102.1 - 1))).bind fun t104 => (if t104 = true then ((spec_l00In.f (wrap64 ((wrap64 (bt x0 (wrap64 ((wrap64 (2 * x9)) + 1)))) - (wrap64 (bt102.2)))) 0 (wrap64 (bt102.1 - 1))).bind fun t105 => (if t105 = true then (spec_l26Read.l0 k x0 x6 (wrap64 ((wrap64 (x7 * bt102.1)) + (wrap64 ((wrap64 (bt x0 (wrap64 (2 * x9)))) - (wrap64 (bt102.2)))))) (wrap64 ((wrap64 (x8 * bt102.1)) + (wrap64 ((wrap64 (bt x0 (wrap64 ((wrap64 (2 * x9)) + 1)))) - (wrap64 (bt102.2)))))) (wrap64 (x9 + 1))) else (some (0, 0, 0, false)))) else (some (0, 0, 0, false)))) else (none)) else (none)) else (none)) else (none))) else (some (x7, x8, x6, true))
end
def spec_l26Read.f (k : Nat) (a0 : ByteArray) : Option (Int × Int × Int × Bool) := if ((a0.size : Int) % 2) = 0 then ((spec_l00In.f (wrap64 ((a0.size : Int) / 2)) 1 5).bind fun t101 => (spec_l26Read.j0 k a0 (wrap64 ((a0.size : Int) / 2)) (!t101))) else (spec_l26Read.j0 k a0 (wrap64 ((a0.size : Int) / 2)) true)
theorem spec_l26Read.mono_l : ∀ k, (∀ y0 y1 y2, LeO (spec_l26Read.j0 k y0 y1 y2) (spec_l26Read.j0 (k + 1) y0 y1 y2)) ∧ (∀ y0 y1 y2 y3 y4, LeO (spec_l26Read.l0 k y0 y1 y2 y3 y4) (spec_l26Read.l0 (k + 1) y0 y1 y2 y3 y4))
  | 0 => ⟨fun _ _ _ r h => by simp [spec_l26Read.j0] at h, fun _ _ _ _ _ r h => by simp [spec_l26Read.l0] at h⟩
  | k + 1 => by
    obtain ⟨ih0, ih1⟩ := spec_l26Read.mono_l k
    refine ⟨?_, ?_⟩
    · intro y0 y1 y2
      unfold spec_l26Read.j0
      repeat' first
      | (with_reducible exact ih0 _ _ _)
      | (with_reducible exact ih1 _ _ _ _ _)
      | (with_reducible exact LeO.refl _)
      | (with_reducible exact LeO.none _)
      | (with_reducible refine LeO.ite ?_ ?_)
      | (with_reducible refine LeO.bind ?_ (fun _ => ?_))
      | exact ih0 _ _ _
      | exact ih1 _ _ _ _ _
      | exact LeO.none _
      | refine LeO.ite ?_ ?_
      | refine LeO.bind ?_ (fun _ => ?_)
    · intro y0 y1 y2 y3 y4
      unfold spec_l26Read.l0
      repeat' first
      | (with_reducible exact ih0 _ _ _)
      | (with_reducible exact ih1 _ _ _ _ _)
      | (with_reducible exact LeO.refl _)
      | (with_reducible exact LeO.none _)
      | (with_reducible refine LeO.ite ?_ ?_)
      | (with_reducible refine LeO.bind ?_ (fun _ => ?_))
      | exact ih0 _ _ _
      | exact ih1 _ _ _ _ _
      | exact LeO.none _
      | refine LeO.ite ?_ ?_
      | refine LeO.bind ?_ (fun _ => ?_)
theorem spec_l26Read.mono : ∀ a0 k, LeO (spec_l26Read.f k a0) (spec_l26Read.f (k + 1) a0) := by
  intro a0 k
  obtain ⟨ih0, ih1⟩ := spec_l26Read.mono_l k
  unfold spec_l26Read.f
  repeat' first
      | (with_reducible exact ih0 _ _ _)
      | (with_reducible exact ih1 _ _ _ _ _)
      | (with_reducible exact LeO.refl _)
      | (with_reducible exact LeO.none _)
      | (with_reducible refine LeO.ite ?_ ?_)
      | (with_reducible refine LeO.bind ?_ (fun _ => ?_))
      | exact ih0 _ _ _
      | exact ih1 _ _ _ _ _
      | exact LeO.none _
      | refine LeO.ite ?_ ?_
      | refine LeO.bind ?_ (fun _ => ?_)
set_option maxHeartbeats 8000000 in
set_option maxRecDepth 100000 in
theorem spec_l26Read.calls (k : Nat) (a0 : ByteArray) (r1 : Int) (r2 : Int) (r3 : Int) (r4 : Bool) (w : World) (h : spec_l26Read.f k a0 = some (r1, r2, r3, r4)) :
    Calls Try.prog 47 #[.string a0] w fun e w' => e = .returned (.tuple #[.int .i64 r1, .int .i64 r2, .int .i64 r3, .bool r4]) ∧ Drawn0 w w' := by
  have H : (if ((a0.size : Int) % 2) = 0 then ((spec_l00In.f (wrap64 ((a0.size : Int) / 2)) 1 5).bind fun t101 => (spec_l26Read.j0 k a0 (wrap64 ((a0.size : Int) / 2)) (!t101))) else (spec_l26Read.j0 k a0 (wrap64 ((a0.size : Int) / 2)) true)) = some (r1, r2, r3, r4) := h
  clear h
  have HC2 := Aside0.mk H
  clear H
  go_enter Try.func47, Try.ntmps47
  go_upto_region 2 with (fail)
  go_cut [25] (fun v25 wc => ∃ (kq : Nat) (x25_1 : Bool), v25 = .bool x25_1 ∧ Aside0 (spec_l26Read.j0 kq a0 (wrap64 ((a0.size : Int) / 2)) x25_1 = some (r1, r2, r3, r4)) ∧ Aside0 (kq ≤ k) ∧ Drawn0 w wc)
  case first =>
    have H := HC2.out
    clear HC2
    by_cases c3 : ((a0.size : Int) % 2) = 0
    · rw [if_pos c3] at H
      have c3b0 : (((a0.size : Int) % 2) == 0) = true := beq_iff_eq.mpr c3
      have c3b1 : (((a0.size : Int) % 2) != 0) = false := bne_eq_false_iff_eq.mpr c3
      clear c3
      (first | rw [c3b0] | (simp only [i64_w, i32_w]; rw [c3b0]) | skip)
      replace H := Option.bind_eq_some_iff.mp H
      obtain ⟨t101, A40, H⟩ := H
      replace H : (spec_l26Read.j0 k a0 (wrap64 ((a0.size : Int) / 2)) (!t101)) = some (r1, r2, r3, r4) := H
      have A4 := Aside0.mk A40
      clear A40
      have H' := Aside0.mk H
      clear H
      go_wp2_with (first | (go_at_call 53; (with_reducible refine (spec_l00In.calls (wrap64 ((a0.size : Int) / 2)) 1 5 t101 _ A4.out).mono ?_); rintro e w' ⟨rfl, ⟨nd, rfl⟩⟩))
      go_meet
      case rel => exact ⟨_, (!t101), (by first | rfl | (simp; done) | (simp; decide +kernel) | (simp [*]; done)), H', ⟨by first | omega | exact Nat.le_refl _⟩, by repeat (first | exact Drawn0.refl _ | apply Drawn0.step)⟩
    · rw [if_neg c3] at H
      have c3b0 : (((a0.size : Int) % 2) == 0) = false := beq_eq_false_iff_ne.mpr c3
      have c3b1 : (((a0.size : Int) % 2) != 0) = true := bne_iff_ne.mpr c3
      (first | rw [c3b0] | (simp only [i64_w, i32_w]; rw [c3b0]) | skip)
      have H' := Aside0.mk H
      clear H
      go_wp2
      go_meet
      case rel => exact ⟨_, (true), (by first | rfl | (simp; done) | (simp; decide +kernel) | (simp [*]; done)), H', ⟨by first | omega | exact Nat.le_refl _⟩, by repeat (first | exact Drawn0.refl _ | apply Drawn0.step)⟩
  case rest =>
    clear HC2
    try clear p2
    try clear c3
    try clear c3b0
    try clear c3b1
    try clear c4
    obtain ⟨kq, x25_1, rfl, HA, HJ1, ⟨mc1, rfl⟩⟩ := hcut
    cases kq with
    | zero => exact absurd HA.out (by simp [spec_l26Read.j0])
    | succ kj1 =>
      have H := HA.out
      clear HA
      simp only [spec_l26Read.j0] at H
      by_cases c5 : x25_1 = true
      · subst c5
        have H1 : (some (0, 0, 0, false)) = some (r1, r2, r3, r4) := by rw [if_pos rfl] at H; exact H
        clear H
        have H := H1
        clear H1
        simp only [Option.some.injEq, Prod.mk.injEq] at H
        obtain ⟨rfl, rfl, rfl, rfl⟩ := H
        go_wp2
        refine bodyPost_ret (results_list (rs := [.tmp 2, .tmp 3, .tmp 4, .tmp 5]) rfl (by simp) (.tmp (.tmp (.tmp (.tmp .nil))))) rfl ?_
        exact ⟨by first | rfl | (simp; done) | (simp; decide +kernel) | (simp [*]; done), by repeat (first | exact Drawn0.refl _ | apply Drawn0.step)⟩
      · replace c5 := Bool.eq_false_iff.mpr c5
        subst c5
        have H1 : (spec_l26Read.l0 kj1 a0 (wrap64 ((a0.size : Int) / 2)) 0 0 0) = some (r1, r2, r3, r4) := by rw [if_neg (show ¬ (false = true) by decide)] at H; exact H
        clear H
        have H := H1
        clear H1
        have H' := Aside0.mk H
        clear H
        go_wp2
        go_loopg [7, 8, 9] kj1 (fun kq v7 v8 v9 w' => ∃ (x7_2 : Int) (x8_2 : Int) (x9_2 : Int), v7 = .int .i64 x7_2 ∧ v8 = .int .i64 x8_2 ∧ v9 = .int .i64 x9_2 ∧ Aside0 (spec_l26Read.l0 kq a0 (wrap64 ((a0.size : Int) / 2)) x7_2 x8_2 x9_2 = some (r1, r2, r3, r4)) ∧ Aside0 (kq ≤ kj1) ∧ Drawn0 w w')
        case atStart => exact ⟨(0), (0), (0), (by first | rfl | (simp; done) | (simp; decide +kernel) | (simp [*]; done)), (by first | rfl | (simp; done) | (simp; decide +kernel) | (simp [*]; done)), (by first | rfl | (simp; done) | (simp; decide +kernel) | (simp [*]; done)), H', ⟨Nat.le_refl _⟩, by repeat (first | exact Drawn0.refl _ | apply Drawn0.step)⟩
        case round =>
          clear H'
          try clear c1
          try clear p2
          try clear c3
          try clear c3b0
          try clear c3b1
          try clear c4
          try clear c5
          try clear p2
          obtain ⟨x7_2, x8_2, x9_2, rfl, rfl, rfl, HA, HK2, ⟨m2, rfl⟩⟩ := hrel
          cases gk with
          | zero => exact absurd HA.out (by simp [spec_l26Read.l0])
          | succ k2 =>
            have H := HA.out
            clear HA
            simp only [spec_l26Read.l0] at H
            by_cases c6 : x9_2 < (wrap64 ((a0.size : Int) / 2))
            · rw [if_pos c6] at H
              have c6b0 : decide (x9_2 < (wrap64 ((a0.size : Int) / 2))) = true := decide_eq_true c6
              clear c6
              replace H := Option.bind_eq_some_iff.mp H
              obtain ⟨⟨t102, t103⟩, A70, H⟩ := H
              replace H : (if 0 ≤ (wrap64 (2 * x9_2)) then (if (wrap64 (2 * x9_2)) < (a0.size : Int) then (if 0 ≤ (wrap64 ((wrap64 (2 * x9_2)) + 1)) then (if (wrap64 ((wrap64 (2 * x9_2)) + 1)) < (a0.size : Int) then ((spec_l00In.f (wrap64 ((wrap64 (bt a0 (wrap64 (2 * x9_2)))) - (wrap64 (t103)))) 0 (wrap64 (t102 - 1))).bind fun t104 => (if t104 = true then ((spec_l00In.f (wrap64 ((wrap64 (bt a0 (wrap64 ((wrap64 (2 * x9_2)) + 1)))) - (wrap64 (t103)))) 0 (wrap64 (t102 - 1))).bind fun t105 => (if t105 = true then (spec_l26Read.l0 k2 a0 (wrap64 ((a0.size : Int) / 2)) (wrap64 ((wrap64 (x7_2 * t102)) + (wrap64 ((wrap64 (bt a0 (wrap64 (2 * x9_2)))) - (wrap64 (t103)))))) (wrap64 ((wrap64 (x8_2 * t102)) + (wrap64 ((wrap64 (bt a0 (wrap64 ((wrap64 (2 * x9_2)) + 1)))) - (wrap64 (t103)))))) (wrap64 (x9_2 + 1))) else (some (0, 0, 0, false)))) else (some (0, 0, 0, false)))) else (none)) else (none)) else (none)) else (none)) = some (r1, r2, r3, r4) := H
              have A7 := Aside0.mk A70
              clear A70
              obtain ⟨ji8, hji8⟩ : ∃ j_ : Int, (wrap64 (2 * x9_2)) = j_ := ⟨_, rfl⟩
              replace H : (if 0 ≤ (ji8) then (if (ji8) < (a0.size : Int) then (if 0 ≤ (wrap64 ((ji8) + 1)) then (if (wrap64 ((ji8) + 1)) < (a0.size : Int) then ((spec_l00In.f (wrap64 ((wrap64 (bt a0 (ji8))) - (wrap64 (t103)))) 0 (wrap64 (t102 - 1))).bind fun t104 => (if t104 = true then ((spec_l00In.f (wrap64 ((wrap64 (bt a0 (wrap64 ((ji8) + 1)))) - (wrap64 (t103)))) 0 (wrap64 (t102 - 1))).bind fun t105 => (if t105 = true then (spec_l26Read.l0 k2 a0 (wrap64 ((a0.size : Int) / 2)) (wrap64 ((wrap64 (x7_2 * t102)) + (wrap64 ((wrap64 (bt a0 (ji8))) - (wrap64 (t103)))))) (wrap64 ((wrap64 (x8_2 * t102)) + (wrap64 ((wrap64 (bt a0 (wrap64 ((ji8) + 1)))) - (wrap64 (t103)))))) (wrap64 (x9_2 + 1))) else (some (0, 0, 0, false)))) else (some (0, 0, 0, false)))) else (none)) else (none)) else (none)) else (none)) = some (r1, r2, r3, r4) := by first | (rw [hji8] at H; exact H) | (simp only [hji8] at H ⊢; exact H)
              (try rw [hji8] at A7)
              have hji8w : (IntKind.i64.wrap (2 * x9_2)) = ji8 := (i64_w _).trans hji8
              by_cases c9 : 0 ≤ (ji8)
              · rw [if_pos c9] at H
                have c9b0 : decide (0 ≤ (ji8)) = true := decide_eq_true c9
                clear c9
                by_cases c10 : (ji8) < (a0.size : Int)
                · rw [if_pos c10] at H
                  have c10b0 : decide ((ji8) < (a0.size : Int)) = true := decide_eq_true c10
                  clear c10
                  obtain ⟨ji12, hji12⟩ : ∃ j_ : Int, (wrap64 ((ji8) + 1)) = j_ := ⟨_, rfl⟩
                  replace H : (if 0 ≤ (ji12) then (if (ji12) < (a0.size : Int) then ((spec_l00In.f (wrap64 ((wrap64 (bt a0 (ji8))) - (wrap64 (t103)))) 0 (wrap64 (t102 - 1))).bind fun t104 => (if t104 = true then ((spec_l00In.f (wrap64 ((wrap64 (bt a0 (ji12))) - (wrap64 (t103)))) 0 (wrap64 (t102 - 1))).bind fun t105 => (if t105 = true then (spec_l26Read.l0 k2 a0 (wrap64 ((a0.size : Int) / 2)) (wrap64 ((wrap64 (x7_2 * t102)) + (wrap64 ((wrap64 (bt a0 (ji8))) - (wrap64 (t103)))))) (wrap64 ((wrap64 (x8_2 * t102)) + (wrap64 ((wrap64 (bt a0 (ji12))) - (wrap64 (t103)))))) (wrap64 (x9_2 + 1))) else (some (0, 0, 0, false)))) else (some (0, 0, 0, false)))) else (none)) else (none)) = some (r1, r2, r3, r4) := by first | (rw [hji12] at H; exact H) | (simp only [hji12] at H ⊢; exact H)
                  (try rw [hji12] at A7)
                  have hji12w : (IntKind.i64.wrap ((ji8) + 1)) = ji12 := (i64_w _).trans hji12
                  by_cases c13 : 0 ≤ (ji12)
                  · rw [if_pos c13] at H
                    have c13b0 : decide (0 ≤ (ji12)) = true := decide_eq_true c13
                    clear c13
                    by_cases c14 : (ji12) < (a0.size : Int)
                    · rw [if_pos c14] at H
                      have c14b0 : decide ((ji12) < (a0.size : Int)) = true := decide_eq_true c14
                      clear c14
                      replace H := Option.bind_eq_some_iff.mp H
                      obtain ⟨t104, A160, H⟩ := H
                      replace H : (if t104 = true then ((spec_l00In.f (wrap64 ((wrap64 (bt a0 (ji12))) - (wrap64 (t103)))) 0 (wrap64 (t102 - 1))).bind fun t105 => (if t105 = true then (spec_l26Read.l0 k2 a0 (wrap64 ((a0.size : Int) / 2)) (wrap64 ((wrap64 (x7_2 * t102)) + (wrap64 ((wrap64 (bt a0 (ji8))) - (wrap64 (t103)))))) (wrap64 ((wrap64 (x8_2 * t102)) + (wrap64 ((wrap64 (bt a0 (ji12))) - (wrap64 (t103)))))) (wrap64 (x9_2 + 1))) else (some (0, 0, 0, false)))) else (some (0, 0, 0, false))) = some (r1, r2, r3, r4) := H
                      have A16 := Aside0.mk A160
                      clear A160
                      by_cases c17 : t104 = true
                      · subst c17
                        have H1 : ((spec_l00In.f (wrap64 ((wrap64 (bt a0 (ji12))) - (wrap64 (t103)))) 0 (wrap64 (t102 - 1))).bind fun t105 => (if t105 = true then (spec_l26Read.l0 k2 a0 (wrap64 ((a0.size : Int) / 2)) (wrap64 ((wrap64 (x7_2 * t102)) + (wrap64 ((wrap64 (bt a0 (ji8))) - (wrap64 (t103)))))) (wrap64 ((wrap64 (x8_2 * t102)) + (wrap64 ((wrap64 (bt a0 (ji12))) - (wrap64 (t103)))))) (wrap64 (x9_2 + 1))) else (some (0, 0, 0, false)))) = some (r1, r2, r3, r4) := by rw [if_pos rfl] at H; exact H
                        clear H
                        have H := H1
                        clear H1
                        replace H := Option.bind_eq_some_iff.mp H
                        obtain ⟨t105, A180, H⟩ := H
                        replace H : (if t105 = true then (spec_l26Read.l0 k2 a0 (wrap64 ((a0.size : Int) / 2)) (wrap64 ((wrap64 (x7_2 * t102)) + (wrap64 ((wrap64 (bt a0 (ji8))) - (wrap64 (t103)))))) (wrap64 ((wrap64 (x8_2 * t102)) + (wrap64 ((wrap64 (bt a0 (ji12))) - (wrap64 (t103)))))) (wrap64 (x9_2 + 1))) else (some (0, 0, 0, false))) = some (r1, r2, r3, r4) := H
                        have A18 := Aside0.mk A180
                        clear A180
                        by_cases c19 : t105 = true
                        · subst c19
                          have H1 : (spec_l26Read.l0 k2 a0 (wrap64 ((a0.size : Int) / 2)) (wrap64 ((wrap64 (x7_2 * t102)) + (wrap64 ((wrap64 (bt a0 (ji8))) - (wrap64 (t103)))))) (wrap64 ((wrap64 (x8_2 * t102)) + (wrap64 ((wrap64 (bt a0 (ji12))) - (wrap64 (t103)))))) (wrap64 (x9_2 + 1))) = some (r1, r2, r3, r4) := by rw [if_pos rfl] at H; exact H
                          clear H
                          have H := H1
                          clear H1
                          have H' := Aside0.mk H
                          clear H
                          go_wp2_with (first | ((with_reducible refine gate_callee (f := 84) rfl ?_); refine goesL_ (some 33) rfl rfl Try.func84 (by kernel_rfl) rfl #[.int .i64 x9_2] rfl (by (try simp only [List.map_toArray, List.map_cons, List.map_nil]); first | done | rfl | (simp only [List.length_drop, List.length_take]; rfl)) ?_; (with_reducible refine (spec_l26Factor.calls x9_2 t102 t103 _ A7.out).mono ?_); rintro e w' ⟨rfl, ⟨nd, rfl⟩⟩; refine ⟨_, rfl, ?_⟩; have p11 : 0 ≤ ((ji8) : Int) := of_decide_eq_true (by first | (with_reducible assumption) | assumption); have q11 : (ji8) < (a0.size : Int) := of_decide_eq_true (by first | (with_reducible assumption) | assumption); have hx11 := bt_at a0 (ji8); replace p11 := eq_true p11; replace q11 := eq_true q11; have p15 : 0 ≤ ((ji12) : Int) := of_decide_eq_true (by first | (with_reducible assumption) | assumption); have q15 : (ji12) < (a0.size : Int) := of_decide_eq_true (by first | (with_reducible assumption) | assumption); have hx15 := bt_at a0 (ji12); replace p15 := eq_true p15; replace q15 := eq_true q15) | ((with_reducible refine gate_callee (f := 53) rfl ?_); refine goesL_ (some 56) rfl rfl Try.func53 (by kernel_rfl) rfl #[.int .i64 (wrap64 ((wrap64 (bt a0 (ji8))) - (wrap64 (t103)))), .int .i64 0, .int .i64 (wrap64 (t102 - 1))] rfl (by (try simp only [List.map_toArray, List.map_cons, List.map_nil]); first | done | (simp only [hji8]; rfl) | rfl | (simp only [List.length_drop, List.length_take]; rfl)) ?_; (with_reducible refine (spec_l00In.calls (wrap64 ((wrap64 (bt a0 (ji8))) - (wrap64 (t103)))) 0 (wrap64 (t102 - 1)) true _ A16.out).mono ?_); rintro e w' ⟨rfl, ⟨nd, rfl⟩⟩; refine ⟨_, rfl, ?_⟩) | (go_at_call 53; (with_reducible refine (spec_l00In.calls (wrap64 ((wrap64 (bt a0 (ji12))) - (wrap64 (t103)))) 0 (wrap64 (t102 - 1)) true _ A18.out).mono ?_); rintro e w' ⟨rfl, ⟨nd, rfl⟩⟩))
                          go_roundg k2
                          case measure => have := HJ1.out; have := HK2.out; omega
                          case rel => exact ⟨(wrap64 ((wrap64 (x7_2 * t102)) + (wrap64 ((wrap64 (bt a0 (ji8))) - (wrap64 (t103)))))), (wrap64 ((wrap64 (x8_2 * t102)) + (wrap64 ((wrap64 (bt a0 (ji12))) - (wrap64 (t103)))))), (wrap64 (x9_2 + 1)), (by first | rfl | (simp; done) | (simp only [← hji8] <;> (first | rfl | simp)) | (simp [*]; done)), (by first | rfl | (simp; done) | (simp only [← hji12] <;> (first | rfl | simp)) | (simp [*]; done)), (by first | rfl | (simp; done) | (simp; decide +kernel) | (simp [*]; done)), H', ⟨by have := HJ1.out; have := HK2.out; omega⟩, by repeat (first | exact Drawn0.refl _ | apply Drawn0.step)⟩
                        · replace c19 := Bool.eq_false_iff.mpr c19
                          subst c19
                          have H1 : (some (0, 0, 0, false)) = some (r1, r2, r3, r4) := by rw [if_neg (show ¬ (false = true) by decide)] at H; exact H
                          clear H
                          have H := H1
                          clear H1
                          simp only [Option.some.injEq, Prod.mk.injEq] at H
                          obtain ⟨rfl, rfl, rfl, rfl⟩ := H
                          go_wp2_with (first | ((with_reducible refine gate_callee (f := 84) rfl ?_); refine goesL_ (some 33) rfl rfl Try.func84 (by kernel_rfl) rfl #[.int .i64 x9_2] rfl (by (try simp only [List.map_toArray, List.map_cons, List.map_nil]); first | done | rfl | (simp only [List.length_drop, List.length_take]; rfl)) ?_; (with_reducible refine (spec_l26Factor.calls x9_2 t102 t103 _ A7.out).mono ?_); rintro e w' ⟨rfl, ⟨nd, rfl⟩⟩; refine ⟨_, rfl, ?_⟩; have p11 : 0 ≤ ((ji8) : Int) := of_decide_eq_true (by first | (with_reducible assumption) | assumption); have q11 : (ji8) < (a0.size : Int) := of_decide_eq_true (by first | (with_reducible assumption) | assumption); have hx11 := bt_at a0 (ji8); replace p11 := eq_true p11; replace q11 := eq_true q11; have p15 : 0 ≤ ((ji12) : Int) := of_decide_eq_true (by first | (with_reducible assumption) | assumption); have q15 : (ji12) < (a0.size : Int) := of_decide_eq_true (by first | (with_reducible assumption) | assumption); have hx15 := bt_at a0 (ji12); replace p15 := eq_true p15; replace q15 := eq_true q15) | ((with_reducible refine gate_callee (f := 53) rfl ?_); refine goesL_ (some 56) rfl rfl Try.func53 (by kernel_rfl) rfl #[.int .i64 (wrap64 ((wrap64 (bt a0 (ji8))) - (wrap64 (t103)))), .int .i64 0, .int .i64 (wrap64 (t102 - 1))] rfl (by (try simp only [List.map_toArray, List.map_cons, List.map_nil]); first | done | (simp only [hji8]; rfl) | rfl | (simp only [List.length_drop, List.length_take]; rfl)) ?_; (with_reducible refine (spec_l00In.calls (wrap64 ((wrap64 (bt a0 (ji8))) - (wrap64 (t103)))) 0 (wrap64 (t102 - 1)) true _ A16.out).mono ?_); rintro e w' ⟨rfl, ⟨nd, rfl⟩⟩; refine ⟨_, rfl, ?_⟩) | (go_at_call 53; (with_reducible refine (spec_l00In.calls (wrap64 ((wrap64 (bt a0 (ji12))) - (wrap64 (t103)))) 0 (wrap64 (t102 - 1)) false _ A18.out).mono ?_); rintro e w' ⟨rfl, ⟨nd, rfl⟩⟩))
                          refine bodyPost_ret (results_list (rs := [.tmp 2, .tmp 3, .tmp 4, .tmp 5]) rfl (by simp) (.tmp (.tmp (.tmp (.tmp .nil))))) rfl ?_
                          exact ⟨by first | rfl | (simp; done) | (simp only [← hji8, ← hji12] <;> (first | rfl | simp)) | (simp [*]; done), by repeat (first | exact Drawn0.refl _ | apply Drawn0.step)⟩
                      · replace c17 := Bool.eq_false_iff.mpr c17
                        subst c17
                        have H1 : (some (0, 0, 0, false)) = some (r1, r2, r3, r4) := by rw [if_neg (show ¬ (false = true) by decide)] at H; exact H
                        clear H
                        have H := H1
                        clear H1
                        simp only [Option.some.injEq, Prod.mk.injEq] at H
                        obtain ⟨rfl, rfl, rfl, rfl⟩ := H
                        go_wp2_with (first | ((with_reducible refine gate_callee (f := 84) rfl ?_); refine goesL_ (some 33) rfl rfl Try.func84 (by kernel_rfl) rfl #[.int .i64 x9_2] rfl (by (try simp only [List.map_toArray, List.map_cons, List.map_nil]); first | done | rfl | (simp only [List.length_drop, List.length_take]; rfl)) ?_; (with_reducible refine (spec_l26Factor.calls x9_2 t102 t103 _ A7.out).mono ?_); rintro e w' ⟨rfl, ⟨nd, rfl⟩⟩; refine ⟨_, rfl, ?_⟩; have p11 : 0 ≤ ((ji8) : Int) := of_decide_eq_true (by first | (with_reducible assumption) | assumption); have q11 : (ji8) < (a0.size : Int) := of_decide_eq_true (by first | (with_reducible assumption) | assumption); have hx11 := bt_at a0 (ji8); replace p11 := eq_true p11; replace q11 := eq_true q11; have p15 : 0 ≤ ((ji12) : Int) := of_decide_eq_true (by first | (with_reducible assumption) | assumption); have q15 : (ji12) < (a0.size : Int) := of_decide_eq_true (by first | (with_reducible assumption) | assumption); have hx15 := bt_at a0 (ji12); replace p15 := eq_true p15; replace q15 := eq_true q15) | ((with_reducible refine gate_callee (f := 53) rfl ?_); refine goesL_ (some 56) rfl rfl Try.func53 (by kernel_rfl) rfl #[.int .i64 (wrap64 ((wrap64 (bt a0 (ji8))) - (wrap64 (t103)))), .int .i64 0, .int .i64 (wrap64 (t102 - 1))] rfl (by (try simp only [List.map_toArray, List.map_cons, List.map_nil]); first | done | (simp only [hji8]; rfl) | rfl | (simp only [List.length_drop, List.length_take]; rfl)) ?_; (with_reducible refine (spec_l00In.calls (wrap64 ((wrap64 (bt a0 (ji8))) - (wrap64 (t103)))) 0 (wrap64 (t102 - 1)) false _ A16.out).mono ?_); rintro e w' ⟨rfl, ⟨nd, rfl⟩⟩; refine ⟨_, rfl, ?_⟩))
                        refine bodyPost_ret (results_list (rs := [.tmp 2, .tmp 3, .tmp 4, .tmp 5]) rfl (by simp) (.tmp (.tmp (.tmp (.tmp .nil))))) rfl ?_
                        exact ⟨by first | rfl | (simp; done) | (simp only [← hji8, ← hji12] <;> (first | rfl | simp)) | (simp [*]; done), by repeat (first | exact Drawn0.refl _ | apply Drawn0.step)⟩
                    · rw [if_neg c14] at H
                      exact absurd H (by simp)
                  · rw [if_neg c13] at H
                    exact absurd H (by simp)
                · rw [if_neg c10] at H
                  exact absurd H (by simp)
              · rw [if_neg c9] at H
                exact absurd H (by simp)
            · rw [if_neg c6] at H
              have c6b0 : decide (x9_2 < (wrap64 ((a0.size : Int) / 2))) = false := decide_eq_false c6
              clear c6
              simp only [Option.some.injEq, Prod.mk.injEq] at H
              obtain ⟨rfl, rfl, rfl, rfl⟩ := H
              go_wp2
              refine bodyPost_ret (results_list (rs := [.tmp 2, .tmp 3, .tmp 4, .tmp 5]) rfl (by simp) (.tmp (.tmp (.tmp (.tmp .nil))))) rfl ?_
              exact ⟨by first | rfl | (simp; done) | (simp; decide +kernel) | (simp [*]; done), by repeat (first | exact Drawn0.refl _ | apply Drawn0.step)⟩

end Go.Proofs.Ytillihiadpgalaa.P
