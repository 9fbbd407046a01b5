-- Printed by drive.py, which calls the kit's print.py with changes of its own.
import Derived.Test.YtdnehiakmaacgaaPx0
import Derived.Test.YtdnehiakmaacgaaPx24
namespace Go.Proofs.Ytdnehiakmaacgaa.P
open Go.RowKit Go.Proofs.YtdnehiakmaacgaaW.PrintWords Go.Proofs.YtdnehiakmaacgaaW.PrintLast Go.Proofs.YtdnehiakmaacgaaW.PrintMore
attribute [local go_sem] max2_int min2_int max_two min_two max_three min_three max_four min_four   -- for this text's walks alone
set_option linter.unusedVariables false
set_option linter.unusedSimpArgs false

/-! ### spec_CommonLocator: function 33 -/
mutual
def spec_CommonLocator.j0 : Nat → ByteArray → ByteArray → Bool → Option (ByteArray × Bool)
  | 0, _, _, _ => none
  | k + 1, x0, x1, x34 => if x34 = true then (some ((⟨#[]⟩ : ByteArray), false)) else (spec_CommonLocator.l0 k x0 x1 0)
def spec_CommonLocator.l0 : Nat → ByteArray → ByteArray → Int → Option (ByteArray × Bool)
  | 0, _, _, _ => none
  | k + 1, x0, x1, x14 => if (wrap64 (x14 + 2)) ≤ (x0.size : Int) then (if (wrap64 (x14 + 2)) ≤ (x1.size : Int) then (if 0 ≤ x14 then (if x14 ≤ (wrap64 (x14 + 2)) then (if (x0.extract (x14 : Int).toNat ((wrap64 (x14 + 2)) : Int).toNat).toList = (x1.extract (x14 : Int).toNat ((wrap64 (x14 + 2)) : Int).toNat).toList then (spec_CommonLocator.l0 k x0 x1 (wrap64 (x14 + 2))) else (if x14 ≤ (x0.size : Int) then (some (x0.extract 0 (x14 : Int).toNat, decide (x14 > 0))) else (none))) else (none)) else (none)) else (if 0 ≤ x14 then (if x14 ≤ (x0.size : Int) then (some (x0.extract 0 (x14 : Int).toNat, decide (x14 > 0))) else (none)) else (none))) else (if 0 ≤ x14 then (if x14 ≤ (x0.size : Int) then (some (x0.extract 0 (x14 : Int).toNat, decide (x14 > 0))) else (none)) else (none))
end
def spec_CommonLocator.f (k : Nat) (a0 : ByteArray) (a1 : ByteArray) : Option (ByteArray × Bool) := (spec_l26Read.f k a0).bind fun bt317 => ((spec_l26Read.f k a1).bind fun bt321 => (if bt317.2.2.2 = true then (spec_CommonLocator.j0 k a0 a1 (!bt321.2.2.2)) else (spec_CommonLocator.j0 k a0 a1 true)))
theorem spec_CommonLocator.mono_l : ∀ k, (∀ y0 y1 y2, LeO (spec_CommonLocator.j0 k y0 y1 y2) (spec_CommonLocator.j0 (k + 1) y0 y1 y2)) ∧ (∀ y0 y1 y2, LeO (spec_CommonLocator.l0 k y0 y1 y2) (spec_CommonLocator.l0 (k + 1) y0 y1 y2))
  | 0 => ⟨fun _ _ _ r h => by simp [spec_CommonLocator.j0] at h, fun _ _ _ r h => by simp [spec_CommonLocator.l0] at h⟩
  | k + 1 => by
    obtain ⟨ih0, ih1⟩ := spec_CommonLocator.mono_l k
    refine ⟨?_, ?_⟩
    · intro y0 y1 y2
      unfold spec_CommonLocator.j0
      repeat' first
      | (with_reducible exact ih0 _ _ _)
      | (with_reducible exact ih1 _ _ _)
      | (with_reducible exact spec_l26Read.mono _ _)
      | (with_reducible exact LeO.refl _)
      | (with_reducible exact LeO.none _)
      | (with_reducible refine LeO.ite ?_ ?_)
      | (with_reducible refine LeO.bind ?_ (fun _ => ?_))
      | exact ih0 _ _ _
      | exact ih1 _ _ _
      | exact spec_l26Read.mono _ _
      | exact LeO.none _
      | refine LeO.ite ?_ ?_
      | refine LeO.bind ?_ (fun _ => ?_)
    · intro y0 y1 y2
      unfold spec_CommonLocator.l0
      repeat' first
      | (with_reducible exact ih0 _ _ _)
      | (with_reducible exact ih1 _ _ _)
      | (with_reducible exact spec_l26Read.mono _ _)
      | (with_reducible exact LeO.refl _)
      | (with_reducible exact LeO.none _)
      | (with_reducible refine LeO.ite ?_ ?_)
      | (with_reducible refine LeO.bind ?_ (fun _ => ?_))
      | exact ih0 _ _ _
      | exact ih1 _ _ _
      | exact spec_l26Read.mono _ _
      | exact LeO.none _
      | refine LeO.ite ?_ ?_
      | refine LeO.bind ?_ (fun _ => ?_)
theorem spec_CommonLocator.mono : ∀ a0 a1 k, LeO (spec_CommonLocator.f k a0 a1) (spec_CommonLocator.f (k + 1) a0 a1) := by
  intro a0 a1 k
  obtain ⟨ih0, ih1⟩ := spec_CommonLocator.mono_l k
  unfold spec_CommonLocator.f
  repeat' first
      | (with_reducible exact ih0 _ _ _)
      | (with_reducible exact ih1 _ _ _)
      | (with_reducible exact spec_l26Read.mono _ _)
      | (with_reducible exact LeO.refl _)
      | (with_reducible exact LeO.none _)
      | (with_reducible refine LeO.ite ?_ ?_)
      | (with_reducible refine LeO.bind ?_ (fun _ => ?_))
      | exact ih0 _ _ _
      | exact ih1 _ _ _
      | exact spec_l26Read.mono _ _
      | exact LeO.none _
      | refine LeO.ite ?_ ?_
      | refine LeO.bind ?_ (fun _ => ?_)
set_option maxHeartbeats 8000000 in
set_option maxRecDepth 100000 in
theorem spec_CommonLocator.calls (k : Nat) (a0 : ByteArray) (a1 : ByteArray) (r1 : ByteArray) (r2 : Bool) (w : World) (h : spec_CommonLocator.f k a0 a1 = some (r1, r2)) :
    Calls Try.prog 33 #[.string a0, .string a1] w fun e w' => e = .returned (.tuple #[.string r1, .bool r2]) ∧ Drawn0 w w' := by
  have H : ((spec_l26Read.f k a0).bind fun bt317 => ((spec_l26Read.f k a1).bind fun bt321 => (if bt317.2.2.2 = true then (spec_CommonLocator.j0 k a0 a1 (!bt321.2.2.2)) else (spec_CommonLocator.j0 k a0 a1 true)))) = some (r1, r2) := h
  clear h
  replace H := Option.bind_eq_some_iff.mp H
  obtain ⟨⟨t317, t318, t319, t320⟩, A30, H⟩ := H
  replace H : ((spec_l26Read.f k a1).bind fun bt321 => (if t320 = true then (spec_CommonLocator.j0 k a0 a1 (!bt321.2.2.2)) else (spec_CommonLocator.j0 k a0 a1 true))) = some (r1, r2) := H
  have A3 := Aside0.mk A30
  clear A30
  replace H := Option.bind_eq_some_iff.mp H
  obtain ⟨⟨t321, t322, t323, t324⟩, A40, H⟩ := H
  replace H : (if t320 = true then (spec_CommonLocator.j0 k a0 a1 (!t324)) else (spec_CommonLocator.j0 k a0 a1 true)) = some (r1, r2) := H
  have A4 := Aside0.mk A40
  clear A40
  have HC5 := Aside0.mk H
  clear H
  go_enter Try.func33, Try.ntmps33
  go_upto_region 3 with (first | (go_at_call 64; (with_reducible refine (spec_l26Read.calls k a0 t317 t318 t319 t320 _ A3.out).mono ?_); rintro e w' ⟨rfl, ⟨nd, rfl⟩⟩; (try first | exact ⟨rfl, _, World.drewN_drewN _ _ _⟩ | exact ⟨rfl, _, Eq.trans (World.drewN_drewN _ _ _) (congrArg (World.drewN _) (Nat.add_assoc _ _ _))⟩)) | (go_at_call 64; (with_reducible refine (spec_l26Read.calls k a1 t321 t322 t323 t324 _ A4.out).mono ?_); rintro e w' ⟨rfl, ⟨nd, rfl⟩⟩; (try first | exact ⟨rfl, _, World.drewN_drewN _ _ _⟩ | exact ⟨rfl, _, Eq.trans (World.drewN_drewN _ _ _) (congrArg (World.drewN _) (Nat.add_assoc _ _ _))⟩)))
  repeat (go_quiet (first | (go_at_call 64; (with_reducible refine (spec_l26Read.calls k a0 t317 t318 t319 t320 _ A3.out).mono ?_); rintro e w' ⟨rfl, ⟨nd, rfl⟩⟩; (try first | exact ⟨rfl, _, World.drewN_drewN _ _ _⟩ | exact ⟨rfl, _, Eq.trans (World.drewN_drewN _ _ _) (congrArg (World.drewN _) (Nat.add_assoc _ _ _))⟩)) | (go_at_call 64; (with_reducible refine (spec_l26Read.calls k a1 t321 t322 t323 t324 _ A4.out).mono ?_); rintro e w' ⟨rfl, ⟨nd, rfl⟩⟩; (try first | exact ⟨rfl, _, World.drewN_drewN _ _ _⟩ | exact ⟨rfl, _, Eq.trans (World.drewN_drewN _ _ _) (congrArg (World.drewN _) (Nat.add_assoc _ _ _))⟩))); go_upto_region 3 with (first | (go_at_call 64; (with_reducible refine (spec_l26Read.calls k a0 t317 t318 t319 t320 _ A3.out).mono ?_); rintro e w' ⟨rfl, ⟨nd, rfl⟩⟩; (try first | exact ⟨rfl, _, World.drewN_drewN _ _ _⟩ | exact ⟨rfl, _, Eq.trans (World.drewN_drewN _ _ _) (congrArg (World.drewN _) (Nat.add_assoc _ _ _))⟩)) | (go_at_call 64; (with_reducible refine (spec_l26Read.calls k a1 t321 t322 t323 t324 _ A4.out).mono ?_); rintro e w' ⟨rfl, ⟨nd, rfl⟩⟩; (try first | exact ⟨rfl, _, World.drewN_drewN _ _ _⟩ | exact ⟨rfl, _, Eq.trans (World.drewN_drewN _ _ _) (congrArg (World.drewN _) (Nat.add_assoc _ _ _))⟩))))
  (try simp only [Act.put, List.setIfInBounds_toArray, List.set_cons_zero, List.set_cons_succ])
  go_cut [34] (fun v34 wc => ∃ (kq : Nat) (x34_4 : Bool), v34 = .bool x34_4 ∧ Aside0 (spec_CommonLocator.j0 kq a0 a1 x34_4 = some (r1, r2)) ∧ Aside0 (kq ≤ k) ∧ Drawn0 w wc)
  case first =>
    have H := HC5.out
    clear HC5
    by_cases c6 : t320 = true
    · subst c6
      have H1 : (spec_CommonLocator.j0 k a0 a1 (!t324)) = some (r1, r2) := by rw [if_pos rfl] at H; exact H
      clear H
      have H := H1
      clear H1
      have H' := Aside0.mk H
      clear H
      go_wp2
      repeat (go_quiet (fail); try go_wp2)
      go_meet
      case rel => exact ⟨_, (!t324), (by first | rfl | (simp; done) | (simp; decide +kernel) | (simp [*]; done)), H', ⟨by first | omega | exact Nat.le_refl _⟩, by repeat (first | exact Drawn0.refl _ | apply Drawn0.step)⟩
    · replace c6 := Bool.eq_false_iff.mpr c6
      subst c6
      have H1 : (spec_CommonLocator.j0 k a0 a1 true) = some (r1, r2) := by rw [if_neg (show ¬ (false = true) by decide)] at H; exact H
      clear H
      have H := H1
      clear H1
      have H' := Aside0.mk H
      clear H
      go_wp2
      repeat (go_quiet (fail); try go_wp2)
      go_meet
      case rel => exact ⟨_, (true), (by first | rfl | (simp; done) | (simp; decide +kernel) | (simp [*]; done)), H', ⟨by first | omega | exact Nat.le_refl _⟩, by repeat (first | exact Drawn0.refl _ | apply Drawn0.step)⟩
  case rest =>
    clear HC5
    try clear p2
    try clear c3
    try clear c6
    obtain ⟨kq, x34_4, rfl, HA, HJ4, ⟨mc4, rfl⟩⟩ := hcut
    cases kq with
    | zero => exact absurd HA.out (by simp [spec_CommonLocator.j0])
    | succ kj4 =>
      have H := HA.out
      clear HA
      simp only [spec_CommonLocator.j0] at H
      by_cases c7 : x34_4 = true
      · subst c7
        have H1 : (some ((⟨#[]⟩ : ByteArray), false)) = some (r1, r2) := by rw [if_pos rfl] at H; exact H
        clear H
        have H := H1
        clear H1
        simp only [Option.some.injEq, Prod.mk.injEq] at H
        obtain ⟨rfl, rfl⟩ := H
        go_wp2
        repeat (go_quiet (fail); try go_wp2)
        go_ret2
        exact ⟨by first | rfl | (simp; done) | (simp; decide +kernel) | (simp [*]; done), by repeat (first | exact Drawn0.refl _ | apply Drawn0.step)⟩
      · replace c7 := Bool.eq_false_iff.mpr c7
        subst c7
        have H1 : (spec_CommonLocator.l0 kj4 a0 a1 0) = some (r1, r2) := by rw [if_neg (show ¬ (false = true) by decide)] at H; exact H
        clear H
        have H := H1
        clear H1
        have H' := Aside0.mk H
        clear H
        go_wp2
        repeat (go_quiet (fail); try go_wp2)
        go_loopg [14] kj4 (fun kq v14 w' => ∃ (x14_2 : Int), v14 = .int .i64 x14_2 ∧ Aside0 (spec_CommonLocator.l0 kq a0 a1 x14_2 = some (r1, r2)) ∧ Aside0 (kq ≤ kj4) ∧ Drawn0 w w')
        case atStart => exact ⟨(0), (by first | rfl | (simp; done) | (simp; decide +kernel) | (simp [*]; done)), H', ⟨Nat.le_refl _⟩, by repeat (first | exact Drawn0.refl _ | apply Drawn0.step)⟩
        case round =>
          clear H'
          try clear p2
          try clear c3
          try clear c4
          try clear c6
          try clear c7
          try clear p2
          obtain ⟨x14_2, rfl, HA, HK2, ⟨m2, rfl⟩⟩ := hrel
          cases gk with
          | zero => exact absurd HA.out (by simp [spec_CommonLocator.l0])
          | succ k2 =>
            have H := HA.out
            clear HA
            simp only [spec_CommonLocator.l0] at H
            by_cases c8 : (wrap64 (x14_2 + 2)) ≤ (a0.size : Int)
            · rw [if_pos c8] at H
              have c8b0 : decide ((wrap64 (x14_2 + 2)) ≤ (a0.size : Int)) = true := decide_eq_true c8
              clear c8
              by_cases c9 : (wrap64 (x14_2 + 2)) ≤ (a1.size : Int)
              · rw [if_pos c9] at H
                have c9b0 : decide ((wrap64 (x14_2 + 2)) ≤ (a1.size : Int)) = true := decide_eq_true c9
                clear c9
                by_cases c10 : 0 ≤ x14_2
                · rw [if_pos c10] at H
                  have c10b0 := eq_true c10
                  have c10b1 : decide (0 ≤ x14_2) = true := decide_eq_true c10
                  clear c10
                  by_cases c11 : x14_2 ≤ (wrap64 (x14_2 + 2))
                  · rw [if_pos c11] at H
                    have c11b0 := eq_true c11
                    have c11b1 : decide (x14_2 ≤ (wrap64 (x14_2 + 2))) = true := decide_eq_true c11
                    have c12b0 := eq_true (of_decide_eq_true (by first | (with_reducible assumption) | assumption) : (wrap64 (x14_2 + 2)) ≤ (a0.size : Int))
                    have c13b0 := eq_true (of_decide_eq_true (by first | (with_reducible assumption) | assumption) : 0 ≤ x14_2)
                    have c14b0 := eq_true (of_decide_eq_true (by first | (with_reducible assumption) | assumption) : x14_2 ≤ (wrap64 (x14_2 + 2)))
                    have c15b0 := eq_true (of_decide_eq_true (by first | (with_reducible assumption) | assumption) : (wrap64 (x14_2 + 2)) ≤ (a1.size : Int))
                    by_cases c16 : (a0.extract (x14_2 : Int).toNat ((wrap64 (x14_2 + 2)) : Int).toNat).toList = (a1.extract (x14_2 : Int).toNat ((wrap64 (x14_2 + 2)) : Int).toNat).toList
                    · rw [if_pos c16] at H
                      have c16b0 : ((a0.extract (x14_2 : Int).toNat ((wrap64 (x14_2 + 2)) : Int).toNat).toList == (a1.extract (x14_2 : Int).toNat ((wrap64 (x14_2 + 2)) : Int).toNat).toList) = true := beq_iff_eq.mpr c16
                      have c16b1 : ((a0.extract (x14_2 : Int).toNat ((wrap64 (x14_2 + 2)) : Int).toNat).toList != (a1.extract (x14_2 : Int).toNat ((wrap64 (x14_2 + 2)) : Int).toNat).toList) = false := bne_eq_false_iff_eq.mpr c16
                      clear c16
                      have H' := Aside0.mk H
                      clear H
                      go_wp2
                      repeat (go_quiet (fail); try go_wp2)
                      go_roundg k2
                      case measure => have := HJ4.out; have := HK2.out; omega
                      case rel => exact ⟨(wrap64 (x14_2 + 2)), (by first | rfl | (simp; done) | (simp; decide +kernel) | (simp [*]; done)), H', ⟨by have := HJ4.out; have := HK2.out; omega⟩, by repeat (first | exact Drawn0.refl _ | apply Drawn0.step)⟩
                    · rw [if_neg c16] at H
                      have c16b0 : ((a0.extract (x14_2 : Int).toNat ((wrap64 (x14_2 + 2)) : Int).toNat).toList == (a1.extract (x14_2 : Int).toNat ((wrap64 (x14_2 + 2)) : Int).toNat).toList) = false := beq_eq_false_iff_ne.mpr c16
                      have c16b1 : ((a0.extract (x14_2 : Int).toNat ((wrap64 (x14_2 + 2)) : Int).toNat).toList != (a1.extract (x14_2 : Int).toNat ((wrap64 (x14_2 + 2)) : Int).toNat).toList) = true := bne_iff_ne.mpr c16
                      have c17b0 := eq_true (of_decide_eq_true (by first | (with_reducible assumption) | assumption) : 0 ≤ x14_2)
                      by_cases c18 : x14_2 ≤ (a0.size : Int)
                      · rw [if_pos c18] at H
                        have c18b0 := eq_true c18
                        have c18b1 : decide (x14_2 ≤ (a0.size : Int)) = true := decide_eq_true c18
                        clear c18
                        simp only [Option.some.injEq, Prod.mk.injEq] at H
                        obtain ⟨rfl, rfl⟩ := H
                        go_wp2
                        repeat (go_quiet (fail); try go_wp2)
                        go_ret2
                        exact ⟨by first | rfl | (simp; done) | (simp; decide +kernel) | (simp [*]; done), by repeat (first | exact Drawn0.refl _ | apply Drawn0.step)⟩
                      · rw [if_neg c18] at H
                        exact absurd H (by simp)
                  · rw [if_neg c11] at H
                    exact absurd H (by simp)
                · rw [if_neg c10] at H
                  exact absurd H (by simp)
              · rw [if_neg c9] at H
                have c9b0 : decide ((wrap64 (x14_2 + 2)) ≤ (a1.size : Int)) = false := decide_eq_false c9
                clear c9
                by_cases c19 : 0 ≤ x14_2
                · rw [if_pos c19] at H
                  have c19b0 := eq_true c19
                  have c19b1 : decide (0 ≤ x14_2) = true := decide_eq_true c19
                  clear c19
                  by_cases c20 : x14_2 ≤ (a0.size : Int)
                  · rw [if_pos c20] at H
                    have c20b0 := eq_true c20
                    have c20b1 : decide (x14_2 ≤ (a0.size : Int)) = true := decide_eq_true c20
                    clear c20
                    simp only [Option.some.injEq, Prod.mk.injEq] at H
                    obtain ⟨rfl, rfl⟩ := H
                    go_wp2
                    repeat (go_quiet (fail); try go_wp2)
                    go_ret2
                    exact ⟨by first | rfl | (simp; done) | (simp; decide +kernel) | (simp [*]; done), by repeat (first | exact Drawn0.refl _ | apply Drawn0.step)⟩
                  · rw [if_neg c20] at H
                    exact absurd H (by simp)
                · rw [if_neg c19] at H
                  exact absurd H (by simp)
            · rw [if_neg c8] at H
              have c8b0 : decide ((wrap64 (x14_2 + 2)) ≤ (a0.size : Int)) = false := decide_eq_false c8
              clear c8
              by_cases c21 : 0 ≤ x14_2
              · rw [if_pos c21] at H
                have c21b0 := eq_true c21
                have c21b1 : decide (0 ≤ x14_2) = true := decide_eq_true c21
                clear c21
                by_cases c22 : x14_2 ≤ (a0.size : Int)
                · rw [if_pos c22] at H
                  have c22b0 := eq_true c22
                  have c22b1 : decide (x14_2 ≤ (a0.size : Int)) = true := decide_eq_true c22
                  clear c22
                  simp only [Option.some.injEq, Prod.mk.injEq] at H
                  obtain ⟨rfl, rfl⟩ := H
                  go_wp2
                  repeat (go_quiet (fail); try go_wp2)
                  go_ret2
                  exact ⟨by first | rfl | (simp; done) | (simp; decide +kernel) | (simp [*]; done), by repeat (first | exact Drawn0.refl _ | apply Drawn0.step)⟩
                · rw [if_neg c22] at H
                  exact absurd H (by simp)
              · rw [if_neg c21] at H
                exact absurd H (by simp)

end Go.Proofs.Ytdnehiakmaacgaa.P
