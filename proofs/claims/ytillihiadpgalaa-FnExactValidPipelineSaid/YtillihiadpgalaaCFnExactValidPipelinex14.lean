-- Printed by drive.py, which calls the kit's print.py with changes of its own.
import Derived.Test.YtillihiadpgalaaCFnExactValidPipelinex0
import Derived.Test.YtillihiadpgalaaCFnExactValidPipelinex5
import Derived.Test.YtillihiadpgalaaCFnExactValidPipelinex9
import Derived.Test.YtillihiadpgalaaCFnExactValidPipelinex13
namespace Go.Proofs.Ytillihiadpgalaa.P
open Go.RowKit Go.Proofs.YtillihiadpgalaaW.PrintWords Go.Proofs.YtillihiadpgalaaW.PrintLast Go.Proofs.YtillihiadpgalaaW.PrintMore
attribute [local go_sem] max2_int min2_int max_two min_two max_three min_three max_four min_four   -- for this text's walks alone
set_option linter.unusedVariables false
set_option linter.unusedSimpArgs false

/-! ### laws_eqStepS: function 44 -/
def laws_eqStepS.l0 : Nat → List (S60) → List (S60) → Int → Option (Bool)
 | 0, _, _, _ => none
 | k + 1, x0, x1, x5 => if x5 < (x0.length : Int) then (if 0 ≤ x5 then (if x5 < (x1.length : Int) then ((laws_eqStep.f ((rd_T60 x0 x5).f0) ((rd_T60 x0 x5).f1.f0) ((rd_T60 x0 x5).f1.f1) ((rd_T60 x0 x5).f1.f2) ((rd_T60 x0 x5).f1.f3) ((rd_T60 x0 x5).f1.f4) ((rd_T60 x0 x5).f2.f0) ((rd_T60 x0 x5).f2.f1) ((rd_T60 x0 x5).f2.f2) ((rd_T60 x0 x5).f3.f0) ((rd_T60 x0 x5).f3.f1) ((rd_T60 x0 x5).f3.f2) ((rd_T60 x0 x5).f3.f3) ((rd_T60 x0 x5).f3.f4) ((rd_T60 x0 x5).f3.f5) ((rd_T60 x0 x5).f3.f6) ((rd_T60 x1 x5).f0) ((rd_T60 x1 x5).f1.f0) ((rd_T60 x1 x5).f1.f1) ((rd_T60 x1 x5).f1.f2) ((rd_T60 x1 x5).f1.f3) ((rd_T60 x1 x5).f1.f4) ((rd_T60 x1 x5).f2.f0) ((rd_T60 x1 x5).f2.f1) ((rd_T60 x1 x5).f2.f2) ((rd_T60 x1 x5).f3.f0) ((rd_T60 x1 x5).f3.f1) ((rd_T60 x1 x5).f3.f2) ((rd_T60 x1 x5).f3.f3) ((rd_T60 x1 x5).f3.f4) ((rd_T60 x1 x5).f3.f5) ((rd_T60 x1 x5).f3.f6)).bind fun t269 => (if t269 = true then (laws_eqStepS.l0 k x0 x1 (wrap64 (x5 + 1))) else (some false))) else (none)) else (none)) else (some true)
def laws_eqStepS.f (k : Nat) (l0 : List (S60)) (l1 : List (S60)) : Option (Bool) := if (l0.length : Int) = (l1.length : Int) then (laws_eqStepS.l0 k l0 l1 0) else (some false)
theorem laws_eqStepS.mono_l : ∀ k, (∀ y0 y1 y2, LeO (laws_eqStepS.l0 k y0 y1 y2) (laws_eqStepS.l0 (k + 1) y0 y1 y2))
 | 0 => fun _ _ _ r h => by simp [laws_eqStepS.l0] at h
 | k + 1 => by
  have ih0 := laws_eqStepS.mono_l k
  ·intro y0 y1 y2
   unfold laws_eqStepS.l0
   repeat' first
   | (with_reducible exact ih0 _ _ _)
   | (with_reducible exact LeO.refl _)
   | (with_reducible exact LeO.none _)
   | (with_reducible refine LeO.ite ?_ ?_)
   | (with_reducible refine LeO.bind ?_ (fun _ => ?_))
   | exact ih0 _ _ _
   | exact LeO.none _
   | refine LeO.ite ?_ ?_
   | refine LeO.bind ?_ (fun _ => ?_)
theorem laws_eqStepS.mono : ∀ a0 a1 k, LeO (laws_eqStepS.f k a0 a1) (laws_eqStepS.f (k + 1) a0 a1) := by
 intro a0 a1 k
 have ih0 := laws_eqStepS.mono_l k
 unfold laws_eqStepS.f
 repeat' first
   | (with_reducible exact ih0 _ _ _)
   | (with_reducible exact LeO.refl _)
   | (with_reducible exact LeO.none _)
   | (with_reducible refine LeO.ite ?_ ?_)
   | (with_reducible refine LeO.bind ?_ (fun _ => ?_))
   | exact ih0 _ _ _
   | exact LeO.none _
   | refine LeO.ite ?_ ?_
   | refine LeO.bind ?_ (fun _ => ?_)
def laws_eqStepS.T6 : Bool × List (List Nat × List Nat) := (true, [([], []), ([], []), ([0, 1], [0, 1]), ([2], [2]), ([], []), ([], []), ([4, 5], [4, 5]), ([6], [6]), ([3, 7], [3, 7]), ([8], [8])])
def laws_eqStepS.B6 : List Nat := [0, 0, 3, 7, 0, 0, 48, 112, 255, 511]
theorem laws_eqStepS.tab6 : rtab .any (opsOf Try.f44 6) = laws_eqStepS.T6 := by kernel_rfl
theorem laws_eqStepS.bits6 : waitsOk laws_eqStepS.T6.2 laws_eqStepS.B6 = true := by kernel_rfl
set_option maxHeartbeats 8000000 in
set_option maxRecDepth 100000 in
theorem laws_eqStepS.calls (k : Nat) (A0 : Option Addr) (c0 : Nat) (l0 : List (S60)) (A1 : Option Addr) (c1 : Nat) (l1 : List (S60)) (r : Bool) (w : World) (hr0 : Kd.C k60 w A0 l0.length l0) (hc0 : l0.length ≤ c0) (hr1 : Kd.C k60 w A1 l1.length l1) (hc1 : l1.length ≤ c1) (h : laws_eqStepS.f k l0 l1 = some r) :
  Calls Try.prog 44 #[.slice A0 l0.length c0, .slice A1 l1.length c1] w fun e w' => e = .returned (.bool r) ∧ Below w.heap.size w w' := by
 have hu60 := Try.underlying60
 have HR0 := Aside0.mk hr0
 have HC0 := Aside0.mk hc0
 clear hr0 hc0
 have HR1 := Aside0.mk hr1
 have HC1 := Aside0.mk hc1
 clear hr1 hc1
 have HB := Aside0.mk (Below.refl w.heap.size w)
 have H : (if (l0.length : Int) = (l1.length : Int) then (laws_eqStepS.l0 k l0 l1 0) else (some false)) = some r := h
 clear h
 by_cases c3 : (l0.length : Int) = (l1.length : Int)
 ·rw [if_pos c3] at H
  have c3b0 : ((l0.length : Int) == (l1.length : Int)) = true := beq_iff_eq.mpr c3
  have c3b1 : ((l0.length : Int) != (l1.length : Int)) = false := bne_eq_false_iff_eq.mpr c3
  have c3b2 : (l0.length == l1.length) = true := by first | simpa using c3 | (simp at c3 ⊢; omega)
  clear c3
  have H' := Aside0.mk H
  clear H
  go_enter Try.func44, Try.ntmps44
  go_wp2
  go_loopg [5] k (fun kq v5 w' => ∃ (x5_1 : Int), v5 = .int .i64 x5_1 ∧ Aside0 (laws_eqStepS.l0 kq l0 l1 x5_1 = some r) ∧ Aside0 (kq ≤ k) ∧ Aside0 (Below w.heap.size w w'))
  case atStart => exact ⟨(0), (by first | rfl | (simp; done) | (simp; decide +kernel) | (simp [*]; done)), H', ⟨Nat.le_refl _⟩, ⟨by repeat (first | (with_reducible first | exact HB.out | apply below_alloc | apply pw_below_drewN | apply below_drew1) | exact HB.out)⟩⟩
  case round =>
   clear H'
   try clear c1
   try clear p2
   try clear c3
   try clear c3b0
   try clear c3b1
   try clear c3b2
   obtain ⟨x5_1, rfl, HA, HK1, HB⟩ := hrel
   cases gk with
   | zero => exact absurd HA.out (by simp [laws_eqStepS.l0])
   | succ k1 =>
    have H := HA.out
    clear HA
    simp only [laws_eqStepS.l0] at H
    by_cases c4 : x5_1 < (l0.length : Int)
    ·rw [if_pos c4] at H
     have c4b0 : decide (x5_1 < (l0.length : Int)) = true := decide_eq_true c4
     clear c4
     by_cases c5 : 0 ≤ x5_1
     ·rw [if_pos c5] at H
      have c5b0 : decide (0 ≤ x5_1) = true := decide_eq_true c5
      clear c5
      by_cases c6 : x5_1 < (l1.length : Int)
      ·rw [if_pos c6] at H
       have c6b0 : decide (x5_1 < (l1.length : Int)) = true := decide_eq_true c6
       clear c6
       replace H := Option.bind_eq_some_iff.mp H
       obtain ⟨t269, A70, H⟩ := H
       replace H : (if t269 = true then (laws_eqStepS.l0 k1 l0 l1 (wrap64 (x5_1 + 1))) else (some false)) = some r := H
       have A7 := Aside0.mk A70
       clear A70
       by_cases c8 : t269 = true
       ·subst c8
        have H1 : (laws_eqStepS.l0 k1 l0 l1 (wrap64 (x5_1 + 1))) = some r := by rw [if_pos rfl] at H; exact H
        clear H
        have H := H1
        clear H1
        have H' := Aside0.mk H
        clear H
        try go_wp2
        have n0_ := Aside0.mk (below_drew1 HB.out)
        clear HB
        have HB := n0_
        clear n0_
        have p267 : 0 ≤ (x5_1 : Int) := of_decide_eq_true (by first | (with_reducible assumption) | assumption)
        have q267 : x5_1 < (l0.length : Int) := of_decide_eq_true (by first | (with_reducible assumption) | assumption)
        obtain ⟨ad267, e267, hx267_0, hx267_1, hx267_2, hx267_3, hx267_4, hx267_5, hx267_6, hx267_7, hx267_8, hx267_9, hx267_10, hx267_11, hx267_12, hx267_13, hx267_14, hx267_15⟩ := at_T60 HR0.out x5_1 p267 q267
        have hw267_15 := hx267_15
        have hw267_14 := hx267_14
        have hw267_13 := hx267_13
        have hw267_12 := hx267_12
        have hw267_11 := hx267_11
        have hw267_10 := hx267_10
        have hw267_9 := hx267_9
        have hw267_8 := hx267_8
        have hw267_7 := hx267_7
        have hw267_6 := hx267_6
        have hw267_5 := hx267_5
        have hw267_4 := hx267_4
        have hw267_3 := hx267_3
        have hw267_2 := hx267_2
        have hw267_1 := hx267_1
        have hw267_0 := hx267_0
        cases e267
        replace hx267_0 := (HB.out.cell (World.block_lt_of_cell? w _ hx267_0)).trans hx267_0
        replace hx267_1 := (HB.out.cell (World.block_lt_of_cell? w _ hx267_1)).trans hx267_1
        replace hx267_2 := (HB.out.cell (World.block_lt_of_cell? w _ hx267_2)).trans hx267_2
        replace hx267_3 := (HB.out.cell (World.block_lt_of_cell? w _ hx267_3)).trans hx267_3
        replace hx267_4 := (HB.out.cell (World.block_lt_of_cell? w _ hx267_4)).trans hx267_4
        replace hx267_5 := (HB.out.cell (World.block_lt_of_cell? w _ hx267_5)).trans hx267_5
        replace hx267_6 := (HB.out.cell (World.block_lt_of_cell? w _ hx267_6)).trans hx267_6
        replace hx267_7 := (HB.out.cell (World.block_lt_of_cell? w _ hx267_7)).trans hx267_7
        replace hx267_8 := (HB.out.cell (World.block_lt_of_cell? w _ hx267_8)).trans hx267_8
        replace hx267_9 := (HB.out.cell (World.block_lt_of_cell? w _ hx267_9)).trans hx267_9
        replace hx267_10 := (HB.out.cell (World.block_lt_of_cell? w _ hx267_10)).trans hx267_10
        replace hx267_11 := (HB.out.cell (World.block_lt_of_cell? w _ hx267_11)).trans hx267_11
        replace hx267_12 := (HB.out.cell (World.block_lt_of_cell? w _ hx267_12)).trans hx267_12
        replace hx267_13 := (HB.out.cell (World.block_lt_of_cell? w _ hx267_13)).trans hx267_13
        replace hx267_14 := (HB.out.cell (World.block_lt_of_cell? w _ hx267_14)).trans hx267_14
        replace hx267_15 := (HB.out.cell (World.block_lt_of_cell? w _ hx267_15)).trans hx267_15
        replace p267 := eq_true p267
        replace q267 := eq_true q267
        have p268 : 0 ≤ (x5_1 : Int) := of_decide_eq_true (by first | (with_reducible assumption) | assumption)
        have q268 : x5_1 < (l1.length : Int) := of_decide_eq_true (by first | (with_reducible assumption) | assumption)
        obtain ⟨ad268, e268, hx268_0, hx268_1, hx268_2, hx268_3, hx268_4, hx268_5, hx268_6, hx268_7, hx268_8, hx268_9, hx268_10, hx268_11, hx268_12, hx268_13, hx268_14, hx268_15⟩ := at_T60 HR1.out x5_1 p268 q268
        have hw268_15 := hx268_15
        have hw268_14 := hx268_14
        have hw268_13 := hx268_13
        have hw268_12 := hx268_12
        have hw268_11 := hx268_11
        have hw268_10 := hx268_10
        have hw268_9 := hx268_9
        have hw268_8 := hx268_8
        have hw268_7 := hx268_7
        have hw268_6 := hx268_6
        have hw268_5 := hx268_5
        have hw268_4 := hx268_4
        have hw268_3 := hx268_3
        have hw268_2 := hx268_2
        have hw268_1 := hx268_1
        have hw268_0 := hx268_0
        cases e268
        replace hx268_0 := (HB.out.cell (World.block_lt_of_cell? w _ hx268_0)).trans hx268_0
        replace hx268_1 := (HB.out.cell (World.block_lt_of_cell? w _ hx268_1)).trans hx268_1
        replace hx268_2 := (HB.out.cell (World.block_lt_of_cell? w _ hx268_2)).trans hx268_2
        replace hx268_3 := (HB.out.cell (World.block_lt_of_cell? w _ hx268_3)).trans hx268_3
        replace hx268_4 := (HB.out.cell (World.block_lt_of_cell? w _ hx268_4)).trans hx268_4
        replace hx268_5 := (HB.out.cell (World.block_lt_of_cell? w _ hx268_5)).trans hx268_5
        replace hx268_6 := (HB.out.cell (World.block_lt_of_cell? w _ hx268_6)).trans hx268_6
        replace hx268_7 := (HB.out.cell (World.block_lt_of_cell? w _ hx268_7)).trans hx268_7
        replace hx268_8 := (HB.out.cell (World.block_lt_of_cell? w _ hx268_8)).trans hx268_8
        replace hx268_9 := (HB.out.cell (World.block_lt_of_cell? w _ hx268_9)).trans hx268_9
        replace hx268_10 := (HB.out.cell (World.block_lt_of_cell? w _ hx268_10)).trans hx268_10
        replace hx268_11 := (HB.out.cell (World.block_lt_of_cell? w _ hx268_11)).trans hx268_11
        replace hx268_12 := (HB.out.cell (World.block_lt_of_cell? w _ hx268_12)).trans hx268_12
        replace hx268_13 := (HB.out.cell (World.block_lt_of_cell? w _ hx268_13)).trans hx268_13
        replace hx268_14 := (HB.out.cell (World.block_lt_of_cell? w _ hx268_14)).trans hx268_14
        replace hx268_15 := (HB.out.cell (World.block_lt_of_cell? w _ hx268_15)).trans hx268_15
        replace p268 := eq_true p268
        replace q268 := eq_true q268
        refine start_ (n := 10) (S := fun w' => w'.cell? (ad267.add ((x5_1).toNat * 16)) = some (.int .i64 ((rd_T60 l0 x5_1).f0)) ∧ w'.cell? ⟨(ad267.add ((x5_1).toNat * 16)).block, (ad267.add ((x5_1).toNat * 16)).off + 1, none⟩ = some (.int .i64 ((rd_T60 l0 x5_1).f1.f0)) ∧ w'.cell? ⟨(ad267.add ((x5_1).toNat * 16)).block, (ad267.add ((x5_1).toNat * 16)).off + 2, none⟩ = some (.int .i64 ((rd_T60 l0 x5_1).f1.f1)) ∧ w'.cell? ⟨(ad267.add ((x5_1).toNat * 16)).block, (ad267.add ((x5_1).toNat * 16)).off + 3, none⟩ = some (.int .i64 ((rd_T60 l0 x5_1).f1.f2)) ∧ w'.cell? ⟨(ad267.add ((x5_1).toNat * 16)).block, (ad267.add ((x5_1).toNat * 16)).off + 4, none⟩ = some (.int .i64 ((rd_T60 l0 x5_1).f1.f3)) ∧ w'.cell? ⟨(ad267.add ((x5_1).toNat * 16)).block, (ad267.add ((x5_1).toNat * 16)).off + 5, none⟩ = some (.int .i64 ((rd_T60 l0 x5_1).f1.f4)) ∧ w'.cell? ⟨(ad267.add ((x5_1).toNat * 16)).block, (ad267.add ((x5_1).toNat * 16)).off + 6, none⟩ = some (.int .i64 ((rd_T60 l0 x5_1).f2.f0)) ∧ w'.cell? ⟨(ad267.add ((x5_1).toNat * 16)).block, (ad267.add ((x5_1).toNat * 16)).off + 7, none⟩ = some (.int .i64 ((rd_T60 l0 x5_1).f2.f1)) ∧ w'.cell? ⟨(ad267.add ((x5_1).toNat * 16)).block, (ad267.add ((x5_1).toNat * 16)).off + 8, none⟩ = some (.int .i64 ((rd_T60 l0 x5_1).f2.f2)) ∧ w'.cell? ⟨(ad267.add ((x5_1).toNat * 16)).block, (ad267.add ((x5_1).toNat * 16)).off + 9, none⟩ = some (.int .i64 ((rd_T60 l0 x5_1).f3.f0)) ∧ w'.cell? ⟨(ad267.add ((x5_1).toNat * 16)).block, (ad267.add ((x5_1).toNat * 16)).off + 10, none⟩ = some (.int .i64 ((rd_T60 l0 x5_1).f3.f1)) ∧ w'.cell? ⟨(ad267.add ((x5_1).toNat * 16)).block, (ad267.add ((x5_1).toNat * 16)).off + 11, none⟩ = some (.int .i64 ((rd_T60 l0 x5_1).f3.f2)) ∧ w'.cell? ⟨(ad267.add ((x5_1).toNat * 16)).block, (ad267.add ((x5_1).toNat * 16)).off + 12, none⟩ = some (.int .i64 ((rd_T60 l0 x5_1).f3.f3)) ∧ w'.cell? ⟨(ad267.add ((x5_1).toNat * 16)).block, (ad267.add ((x5_1).toNat * 16)).off + 13, none⟩ = some (.int .i64 ((rd_T60 l0 x5_1).f3.f4)) ∧ w'.cell? ⟨(ad267.add ((x5_1).toNat * 16)).block, (ad267.add ((x5_1).toNat * 16)).off + 14, none⟩ = some (.int .i64 ((rd_T60 l0 x5_1).f3.f5)) ∧ w'.cell? ⟨(ad267.add ((x5_1).toNat * 16)).block, (ad267.add ((x5_1).toNat * 16)).off + 15, none⟩ = some (.int .i64 ((rd_T60 l0 x5_1).f3.f6)) ∧ w'.cell? (ad268.add ((x5_1).toNat * 16)) = some (.int .i64 ((rd_T60 l1 x5_1).f0)) ∧ w'.cell? ⟨(ad268.add ((x5_1).toNat * 16)).block, (ad268.add ((x5_1).toNat * 16)).off + 1, none⟩ = some (.int .i64 ((rd_T60 l1 x5_1).f1.f0)) ∧ w'.cell? ⟨(ad268.add ((x5_1).toNat * 16)).block, (ad268.add ((x5_1).toNat * 16)).off + 2, none⟩ = some (.int .i64 ((rd_T60 l1 x5_1).f1.f1)) ∧ w'.cell? ⟨(ad268.add ((x5_1).toNat * 16)).block, (ad268.add ((x5_1).toNat * 16)).off + 3, none⟩ = some (.int .i64 ((rd_T60 l1 x5_1).f1.f2)) ∧ w'.cell? ⟨(ad268.add ((x5_1).toNat * 16)).block, (ad268.add ((x5_1).toNat * 16)).off + 4, none⟩ = some (.int .i64 ((rd_T60 l1 x5_1).f1.f3)) ∧ w'.cell? ⟨(ad268.add ((x5_1).toNat * 16)).block, (ad268.add ((x5_1).toNat * 16)).off + 5, none⟩ = some (.int .i64 ((rd_T60 l1 x5_1).f1.f4)) ∧ w'.cell? ⟨(ad268.add ((x5_1).toNat * 16)).block, (ad268.add ((x5_1).toNat * 16)).off + 6, none⟩ = some (.int .i64 ((rd_T60 l1 x5_1).f2.f0)) ∧ w'.cell? ⟨(ad268.add ((x5_1).toNat * 16)).block, (ad268.add ((x5_1).toNat * 16)).off + 7, none⟩ = some (.int .i64 ((rd_T60 l1 x5_1).f2.f1)) ∧ w'.cell? ⟨(ad268.add ((x5_1).toNat * 16)).block, (ad268.add ((x5_1).toNat * 16)).off + 8, none⟩ = some (.int .i64 ((rd_T60 l1 x5_1).f2.f2)) ∧ w'.cell? ⟨(ad268.add ((x5_1).toNat * 16)).block, (ad268.add ((x5_1).toNat * 16)).off + 9, none⟩ = some (.int .i64 ((rd_T60 l1 x5_1).f3.f0)) ∧ w'.cell? ⟨(ad268.add ((x5_1).toNat * 16)).block, (ad268.add ((x5_1).toNat * 16)).off + 10, none⟩ = some (.int .i64 ((rd_T60 l1 x5_1).f3.f1)) ∧ w'.cell? ⟨(ad268.add ((x5_1).toNat * 16)).block, (ad268.add ((x5_1).toNat * 16)).off + 11, none⟩ = some (.int .i64 ((rd_T60 l1 x5_1).f3.f2)) ∧ w'.cell? ⟨(ad268.add ((x5_1).toNat * 16)).block, (ad268.add ((x5_1).toNat * 16)).off + 12, none⟩ = some (.int .i64 ((rd_T60 l1 x5_1).f3.f3)) ∧ w'.cell? ⟨(ad268.add ((x5_1).toNat * 16)).block, (ad268.add ((x5_1).toNat * 16)).off + 13, none⟩ = some (.int .i64 ((rd_T60 l1 x5_1).f3.f4)) ∧ w'.cell? ⟨(ad268.add ((x5_1).toNat * 16)).block, (ad268.add ((x5_1).toNat * 16)).off + 14, none⟩ = some (.int .i64 ((rd_T60 l1 x5_1).f3.f5)) ∧ w'.cell? ⟨(ad268.add ((x5_1).toNat * 16)).block, (ad268.add ((x5_1).toNat * 16)).off + 15, none⟩ = some (.int .i64 ((rd_T60 l1 x5_1).f3.f6))) (ds := []) #[false, false, false, false, false, false, false, false, false, false] (by kernel_rfl) rfl rfl ⟨((HB.out.cell (World.block_lt_of_cell? w _ hw267_0)).trans hw267_0), ((HB.out.cell (World.block_lt_of_cell? w _ hw267_1)).trans hw267_1), ((HB.out.cell (World.block_lt_of_cell? w _ hw267_2)).trans hw267_2), ((HB.out.cell (World.block_lt_of_cell? w _ hw267_3)).trans hw267_3), ((HB.out.cell (World.block_lt_of_cell? w _ hw267_4)).trans hw267_4), ((HB.out.cell (World.block_lt_of_cell? w _ hw267_5)).trans hw267_5), ((HB.out.cell (World.block_lt_of_cell? w _ hw267_6)).trans hw267_6), ((HB.out.cell (World.block_lt_of_cell? w _ hw267_7)).trans hw267_7), ((HB.out.cell (World.block_lt_of_cell? w _ hw267_8)).trans hw267_8), ((HB.out.cell (World.block_lt_of_cell? w _ hw267_9)).trans hw267_9), ((HB.out.cell (World.block_lt_of_cell? w _ hw267_10)).trans hw267_10), ((HB.out.cell (World.block_lt_of_cell? w _ hw267_11)).trans hw267_11), ((HB.out.cell (World.block_lt_of_cell? w _ hw267_12)).trans hw267_12), ((HB.out.cell (World.block_lt_of_cell? w _ hw267_13)).trans hw267_13), ((HB.out.cell (World.block_lt_of_cell? w _ hw267_14)).trans hw267_14), ((HB.out.cell (World.block_lt_of_cell? w _ hw267_15)).trans hw267_15), ((HB.out.cell (World.block_lt_of_cell? w _ hw268_0)).trans hw268_0), ((HB.out.cell (World.block_lt_of_cell? w _ hw268_1)).trans hw268_1), ((HB.out.cell (World.block_lt_of_cell? w _ hw268_2)).trans hw268_2), ((HB.out.cell (World.block_lt_of_cell? w _ hw268_3)).trans hw268_3), ((HB.out.cell (World.block_lt_of_cell? w _ hw268_4)).trans hw268_4), ((HB.out.cell (World.block_lt_of_cell? w _ hw268_5)).trans hw268_5), ((HB.out.cell (World.block_lt_of_cell? w _ hw268_6)).trans hw268_6), ((HB.out.cell (World.block_lt_of_cell? w _ hw268_7)).trans hw268_7), ((HB.out.cell (World.block_lt_of_cell? w _ hw268_8)).trans hw268_8), ((HB.out.cell (World.block_lt_of_cell? w _ hw268_9)).trans hw268_9), ((HB.out.cell (World.block_lt_of_cell? w _ hw268_10)).trans hw268_10), ((HB.out.cell (World.block_lt_of_cell? w _ hw268_11)).trans hw268_11), ((HB.out.cell (World.block_lt_of_cell? w _ hw268_12)).trans hw268_12), ((HB.out.cell (World.block_lt_of_cell? w _ hw268_13)).trans hw268_13), ((HB.out.cell (World.block_lt_of_cell? w _ hw268_14)).trans hw268_14), ((HB.out.cell (World.block_lt_of_cell? w _ hw268_15)).trans hw268_15)⟩ (fun hHeld => ?_); refine with_tabW laws_eqStepS.tab6 laws_eqStepS.bits6 (fun HT_ HW_ => ?_)
        generalize wr.drew = w9 at HB hx267_0 hx267_1 hx267_10 hx267_11 hx267_12 hx267_13 hx267_14 hx267_15 hx267_2 hx267_3 hx267_4 hx267_5 hx267_6 hx267_7 hx267_8 hx267_9 hx268_0 hx268_1 hx268_10 hx268_11 hx268_12 hx268_13 hx268_14 hx268_15 hx268_2 hx268_3 hx268_4 hx268_5 hx268_6 hx268_7 hx268_8 hx268_9 hHeld ⊢
        refine pure_ (i := 0) (N := some 17) (v := ?_) (a' := ?_) #[true, false, false, false, false, false, false, false, false, false] rfl rfl (any_of HT_.out (by kernel_rfl)) (fun _ _ _ h => h) (Or.inl ⟨by rfl, ?_⟩) ?_ ?_
        rotate_left
        ·intro w'
         go_simp
         with_reducible rfl
        rotate_left
        ·simp only [Act.put, List.setIfInBounds_toArray, List.set_cons_zero, List.set_cons_succ, i64_w, i32_w]
         rfl
        refine pure_ (i := 1) (N := some 18) (v := ?_) (a' := ?_) #[true, true, false, false, false, false, false, false, false, false] rfl rfl (any_of HT_.out (by kernel_rfl)) (fun _ _ _ h => h) (Or.inl ⟨by rfl, ?_⟩) ?_ ?_
        rotate_left
        ·intro w'
         go_simp
         with_reducible rfl
        rotate_left
        ·simp only [Act.put, List.setIfInBounds_toArray, List.set_cons_zero, List.set_cons_succ, i64_w, i32_w]
         rfl
        refine pure_ (i := 2) (N := some 19) (v := ?_) (a' := ?_) #[true, true, true, false, false, false, false, false, false, false] rfl rfl (any_of HT_.out (by kernel_rfl)) (fun _ _ _ h => h) (Or.inl ⟨by rfl, ?_⟩) ?_ ?_
        rotate_left
        ·intro w'
         go_simp
         with_reducible rfl
        rotate_left
        ·simp only [Act.put, List.setIfInBounds_toArray, List.set_cons_zero, List.set_cons_succ, i64_w, i32_w]
         rfl
        refine pure_ (i := 4) (N := some 21) (v := ?_) (a' := ?_) #[true, true, true, false, true, false, false, false, false, false] rfl rfl (any_of HT_.out (by kernel_rfl)) (fun _ _ _ h => h) (Or.inl ⟨by rfl, ?_⟩) ?_ ?_
        rotate_left
        ·intro w'
         go_simp
         with_reducible rfl
        rotate_left
        ·simp only [Act.put, List.setIfInBounds_toArray, List.set_cons_zero, List.set_cons_succ, i64_w, i32_w]
         rfl
        refine pure_ (i := 5) (N := some 22) (v := ?_) (a' := ?_) #[true, true, true, false, true, true, false, false, false, false] rfl rfl (any_of HT_.out (by kernel_rfl)) (fun _ _ _ h => h) (Or.inl ⟨by rfl, ?_⟩) ?_ ?_
        rotate_left
        ·intro w'
         go_simp
         with_reducible rfl
        rotate_left
        ·simp only [Act.put, List.setIfInBounds_toArray, List.set_cons_zero, List.set_cons_succ, i64_w, i32_w]
         rfl
        refine pure_ (i := 6) (N := some 23) (v := ?_) (a' := ?_) #[true, true, true, false, true, true, true, false, false, false] rfl rfl (any_of HT_.out (by kernel_rfl)) (fun _ _ _ h => h) (Or.inl ⟨by rfl, ?_⟩) ?_ ?_
        rotate_left
        ·intro w'
         go_simp
         with_reducible rfl
        rotate_left
        ·simp only [Act.put, List.setIfInBounds_toArray, List.set_cons_zero, List.set_cons_succ, i64_w, i32_w]
         rfl
        refine take_ (i := 3) (N := some 20) (v := ?_) (a' := ?_) #[true, true, true, true, true, true, true, false, false, false] rfl rfl (take_ofW HT_.out HW_.out (by kernel_rfl)) (fun _ _ _ h => h) (Or.inl ⟨by rfl, ?_⟩) hHeld ?_ ?_
        rotate_left
        ·rintro w' ⟨s0, s1, s2, s3, s4, s5, s6, s7, s8, s9, s10, s11, s12, s13, s14, s15, s16, s17, s18, s19, s20, s21, s22, s23, s24, s25, s26, s27, s28, s29, s30, s31⟩
         go_simp
         with_reducible rfl
        rotate_left
        ·simp only [Act.put, List.setIfInBounds_toArray, List.set_cons_zero, List.set_cons_succ, i64_w, i32_w]
         rfl
        refine take_ (i := 7) (N := some 24) (v := ?_) (a' := ?_) #[true, true, true, true, true, true, true, true, false, false] rfl rfl (take_ofW HT_.out HW_.out (by kernel_rfl)) (fun _ _ _ h => h) (Or.inl ⟨by rfl, ?_⟩) hHeld ?_ ?_
        rotate_left
        ·rintro w' ⟨s0, s1, s2, s3, s4, s5, s6, s7, s8, s9, s10, s11, s12, s13, s14, s15, s16, s17, s18, s19, s20, s21, s22, s23, s24, s25, s26, s27, s28, s29, s30, s31⟩
         go_simp
         with_reducible rfl
        rotate_left
        ·simp only [Act.put, List.setIfInBounds_toArray, List.set_cons_zero, List.set_cons_succ, i64_w, i32_w]
         rfl
        refine one_ (i := 8) (N := some 25) #[true, true, true, true, true, true, true, true, true, false] rfl rfl (one_of HT_.out (by kernel_rfl)) (by decide) (fun K hK => ?_)
        refine goes_ Try.func82 (by kernel_rfl) rfl #[.agg #[.int .i64 ((rd_T60 l0 x5_1).f0), .int .i64 ((rd_T60 l0 x5_1).f1.f0), .int .i64 ((rd_T60 l0 x5_1).f1.f1), .int .i64 ((rd_T60 l0 x5_1).f1.f2), .int .i64 ((rd_T60 l0 x5_1).f1.f3), .int .i64 ((rd_T60 l0 x5_1).f1.f4), .int .i64 ((rd_T60 l0 x5_1).f2.f0), .int .i64 ((rd_T60 l0 x5_1).f2.f1), .int .i64 ((rd_T60 l0 x5_1).f2.f2), .int .i64 ((rd_T60 l0 x5_1).f3.f0), .int .i64 ((rd_T60 l0 x5_1).f3.f1), .int .i64 ((rd_T60 l0 x5_1).f3.f2), .int .i64 ((rd_T60 l0 x5_1).f3.f3), .int .i64 ((rd_T60 l0 x5_1).f3.f4), .int .i64 ((rd_T60 l0 x5_1).f3.f5), .int .i64 ((rd_T60 l0 x5_1).f3.f6)], .agg #[.int .i64 ((rd_T60 l1 x5_1).f0), .int .i64 ((rd_T60 l1 x5_1).f1.f0), .int .i64 ((rd_T60 l1 x5_1).f1.f1), .int .i64 ((rd_T60 l1 x5_1).f1.f2), .int .i64 ((rd_T60 l1 x5_1).f1.f3), .int .i64 ((rd_T60 l1 x5_1).f1.f4), .int .i64 ((rd_T60 l1 x5_1).f2.f0), .int .i64 ((rd_T60 l1 x5_1).f2.f1), .int .i64 ((rd_T60 l1 x5_1).f2.f2), .int .i64 ((rd_T60 l1 x5_1).f3.f0), .int .i64 ((rd_T60 l1 x5_1).f3.f1), .int .i64 ((rd_T60 l1 x5_1).f3.f2), .int .i64 ((rd_T60 l1 x5_1).f3.f3), .int .i64 ((rd_T60 l1 x5_1).f3.f4), .int .i64 ((rd_T60 l1 x5_1).f3.f5), .int .i64 ((rd_T60 l1 x5_1).f3.f6)]] (by rfl) rfl rfl (by (try simp only [List.map_toArray, List.map_cons, List.map_nil]); first | done | rfl | (simp only [List.length_drop, List.length_take]; rfl)) ?_
        with_reducible refine (laws_eqStep.calls ((rd_T60 l0 x5_1).f0) ((rd_T60 l0 x5_1).f1.f0) ((rd_T60 l0 x5_1).f1.f1) ((rd_T60 l0 x5_1).f1.f2) ((rd_T60 l0 x5_1).f1.f3) ((rd_T60 l0 x5_1).f1.f4) ((rd_T60 l0 x5_1).f2.f0) ((rd_T60 l0 x5_1).f2.f1) ((rd_T60 l0 x5_1).f2.f2) ((rd_T60 l0 x5_1).f3.f0) ((rd_T60 l0 x5_1).f3.f1) ((rd_T60 l0 x5_1).f3.f2) ((rd_T60 l0 x5_1).f3.f3) ((rd_T60 l0 x5_1).f3.f4) ((rd_T60 l0 x5_1).f3.f5) ((rd_T60 l0 x5_1).f3.f6) ((rd_T60 l1 x5_1).f0) ((rd_T60 l1 x5_1).f1.f0) ((rd_T60 l1 x5_1).f1.f1) ((rd_T60 l1 x5_1).f1.f2) ((rd_T60 l1 x5_1).f1.f3) ((rd_T60 l1 x5_1).f1.f4) ((rd_T60 l1 x5_1).f2.f0) ((rd_T60 l1 x5_1).f2.f1) ((rd_T60 l1 x5_1).f2.f2) ((rd_T60 l1 x5_1).f3.f0) ((rd_T60 l1 x5_1).f3.f1) ((rd_T60 l1 x5_1).f3.f2) ((rd_T60 l1 x5_1).f3.f3) ((rd_T60 l1 x5_1).f3.f4) ((rd_T60 l1 x5_1).f3.f5) ((rd_T60 l1 x5_1).f3.f6) true _ A7.out).mono ?_
        rintro e w10 ⟨rfl, hb⟩
        refine ⟨_, rfl, ?_⟩
        have n0_ := Aside0.mk (below_step (by repeat (first | (with_reducible first | exact HB.out | apply below_alloc | apply pw_below_drewN | apply below_drew1) | exact HB.out)) hb)
        clear HB
        have HB := n0_
        clear n0_
        (try clear hb)
        (try clear hb2)
        (try clear hk)
        (try clear hi)
        refine hK.out _ _ ⟨((HB.out.cell (World.block_lt_of_cell? w _ hw267_0)).trans hw267_0), ((HB.out.cell (World.block_lt_of_cell? w _ hw267_1)).trans hw267_1), ((HB.out.cell (World.block_lt_of_cell? w _ hw267_2)).trans hw267_2), ((HB.out.cell (World.block_lt_of_cell? w _ hw267_3)).trans hw267_3), ((HB.out.cell (World.block_lt_of_cell? w _ hw267_4)).trans hw267_4), ((HB.out.cell (World.block_lt_of_cell? w _ hw267_5)).trans hw267_5), ((HB.out.cell (World.block_lt_of_cell? w _ hw267_6)).trans hw267_6), ((HB.out.cell (World.block_lt_of_cell? w _ hw267_7)).trans hw267_7), ((HB.out.cell (World.block_lt_of_cell? w _ hw267_8)).trans hw267_8), ((HB.out.cell (World.block_lt_of_cell? w _ hw267_9)).trans hw267_9), ((HB.out.cell (World.block_lt_of_cell? w _ hw267_10)).trans hw267_10), ((HB.out.cell (World.block_lt_of_cell? w _ hw267_11)).trans hw267_11), ((HB.out.cell (World.block_lt_of_cell? w _ hw267_12)).trans hw267_12), ((HB.out.cell (World.block_lt_of_cell? w _ hw267_13)).trans hw267_13), ((HB.out.cell (World.block_lt_of_cell? w _ hw267_14)).trans hw267_14), ((HB.out.cell (World.block_lt_of_cell? w _ hw267_15)).trans hw267_15), ((HB.out.cell (World.block_lt_of_cell? w _ hw268_0)).trans hw268_0), ((HB.out.cell (World.block_lt_of_cell? w _ hw268_1)).trans hw268_1), ((HB.out.cell (World.block_lt_of_cell? w _ hw268_2)).trans hw268_2), ((HB.out.cell (World.block_lt_of_cell? w _ hw268_3)).trans hw268_3), ((HB.out.cell (World.block_lt_of_cell? w _ hw268_4)).trans hw268_4), ((HB.out.cell (World.block_lt_of_cell? w _ hw268_5)).trans hw268_5), ((HB.out.cell (World.block_lt_of_cell? w _ hw268_6)).trans hw268_6), ((HB.out.cell (World.block_lt_of_cell? w _ hw268_7)).trans hw268_7), ((HB.out.cell (World.block_lt_of_cell? w _ hw268_8)).trans hw268_8), ((HB.out.cell (World.block_lt_of_cell? w _ hw268_9)).trans hw268_9), ((HB.out.cell (World.block_lt_of_cell? w _ hw268_10)).trans hw268_10), ((HB.out.cell (World.block_lt_of_cell? w _ hw268_11)).trans hw268_11), ((HB.out.cell (World.block_lt_of_cell? w _ hw268_12)).trans hw268_12), ((HB.out.cell (World.block_lt_of_cell? w _ hw268_13)).trans hw268_13), ((HB.out.cell (World.block_lt_of_cell? w _ hw268_14)).trans hw268_14), ((HB.out.cell (World.block_lt_of_cell? w _ hw268_15)).trans hw268_15)⟩ (fun hHeld => ?_)
        clear hK K
        refine norm_ (a' := ?_) ?_ ?_
        rotate_left
        ·show Act.put _ (some 25) _ = _
         simp only [Act.put, List.setIfInBounds_toArray, List.set_cons_zero, List.set_cons_succ, i64_w, i32_w]
         rfl
        refine pure_ (i := 9) (N := some 26) (v := ?_) (a' := ?_) #[true, true, true, true, true, true, true, true, true, true] rfl rfl (any_of HT_.out (by kernel_rfl)) (fun _ _ _ h => h) (Or.inl ⟨by rfl, ?_⟩) ?_ ?_
        rotate_left
        ·intro w'
         go_simp
         with_reducible rfl
        rotate_left
        ·simp only [Act.put, List.setIfInBounds_toArray, List.set_cons_zero, List.set_cons_succ, i64_w, i32_w]
         rfl
        refine done_ (done_of HT_.out (by kernel_rfl)) ?_
        try go_wp2
        go_roundg k1
        case measure => have := HK1.out; omega
        case rel => exact ⟨(wrap64 (x5_1 + 1)), (by first | rfl | (simp; done) | (simp; decide +kernel) | (simp [*]; done)), H', ⟨by have := HK1.out; omega⟩, ⟨by repeat (first | (with_reducible first | exact HB.out | apply below_alloc | apply pw_below_drewN | apply below_drew1) | exact HB.out)⟩⟩
       ·replace c8 := Bool.eq_false_iff.mpr c8
        subst c8
        have H1 : (some false) = some r := by rw [if_neg (show ¬ (false = true) by decide)] at H; exact H
        clear H
        have H := H1
        clear H1
        obtain rfl := Option.some.inj H
        try go_wp2
        have n0_ := Aside0.mk (below_drew1 HB.out)
        clear HB
        have HB := n0_
        clear n0_
        have p267 : 0 ≤ (x5_1 : Int) := of_decide_eq_true (by first | (with_reducible assumption) | assumption)
        have q267 : x5_1 < (l0.length : Int) := of_decide_eq_true (by first | (with_reducible assumption) | assumption)
        obtain ⟨ad267, e267, hx267_0, hx267_1, hx267_2, hx267_3, hx267_4, hx267_5, hx267_6, hx267_7, hx267_8, hx267_9, hx267_10, hx267_11, hx267_12, hx267_13, hx267_14, hx267_15⟩ := at_T60 HR0.out x5_1 p267 q267
        have hw267_15 := hx267_15
        have hw267_14 := hx267_14
        have hw267_13 := hx267_13
        have hw267_12 := hx267_12
        have hw267_11 := hx267_11
        have hw267_10 := hx267_10
        have hw267_9 := hx267_9
        have hw267_8 := hx267_8
        have hw267_7 := hx267_7
        have hw267_6 := hx267_6
        have hw267_5 := hx267_5
        have hw267_4 := hx267_4
        have hw267_3 := hx267_3
        have hw267_2 := hx267_2
        have hw267_1 := hx267_1
        have hw267_0 := hx267_0
        cases e267
        replace hx267_0 := (HB.out.cell (World.block_lt_of_cell? w _ hx267_0)).trans hx267_0
        replace hx267_1 := (HB.out.cell (World.block_lt_of_cell? w _ hx267_1)).trans hx267_1
        replace hx267_2 := (HB.out.cell (World.block_lt_of_cell? w _ hx267_2)).trans hx267_2
        replace hx267_3 := (HB.out.cell (World.block_lt_of_cell? w _ hx267_3)).trans hx267_3
        replace hx267_4 := (HB.out.cell (World.block_lt_of_cell? w _ hx267_4)).trans hx267_4
        replace hx267_5 := (HB.out.cell (World.block_lt_of_cell? w _ hx267_5)).trans hx267_5
        replace hx267_6 := (HB.out.cell (World.block_lt_of_cell? w _ hx267_6)).trans hx267_6
        replace hx267_7 := (HB.out.cell (World.block_lt_of_cell? w _ hx267_7)).trans hx267_7
        replace hx267_8 := (HB.out.cell (World.block_lt_of_cell? w _ hx267_8)).trans hx267_8
        replace hx267_9 := (HB.out.cell (World.block_lt_of_cell? w _ hx267_9)).trans hx267_9
        replace hx267_10 := (HB.out.cell (World.block_lt_of_cell? w _ hx267_10)).trans hx267_10
        replace hx267_11 := (HB.out.cell (World.block_lt_of_cell? w _ hx267_11)).trans hx267_11
        replace hx267_12 := (HB.out.cell (World.block_lt_of_cell? w _ hx267_12)).trans hx267_12
        replace hx267_13 := (HB.out.cell (World.block_lt_of_cell? w _ hx267_13)).trans hx267_13
        replace hx267_14 := (HB.out.cell (World.block_lt_of_cell? w _ hx267_14)).trans hx267_14
        replace hx267_15 := (HB.out.cell (World.block_lt_of_cell? w _ hx267_15)).trans hx267_15
        replace p267 := eq_true p267
        replace q267 := eq_true q267
        have p268 : 0 ≤ (x5_1 : Int) := of_decide_eq_true (by first | (with_reducible assumption) | assumption)
        have q268 : x5_1 < (l1.length : Int) := of_decide_eq_true (by first | (with_reducible assumption) | assumption)
        obtain ⟨ad268, e268, hx268_0, hx268_1, hx268_2, hx268_3, hx268_4, hx268_5, hx268_6, hx268_7, hx268_8, hx268_9, hx268_10, hx268_11, hx268_12, hx268_13, hx268_14, hx268_15⟩ := at_T60 HR1.out x5_1 p268 q268
        have hw268_15 := hx268_15
        have hw268_14 := hx268_14
        have hw268_13 := hx268_13
        have hw268_12 := hx268_12
        have hw268_11 := hx268_11
        have hw268_10 := hx268_10
        have hw268_9 := hx268_9
        have hw268_8 := hx268_8
        have hw268_7 := hx268_7
        have hw268_6 := hx268_6
        have hw268_5 := hx268_5
        have hw268_4 := hx268_4
        have hw268_3 := hx268_3
        have hw268_2 := hx268_2
        have hw268_1 := hx268_1
        have hw268_0 := hx268_0
        cases e268
        replace hx268_0 := (HB.out.cell (World.block_lt_of_cell? w _ hx268_0)).trans hx268_0
        replace hx268_1 := (HB.out.cell (World.block_lt_of_cell? w _ hx268_1)).trans hx268_1
        replace hx268_2 := (HB.out.cell (World.block_lt_of_cell? w _ hx268_2)).trans hx268_2
        replace hx268_3 := (HB.out.cell (World.block_lt_of_cell? w _ hx268_3)).trans hx268_3
        replace hx268_4 := (HB.out.cell (World.block_lt_of_cell? w _ hx268_4)).trans hx268_4
        replace hx268_5 := (HB.out.cell (World.block_lt_of_cell? w _ hx268_5)).trans hx268_5
        replace hx268_6 := (HB.out.cell (World.block_lt_of_cell? w _ hx268_6)).trans hx268_6
        replace hx268_7 := (HB.out.cell (World.block_lt_of_cell? w _ hx268_7)).trans hx268_7
        replace hx268_8 := (HB.out.cell (World.block_lt_of_cell? w _ hx268_8)).trans hx268_8
        replace hx268_9 := (HB.out.cell (World.block_lt_of_cell? w _ hx268_9)).trans hx268_9
        replace hx268_10 := (HB.out.cell (World.block_lt_of_cell? w _ hx268_10)).trans hx268_10
        replace hx268_11 := (HB.out.cell (World.block_lt_of_cell? w _ hx268_11)).trans hx268_11
        replace hx268_12 := (HB.out.cell (World.block_lt_of_cell? w _ hx268_12)).trans hx268_12
        replace hx268_13 := (HB.out.cell (World.block_lt_of_cell? w _ hx268_13)).trans hx268_13
        replace hx268_14 := (HB.out.cell (World.block_lt_of_cell? w _ hx268_14)).trans hx268_14
        replace hx268_15 := (HB.out.cell (World.block_lt_of_cell? w _ hx268_15)).trans hx268_15
        replace p268 := eq_true p268
        replace q268 := eq_true q268
        refine start_ (n := 10) (S := fun w' => w'.cell? (ad267.add ((x5_1).toNat * 16)) = some (.int .i64 ((rd_T60 l0 x5_1).f0)) ∧ w'.cell? ⟨(ad267.add ((x5_1).toNat * 16)).block, (ad267.add ((x5_1).toNat * 16)).off + 1, none⟩ = some (.int .i64 ((rd_T60 l0 x5_1).f1.f0)) ∧ w'.cell? ⟨(ad267.add ((x5_1).toNat * 16)).block, (ad267.add ((x5_1).toNat * 16)).off + 2, none⟩ = some (.int .i64 ((rd_T60 l0 x5_1).f1.f1)) ∧ w'.cell? ⟨(ad267.add ((x5_1).toNat * 16)).block, (ad267.add ((x5_1).toNat * 16)).off + 3, none⟩ = some (.int .i64 ((rd_T60 l0 x5_1).f1.f2)) ∧ w'.cell? ⟨(ad267.add ((x5_1).toNat * 16)).block, (ad267.add ((x5_1).toNat * 16)).off + 4, none⟩ = some (.int .i64 ((rd_T60 l0 x5_1).f1.f3)) ∧ w'.cell? ⟨(ad267.add ((x5_1).toNat * 16)).block, (ad267.add ((x5_1).toNat * 16)).off + 5, none⟩ = some (.int .i64 ((rd_T60 l0 x5_1).f1.f4)) ∧ w'.cell? ⟨(ad267.add ((x5_1).toNat * 16)).block, (ad267.add ((x5_1).toNat * 16)).off + 6, none⟩ = some (.int .i64 ((rd_T60 l0 x5_1).f2.f0)) ∧ w'.cell? ⟨(ad267.add ((x5_1).toNat * 16)).block, (ad267.add ((x5_1).toNat * 16)).off + 7, none⟩ = some (.int .i64 ((rd_T60 l0 x5_1).f2.f1)) ∧ w'.cell? ⟨(ad267.add ((x5_1).toNat * 16)).block, (ad267.add ((x5_1).toNat * 16)).off + 8, none⟩ = some (.int .i64 ((rd_T60 l0 x5_1).f2.f2)) ∧ w'.cell? ⟨(ad267.add ((x5_1).toNat * 16)).block, (ad267.add ((x5_1).toNat * 16)).off + 9, none⟩ = some (.int .i64 ((rd_T60 l0 x5_1).f3.f0)) ∧ w'.cell? ⟨(ad267.add ((x5_1).toNat * 16)).block, (ad267.add ((x5_1).toNat * 16)).off + 10, none⟩ = some (.int .i64 ((rd_T60 l0 x5_1).f3.f1)) ∧ w'.cell? ⟨(ad267.add ((x5_1).toNat * 16)).block, (ad267.add ((x5_1).toNat * 16)).off + 11, none⟩ = some (.int .i64 ((rd_T60 l0 x5_1).f3.f2)) ∧ w'.cell? ⟨(ad267.add ((x5_1).toNat * 16)).block, (ad267.add ((x5_1).toNat * 16)).off + 12, none⟩ = some (.int .i64 ((rd_T60 l0 x5_1).f3.f3)) ∧ w'.cell? ⟨(ad267.add ((x5_1).toNat * 16)).block, (ad267.add ((x5_1).toNat * 16)).off + 13, none⟩ = some (.int .i64 ((rd_T60 l0 x5_1).f3.f4)) ∧ w'.cell? ⟨(ad267.add ((x5_1).toNat * 16)).block, (ad267.add ((x5_1).toNat * 16)).off + 14, none⟩ = some (.int .i64 ((rd_T60 l0 x5_1).f3.f5)) ∧ w'.cell? ⟨(ad267.add ((x5_1).toNat * 16)).block, (ad267.add ((x5_1).toNat * 16)).off + 15, none⟩ = some (.int .i64 ((rd_T60 l0 x5_1).f3.f6)) ∧ w'.cell? (ad268.add ((x5_1).toNat * 16)) = some (.int .i64 ((rd_T60 l1 x5_1).f0)) ∧ w'.cell? ⟨(ad268.add ((x5_1).toNat * 16)).block, (ad268.add ((x5_1).toNat * 16)).off + 1, none⟩ = some (.int .i64 ((rd_T60 l1 x5_1).f1.f0)) ∧ w'.cell? ⟨(ad268.add ((x5_1).toNat * 16)).block, (ad268.add ((x5_1).toNat * 16)).off + 2, none⟩ = some (.int .i64 ((rd_T60 l1 x5_1).f1.f1)) ∧ w'.cell? ⟨(ad268.add ((x5_1).toNat * 16)).block, (ad268.add ((x5_1).toNat * 16)).off + 3, none⟩ = some (.int .i64 ((rd_T60 l1 x5_1).f1.f2)) ∧ w'.cell? ⟨(ad268.add ((x5_1).toNat * 16)).block, (ad268.add ((x5_1).toNat * 16)).off + 4, none⟩ = some (.int .i64 ((rd_T60 l1 x5_1).f1.f3)) ∧ w'.cell? ⟨(ad268.add ((x5_1).toNat * 16)).block, (ad268.add ((x5_1).toNat * 16)).off + 5, none⟩ = some (.int .i64 ((rd_T60 l1 x5_1).f1.f4)) ∧ w'.cell? ⟨(ad268.add ((x5_1).toNat * 16)).block, (ad268.add ((x5_1).toNat * 16)).off + 6, none⟩ = some (.int .i64 ((rd_T60 l1 x5_1).f2.f0)) ∧ w'.cell? ⟨(ad268.add ((x5_1).toNat * 16)).block, (ad268.add ((x5_1).toNat * 16)).off + 7, none⟩ = some (.int .i64 ((rd_T60 l1 x5_1).f2.f1)) ∧ w'.cell? ⟨(ad268.add ((x5_1).toNat * 16)).block, (ad268.add ((x5_1).toNat * 16)).off + 8, none⟩ = some (.int .i64 ((rd_T60 l1 x5_1).f2.f2)) ∧ w'.cell? ⟨(ad268.add ((x5_1).toNat * 16)).block, (ad268.add ((x5_1).toNat * 16)).off + 9, none⟩ = some (.int .i64 ((rd_T60 l1 x5_1).f3.f0)) ∧ w'.cell? ⟨(ad268.add ((x5_1).toNat * 16)).block, (ad268.add ((x5_1).toNat * 16)).off + 10, none⟩ = some (.int .i64 ((rd_T60 l1 x5_1).f3.f1)) ∧ w'.cell? ⟨(ad268.add ((x5_1).toNat * 16)).block, (ad268.add ((x5_1).toNat * 16)).off + 11, none⟩ = some (.int .i64 ((rd_T60 l1 x5_1).f3.f2)) ∧ w'.cell? ⟨(ad268.add ((x5_1).toNat * 16)).block, (ad268.add ((x5_1).toNat * 16)).off + 12, none⟩ = some (.int .i64 ((rd_T60 l1 x5_1).f3.f3)) ∧ w'.cell? ⟨(ad268.add ((x5_1).toNat * 16)).block, (ad268.add ((x5_1).toNat * 16)).off + 13, none⟩ = some (.int .i64 ((rd_T60 l1 x5_1).f3.f4)) ∧ w'.cell? ⟨(ad268.add ((x5_1).toNat * 16)).block, (ad268.add ((x5_1).toNat * 16)).off + 14, none⟩ = some (.int .i64 ((rd_T60 l1 x5_1).f3.f5)) ∧ w'.cell? ⟨(ad268.add ((x5_1).toNat * 16)).block, (ad268.add ((x5_1).toNat * 16)).off + 15, none⟩ = some (.int .i64 ((rd_T60 l1 x5_1).f3.f6))) (ds := []) #[false, false, false, false, false, false, false, false, false, false] (by kernel_rfl) rfl rfl ⟨((HB.out.cell (World.block_lt_of_cell? w _ hw267_0)).trans hw267_0), ((HB.out.cell (World.block_lt_of_cell? w _ hw267_1)).trans hw267_1), ((HB.out.cell (World.block_lt_of_cell? w _ hw267_2)).trans hw267_2), ((HB.out.cell (World.block_lt_of_cell? w _ hw267_3)).trans hw267_3), ((HB.out.cell (World.block_lt_of_cell? w _ hw267_4)).trans hw267_4), ((HB.out.cell (World.block_lt_of_cell? w _ hw267_5)).trans hw267_5), ((HB.out.cell (World.block_lt_of_cell? w _ hw267_6)).trans hw267_6), ((HB.out.cell (World.block_lt_of_cell? w _ hw267_7)).trans hw267_7), ((HB.out.cell (World.block_lt_of_cell? w _ hw267_8)).trans hw267_8), ((HB.out.cell (World.block_lt_of_cell? w _ hw267_9)).trans hw267_9), ((HB.out.cell (World.block_lt_of_cell? w _ hw267_10)).trans hw267_10), ((HB.out.cell (World.block_lt_of_cell? w _ hw267_11)).trans hw267_11), ((HB.out.cell (World.block_lt_of_cell? w _ hw267_12)).trans hw267_12), ((HB.out.cell (World.block_lt_of_cell? w _ hw267_13)).trans hw267_13), ((HB.out.cell (World.block_lt_of_cell? w _ hw267_14)).trans hw267_14), ((HB.out.cell (World.block_lt_of_cell? w _ hw267_15)).trans hw267_15), ((HB.out.cell (World.block_lt_of_cell? w _ hw268_0)).trans hw268_0), ((HB.out.cell (World.block_lt_of_cell? w _ hw268_1)).trans hw268_1), ((HB.out.cell (World.block_lt_of_cell? w _ hw268_2)).trans hw268_2), ((HB.out.cell (World.block_lt_of_cell? w _ hw268_3)).trans hw268_3), ((HB.out.cell (World.block_lt_of_cell? w _ hw268_4)).trans hw268_4), ((HB.out.cell (World.block_lt_of_cell? w _ hw268_5)).trans hw268_5), ((HB.out.cell (World.block_lt_of_cell? w _ hw268_6)).trans hw268_6), ((HB.out.cell (World.block_lt_of_cell? w _ hw268_7)).trans hw268_7), ((HB.out.cell (World.block_lt_of_cell? w _ hw268_8)).trans hw268_8), ((HB.out.cell (World.block_lt_of_cell? w _ hw268_9)).trans hw268_9), ((HB.out.cell (World.block_lt_of_cell? w _ hw268_10)).trans hw268_10), ((HB.out.cell (World.block_lt_of_cell? w _ hw268_11)).trans hw268_11), ((HB.out.cell (World.block_lt_of_cell? w _ hw268_12)).trans hw268_12), ((HB.out.cell (World.block_lt_of_cell? w _ hw268_13)).trans hw268_13), ((HB.out.cell (World.block_lt_of_cell? w _ hw268_14)).trans hw268_14), ((HB.out.cell (World.block_lt_of_cell? w _ hw268_15)).trans hw268_15)⟩ (fun hHeld => ?_); refine with_tabW laws_eqStepS.tab6 laws_eqStepS.bits6 (fun HT_ HW_ => ?_)
        generalize wr.drew = w11 at HB hx267_0 hx267_1 hx267_10 hx267_11 hx267_12 hx267_13 hx267_14 hx267_15 hx267_2 hx267_3 hx267_4 hx267_5 hx267_6 hx267_7 hx267_8 hx267_9 hx268_0 hx268_1 hx268_10 hx268_11 hx268_12 hx268_13 hx268_14 hx268_15 hx268_2 hx268_3 hx268_4 hx268_5 hx268_6 hx268_7 hx268_8 hx268_9 hHeld ⊢
        refine pure_ (i := 0) (N := some 17) (v := ?_) (a' := ?_) #[true, false, false, false, false, false, false, false, false, false] rfl rfl (any_of HT_.out (by kernel_rfl)) (fun _ _ _ h => h) (Or.inl ⟨by rfl, ?_⟩) ?_ ?_
        rotate_left
        ·intro w'
         go_simp
         with_reducible rfl
        rotate_left
        ·simp only [Act.put, List.setIfInBounds_toArray, List.set_cons_zero, List.set_cons_succ, i64_w, i32_w]
         rfl
        refine pure_ (i := 1) (N := some 18) (v := ?_) (a' := ?_) #[true, true, false, false, false, false, false, false, false, false] rfl rfl (any_of HT_.out (by kernel_rfl)) (fun _ _ _ h => h) (Or.inl ⟨by rfl, ?_⟩) ?_ ?_
        rotate_left
        ·intro w'
         go_simp
         with_reducible rfl
        rotate_left
        ·simp only [Act.put, List.setIfInBounds_toArray, List.set_cons_zero, List.set_cons_succ, i64_w, i32_w]
         rfl
        refine pure_ (i := 2) (N := some 19) (v := ?_) (a' := ?_) #[true, true, true, false, false, false, false, false, false, false] rfl rfl (any_of HT_.out (by kernel_rfl)) (fun _ _ _ h => h) (Or.inl ⟨by rfl, ?_⟩) ?_ ?_
        rotate_left
        ·intro w'
         go_simp
         with_reducible rfl
        rotate_left
        ·simp only [Act.put, List.setIfInBounds_toArray, List.set_cons_zero, List.set_cons_succ, i64_w, i32_w]
         rfl
        refine pure_ (i := 4) (N := some 21) (v := ?_) (a' := ?_) #[true, true, true, false, true, false, false, false, false, false] rfl rfl (any_of HT_.out (by kernel_rfl)) (fun _ _ _ h => h) (Or.inl ⟨by rfl, ?_⟩) ?_ ?_
        rotate_left
        ·intro w'
         go_simp
         with_reducible rfl
        rotate_left
        ·simp only [Act.put, List.setIfInBounds_toArray, List.set_cons_zero, List.set_cons_succ, i64_w, i32_w]
         rfl
        refine pure_ (i := 5) (N := some 22) (v := ?_) (a' := ?_) #[true, true, true, false, true, true, false, false, false, false] rfl rfl (any_of HT_.out (by kernel_rfl)) (fun _ _ _ h => h) (Or.inl ⟨by rfl, ?_⟩) ?_ ?_
        rotate_left
        ·intro w'
         go_simp
         with_reducible rfl
        rotate_left
        ·simp only [Act.put, List.setIfInBounds_toArray, List.set_cons_zero, List.set_cons_succ, i64_w, i32_w]
         rfl
        refine pure_ (i := 6) (N := some 23) (v := ?_) (a' := ?_) #[true, true, true, false, true, true, true, false, false, false] rfl rfl (any_of HT_.out (by kernel_rfl)) (fun _ _ _ h => h) (Or.inl ⟨by rfl, ?_⟩) ?_ ?_
        rotate_left
        ·intro w'
         go_simp
         with_reducible rfl
        rotate_left
        ·simp only [Act.put, List.setIfInBounds_toArray, List.set_cons_zero, List.set_cons_succ, i64_w, i32_w]
         rfl
        refine take_ (i := 3) (N := some 20) (v := ?_) (a' := ?_) #[true, true, true, true, true, true, true, false, false, false] rfl rfl (take_ofW HT_.out HW_.out (by kernel_rfl)) (fun _ _ _ h => h) (Or.inl ⟨by rfl, ?_⟩) hHeld ?_ ?_
        rotate_left
        ·rintro w' ⟨s0, s1, s2, s3, s4, s5, s6, s7, s8, s9, s10, s11, s12, s13, s14, s15, s16, s17, s18, s19, s20, s21, s22, s23, s24, s25, s26, s27, s28, s29, s30, s31⟩
         go_simp
         with_reducible rfl
        rotate_left
        ·simp only [Act.put, List.setIfInBounds_toArray, List.set_cons_zero, List.set_cons_succ, i64_w, i32_w]
         rfl
        refine take_ (i := 7) (N := some 24) (v := ?_) (a' := ?_) #[true, true, true, true, true, true, true, true, false, false] rfl rfl (take_ofW HT_.out HW_.out (by kernel_rfl)) (fun _ _ _ h => h) (Or.inl ⟨by rfl, ?_⟩) hHeld ?_ ?_
        rotate_left
        ·rintro w' ⟨s0, s1, s2, s3, s4, s5, s6, s7, s8, s9, s10, s11, s12, s13, s14, s15, s16, s17, s18, s19, s20, s21, s22, s23, s24, s25, s26, s27, s28, s29, s30, s31⟩
         go_simp
         with_reducible rfl
        rotate_left
        ·simp only [Act.put, List.setIfInBounds_toArray, List.set_cons_zero, List.set_cons_succ, i64_w, i32_w]
         rfl
        refine one_ (i := 8) (N := some 25) #[true, true, true, true, true, true, true, true, true, false] rfl rfl (one_of HT_.out (by kernel_rfl)) (by decide) (fun K hK => ?_)
        refine goes_ Try.func82 (by kernel_rfl) rfl #[.agg #[.int .i64 ((rd_T60 l0 x5_1).f0), .int .i64 ((rd_T60 l0 x5_1).f1.f0), .int .i64 ((rd_T60 l0 x5_1).f1.f1), .int .i64 ((rd_T60 l0 x5_1).f1.f2), .int .i64 ((rd_T60 l0 x5_1).f1.f3), .int .i64 ((rd_T60 l0 x5_1).f1.f4), .int .i64 ((rd_T60 l0 x5_1).f2.f0), .int .i64 ((rd_T60 l0 x5_1).f2.f1), .int .i64 ((rd_T60 l0 x5_1).f2.f2), .int .i64 ((rd_T60 l0 x5_1).f3.f0), .int .i64 ((rd_T60 l0 x5_1).f3.f1), .int .i64 ((rd_T60 l0 x5_1).f3.f2), .int .i64 ((rd_T60 l0 x5_1).f3.f3), .int .i64 ((rd_T60 l0 x5_1).f3.f4), .int .i64 ((rd_T60 l0 x5_1).f3.f5), .int .i64 ((rd_T60 l0 x5_1).f3.f6)], .agg #[.int .i64 ((rd_T60 l1 x5_1).f0), .int .i64 ((rd_T60 l1 x5_1).f1.f0), .int .i64 ((rd_T60 l1 x5_1).f1.f1), .int .i64 ((rd_T60 l1 x5_1).f1.f2), .int .i64 ((rd_T60 l1 x5_1).f1.f3), .int .i64 ((rd_T60 l1 x5_1).f1.f4), .int .i64 ((rd_T60 l1 x5_1).f2.f0), .int .i64 ((rd_T60 l1 x5_1).f2.f1), .int .i64 ((rd_T60 l1 x5_1).f2.f2), .int .i64 ((rd_T60 l1 x5_1).f3.f0), .int .i64 ((rd_T60 l1 x5_1).f3.f1), .int .i64 ((rd_T60 l1 x5_1).f3.f2), .int .i64 ((rd_T60 l1 x5_1).f3.f3), .int .i64 ((rd_T60 l1 x5_1).f3.f4), .int .i64 ((rd_T60 l1 x5_1).f3.f5), .int .i64 ((rd_T60 l1 x5_1).f3.f6)]] (by rfl) rfl rfl (by (try simp only [List.map_toArray, List.map_cons, List.map_nil]); first | done | rfl | (simp only [List.length_drop, List.length_take]; rfl)) ?_
        with_reducible refine (laws_eqStep.calls ((rd_T60 l0 x5_1).f0) ((rd_T60 l0 x5_1).f1.f0) ((rd_T60 l0 x5_1).f1.f1) ((rd_T60 l0 x5_1).f1.f2) ((rd_T60 l0 x5_1).f1.f3) ((rd_T60 l0 x5_1).f1.f4) ((rd_T60 l0 x5_1).f2.f0) ((rd_T60 l0 x5_1).f2.f1) ((rd_T60 l0 x5_1).f2.f2) ((rd_T60 l0 x5_1).f3.f0) ((rd_T60 l0 x5_1).f3.f1) ((rd_T60 l0 x5_1).f3.f2) ((rd_T60 l0 x5_1).f3.f3) ((rd_T60 l0 x5_1).f3.f4) ((rd_T60 l0 x5_1).f3.f5) ((rd_T60 l0 x5_1).f3.f6) ((rd_T60 l1 x5_1).f0) ((rd_T60 l1 x5_1).f1.f0) ((rd_T60 l1 x5_1).f1.f1) ((rd_T60 l1 x5_1).f1.f2) ((rd_T60 l1 x5_1).f1.f3) ((rd_T60 l1 x5_1).f1.f4) ((rd_T60 l1 x5_1).f2.f0) ((rd_T60 l1 x5_1).f2.f1) ((rd_T60 l1 x5_1).f2.f2) ((rd_T60 l1 x5_1).f3.f0) ((rd_T60 l1 x5_1).f3.f1) ((rd_T60 l1 x5_1).f3.f2) ((rd_T60 l1 x5_1).f3.f3) ((rd_T60 l1 x5_1).f3.f4) ((rd_T60 l1 x5_1).f3.f5) ((rd_T60 l1 x5_1).f3.f6) false _ A7.out).mono ?_
        rintro e w12 ⟨rfl, hb⟩
        refine ⟨_, rfl, ?_⟩
        have n0_ := Aside0.mk (below_step (by repeat (first | (with_reducible first | exact HB.out | apply below_alloc | apply pw_below_drewN | apply below_drew1) | exact HB.out)) hb)
        clear HB
        have HB := n0_
        clear n0_
        (try clear hb)
        (try clear hb2)
        (try clear hk)
        (try clear hi)
        refine hK.out _ _ ⟨((HB.out.cell (World.block_lt_of_cell? w _ hw267_0)).trans hw267_0), ((HB.out.cell (World.block_lt_of_cell? w _ hw267_1)).trans hw267_1), ((HB.out.cell (World.block_lt_of_cell? w _ hw267_2)).trans hw267_2), ((HB.out.cell (World.block_lt_of_cell? w _ hw267_3)).trans hw267_3), ((HB.out.cell (World.block_lt_of_cell? w _ hw267_4)).trans hw267_4), ((HB.out.cell (World.block_lt_of_cell? w _ hw267_5)).trans hw267_5), ((HB.out.cell (World.block_lt_of_cell? w _ hw267_6)).trans hw267_6), ((HB.out.cell (World.block_lt_of_cell? w _ hw267_7)).trans hw267_7), ((HB.out.cell (World.block_lt_of_cell? w _ hw267_8)).trans hw267_8), ((HB.out.cell (World.block_lt_of_cell? w _ hw267_9)).trans hw267_9), ((HB.out.cell (World.block_lt_of_cell? w _ hw267_10)).trans hw267_10), ((HB.out.cell (World.block_lt_of_cell? w _ hw267_11)).trans hw267_11), ((HB.out.cell (World.block_lt_of_cell? w _ hw267_12)).trans hw267_12), ((HB.out.cell (World.block_lt_of_cell? w _ hw267_13)).trans hw267_13), ((HB.out.cell (World.block_lt_of_cell? w _ hw267_14)).trans hw267_14), ((HB.out.cell (World.block_lt_of_cell? w _ hw267_15)).trans hw267_15), ((HB.out.cell (World.block_lt_of_cell? w _ hw268_0)).trans hw268_0), ((HB.out.cell (World.block_lt_of_cell? w _ hw268_1)).trans hw268_1), ((HB.out.cell (World.block_lt_of_cell? w _ hw268_2)).trans hw268_2), ((HB.out.cell (World.block_lt_of_cell? w _ hw268_3)).trans hw268_3), ((HB.out.cell (World.block_lt_of_cell? w _ hw268_4)).trans hw268_4), ((HB.out.cell (World.block_lt_of_cell? w _ hw268_5)).trans hw268_5), ((HB.out.cell (World.block_lt_of_cell? w _ hw268_6)).trans hw268_6), ((HB.out.cell (World.block_lt_of_cell? w _ hw268_7)).trans hw268_7), ((HB.out.cell (World.block_lt_of_cell? w _ hw268_8)).trans hw268_8), ((HB.out.cell (World.block_lt_of_cell? w _ hw268_9)).trans hw268_9), ((HB.out.cell (World.block_lt_of_cell? w _ hw268_10)).trans hw268_10), ((HB.out.cell (World.block_lt_of_cell? w _ hw268_11)).trans hw268_11), ((HB.out.cell (World.block_lt_of_cell? w _ hw268_12)).trans hw268_12), ((HB.out.cell (World.block_lt_of_cell? w _ hw268_13)).trans hw268_13), ((HB.out.cell (World.block_lt_of_cell? w _ hw268_14)).trans hw268_14), ((HB.out.cell (World.block_lt_of_cell? w _ hw268_15)).trans hw268_15)⟩ (fun hHeld => ?_)
        clear hK K
        refine norm_ (a' := ?_) ?_ ?_
        rotate_left
        ·show Act.put _ (some 25) _ = _
         simp only [Act.put, List.setIfInBounds_toArray, List.set_cons_zero, List.set_cons_succ, i64_w, i32_w]
         rfl
        refine pure_ (i := 9) (N := some 26) (v := ?_) (a' := ?_) #[true, true, true, true, true, true, true, true, true, true] rfl rfl (any_of HT_.out (by kernel_rfl)) (fun _ _ _ h => h) (Or.inl ⟨by rfl, ?_⟩) ?_ ?_
        rotate_left
        ·intro w'
         go_simp
         with_reducible rfl
        rotate_left
        ·simp only [Act.put, List.setIfInBounds_toArray, List.set_cons_zero, List.set_cons_succ, i64_w, i32_w]
         rfl
        refine done_ (done_of HT_.out (by kernel_rfl)) ?_
        try go_wp2
        go_ret
        exact ⟨by first | rfl | (simp <;> rfl) | (simp; decide +kernel) | (simp [*] <;> rfl), by repeat (first | (with_reducible first | exact HB.out | apply below_alloc | apply pw_below_drewN | apply below_drew1) | exact HB.out)⟩
      ·rw [if_neg c6] at H
       exact absurd H (by simp)
     ·rw [if_neg c5] at H
      exact absurd H (by simp)
    ·rw [if_neg c4] at H
     have c4b0 : decide (x5_1 < (l0.length : Int)) = false := decide_eq_false c4
     clear c4
     obtain rfl := Option.some.inj H
     go_wp2
     go_ret
     exact ⟨by first | rfl | (simp <;> rfl) | (simp; decide +kernel) | (simp [*] <;> rfl), by repeat (first | (with_reducible first | exact HB.out | apply below_alloc | apply pw_below_drewN | apply below_drew1) | exact HB.out)⟩
 ·rw [if_neg c3] at H
  have c3b0 : ((l0.length : Int) == (l1.length : Int)) = false := beq_eq_false_iff_ne.mpr c3
  have c3b1 : ((l0.length : Int) != (l1.length : Int)) = true := bne_iff_ne.mpr c3
  have c3b2 : (l0.length == l1.length) = false := by first | simpa using c3 | (simp at c3 ⊢; omega)
  obtain rfl := Option.some.inj H
  go_enter Try.func44, Try.ntmps44
  go_wp2
  go_ret
  exact ⟨by first | rfl | (simp <;> rfl) | (simp; decide +kernel) | (simp [*] <;> rfl), by repeat (first | (with_reducible first | exact HB.out | apply below_alloc | apply pw_below_drewN | apply below_drew1) | exact HB.out)⟩

/-! ### laws_FnExactValidPipeline: function 11 -/
def laws_FnExactValidPipeline.f (k : Nat) (l0 : List (S56)) : Option (Bool) := (laws_szStepS.f l0 1048576).bind fun t270 => (if t270 < 0 then (some true) else ((laws_toStepS.f k l0).bind fun t271 => ((spec_ValidPipeline.f k t271).bind fun t274 => ((laws_toStepS.f k l0).bind fun t275 => ((impl_ValidPipeline.f k t275).bind fun t278 => (if (t278 != t274) = true then (some false) else ((laws_toStepS.f k l0).bind fun t279 => ((laws_eqStepS.f k t275 t279).bind fun t282 => (if t282 = true then (some true) else (some false))))))))))
theorem laws_FnExactValidPipeline.mono : ∀ a0 k, LeO (laws_FnExactValidPipeline.f k a0) (laws_FnExactValidPipeline.f (k + 1) a0) := by
 intro a0 k
 unfold laws_FnExactValidPipeline.f
 repeat' first
   | (with_reducible exact impl_ValidPipeline.mono _ _)
   | (with_reducible exact laws_eqStepS.mono _ _ _)
   | (with_reducible exact laws_toStepS.mono _ _)
   | (with_reducible exact spec_ValidPipeline.mono _ _)
   | (with_reducible exact LeO.refl _)
   | (with_reducible exact LeO.none _)
   | (with_reducible refine LeO.ite ?_ ?_)
   | (with_reducible refine LeO.bind ?_ (fun _ => ?_))
   | exact impl_ValidPipeline.mono _ _
   | exact laws_eqStepS.mono _ _ _
   | exact laws_toStepS.mono _ _
   | exact spec_ValidPipeline.mono _ _
   | exact LeO.none _
   | refine LeO.ite ?_ ?_
   | refine LeO.bind ?_ (fun _ => ?_)
set_option maxHeartbeats 8000000 in
set_option maxRecDepth 100000 in
theorem laws_FnExactValidPipeline.calls (k : Nat) (A0 : Option Addr) (c0 : Nat) (l0 : List (S56)) (w : World) (hr0 : Kd.C k56 w A0 l0.length l0) (hc0 : l0.length ≤ c0) (h : laws_FnExactValidPipeline.f k l0 = some true) :
  Calls Try.prog 11 #[.slice A0 l0.length c0] w fun e w' => e = .returned (.bool true) ∧ Below w.heap.size w w' := by
 have HR0 := Aside0.mk hr0
 have HC0 := Aside0.mk hc0
 clear hr0 hc0
 have HB := Aside0.mk (Below.refl w.heap.size w)
 have H : ((laws_szStepS.f l0 1048576).bind fun t270 => (if t270 < 0 then (some true) else ((laws_toStepS.f k l0).bind fun t271 => ((spec_ValidPipeline.f k t271).bind fun t274 => ((laws_toStepS.f k l0).bind fun t275 => ((impl_ValidPipeline.f k t275).bind fun t278 => (if (t278 != t274) = true then (some false) else ((laws_toStepS.f k l0).bind fun t279 => ((laws_eqStepS.f k t275 t279).bind fun t282 => (if t282 = true then (some true) else (some false))))))))))) = some true := h
 clear h
 replace H := Option.bind_eq_some_iff.mp H
 obtain ⟨t270, A20, H⟩ := H
 replace H : (if t270 < 0 then (some true) else ((laws_toStepS.f k l0).bind fun t271 => ((spec_ValidPipeline.f k t271).bind fun t274 => ((laws_toStepS.f k l0).bind fun t275 => ((impl_ValidPipeline.f k t275).bind fun t278 => (if (t278 != t274) = true then (some false) else ((laws_toStepS.f k l0).bind fun t279 => ((laws_eqStepS.f k t275 t279).bind fun t282 => (if t282 = true then (some true) else (some false)))))))))) = some true := H
 have A2 := Aside0.mk A20
 clear A20
 by_cases c3 : t270 < 0
 ·rw [if_pos c3] at H
  have c3b0 : decide (t270 < 0) = true := decide_eq_true c3
  clear c3
  clear H
  go_enter Try.func11, Try.ntmps11
  go_wp2_with (first | ((with_reducible refine gate_callee (f := 40) rfl ?_); refine goesL_ (some 9) rfl rfl Try.func40 (by kernel_rfl) rfl #[.slice A0 l0.length c0, .int .i64 1048576] rfl (by (try simp only [List.map_toArray, List.map_cons, List.map_nil]); first | done | rfl | (simp only [List.length_drop, List.length_take]; rfl)) ?_; (with_reducible refine (laws_szStepS.calls _ _ l0 1048576 t270 _ ?side1 ?side2 A2.out).mono ?_); (case side1 => repeat (first | exact HR0.out | (with_reducible refine Kd.C_alloc ?_ _) | (with_reducible refine Kd.C_drewN ?_ _) | (with_reducible refine Kd.C_drew ?_))); (case side2 => exact HC0.out); rintro e w' ⟨rfl, ⟨nd, rfl⟩⟩; refine ⟨_, rfl, ?_⟩))
  go_ret
  exact ⟨by first | rfl | (simp <;> rfl) | (simp; decide +kernel) | (simp [*] <;> rfl), by repeat (first | (with_reducible first | exact HB.out | apply below_alloc | apply pw_below_drewN | apply below_drew1) | exact HB.out)⟩
 ·rw [if_neg c3] at H
  have c3b0 : decide (t270 < 0) = false := decide_eq_false c3
  clear c3
  replace H := Option.bind_eq_some_iff.mp H
  obtain ⟨t271, A40, H⟩ := H
  replace H : ((spec_ValidPipeline.f k t271).bind fun t274 => ((laws_toStepS.f k l0).bind fun t275 => ((impl_ValidPipeline.f k t275).bind fun t278 => (if (t278 != t274) = true then (some false) else ((laws_toStepS.f k l0).bind fun t279 => ((laws_eqStepS.f k t275 t279).bind fun t282 => (if t282 = true then (some true) else (some false)))))))) = some true := H
  have A4 := Aside0.mk A40
  clear A40
  replace H := Option.bind_eq_some_iff.mp H
  obtain ⟨t274, A50, H⟩ := H
  replace H : ((laws_toStepS.f k l0).bind fun t275 => ((impl_ValidPipeline.f k t275).bind fun t278 => (if (t278 != t274) = true then (some false) else ((laws_toStepS.f k l0).bind fun t279 => ((laws_eqStepS.f k t275 t279).bind fun t282 => (if t282 = true then (some true) else (some false))))))) = some true := H
  have A5 := Aside0.mk A50
  clear A50
  replace H := Option.bind_eq_some_iff.mp H
  obtain ⟨t275, A60, H⟩ := H
  replace H : ((impl_ValidPipeline.f k t275).bind fun t278 => (if (t278 != t274) = true then (some false) else ((laws_toStepS.f k l0).bind fun t279 => ((laws_eqStepS.f k t275 t279).bind fun t282 => (if t282 = true then (some true) else (some false)))))) = some true := H
  have A6 := Aside0.mk A60
  clear A60
  replace H := Option.bind_eq_some_iff.mp H
  obtain ⟨t278, A70, H⟩ := H
  replace H : (if (t278 != t274) = true then (some false) else ((laws_toStepS.f k l0).bind fun t279 => ((laws_eqStepS.f k t275 t279).bind fun t282 => (if t282 = true then (some true) else (some false))))) = some true := H
  have A7 := Aside0.mk A70
  clear A70
  by_cases c8 : (t278 != t274) = true
  ·rw [if_pos c8] at H
   have c8b0 : (t278 != t274) = true := c8
   (try (have c8b1 : decide (t278 = t274) = false := by simpa using c8))
   (try (have c8b2 : (t278 == t274) = false := by simpa using c8))
   (try (have c8b3 : ¬ (t278 = t274) := by simpa using c8))
   clear c8
   exact absurd H (by simp)
  ·rw [if_neg c8] at H
   have c8b0 : (t278 != t274) = false := by simpa using c8
   (try (have c8b1 : decide (t278 = t274) = true := by simpa using c8))
   (try (have c8b2 : (t278 == t274) = true := by simpa using c8))
   clear c8
   replace H := Option.bind_eq_some_iff.mp H
   obtain ⟨t279, A90, H⟩ := H
   replace H : ((laws_eqStepS.f k t275 t279).bind fun t282 => (if t282 = true then (some true) else (some false))) = some true := H
   have A9 := Aside0.mk A90
   clear A90
   replace H := Option.bind_eq_some_iff.mp H
   obtain ⟨t282, A100, H⟩ := H
   replace H : (if t282 = true then (some true) else (some false)) = some true := H
   have A10 := Aside0.mk A100
   clear A100
   by_cases c11 : t282 = true
   ·subst c11
    have H1 : (some true) = some true := by first | (rw [if_pos rfl] at H; exact H) | (rw [if_pos rfl] at H)
    clear H
    have H := H1
    clear H1
    clear H
    go_enter Try.func11, Try.ntmps11
    go_wp2_with (first | ((with_reducible refine gate_callee (f := 40) rfl ?_); refine goesL_ (some 9) rfl rfl Try.func40 (by kernel_rfl) rfl #[.slice A0 l0.length c0, .int .i64 1048576] rfl (by (try simp only [List.map_toArray, List.map_cons, List.map_nil]); first | done | rfl | (simp only [List.length_drop, List.length_take]; rfl)) ?_; (with_reducible refine (laws_szStepS.calls _ _ l0 1048576 t270 _ ?side1 ?side2 A2.out).mono ?_); (case side1 => repeat (first | exact HR0.out | (with_reducible refine Kd.C_alloc ?_ _) | (with_reducible refine Kd.C_drewN ?_ _) | (with_reducible refine Kd.C_drew ?_))); (case side2 => exact HC0.out); rintro e w' ⟨rfl, ⟨nd, rfl⟩⟩; refine ⟨_, rfl, ?_⟩) | ((with_reducible refine gate_callee (f := 42) rfl ?_); refine goesL_ (some 13) rfl rfl Try.func42 (by kernel_rfl) rfl #[.slice A0 l0.length c0] rfl (by (try simp only [List.map_toArray, List.map_cons, List.map_nil]); first | done | rfl | (simp only [List.length_drop, List.length_take]; rfl)) ?_; (with_reducible refine (laws_toStepS.calls k _ _ l0 t271 _ ?side1 ?side2 A4.out).mono ?_); (case side1 => repeat (first | exact HR0.out | (with_reducible refine Kd.C_alloc ?_ _) | (with_reducible refine Kd.C_drewN ?_ _) | (with_reducible refine Kd.C_drew ?_))); (case side2 => exact HC0.out); rintro e w12 ⟨v272, rfl, ho0, hb⟩; refine ⟨_, rfl, ?_⟩; have n0_ := Aside0.mk (Kd.R_lower ho0 (below_size (by repeat (first | (with_reducible first | exact HB.out | apply below_alloc | apply pw_below_drewN | apply below_drew1) | exact HB.out)))); have n1_ := Aside0.mk (below_step (by repeat (first | (with_reducible first | exact HB.out | apply below_alloc | apply pw_below_drewN | apply below_drew1) | exact HB.out)) hb); clear HB; have HO273 := n0_; have HB := n1_; clear n0_ n1_; (try clear hb); (try clear hb2); (try clear hk); (try clear hi); (try clear ho0); obtain ⟨Ao13, co13, eo13⟩ := Kd.R_slice HO273.out; subst eo13) | ((with_reducible refine gate_callee (f := 41) rfl ?_); refine goesL_ (some 14) rfl rfl Try.func41 (by kernel_rfl) rfl #[.slice Ao13 t271.length co13] rfl (by (try simp only [List.map_toArray, List.map_cons, List.map_nil]); first | done | rfl | (simp only [List.length_drop, List.length_take]; rfl)) ?_; (with_reducible refine (spec_ValidPipeline.calls k _ _ t271 t274 _ ?side1 ?side2 A5.out).mono ?_); (case side1 => repeat (first | exact (Kd.R_reads' HO273.out).2.2 | (with_reducible refine Kd.C_alloc ?_ _) | (with_reducible refine Kd.C_drewN ?_ _) | (with_reducible refine Kd.C_drew ?_))); (case side2 => exact (Kd.R_reads' HO273.out).2.1); rintro e w14 ⟨rfl, hb⟩; refine ⟨_, rfl, ?_⟩; have n0_ := Aside0.mk (Kd.R_below (by (with_reducible repeat (first | apply Kd.R_alloc | apply Kd.R_drewN | apply Kd.R_drew)); exact HO273.out) hb); have n1_ := Aside0.mk (below_step (by repeat (first | (with_reducible first | exact HB.out | apply below_alloc | apply pw_below_drewN | apply below_drew1) | exact HB.out)) hb); clear HO273; clear HB; have HO273 := n0_; have HB := n1_; clear n0_ n1_; (try clear hb); (try clear hb2); (try clear hk); (try clear hi)) | ((with_reducible refine gate_callee (f := 42) rfl ?_); refine goesL_ (some 16) rfl rfl Try.func42 (by kernel_rfl) rfl #[.slice A0 l0.length c0] rfl (by (try simp only [List.map_toArray, List.map_cons, List.map_nil]); first | done | rfl | (simp only [List.length_drop, List.length_take]; rfl)) ?_; (with_reducible refine (laws_toStepS.calls k _ _ l0 t275 _ ?side1 ?side2 A6.out).mono ?_); (case side1 => repeat (first | exact (Kd.C_below HR0.out HB.out) | (with_reducible refine Kd.C_alloc ?_ _) | (with_reducible refine Kd.C_drewN ?_ _) | (with_reducible refine Kd.C_drew ?_))); (case side2 => exact HC0.out); rintro e w15 ⟨v276, rfl, ho0, hb⟩; refine ⟨_, rfl, ?_⟩; have n0_ := Aside0.mk (Kd.R_elder' (by (with_reducible repeat (first | apply Kd.R_alloc | apply Kd.R_drewN | apply Kd.R_drew)); exact HO273.out) (Kd.R_base ho0) hb); have n1_ := Aside0.mk (Kd.R_lower (Kd.R_new' ho0 (Kd.R_lt (by (with_reducible repeat (first | apply Kd.R_alloc | apply Kd.R_drewN | apply Kd.R_drew)); exact HO273.out))) (below_size (by repeat (first | (with_reducible first | exact HB.out | apply below_alloc | apply pw_below_drewN | apply below_drew1) | exact HB.out)))); have n2_ := Aside0.mk (below_step (by repeat (first | (with_reducible first | exact HB.out | apply below_alloc | apply pw_below_drewN | apply below_drew1) | exact HB.out)) hb); clear HO273; clear HB; have HO273 := n0_; have HO277 := n1_; have HB := n2_; clear n0_ n1_ n2_; (try clear hb); (try clear hb2); (try clear hk); (try clear hi); (try clear ho0); obtain ⟨Ao16, co16, eo16⟩ := Kd.R_slice HO277.out; subst eo16) | ((with_reducible refine gate_callee (f := 43) rfl ?_); refine goesL_ (some 18) rfl rfl Try.func43 (by kernel_rfl) rfl #[.slice Ao16 t275.length co16] rfl (by (try simp only [List.map_toArray, List.map_cons, List.map_nil]); first | done | rfl | (simp only [List.length_drop, List.length_take]; rfl)) ?_; (with_reducible refine (impl_ValidPipeline.calls k _ _ t275 t278 _ ?side1 ?side2 A7.out).mono ?_); (case side1 => repeat (first | exact (Kd.R_reads' HO277.out).2.2 | (with_reducible refine Kd.C_alloc ?_ _) | (with_reducible refine Kd.C_drewN ?_ _) | (with_reducible refine Kd.C_drew ?_))); (case side2 => exact (Kd.R_reads' HO277.out).2.1); rintro e w17 ⟨rfl, hb⟩; refine ⟨_, rfl, ?_⟩; have n0_ := Aside0.mk (Kd.R_below (by (with_reducible repeat (first | apply Kd.R_alloc | apply Kd.R_drewN | apply Kd.R_drew)); exact HO273.out) hb); have n1_ := Aside0.mk (Kd.R_below (by (with_reducible repeat (first | apply Kd.R_alloc | apply Kd.R_drewN | apply Kd.R_drew)); exact HO277.out) hb); have n2_ := Aside0.mk (below_step (by repeat (first | (with_reducible first | exact HB.out | apply below_alloc | apply pw_below_drewN | apply below_drew1) | exact HB.out)) hb); clear HO273; clear HO277; clear HB; have HO273 := n0_; have HO277 := n1_; have HB := n2_; clear n0_ n1_ n2_; (try clear hb); (try clear hb2); (try clear hk); (try clear hi)) | ((with_reducible refine gate_callee (f := 42) rfl ?_); refine goesL_ (some 24) rfl rfl Try.func42 (by kernel_rfl) rfl #[.slice A0 l0.length c0] rfl (by (try simp only [List.map_toArray, List.map_cons, List.map_nil]); first | done | rfl | (simp only [List.length_drop, List.length_take]; rfl)) ?_; (with_reducible refine (laws_toStepS.calls k _ _ l0 t279 _ ?side1 ?side2 A9.out).mono ?_); (case side1 => repeat (first | exact (Kd.C_below HR0.out HB.out) | (with_reducible refine Kd.C_alloc ?_ _) | (with_reducible refine Kd.C_drewN ?_ _) | (with_reducible refine Kd.C_drew ?_))); (case side2 => exact HC0.out); rintro e w18 ⟨v280, rfl, ho0, hb⟩; refine ⟨_, rfl, ?_⟩; have n0_ := Aside0.mk (Kd.R_elder' (by (with_reducible repeat (first | apply Kd.R_alloc | apply Kd.R_drewN | apply Kd.R_drew)); exact HO273.out) (Kd.R_base ho0) hb); have n1_ := Aside0.mk (Kd.R_elder' (by (with_reducible repeat (first | apply Kd.R_alloc | apply Kd.R_drewN | apply Kd.R_drew)); exact HO277.out) (Kd.R_base ho0) hb); have n2_ := Aside0.mk (Kd.R_lower (Kd.R_new' (Kd.R_new' ho0 (Kd.R_lt (by (with_reducible repeat (first | apply Kd.R_alloc | apply Kd.R_drewN | apply Kd.R_drew)); exact HO273.out))) (Kd.R_lt (by (with_reducible repeat (first | apply Kd.R_alloc | apply Kd.R_drewN | apply Kd.R_drew)); exact HO277.out))) (below_size (by repeat (first | (with_reducible first | exact HB.out | apply below_alloc | apply pw_below_drewN | apply below_drew1) | exact HB.out)))); have n3_ := Aside0.mk (below_step (by repeat (first | (with_reducible first | exact HB.out | apply below_alloc | apply pw_below_drewN | apply below_drew1) | exact HB.out)) hb); clear HO273; clear HO277; clear HB; have HO273 := n0_; have HO277 := n1_; have HO281 := n2_; have HB := n3_; clear n0_ n1_ n2_ n3_; (try clear hb); (try clear hb2); (try clear hk); (try clear hi); (try clear ho0); obtain ⟨Ao19, co19, eo19⟩ := Kd.R_slice HO281.out; subst eo19) | ((with_reducible refine gate_callee (f := 44) rfl ?_); refine goesL_ (some 25) rfl rfl Try.func44 (by kernel_rfl) rfl #[.slice Ao16 t275.length co16, .slice Ao19 t279.length co19] rfl (by (try simp only [List.map_toArray, List.map_cons, List.map_nil]); first | done | rfl | (simp only [List.length_drop, List.length_take]; rfl)) ?_; (with_reducible refine (laws_eqStepS.calls k _ _ t275 _ _ t279 true _ ?side1 ?side2 ?side3 ?side4 A10.out).mono ?_); (case side1 => repeat (first | exact (Kd.R_reads' HO277.out).2.2 | (with_reducible refine Kd.C_alloc ?_ _) | (with_reducible refine Kd.C_drewN ?_ _) | (with_reducible refine Kd.C_drew ?_))); (case side2 => exact (Kd.R_reads' HO277.out).2.1); (case side3 => repeat (first | exact (Kd.R_reads' HO281.out).2.2 | (with_reducible refine Kd.C_alloc ?_ _) | (with_reducible refine Kd.C_drewN ?_ _) | (with_reducible refine Kd.C_drew ?_))); (case side4 => exact (Kd.R_reads' HO281.out).2.1); rintro e w20 ⟨rfl, hb⟩; refine ⟨_, rfl, ?_⟩; have n0_ := Aside0.mk (Kd.R_below (by (with_reducible repeat (first | apply Kd.R_alloc | apply Kd.R_drewN | apply Kd.R_drew)); exact HO273.out) hb); have n1_ := Aside0.mk (Kd.R_below (by (with_reducible repeat (first | apply Kd.R_alloc | apply Kd.R_drewN | apply Kd.R_drew)); exact HO277.out) hb); have n2_ := Aside0.mk (Kd.R_below (by (with_reducible repeat (first | apply Kd.R_alloc | apply Kd.R_drewN | apply Kd.R_drew)); exact HO281.out) hb); have n3_ := Aside0.mk (below_step (by repeat (first | (with_reducible first | exact HB.out | apply below_alloc | apply pw_below_drewN | apply below_drew1) | exact HB.out)) hb); clear HO273; clear HO277; clear HO281; clear HB; have HO273 := n0_; have HO277 := n1_; have HO281 := n2_; have HB := n3_; clear n0_ n1_ n2_ n3_; (try clear hb); (try clear hb2); (try clear hk); (try clear hi)))
    go_ret
    exact ⟨by first | rfl | (simp <;> rfl) | (simp; decide +kernel) | (simp [*] <;> rfl), by repeat (first | (with_reducible first | exact HB.out | apply below_alloc | apply pw_below_drewN | apply below_drew1) | exact HB.out)⟩
   ·replace c11 := Bool.eq_false_iff.mpr c11
    subst c11
    have H1 : (some false) = some true := by first | (rw [if_neg (show ¬ (false = true) by decide)] at H; exact H) | (rw [if_neg (show ¬ (false = true) by decide)] at H)
    clear H
    have H := H1
    clear H1
    exact absurd H (by simp)

end Go.Proofs.Ytillihiadpgalaa.P
