-- Printed by drive.py, which calls the kit's print.py with changes of its own.
import Derived.Test.YtillihiadpgalaaCFnExactFormOfx0
import Derived.Test.YtillihiadpgalaaCFnExactFormOfx5
namespace Go.Proofs.Ytillihiadpgalaa.P
open Go.RowKit Go.Proofs.YtillihiadpgalaaW.PrintWords Go.Proofs.YtillihiadpgalaaW.PrintLast Go.Proofs.YtillihiadpgalaaW.PrintMore
attribute [local go_sem] max2_int min2_int max_two min_two max_three min_three max_four min_four   -- for this text's walks alone
set_option linter.unusedVariables false
set_option linter.unusedSimpArgs false

/-! ### laws_eqStep: function 82 -/
def laws_eqStep.f (a0_0 : Int) (a0_1 : Int) (a0_2 : Int) (a0_3 : Int) (a0_4 : Int) (a0_5 : Int) (a0_6 : Int) (a0_7 : Int) (a0_8 : Int) (a0_9 : Int) (a0_10 : Int) (a0_11 : Int) (a0_12 : Int) (a0_13 : Int) (a0_14 : Int) (a0_15 : Int) (a1_0 : Int) (a1_1 : Int) (a1_2 : Int) (a1_3 : Int) (a1_4 : Int) (a1_5 : Int) (a1_6 : Int) (a1_7 : Int) (a1_8 : Int) (a1_9 : Int) (a1_10 : Int) (a1_11 : Int) (a1_12 : Int) (a1_13 : Int) (a1_14 : Int) (a1_15 : Int) : Option (Bool) := if a0_0 = a1_0 then ((laws_eqProjection.f a0_1 a0_2 a0_3 a0_4 a0_5 a1_1 a1_2 a1_3 a1_4 a1_5).bind fun t157 => (if t157 = true then ((laws_eqEllipsoid.f a0_6 a0_7 a0_8 a1_6 a1_7 a1_8).bind fun t158 => (if t158 = true then ((laws_eqShift.f a0_9 a0_10 a0_11 a0_12 a0_13 a0_14 a0_15 a1_9 a1_10 a1_11 a1_12 a1_13 a1_14 a1_15).bind fun t159 => (if t159 = true then (some true) else (some false))) else (some false))) else (some false))) else (some false)
set_option maxHeartbeats 8000000 in
set_option maxRecDepth 100000 in
theorem laws_eqStep.calls (a0_0 : Int) (a0_1 : Int) (a0_2 : Int) (a0_3 : Int) (a0_4 : Int) (a0_5 : Int) (a0_6 : Int) (a0_7 : Int) (a0_8 : Int) (a0_9 : Int) (a0_10 : Int) (a0_11 : Int) (a0_12 : Int) (a0_13 : Int) (a0_14 : Int) (a0_15 : Int) (a1_0 : Int) (a1_1 : Int) (a1_2 : Int) (a1_3 : Int) (a1_4 : Int) (a1_5 : Int) (a1_6 : Int) (a1_7 : Int) (a1_8 : Int) (a1_9 : Int) (a1_10 : Int) (a1_11 : Int) (a1_12 : Int) (a1_13 : Int) (a1_14 : Int) (a1_15 : Int) (r : Bool) (w : World) (h : laws_eqStep.f a0_0 a0_1 a0_2 a0_3 a0_4 a0_5 a0_6 a0_7 a0_8 a0_9 a0_10 a0_11 a0_12 a0_13 a0_14 a0_15 a1_0 a1_1 a1_2 a1_3 a1_4 a1_5 a1_6 a1_7 a1_8 a1_9 a1_10 a1_11 a1_12 a1_13 a1_14 a1_15 = some r) :
  Calls Try.prog 82 #[.agg #[.int .i64 a0_0, .int .i64 a0_1, .int .i64 a0_2, .int .i64 a0_3, .int .i64 a0_4, .int .i64 a0_5, .int .i64 a0_6, .int .i64 a0_7, .int .i64 a0_8, .int .i64 a0_9, .int .i64 a0_10, .int .i64 a0_11, .int .i64 a0_12, .int .i64 a0_13, .int .i64 a0_14, .int .i64 a0_15], .agg #[.int .i64 a1_0, .int .i64 a1_1, .int .i64 a1_2, .int .i64 a1_3, .int .i64 a1_4, .int .i64 a1_5, .int .i64 a1_6, .int .i64 a1_7, .int .i64 a1_8, .int .i64 a1_9, .int .i64 a1_10, .int .i64 a1_11, .int .i64 a1_12, .int .i64 a1_13, .int .i64 a1_14, .int .i64 a1_15]] w fun e w' => e = .returned (.bool r) ∧ Below w.heap.size w w' := by
 have hu60 := Try.underlying60
 have hu48 := Try.underlying48
 have hu47 := Try.underlying47
 have hu58 := Try.underlying58
 have HB := Aside0.mk (Below.refl w.heap.size w)
 have H : (if a0_0 = a1_0 then ((laws_eqProjection.f a0_1 a0_2 a0_3 a0_4 a0_5 a1_1 a1_2 a1_3 a1_4 a1_5).bind fun t157 => (if t157 = true then ((laws_eqEllipsoid.f a0_6 a0_7 a0_8 a1_6 a1_7 a1_8).bind fun t158 => (if t158 = true then ((laws_eqShift.f a0_9 a0_10 a0_11 a0_12 a0_13 a0_14 a0_15 a1_9 a1_10 a1_11 a1_12 a1_13 a1_14 a1_15).bind fun t159 => (if t159 = true then (some true) else (some false))) else (some false))) else (some false))) else (some false)) = some r := h
 clear h
 by_cases c3 : a0_0 = a1_0
 ·rw [if_pos c3] at H
  have c3b0 : (a0_0 == a1_0) = true := beq_iff_eq.mpr c3
  have c3b1 : (a0_0 != a1_0) = false := bne_eq_false_iff_eq.mpr c3
  clear c3
  replace H := Option.bind_eq_some_iff.mp H
  obtain ⟨t157, A40, H⟩ := H
  replace H : (if t157 = true then ((laws_eqEllipsoid.f a0_6 a0_7 a0_8 a1_6 a1_7 a1_8).bind fun t158 => (if t158 = true then ((laws_eqShift.f a0_9 a0_10 a0_11 a0_12 a0_13 a0_14 a0_15 a1_9 a1_10 a1_11 a1_12 a1_13 a1_14 a1_15).bind fun t159 => (if t159 = true then (some true) else (some false))) else (some false))) else (some false)) = some r := H
  have A4 := Aside0.mk A40
  clear A40
  by_cases c5 : t157 = true
  ·subst c5
   have H1 : ((laws_eqEllipsoid.f a0_6 a0_7 a0_8 a1_6 a1_7 a1_8).bind fun t158 => (if t158 = true then ((laws_eqShift.f a0_9 a0_10 a0_11 a0_12 a0_13 a0_14 a0_15 a1_9 a1_10 a1_11 a1_12 a1_13 a1_14 a1_15).bind fun t159 => (if t159 = true then (some true) else (some false))) else (some false))) = some r := by rw [if_pos rfl] at H; exact H
   clear H
   have H := H1
   clear H1
   replace H := Option.bind_eq_some_iff.mp H
   obtain ⟨t158, A60, H⟩ := H
   replace H : (if t158 = true then ((laws_eqShift.f a0_9 a0_10 a0_11 a0_12 a0_13 a0_14 a0_15 a1_9 a1_10 a1_11 a1_12 a1_13 a1_14 a1_15).bind fun t159 => (if t159 = true then (some true) else (some false))) else (some false)) = some r := H
   have A6 := Aside0.mk A60
   clear A60
   by_cases c7 : t158 = true
   ·subst c7
    have H1 : ((laws_eqShift.f a0_9 a0_10 a0_11 a0_12 a0_13 a0_14 a0_15 a1_9 a1_10 a1_11 a1_12 a1_13 a1_14 a1_15).bind fun t159 => (if t159 = true then (some true) else (some false))) = some r := by rw [if_pos rfl] at H; exact H
    clear H
    have H := H1
    clear H1
    replace H := Option.bind_eq_some_iff.mp H
    obtain ⟨t159, A80, H⟩ := H
    replace H : (if t159 = true then (some true) else (some false)) = some r := H
    have A8 := Aside0.mk A80
    clear A80
    by_cases c9 : t159 = true
    ·subst c9
     have H1 : (some true) = some r := by rw [if_pos rfl] at H; exact H
     clear H
     have H := H1
     clear H1
     obtain rfl := Option.some.inj H
     go_enter Try.func82, Try.ntmps82
     go_wp2_with (first | ((with_reducible refine gate_dst (N := 2) rfl ?_); refine box_event ?hg (N := 2) ?hd (cs := #[.int .i64 a0_0, .int .i64 a0_1, .int .i64 a0_2, .int .i64 a0_3, .int .i64 a0_4, .int .i64 a0_5, .int .i64 a0_6, .int .i64 a0_7, .int .i64 a0_8, .int .i64 a0_9, .int .i64 a0_10, .int .i64 a0_11, .int .i64 a0_12, .int .i64 a0_13, .int .i64 a0_14, .int .i64 a0_15]) (t := 60) ?hr ?_; (case hd => rfl); (case hg => rfl); (case hr => first | (go_simp; done) | (go_simp; rfl)); intro gb155 hg w10 hbox hb; have n0_ := Aside0.mk (below_step (by repeat (first | (with_reducible first | exact HB.out | apply below_alloc | apply pw_below_drewN | apply below_drew1) | exact HB.out)) hb); have n1_ := Aside0.mk (hbox); have n2_ := Aside0.mk ((by rw [hg]; exact (below_size (by repeat (first | (with_reducible first | exact HB.out | apply below_alloc | apply pw_below_drewN | apply below_drew1) | exact HB.out))) : w.heap.size ≤ gb155)); have n3_ := n2_; clear HB; have HB := n0_; have BK155 := n1_; have GW155 := n2_; have GE155 := n3_; clear n0_ n1_ n2_ n3_; clear hb hbox hg) | ((with_reducible refine gate_dst (N := 3) rfl ?_); refine box_event ?hg (N := 3) ?hd (cs := #[.int .i64 a1_0, .int .i64 a1_1, .int .i64 a1_2, .int .i64 a1_3, .int .i64 a1_4, .int .i64 a1_5, .int .i64 a1_6, .int .i64 a1_7, .int .i64 a1_8, .int .i64 a1_9, .int .i64 a1_10, .int .i64 a1_11, .int .i64 a1_12, .int .i64 a1_13, .int .i64 a1_14, .int .i64 a1_15]) (t := 60) ?hr ?_; (case hd => rfl); (case hg => rfl); (case hr => first | (go_simp; done) | (go_simp; rfl)); intro gb156 hg w11 hbox hb; have n0_ := Aside0.mk (blk_below (g := gb155) (o := .cells #[.int .i64 a0_0, .int .i64 a0_1, .int .i64 a0_2, .int .i64 a0_3, .int .i64 a0_4, .int .i64 a0_5, .int .i64 a0_6, .int .i64 a0_7, .int .i64 a0_8, .int .i64 a0_9, .int .i64 a0_10, .int .i64 a0_11, .int .i64 a0_12, .int .i64 a0_13, .int .i64 a0_14, .int .i64 a0_15] 60 (0, 0)) (by (with_reducible repeat (first | refine blk_drewN ?_ _ | refine blk_drew ?_ | refine blk_alloc ?_ _)); exact BK155.out) hb); have n1_ := Aside0.mk (below_step (by repeat (first | (with_reducible first | exact HB.out | apply below_alloc | apply pw_below_drewN | apply below_drew1 | refine below_set ?_ GE155.out) | exact HB.out)) hb); have n2_ := Aside0.mk (hbox); have n3_ := Aside0.mk ((by rw [hg]; exact (below_size (by repeat (first | (with_reducible first | exact HB.out | apply below_alloc | apply pw_below_drewN | apply below_drew1 | refine below_set ?_ GE155.out) | exact HB.out))) : w.heap.size ≤ gb156)); have n4_ := Aside0.mk ((by rw [hg]; exact (below_size (by repeat (first | (with_reducible first | exact HB.out | apply below_alloc | apply pw_below_drewN | apply below_drew1 | refine below_set ?_ GE155.out) | exact HB.out))) : w.heap.size ≤ gb156)); have n5_ := Aside0.mk ((by rw [hg]; exact Nat.ne_of_lt (blk_lt (g := gb155) (o := .cells #[.int .i64 a0_0, .int .i64 a0_1, .int .i64 a0_2, .int .i64 a0_3, .int .i64 a0_4, .int .i64 a0_5, .int .i64 a0_6, .int .i64 a0_7, .int .i64 a0_8, .int .i64 a0_9, .int .i64 a0_10, .int .i64 a0_11, .int .i64 a0_12, .int .i64 a0_13, .int .i64 a0_14, .int .i64 a0_15] 60 (0, 0)) (by (with_reducible repeat (first | refine blk_drewN ?_ _ | refine blk_drew ?_ | refine blk_alloc ?_ _)); exact BK155.out)) : gb155 ≠ gb156)); have n6_ := Aside0.mk ((by rw [hg]; exact Nat.ne_of_gt (blk_lt (g := gb155) (o := .cells #[.int .i64 a0_0, .int .i64 a0_1, .int .i64 a0_2, .int .i64 a0_3, .int .i64 a0_4, .int .i64 a0_5, .int .i64 a0_6, .int .i64 a0_7, .int .i64 a0_8, .int .i64 a0_9, .int .i64 a0_10, .int .i64 a0_11, .int .i64 a0_12, .int .i64 a0_13, .int .i64 a0_14, .int .i64 a0_15] 60 (0, 0)) (by (with_reducible repeat (first | refine blk_drewN ?_ _ | refine blk_drew ?_ | refine blk_alloc ?_ _)); exact BK155.out)) : gb156 ≠ gb155)); clear BK155; clear HB; have BK155 := n0_; have HB := n1_; have BK156 := n2_; have GW156 := n3_; have GE156 := n4_; have NB155_156 := n5_; have NB156_155 := n6_; clear n0_ n1_ n2_ n3_ n4_ n5_ n6_; clear hb hbox hg; have hnb12 := NB155_156.out; have hnc12 := NB156_155.out; have hcz13_0 := bcell BK155.out 0 (.int .i64 a0_0) rfl; have hcz13_1 := bcell BK155.out 1 (.int .i64 a0_1) rfl; have hcz13_2 := bcell BK155.out 2 (.int .i64 a0_2) rfl; have hcz13_3 := bcell BK155.out 3 (.int .i64 a0_3) rfl; have hcz13_4 := bcell BK155.out 4 (.int .i64 a0_4) rfl; have hcz13_5 := bcell BK155.out 5 (.int .i64 a0_5) rfl; have hcz13_6 := bcell BK155.out 6 (.int .i64 a0_6) rfl; have hcz13_7 := bcell BK155.out 7 (.int .i64 a0_7) rfl; have hcz13_8 := bcell BK155.out 8 (.int .i64 a0_8) rfl; have hcz13_9 := bcell BK155.out 9 (.int .i64 a0_9) rfl; have hcz13_10 := bcell BK155.out 10 (.int .i64 a0_10) rfl; have hcz13_11 := bcell BK155.out 11 (.int .i64 a0_11) rfl; have hcz13_12 := bcell BK155.out 12 (.int .i64 a0_12) rfl; have hcz13_13 := bcell BK155.out 13 (.int .i64 a0_13) rfl; have hcz13_14 := bcell BK155.out 14 (.int .i64 a0_14) rfl; have hcz13_15 := bcell BK155.out 15 (.int .i64 a0_15) rfl; have hcz14_0 := bcell BK156.out 0 (.int .i64 a1_0) rfl; have hcz14_1 := bcell BK156.out 1 (.int .i64 a1_1) rfl; have hcz14_2 := bcell BK156.out 2 (.int .i64 a1_2) rfl; have hcz14_3 := bcell BK156.out 3 (.int .i64 a1_3) rfl; have hcz14_4 := bcell BK156.out 4 (.int .i64 a1_4) rfl; have hcz14_5 := bcell BK156.out 5 (.int .i64 a1_5) rfl; have hcz14_6 := bcell BK156.out 6 (.int .i64 a1_6) rfl; have hcz14_7 := bcell BK156.out 7 (.int .i64 a1_7) rfl; have hcz14_8 := bcell BK156.out 8 (.int .i64 a1_8) rfl; have hcz14_9 := bcell BK156.out 9 (.int .i64 a1_9) rfl; have hcz14_10 := bcell BK156.out 10 (.int .i64 a1_10) rfl; have hcz14_11 := bcell BK156.out 11 (.int .i64 a1_11) rfl; have hcz14_12 := bcell BK156.out 12 (.int .i64 a1_12) rfl; have hcz14_13 := bcell BK156.out 13 (.int .i64 a1_13) rfl; have hcz14_14 := bcell BK156.out 14 (.int .i64 a1_14) rfl; have hcz14_15 := bcell BK156.out 15 (.int .i64 a1_15) rfl) | ((with_reducible refine gate_callee (f := 65) rfl ?_); refine goesL_ (some 14) rfl rfl Try.func65 (by kernel_rfl) rfl #[.agg #[.int .i64 a0_1, .int .i64 a0_2, .int .i64 a0_3, .int .i64 a0_4, .int .i64 a0_5], .agg #[.int .i64 a1_1, .int .i64 a1_2, .int .i64 a1_3, .int .i64 a1_4, .int .i64 a1_5]] rfl (by (try simp only [List.map_toArray, List.map_cons, List.map_nil]); first | done | rfl | (simp only [List.length_drop, List.length_take]; rfl)) ?_; (with_reducible refine (laws_eqProjection.calls a0_1 a0_2 a0_3 a0_4 a0_5 a1_1 a1_2 a1_3 a1_4 a1_5 true _ A4.out).mono ?_); rintro e w15 ⟨rfl, hb⟩; refine ⟨_, rfl, ?_⟩; have n0_ := Aside0.mk (blk_below (g := gb155) (o := .cells #[.int .i64 a0_0, .int .i64 a0_1, .int .i64 a0_2, .int .i64 a0_3, .int .i64 a0_4, .int .i64 a0_5, .int .i64 a0_6, .int .i64 a0_7, .int .i64 a0_8, .int .i64 a0_9, .int .i64 a0_10, .int .i64 a0_11, .int .i64 a0_12, .int .i64 a0_13, .int .i64 a0_14, .int .i64 a0_15] 60 (0, 0)) (by (with_reducible repeat (first | refine blk_drewN ?_ _ | refine blk_drew ?_ | refine blk_alloc ?_ _)); exact BK155.out) hb); have n1_ := Aside0.mk (blk_below (g := gb156) (o := .cells #[.int .i64 a1_0, .int .i64 a1_1, .int .i64 a1_2, .int .i64 a1_3, .int .i64 a1_4, .int .i64 a1_5, .int .i64 a1_6, .int .i64 a1_7, .int .i64 a1_8, .int .i64 a1_9, .int .i64 a1_10, .int .i64 a1_11, .int .i64 a1_12, .int .i64 a1_13, .int .i64 a1_14, .int .i64 a1_15] 60 (0, 0)) (by (with_reducible repeat (first | refine blk_drewN ?_ _ | refine blk_drew ?_ | refine blk_alloc ?_ _)); exact BK156.out) hb); have n2_ := Aside0.mk (below_step (by repeat (first | (with_reducible first | exact HB.out | apply below_alloc | apply pw_below_drewN | apply below_drew1 | refine below_set ?_ GE155.out | refine below_set ?_ GE156.out) | exact HB.out)) hb); clear BK155; clear BK156; clear HB; have BK155 := n0_; have BK156 := n1_; have HB := n2_; clear n0_ n1_ n2_; (try clear hb); (try clear hb2); (try clear hk); (try clear hi); have hcz16_0 := bcell BK155.out 0 (.int .i64 a0_0) rfl; have hcz16_1 := bcell BK155.out 1 (.int .i64 a0_1) rfl; have hcz16_2 := bcell BK155.out 2 (.int .i64 a0_2) rfl; have hcz16_3 := bcell BK155.out 3 (.int .i64 a0_3) rfl; have hcz16_4 := bcell BK155.out 4 (.int .i64 a0_4) rfl; have hcz16_5 := bcell BK155.out 5 (.int .i64 a0_5) rfl; have hcz16_6 := bcell BK155.out 6 (.int .i64 a0_6) rfl; have hcz16_7 := bcell BK155.out 7 (.int .i64 a0_7) rfl; have hcz16_8 := bcell BK155.out 8 (.int .i64 a0_8) rfl; have hcz16_9 := bcell BK155.out 9 (.int .i64 a0_9) rfl; have hcz16_10 := bcell BK155.out 10 (.int .i64 a0_10) rfl; have hcz16_11 := bcell BK155.out 11 (.int .i64 a0_11) rfl; have hcz16_12 := bcell BK155.out 12 (.int .i64 a0_12) rfl; have hcz16_13 := bcell BK155.out 13 (.int .i64 a0_13) rfl; have hcz16_14 := bcell BK155.out 14 (.int .i64 a0_14) rfl; have hcz16_15 := bcell BK155.out 15 (.int .i64 a0_15) rfl; have hcz17_0 := bcell BK156.out 0 (.int .i64 a1_0) rfl; have hcz17_1 := bcell BK156.out 1 (.int .i64 a1_1) rfl; have hcz17_2 := bcell BK156.out 2 (.int .i64 a1_2) rfl; have hcz17_3 := bcell BK156.out 3 (.int .i64 a1_3) rfl; have hcz17_4 := bcell BK156.out 4 (.int .i64 a1_4) rfl; have hcz17_5 := bcell BK156.out 5 (.int .i64 a1_5) rfl; have hcz17_6 := bcell BK156.out 6 (.int .i64 a1_6) rfl; have hcz17_7 := bcell BK156.out 7 (.int .i64 a1_7) rfl; have hcz17_8 := bcell BK156.out 8 (.int .i64 a1_8) rfl; have hcz17_9 := bcell BK156.out 9 (.int .i64 a1_9) rfl; have hcz17_10 := bcell BK156.out 10 (.int .i64 a1_10) rfl; have hcz17_11 := bcell BK156.out 11 (.int .i64 a1_11) rfl; have hcz17_12 := bcell BK156.out 12 (.int .i64 a1_12) rfl; have hcz17_13 := bcell BK156.out 13 (.int .i64 a1_13) rfl; have hcz17_14 := bcell BK156.out 14 (.int .i64 a1_14) rfl; have hcz17_15 := bcell BK156.out 15 (.int .i64 a1_15) rfl) | ((with_reducible refine gate_callee (f := 64) rfl ?_); refine goesL_ (some 20) rfl rfl Try.func64 (by kernel_rfl) rfl #[.agg #[.int .i64 a0_6, .int .i64 a0_7, .int .i64 a0_8], .agg #[.int .i64 a1_6, .int .i64 a1_7, .int .i64 a1_8]] rfl (by (try simp only [List.map_toArray, List.map_cons, List.map_nil]); first | done | rfl | (simp only [List.length_drop, List.length_take]; rfl)) ?_; (with_reducible refine (laws_eqEllipsoid.calls a0_6 a0_7 a0_8 a1_6 a1_7 a1_8 true _ A6.out).mono ?_); rintro e w18 ⟨rfl, hb⟩; refine ⟨_, rfl, ?_⟩; have n0_ := Aside0.mk (blk_below (g := gb155) (o := .cells #[.int .i64 a0_0, .int .i64 a0_1, .int .i64 a0_2, .int .i64 a0_3, .int .i64 a0_4, .int .i64 a0_5, .int .i64 a0_6, .int .i64 a0_7, .int .i64 a0_8, .int .i64 a0_9, .int .i64 a0_10, .int .i64 a0_11, .int .i64 a0_12, .int .i64 a0_13, .int .i64 a0_14, .int .i64 a0_15] 60 (0, 0)) (by (with_reducible repeat (first | refine blk_drewN ?_ _ | refine blk_drew ?_ | refine blk_alloc ?_ _)); exact BK155.out) hb); have n1_ := Aside0.mk (blk_below (g := gb156) (o := .cells #[.int .i64 a1_0, .int .i64 a1_1, .int .i64 a1_2, .int .i64 a1_3, .int .i64 a1_4, .int .i64 a1_5, .int .i64 a1_6, .int .i64 a1_7, .int .i64 a1_8, .int .i64 a1_9, .int .i64 a1_10, .int .i64 a1_11, .int .i64 a1_12, .int .i64 a1_13, .int .i64 a1_14, .int .i64 a1_15] 60 (0, 0)) (by (with_reducible repeat (first | refine blk_drewN ?_ _ | refine blk_drew ?_ | refine blk_alloc ?_ _)); exact BK156.out) hb); have n2_ := Aside0.mk (below_step (by repeat (first | (with_reducible first | exact HB.out | apply below_alloc | apply pw_below_drewN | apply below_drew1 | refine below_set ?_ GE155.out | refine below_set ?_ GE156.out) | exact HB.out)) hb); clear BK155; clear BK156; clear HB; have BK155 := n0_; have BK156 := n1_; have HB := n2_; clear n0_ n1_ n2_; (try clear hb); (try clear hb2); (try clear hk); (try clear hi); have hcz19_0 := bcell BK155.out 0 (.int .i64 a0_0) rfl; have hcz19_1 := bcell BK155.out 1 (.int .i64 a0_1) rfl; have hcz19_2 := bcell BK155.out 2 (.int .i64 a0_2) rfl; have hcz19_3 := bcell BK155.out 3 (.int .i64 a0_3) rfl; have hcz19_4 := bcell BK155.out 4 (.int .i64 a0_4) rfl; have hcz19_5 := bcell BK155.out 5 (.int .i64 a0_5) rfl; have hcz19_6 := bcell BK155.out 6 (.int .i64 a0_6) rfl; have hcz19_7 := bcell BK155.out 7 (.int .i64 a0_7) rfl; have hcz19_8 := bcell BK155.out 8 (.int .i64 a0_8) rfl; have hcz19_9 := bcell BK155.out 9 (.int .i64 a0_9) rfl; have hcz19_10 := bcell BK155.out 10 (.int .i64 a0_10) rfl; have hcz19_11 := bcell BK155.out 11 (.int .i64 a0_11) rfl; have hcz19_12 := bcell BK155.out 12 (.int .i64 a0_12) rfl; have hcz19_13 := bcell BK155.out 13 (.int .i64 a0_13) rfl; have hcz19_14 := bcell BK155.out 14 (.int .i64 a0_14) rfl; have hcz19_15 := bcell BK155.out 15 (.int .i64 a0_15) rfl; have hcz20_0 := bcell BK156.out 0 (.int .i64 a1_0) rfl; have hcz20_1 := bcell BK156.out 1 (.int .i64 a1_1) rfl; have hcz20_2 := bcell BK156.out 2 (.int .i64 a1_2) rfl; have hcz20_3 := bcell BK156.out 3 (.int .i64 a1_3) rfl; have hcz20_4 := bcell BK156.out 4 (.int .i64 a1_4) rfl; have hcz20_5 := bcell BK156.out 5 (.int .i64 a1_5) rfl; have hcz20_6 := bcell BK156.out 6 (.int .i64 a1_6) rfl; have hcz20_7 := bcell BK156.out 7 (.int .i64 a1_7) rfl; have hcz20_8 := bcell BK156.out 8 (.int .i64 a1_8) rfl; have hcz20_9 := bcell BK156.out 9 (.int .i64 a1_9) rfl; have hcz20_10 := bcell BK156.out 10 (.int .i64 a1_10) rfl; have hcz20_11 := bcell BK156.out 11 (.int .i64 a1_11) rfl; have hcz20_12 := bcell BK156.out 12 (.int .i64 a1_12) rfl; have hcz20_13 := bcell BK156.out 13 (.int .i64 a1_13) rfl; have hcz20_14 := bcell BK156.out 14 (.int .i64 a1_14) rfl; have hcz20_15 := bcell BK156.out 15 (.int .i64 a1_15) rfl) | ((with_reducible refine gate_callee (f := 112) rfl ?_); refine goesL_ (some 26) rfl rfl Try.func112 (by kernel_rfl) rfl #[.agg #[.int .i64 a0_9, .int .i64 a0_10, .int .i64 a0_11, .int .i64 a0_12, .int .i64 a0_13, .int .i64 a0_14, .int .i64 a0_15], .agg #[.int .i64 a1_9, .int .i64 a1_10, .int .i64 a1_11, .int .i64 a1_12, .int .i64 a1_13, .int .i64 a1_14, .int .i64 a1_15]] rfl (by (try simp only [List.map_toArray, List.map_cons, List.map_nil]); first | done | rfl | (simp only [List.length_drop, List.length_take]; rfl)) ?_; (with_reducible refine (laws_eqShift.calls a0_9 a0_10 a0_11 a0_12 a0_13 a0_14 a0_15 a1_9 a1_10 a1_11 a1_12 a1_13 a1_14 a1_15 true _ A8.out).mono ?_); rintro e w21 ⟨rfl, hb⟩; refine ⟨_, rfl, ?_⟩; have n0_ := Aside0.mk (blk_below (g := gb155) (o := .cells #[.int .i64 a0_0, .int .i64 a0_1, .int .i64 a0_2, .int .i64 a0_3, .int .i64 a0_4, .int .i64 a0_5, .int .i64 a0_6, .int .i64 a0_7, .int .i64 a0_8, .int .i64 a0_9, .int .i64 a0_10, .int .i64 a0_11, .int .i64 a0_12, .int .i64 a0_13, .int .i64 a0_14, .int .i64 a0_15] 60 (0, 0)) (by (with_reducible repeat (first | refine blk_drewN ?_ _ | refine blk_drew ?_ | refine blk_alloc ?_ _)); exact BK155.out) hb); have n1_ := Aside0.mk (blk_below (g := gb156) (o := .cells #[.int .i64 a1_0, .int .i64 a1_1, .int .i64 a1_2, .int .i64 a1_3, .int .i64 a1_4, .int .i64 a1_5, .int .i64 a1_6, .int .i64 a1_7, .int .i64 a1_8, .int .i64 a1_9, .int .i64 a1_10, .int .i64 a1_11, .int .i64 a1_12, .int .i64 a1_13, .int .i64 a1_14, .int .i64 a1_15] 60 (0, 0)) (by (with_reducible repeat (first | refine blk_drewN ?_ _ | refine blk_drew ?_ | refine blk_alloc ?_ _)); exact BK156.out) hb); have n2_ := Aside0.mk (below_step (by repeat (first | (with_reducible first | exact HB.out | apply below_alloc | apply pw_below_drewN | apply below_drew1 | refine below_set ?_ GE155.out | refine below_set ?_ GE156.out) | exact HB.out)) hb); clear BK155; clear BK156; clear HB; have BK155 := n0_; have BK156 := n1_; have HB := n2_; clear n0_ n1_ n2_; (try clear hb); (try clear hb2); (try clear hk); (try clear hi)))
     go_ret
     exact ⟨by first | rfl | (simp <;> rfl) | (simp; decide +kernel) | (simp [*] <;> rfl), by repeat (first | (with_reducible first | exact HB.out | apply below_alloc | apply pw_below_drewN | apply below_drew1 | refine below_set ?_ GE155.out | refine below_set ?_ GE156.out) | exact HB.out)⟩
    ·replace c9 := Bool.eq_false_iff.mpr c9
     subst c9
     have H1 : (some false) = some r := by rw [if_neg (show ¬ (false = true) by decide)] at H; exact H
     clear H
     have H := H1
     clear H1
     obtain rfl := Option.some.inj H
     go_enter Try.func82, Try.ntmps82
     go_wp2_with (first | ((with_reducible refine gate_dst (N := 2) rfl ?_); refine box_event ?hg (N := 2) ?hd (cs := #[.int .i64 a0_0, .int .i64 a0_1, .int .i64 a0_2, .int .i64 a0_3, .int .i64 a0_4, .int .i64 a0_5, .int .i64 a0_6, .int .i64 a0_7, .int .i64 a0_8, .int .i64 a0_9, .int .i64 a0_10, .int .i64 a0_11, .int .i64 a0_12, .int .i64 a0_13, .int .i64 a0_14, .int .i64 a0_15]) (t := 60) ?hr ?_; (case hd => rfl); (case hg => rfl); (case hr => first | (go_simp; done) | (go_simp; rfl)); intro gb155 hg w22 hbox hb; have n0_ := Aside0.mk (below_step (by repeat (first | (with_reducible first | exact HB.out | apply below_alloc | apply pw_below_drewN | apply below_drew1) | exact HB.out)) hb); have n1_ := Aside0.mk (hbox); have n2_ := Aside0.mk ((by rw [hg]; exact (below_size (by repeat (first | (with_reducible first | exact HB.out | apply below_alloc | apply pw_below_drewN | apply below_drew1) | exact HB.out))) : w.heap.size ≤ gb155)); have n3_ := n2_; clear HB; have HB := n0_; have BK155 := n1_; have GW155 := n2_; have GE155 := n3_; clear n0_ n1_ n2_ n3_; clear hb hbox hg) | ((with_reducible refine gate_dst (N := 3) rfl ?_); refine box_event ?hg (N := 3) ?hd (cs := #[.int .i64 a1_0, .int .i64 a1_1, .int .i64 a1_2, .int .i64 a1_3, .int .i64 a1_4, .int .i64 a1_5, .int .i64 a1_6, .int .i64 a1_7, .int .i64 a1_8, .int .i64 a1_9, .int .i64 a1_10, .int .i64 a1_11, .int .i64 a1_12, .int .i64 a1_13, .int .i64 a1_14, .int .i64 a1_15]) (t := 60) ?hr ?_; (case hd => rfl); (case hg => rfl); (case hr => first | (go_simp; done) | (go_simp; rfl)); intro gb156 hg w23 hbox hb; have n0_ := Aside0.mk (blk_below (g := gb155) (o := .cells #[.int .i64 a0_0, .int .i64 a0_1, .int .i64 a0_2, .int .i64 a0_3, .int .i64 a0_4, .int .i64 a0_5, .int .i64 a0_6, .int .i64 a0_7, .int .i64 a0_8, .int .i64 a0_9, .int .i64 a0_10, .int .i64 a0_11, .int .i64 a0_12, .int .i64 a0_13, .int .i64 a0_14, .int .i64 a0_15] 60 (0, 0)) (by (with_reducible repeat (first | refine blk_drewN ?_ _ | refine blk_drew ?_ | refine blk_alloc ?_ _)); exact BK155.out) hb); have n1_ := Aside0.mk (below_step (by repeat (first | (with_reducible first | exact HB.out | apply below_alloc | apply pw_below_drewN | apply below_drew1 | refine below_set ?_ GE155.out) | exact HB.out)) hb); have n2_ := Aside0.mk (hbox); have n3_ := Aside0.mk ((by rw [hg]; exact (below_size (by repeat (first | (with_reducible first | exact HB.out | apply below_alloc | apply pw_below_drewN | apply below_drew1 | refine below_set ?_ GE155.out) | exact HB.out))) : w.heap.size ≤ gb156)); have n4_ := Aside0.mk ((by rw [hg]; exact (below_size (by repeat (first | (with_reducible first | exact HB.out | apply below_alloc | apply pw_below_drewN | apply below_drew1 | refine below_set ?_ GE155.out) | exact HB.out))) : w.heap.size ≤ gb156)); have n5_ := Aside0.mk ((by rw [hg]; exact Nat.ne_of_lt (blk_lt (g := gb155) (o := .cells #[.int .i64 a0_0, .int .i64 a0_1, .int .i64 a0_2, .int .i64 a0_3, .int .i64 a0_4, .int .i64 a0_5, .int .i64 a0_6, .int .i64 a0_7, .int .i64 a0_8, .int .i64 a0_9, .int .i64 a0_10, .int .i64 a0_11, .int .i64 a0_12, .int .i64 a0_13, .int .i64 a0_14, .int .i64 a0_15] 60 (0, 0)) (by (with_reducible repeat (first | refine blk_drewN ?_ _ | refine blk_drew ?_ | refine blk_alloc ?_ _)); exact BK155.out)) : gb155 ≠ gb156)); have n6_ := Aside0.mk ((by rw [hg]; exact Nat.ne_of_gt (blk_lt (g := gb155) (o := .cells #[.int .i64 a0_0, .int .i64 a0_1, .int .i64 a0_2, .int .i64 a0_3, .int .i64 a0_4, .int .i64 a0_5, .int .i64 a0_6, .int .i64 a0_7, .int .i64 a0_8, .int .i64 a0_9, .int .i64 a0_10, .int .i64 a0_11, .int .i64 a0_12, .int .i64 a0_13, .int .i64 a0_14, .int .i64 a0_15] 60 (0, 0)) (by (with_reducible repeat (first | refine blk_drewN ?_ _ | refine blk_drew ?_ | refine blk_alloc ?_ _)); exact BK155.out)) : gb156 ≠ gb155)); clear BK155; clear HB; have BK155 := n0_; have HB := n1_; have BK156 := n2_; have GW156 := n3_; have GE156 := n4_; have NB155_156 := n5_; have NB156_155 := n6_; clear n0_ n1_ n2_ n3_ n4_ n5_ n6_; clear hb hbox hg; have hnb24 := NB155_156.out; have hnc24 := NB156_155.out; have hcz25_0 := bcell BK155.out 0 (.int .i64 a0_0) rfl; have hcz25_1 := bcell BK155.out 1 (.int .i64 a0_1) rfl; have hcz25_2 := bcell BK155.out 2 (.int .i64 a0_2) rfl; have hcz25_3 := bcell BK155.out 3 (.int .i64 a0_3) rfl; have hcz25_4 := bcell BK155.out 4 (.int .i64 a0_4) rfl; have hcz25_5 := bcell BK155.out 5 (.int .i64 a0_5) rfl; have hcz25_6 := bcell BK155.out 6 (.int .i64 a0_6) rfl; have hcz25_7 := bcell BK155.out 7 (.int .i64 a0_7) rfl; have hcz25_8 := bcell BK155.out 8 (.int .i64 a0_8) rfl; have hcz25_9 := bcell BK155.out 9 (.int .i64 a0_9) rfl; have hcz25_10 := bcell BK155.out 10 (.int .i64 a0_10) rfl; have hcz25_11 := bcell BK155.out 11 (.int .i64 a0_11) rfl; have hcz25_12 := bcell BK155.out 12 (.int .i64 a0_12) rfl; have hcz25_13 := bcell BK155.out 13 (.int .i64 a0_13) rfl; have hcz25_14 := bcell BK155.out 14 (.int .i64 a0_14) rfl; have hcz25_15 := bcell BK155.out 15 (.int .i64 a0_15) rfl; have hcz26_0 := bcell BK156.out 0 (.int .i64 a1_0) rfl; have hcz26_1 := bcell BK156.out 1 (.int .i64 a1_1) rfl; have hcz26_2 := bcell BK156.out 2 (.int .i64 a1_2) rfl; have hcz26_3 := bcell BK156.out 3 (.int .i64 a1_3) rfl; have hcz26_4 := bcell BK156.out 4 (.int .i64 a1_4) rfl; have hcz26_5 := bcell BK156.out 5 (.int .i64 a1_5) rfl; have hcz26_6 := bcell BK156.out 6 (.int .i64 a1_6) rfl; have hcz26_7 := bcell BK156.out 7 (.int .i64 a1_7) rfl; have hcz26_8 := bcell BK156.out 8 (.int .i64 a1_8) rfl; have hcz26_9 := bcell BK156.out 9 (.int .i64 a1_9) rfl; have hcz26_10 := bcell BK156.out 10 (.int .i64 a1_10) rfl; have hcz26_11 := bcell BK156.out 11 (.int .i64 a1_11) rfl; have hcz26_12 := bcell BK156.out 12 (.int .i64 a1_12) rfl; have hcz26_13 := bcell BK156.out 13 (.int .i64 a1_13) rfl; have hcz26_14 := bcell BK156.out 14 (.int .i64 a1_14) rfl; have hcz26_15 := bcell BK156.out 15 (.int .i64 a1_15) rfl) | ((with_reducible refine gate_callee (f := 65) rfl ?_); refine goesL_ (some 14) rfl rfl Try.func65 (by kernel_rfl) rfl #[.agg #[.int .i64 a0_1, .int .i64 a0_2, .int .i64 a0_3, .int .i64 a0_4, .int .i64 a0_5], .agg #[.int .i64 a1_1, .int .i64 a1_2, .int .i64 a1_3, .int .i64 a1_4, .int .i64 a1_5]] rfl (by (try simp only [List.map_toArray, List.map_cons, List.map_nil]); first | done | rfl | (simp only [List.length_drop, List.length_take]; rfl)) ?_; (with_reducible refine (laws_eqProjection.calls a0_1 a0_2 a0_3 a0_4 a0_5 a1_1 a1_2 a1_3 a1_4 a1_5 true _ A4.out).mono ?_); rintro e w27 ⟨rfl, hb⟩; refine ⟨_, rfl, ?_⟩; have n0_ := Aside0.mk (blk_below (g := gb155) (o := .cells #[.int .i64 a0_0, .int .i64 a0_1, .int .i64 a0_2, .int .i64 a0_3, .int .i64 a0_4, .int .i64 a0_5, .int .i64 a0_6, .int .i64 a0_7, .int .i64 a0_8, .int .i64 a0_9, .int .i64 a0_10, .int .i64 a0_11, .int .i64 a0_12, .int .i64 a0_13, .int .i64 a0_14, .int .i64 a0_15] 60 (0, 0)) (by (with_reducible repeat (first | refine blk_drewN ?_ _ | refine blk_drew ?_ | refine blk_alloc ?_ _)); exact BK155.out) hb); have n1_ := Aside0.mk (blk_below (g := gb156) (o := .cells #[.int .i64 a1_0, .int .i64 a1_1, .int .i64 a1_2, .int .i64 a1_3, .int .i64 a1_4, .int .i64 a1_5, .int .i64 a1_6, .int .i64 a1_7, .int .i64 a1_8, .int .i64 a1_9, .int .i64 a1_10, .int .i64 a1_11, .int .i64 a1_12, .int .i64 a1_13, .int .i64 a1_14, .int .i64 a1_15] 60 (0, 0)) (by (with_reducible repeat (first | refine blk_drewN ?_ _ | refine blk_drew ?_ | refine blk_alloc ?_ _)); exact BK156.out) hb); have n2_ := Aside0.mk (below_step (by repeat (first | (with_reducible first | exact HB.out | apply below_alloc | apply pw_below_drewN | apply below_drew1 | refine below_set ?_ GE155.out | refine below_set ?_ GE156.out) | exact HB.out)) hb); clear BK155; clear BK156; clear HB; have BK155 := n0_; have BK156 := n1_; have HB := n2_; clear n0_ n1_ n2_; (try clear hb); (try clear hb2); (try clear hk); (try clear hi); have hcz28_0 := bcell BK155.out 0 (.int .i64 a0_0) rfl; have hcz28_1 := bcell BK155.out 1 (.int .i64 a0_1) rfl; have hcz28_2 := bcell BK155.out 2 (.int .i64 a0_2) rfl; have hcz28_3 := bcell BK155.out 3 (.int .i64 a0_3) rfl; have hcz28_4 := bcell BK155.out 4 (.int .i64 a0_4) rfl; have hcz28_5 := bcell BK155.out 5 (.int .i64 a0_5) rfl; have hcz28_6 := bcell BK155.out 6 (.int .i64 a0_6) rfl; have hcz28_7 := bcell BK155.out 7 (.int .i64 a0_7) rfl; have hcz28_8 := bcell BK155.out 8 (.int .i64 a0_8) rfl; have hcz28_9 := bcell BK155.out 9 (.int .i64 a0_9) rfl; have hcz28_10 := bcell BK155.out 10 (.int .i64 a0_10) rfl; have hcz28_11 := bcell BK155.out 11 (.int .i64 a0_11) rfl; have hcz28_12 := bcell BK155.out 12 (.int .i64 a0_12) rfl; have hcz28_13 := bcell BK155.out 13 (.int .i64 a0_13) rfl; have hcz28_14 := bcell BK155.out 14 (.int .i64 a0_14) rfl; have hcz28_15 := bcell BK155.out 15 (.int .i64 a0_15) rfl; have hcz29_0 := bcell BK156.out 0 (.int .i64 a1_0) rfl; have hcz29_1 := bcell BK156.out 1 (.int .i64 a1_1) rfl; have hcz29_2 := bcell BK156.out 2 (.int .i64 a1_2) rfl; have hcz29_3 := bcell BK156.out 3 (.int .i64 a1_3) rfl; have hcz29_4 := bcell BK156.out 4 (.int .i64 a1_4) rfl; have hcz29_5 := bcell BK156.out 5 (.int .i64 a1_5) rfl; have hcz29_6 := bcell BK156.out 6 (.int .i64 a1_6) rfl; have hcz29_7 := bcell BK156.out 7 (.int .i64 a1_7) rfl; have hcz29_8 := bcell BK156.out 8 (.int .i64 a1_8) rfl; have hcz29_9 := bcell BK156.out 9 (.int .i64 a1_9) rfl; have hcz29_10 := bcell BK156.out 10 (.int .i64 a1_10) rfl; have hcz29_11 := bcell BK156.out 11 (.int .i64 a1_11) rfl; have hcz29_12 := bcell BK156.out 12 (.int .i64 a1_12) rfl; have hcz29_13 := bcell BK156.out 13 (.int .i64 a1_13) rfl; have hcz29_14 := bcell BK156.out 14 (.int .i64 a1_14) rfl; have hcz29_15 := bcell BK156.out 15 (.int .i64 a1_15) rfl) | ((with_reducible refine gate_callee (f := 64) rfl ?_); refine goesL_ (some 20) rfl rfl Try.func64 (by kernel_rfl) rfl #[.agg #[.int .i64 a0_6, .int .i64 a0_7, .int .i64 a0_8], .agg #[.int .i64 a1_6, .int .i64 a1_7, .int .i64 a1_8]] rfl (by (try simp only [List.map_toArray, List.map_cons, List.map_nil]); first | done | rfl | (simp only [List.length_drop, List.length_take]; rfl)) ?_; (with_reducible refine (laws_eqEllipsoid.calls a0_6 a0_7 a0_8 a1_6 a1_7 a1_8 true _ A6.out).mono ?_); rintro e w30 ⟨rfl, hb⟩; refine ⟨_, rfl, ?_⟩; have n0_ := Aside0.mk (blk_below (g := gb155) (o := .cells #[.int .i64 a0_0, .int .i64 a0_1, .int .i64 a0_2, .int .i64 a0_3, .int .i64 a0_4, .int .i64 a0_5, .int .i64 a0_6, .int .i64 a0_7, .int .i64 a0_8, .int .i64 a0_9, .int .i64 a0_10, .int .i64 a0_11, .int .i64 a0_12, .int .i64 a0_13, .int .i64 a0_14, .int .i64 a0_15] 60 (0, 0)) (by (with_reducible repeat (first | refine blk_drewN ?_ _ | refine blk_drew ?_ | refine blk_alloc ?_ _)); exact BK155.out) hb); have n1_ := Aside0.mk (blk_below (g := gb156) (o := .cells #[.int .i64 a1_0, .int .i64 a1_1, .int .i64 a1_2, .int .i64 a1_3, .int .i64 a1_4, .int .i64 a1_5, .int .i64 a1_6, .int .i64 a1_7, .int .i64 a1_8, .int .i64 a1_9, .int .i64 a1_10, .int .i64 a1_11, .int .i64 a1_12, .int .i64 a1_13, .int .i64 a1_14, .int .i64 a1_15] 60 (0, 0)) (by (with_reducible repeat (first | refine blk_drewN ?_ _ | refine blk_drew ?_ | refine blk_alloc ?_ _)); exact BK156.out) hb); have n2_ := Aside0.mk (below_step (by repeat (first | (with_reducible first | exact HB.out | apply below_alloc | apply pw_below_drewN | apply below_drew1 | refine below_set ?_ GE155.out | refine below_set ?_ GE156.out) | exact HB.out)) hb); clear BK155; clear BK156; clear HB; have BK155 := n0_; have BK156 := n1_; have HB := n2_; clear n0_ n1_ n2_; (try clear hb); (try clear hb2); (try clear hk); (try clear hi); have hcz31_0 := bcell BK155.out 0 (.int .i64 a0_0) rfl; have hcz31_1 := bcell BK155.out 1 (.int .i64 a0_1) rfl; have hcz31_2 := bcell BK155.out 2 (.int .i64 a0_2) rfl; have hcz31_3 := bcell BK155.out 3 (.int .i64 a0_3) rfl; have hcz31_4 := bcell BK155.out 4 (.int .i64 a0_4) rfl; have hcz31_5 := bcell BK155.out 5 (.int .i64 a0_5) rfl; have hcz31_6 := bcell BK155.out 6 (.int .i64 a0_6) rfl; have hcz31_7 := bcell BK155.out 7 (.int .i64 a0_7) rfl; have hcz31_8 := bcell BK155.out 8 (.int .i64 a0_8) rfl; have hcz31_9 := bcell BK155.out 9 (.int .i64 a0_9) rfl; have hcz31_10 := bcell BK155.out 10 (.int .i64 a0_10) rfl; have hcz31_11 := bcell BK155.out 11 (.int .i64 a0_11) rfl; have hcz31_12 := bcell BK155.out 12 (.int .i64 a0_12) rfl; have hcz31_13 := bcell BK155.out 13 (.int .i64 a0_13) rfl; have hcz31_14 := bcell BK155.out 14 (.int .i64 a0_14) rfl; have hcz31_15 := bcell BK155.out 15 (.int .i64 a0_15) rfl; have hcz32_0 := bcell BK156.out 0 (.int .i64 a1_0) rfl; have hcz32_1 := bcell BK156.out 1 (.int .i64 a1_1) rfl; have hcz32_2 := bcell BK156.out 2 (.int .i64 a1_2) rfl; have hcz32_3 := bcell BK156.out 3 (.int .i64 a1_3) rfl; have hcz32_4 := bcell BK156.out 4 (.int .i64 a1_4) rfl; have hcz32_5 := bcell BK156.out 5 (.int .i64 a1_5) rfl; have hcz32_6 := bcell BK156.out 6 (.int .i64 a1_6) rfl; have hcz32_7 := bcell BK156.out 7 (.int .i64 a1_7) rfl; have hcz32_8 := bcell BK156.out 8 (.int .i64 a1_8) rfl; have hcz32_9 := bcell BK156.out 9 (.int .i64 a1_9) rfl; have hcz32_10 := bcell BK156.out 10 (.int .i64 a1_10) rfl; have hcz32_11 := bcell BK156.out 11 (.int .i64 a1_11) rfl; have hcz32_12 := bcell BK156.out 12 (.int .i64 a1_12) rfl; have hcz32_13 := bcell BK156.out 13 (.int .i64 a1_13) rfl; have hcz32_14 := bcell BK156.out 14 (.int .i64 a1_14) rfl; have hcz32_15 := bcell BK156.out 15 (.int .i64 a1_15) rfl) | ((with_reducible refine gate_callee (f := 112) rfl ?_); refine goesL_ (some 26) rfl rfl Try.func112 (by kernel_rfl) rfl #[.agg #[.int .i64 a0_9, .int .i64 a0_10, .int .i64 a0_11, .int .i64 a0_12, .int .i64 a0_13, .int .i64 a0_14, .int .i64 a0_15], .agg #[.int .i64 a1_9, .int .i64 a1_10, .int .i64 a1_11, .int .i64 a1_12, .int .i64 a1_13, .int .i64 a1_14, .int .i64 a1_15]] rfl (by (try simp only [List.map_toArray, List.map_cons, List.map_nil]); first | done | rfl | (simp only [List.length_drop, List.length_take]; rfl)) ?_; (with_reducible refine (laws_eqShift.calls a0_9 a0_10 a0_11 a0_12 a0_13 a0_14 a0_15 a1_9 a1_10 a1_11 a1_12 a1_13 a1_14 a1_15 false _ A8.out).mono ?_); rintro e w33 ⟨rfl, hb⟩; refine ⟨_, rfl, ?_⟩; have n0_ := Aside0.mk (blk_below (g := gb155) (o := .cells #[.int .i64 a0_0, .int .i64 a0_1, .int .i64 a0_2, .int .i64 a0_3, .int .i64 a0_4, .int .i64 a0_5, .int .i64 a0_6, .int .i64 a0_7, .int .i64 a0_8, .int .i64 a0_9, .int .i64 a0_10, .int .i64 a0_11, .int .i64 a0_12, .int .i64 a0_13, .int .i64 a0_14, .int .i64 a0_15] 60 (0, 0)) (by (with_reducible repeat (first | refine blk_drewN ?_ _ | refine blk_drew ?_ | refine blk_alloc ?_ _)); exact BK155.out) hb); have n1_ := Aside0.mk (blk_below (g := gb156) (o := .cells #[.int .i64 a1_0, .int .i64 a1_1, .int .i64 a1_2, .int .i64 a1_3, .int .i64 a1_4, .int .i64 a1_5, .int .i64 a1_6, .int .i64 a1_7, .int .i64 a1_8, .int .i64 a1_9, .int .i64 a1_10, .int .i64 a1_11, .int .i64 a1_12, .int .i64 a1_13, .int .i64 a1_14, .int .i64 a1_15] 60 (0, 0)) (by (with_reducible repeat (first | refine blk_drewN ?_ _ | refine blk_drew ?_ | refine blk_alloc ?_ _)); exact BK156.out) hb); have n2_ := Aside0.mk (below_step (by repeat (first | (with_reducible first | exact HB.out | apply below_alloc | apply pw_below_drewN | apply below_drew1 | refine below_set ?_ GE155.out | refine below_set ?_ GE156.out) | exact HB.out)) hb); clear BK155; clear BK156; clear HB; have BK155 := n0_; have BK156 := n1_; have HB := n2_; clear n0_ n1_ n2_; (try clear hb); (try clear hb2); (try clear hk); (try clear hi)))
     go_ret
     exact ⟨by first | rfl | (simp <;> rfl) | (simp; decide +kernel) | (simp [*] <;> rfl), by repeat (first | (with_reducible first | exact HB.out | apply below_alloc | apply pw_below_drewN | apply below_drew1 | refine below_set ?_ GE155.out | refine below_set ?_ GE156.out) | exact HB.out)⟩
   ·replace c7 := Bool.eq_false_iff.mpr c7
    subst c7
    have H1 : (some false) = some r := by rw [if_neg (show ¬ (false = true) by decide)] at H; exact H
    clear H
    have H := H1
    clear H1
    obtain rfl := Option.some.inj H
    go_enter Try.func82, Try.ntmps82
    go_wp2_with (first | ((with_reducible refine gate_dst (N := 2) rfl ?_); refine box_event ?hg (N := 2) ?hd (cs := #[.int .i64 a0_0, .int .i64 a0_1, .int .i64 a0_2, .int .i64 a0_3, .int .i64 a0_4, .int .i64 a0_5, .int .i64 a0_6, .int .i64 a0_7, .int .i64 a0_8, .int .i64 a0_9, .int .i64 a0_10, .int .i64 a0_11, .int .i64 a0_12, .int .i64 a0_13, .int .i64 a0_14, .int .i64 a0_15]) (t := 60) ?hr ?_; (case hd => rfl); (case hg => rfl); (case hr => first | (go_simp; done) | (go_simp; rfl)); intro gb155 hg w34 hbox hb; have n0_ := Aside0.mk (below_step (by repeat (first | (with_reducible first | exact HB.out | apply below_alloc | apply pw_below_drewN | apply below_drew1) | exact HB.out)) hb); have n1_ := Aside0.mk (hbox); have n2_ := Aside0.mk ((by rw [hg]; exact (below_size (by repeat (first | (with_reducible first | exact HB.out | apply below_alloc | apply pw_below_drewN | apply below_drew1) | exact HB.out))) : w.heap.size ≤ gb155)); have n3_ := n2_; clear HB; have HB := n0_; have BK155 := n1_; have GW155 := n2_; have GE155 := n3_; clear n0_ n1_ n2_ n3_; clear hb hbox hg) | ((with_reducible refine gate_dst (N := 3) rfl ?_); refine box_event ?hg (N := 3) ?hd (cs := #[.int .i64 a1_0, .int .i64 a1_1, .int .i64 a1_2, .int .i64 a1_3, .int .i64 a1_4, .int .i64 a1_5, .int .i64 a1_6, .int .i64 a1_7, .int .i64 a1_8, .int .i64 a1_9, .int .i64 a1_10, .int .i64 a1_11, .int .i64 a1_12, .int .i64 a1_13, .int .i64 a1_14, .int .i64 a1_15]) (t := 60) ?hr ?_; (case hd => rfl); (case hg => rfl); (case hr => first | (go_simp; done) | (go_simp; rfl)); intro gb156 hg w35 hbox hb; have n0_ := Aside0.mk (blk_below (g := gb155) (o := .cells #[.int .i64 a0_0, .int .i64 a0_1, .int .i64 a0_2, .int .i64 a0_3, .int .i64 a0_4, .int .i64 a0_5, .int .i64 a0_6, .int .i64 a0_7, .int .i64 a0_8, .int .i64 a0_9, .int .i64 a0_10, .int .i64 a0_11, .int .i64 a0_12, .int .i64 a0_13, .int .i64 a0_14, .int .i64 a0_15] 60 (0, 0)) (by (with_reducible repeat (first | refine blk_drewN ?_ _ | refine blk_drew ?_ | refine blk_alloc ?_ _)); exact BK155.out) hb); have n1_ := Aside0.mk (below_step (by repeat (first | (with_reducible first | exact HB.out | apply below_alloc | apply pw_below_drewN | apply below_drew1 | refine below_set ?_ GE155.out) | exact HB.out)) hb); have n2_ := Aside0.mk (hbox); have n3_ := Aside0.mk ((by rw [hg]; exact (below_size (by repeat (first | (with_reducible first | exact HB.out | apply below_alloc | apply pw_below_drewN | apply below_drew1 | refine below_set ?_ GE155.out) | exact HB.out))) : w.heap.size ≤ gb156)); have n4_ := Aside0.mk ((by rw [hg]; exact (below_size (by repeat (first | (with_reducible first | exact HB.out | apply below_alloc | apply pw_below_drewN | apply below_drew1 | refine below_set ?_ GE155.out) | exact HB.out))) : w.heap.size ≤ gb156)); have n5_ := Aside0.mk ((by rw [hg]; exact Nat.ne_of_lt (blk_lt (g := gb155) (o := .cells #[.int .i64 a0_0, .int .i64 a0_1, .int .i64 a0_2, .int .i64 a0_3, .int .i64 a0_4, .int .i64 a0_5, .int .i64 a0_6, .int .i64 a0_7, .int .i64 a0_8, .int .i64 a0_9, .int .i64 a0_10, .int .i64 a0_11, .int .i64 a0_12, .int .i64 a0_13, .int .i64 a0_14, .int .i64 a0_15] 60 (0, 0)) (by (with_reducible repeat (first | refine blk_drewN ?_ _ | refine blk_drew ?_ | refine blk_alloc ?_ _)); exact BK155.out)) : gb155 ≠ gb156)); have n6_ := Aside0.mk ((by rw [hg]; exact Nat.ne_of_gt (blk_lt (g := gb155) (o := .cells #[.int .i64 a0_0, .int .i64 a0_1, .int .i64 a0_2, .int .i64 a0_3, .int .i64 a0_4, .int .i64 a0_5, .int .i64 a0_6, .int .i64 a0_7, .int .i64 a0_8, .int .i64 a0_9, .int .i64 a0_10, .int .i64 a0_11, .int .i64 a0_12, .int .i64 a0_13, .int .i64 a0_14, .int .i64 a0_15] 60 (0, 0)) (by (with_reducible repeat (first | refine blk_drewN ?_ _ | refine blk_drew ?_ | refine blk_alloc ?_ _)); exact BK155.out)) : gb156 ≠ gb155)); clear BK155; clear HB; have BK155 := n0_; have HB := n1_; have BK156 := n2_; have GW156 := n3_; have GE156 := n4_; have NB155_156 := n5_; have NB156_155 := n6_; clear n0_ n1_ n2_ n3_ n4_ n5_ n6_; clear hb hbox hg; have hnb36 := NB155_156.out; have hnc36 := NB156_155.out; have hcz37_0 := bcell BK155.out 0 (.int .i64 a0_0) rfl; have hcz37_1 := bcell BK155.out 1 (.int .i64 a0_1) rfl; have hcz37_2 := bcell BK155.out 2 (.int .i64 a0_2) rfl; have hcz37_3 := bcell BK155.out 3 (.int .i64 a0_3) rfl; have hcz37_4 := bcell BK155.out 4 (.int .i64 a0_4) rfl; have hcz37_5 := bcell BK155.out 5 (.int .i64 a0_5) rfl; have hcz37_6 := bcell BK155.out 6 (.int .i64 a0_6) rfl; have hcz37_7 := bcell BK155.out 7 (.int .i64 a0_7) rfl; have hcz37_8 := bcell BK155.out 8 (.int .i64 a0_8) rfl; have hcz37_9 := bcell BK155.out 9 (.int .i64 a0_9) rfl; have hcz37_10 := bcell BK155.out 10 (.int .i64 a0_10) rfl; have hcz37_11 := bcell BK155.out 11 (.int .i64 a0_11) rfl; have hcz37_12 := bcell BK155.out 12 (.int .i64 a0_12) rfl; have hcz37_13 := bcell BK155.out 13 (.int .i64 a0_13) rfl; have hcz37_14 := bcell BK155.out 14 (.int .i64 a0_14) rfl; have hcz37_15 := bcell BK155.out 15 (.int .i64 a0_15) rfl; have hcz38_0 := bcell BK156.out 0 (.int .i64 a1_0) rfl; have hcz38_1 := bcell BK156.out 1 (.int .i64 a1_1) rfl; have hcz38_2 := bcell BK156.out 2 (.int .i64 a1_2) rfl; have hcz38_3 := bcell BK156.out 3 (.int .i64 a1_3) rfl; have hcz38_4 := bcell BK156.out 4 (.int .i64 a1_4) rfl; have hcz38_5 := bcell BK156.out 5 (.int .i64 a1_5) rfl; have hcz38_6 := bcell BK156.out 6 (.int .i64 a1_6) rfl; have hcz38_7 := bcell BK156.out 7 (.int .i64 a1_7) rfl; have hcz38_8 := bcell BK156.out 8 (.int .i64 a1_8) rfl; have hcz38_9 := bcell BK156.out 9 (.int .i64 a1_9) rfl; have hcz38_10 := bcell BK156.out 10 (.int .i64 a1_10) rfl; have hcz38_11 := bcell BK156.out 11 (.int .i64 a1_11) rfl; have hcz38_12 := bcell BK156.out 12 (.int .i64 a1_12) rfl; have hcz38_13 := bcell BK156.out 13 (.int .i64 a1_13) rfl; have hcz38_14 := bcell BK156.out 14 (.int .i64 a1_14) rfl; have hcz38_15 := bcell BK156.out 15 (.int .i64 a1_15) rfl) | ((with_reducible refine gate_callee (f := 65) rfl ?_); refine goesL_ (some 14) rfl rfl Try.func65 (by kernel_rfl) rfl #[.agg #[.int .i64 a0_1, .int .i64 a0_2, .int .i64 a0_3, .int .i64 a0_4, .int .i64 a0_5], .agg #[.int .i64 a1_1, .int .i64 a1_2, .int .i64 a1_3, .int .i64 a1_4, .int .i64 a1_5]] rfl (by (try simp only [List.map_toArray, List.map_cons, List.map_nil]); first | done | rfl | (simp only [List.length_drop, List.length_take]; rfl)) ?_; (with_reducible refine (laws_eqProjection.calls a0_1 a0_2 a0_3 a0_4 a0_5 a1_1 a1_2 a1_3 a1_4 a1_5 true _ A4.out).mono ?_); rintro e w39 ⟨rfl, hb⟩; refine ⟨_, rfl, ?_⟩; have n0_ := Aside0.mk (blk_below (g := gb155) (o := .cells #[.int .i64 a0_0, .int .i64 a0_1, .int .i64 a0_2, .int .i64 a0_3, .int .i64 a0_4, .int .i64 a0_5, .int .i64 a0_6, .int .i64 a0_7, .int .i64 a0_8, .int .i64 a0_9, .int .i64 a0_10, .int .i64 a0_11, .int .i64 a0_12, .int .i64 a0_13, .int .i64 a0_14, .int .i64 a0_15] 60 (0, 0)) (by (with_reducible repeat (first | refine blk_drewN ?_ _ | refine blk_drew ?_ | refine blk_alloc ?_ _)); exact BK155.out) hb); have n1_ := Aside0.mk (blk_below (g := gb156) (o := .cells #[.int .i64 a1_0, .int .i64 a1_1, .int .i64 a1_2, .int .i64 a1_3, .int .i64 a1_4, .int .i64 a1_5, .int .i64 a1_6, .int .i64 a1_7, .int .i64 a1_8, .int .i64 a1_9, .int .i64 a1_10, .int .i64 a1_11, .int .i64 a1_12, .int .i64 a1_13, .int .i64 a1_14, .int .i64 a1_15] 60 (0, 0)) (by (with_reducible repeat (first | refine blk_drewN ?_ _ | refine blk_drew ?_ | refine blk_alloc ?_ _)); exact BK156.out) hb); have n2_ := Aside0.mk (below_step (by repeat (first | (with_reducible first | exact HB.out | apply below_alloc | apply pw_below_drewN | apply below_drew1 | refine below_set ?_ GE155.out | refine below_set ?_ GE156.out) | exact HB.out)) hb); clear BK155; clear BK156; clear HB; have BK155 := n0_; have BK156 := n1_; have HB := n2_; clear n0_ n1_ n2_; (try clear hb); (try clear hb2); (try clear hk); (try clear hi); have hcz40_0 := bcell BK155.out 0 (.int .i64 a0_0) rfl; have hcz40_1 := bcell BK155.out 1 (.int .i64 a0_1) rfl; have hcz40_2 := bcell BK155.out 2 (.int .i64 a0_2) rfl; have hcz40_3 := bcell BK155.out 3 (.int .i64 a0_3) rfl; have hcz40_4 := bcell BK155.out 4 (.int .i64 a0_4) rfl; have hcz40_5 := bcell BK155.out 5 (.int .i64 a0_5) rfl; have hcz40_6 := bcell BK155.out 6 (.int .i64 a0_6) rfl; have hcz40_7 := bcell BK155.out 7 (.int .i64 a0_7) rfl; have hcz40_8 := bcell BK155.out 8 (.int .i64 a0_8) rfl; have hcz40_9 := bcell BK155.out 9 (.int .i64 a0_9) rfl; have hcz40_10 := bcell BK155.out 10 (.int .i64 a0_10) rfl; have hcz40_11 := bcell BK155.out 11 (.int .i64 a0_11) rfl; have hcz40_12 := bcell BK155.out 12 (.int .i64 a0_12) rfl; have hcz40_13 := bcell BK155.out 13 (.int .i64 a0_13) rfl; have hcz40_14 := bcell BK155.out 14 (.int .i64 a0_14) rfl; have hcz40_15 := bcell BK155.out 15 (.int .i64 a0_15) rfl; have hcz41_0 := bcell BK156.out 0 (.int .i64 a1_0) rfl; have hcz41_1 := bcell BK156.out 1 (.int .i64 a1_1) rfl; have hcz41_2 := bcell BK156.out 2 (.int .i64 a1_2) rfl; have hcz41_3 := bcell BK156.out 3 (.int .i64 a1_3) rfl; have hcz41_4 := bcell BK156.out 4 (.int .i64 a1_4) rfl; have hcz41_5 := bcell BK156.out 5 (.int .i64 a1_5) rfl; have hcz41_6 := bcell BK156.out 6 (.int .i64 a1_6) rfl; have hcz41_7 := bcell BK156.out 7 (.int .i64 a1_7) rfl; have hcz41_8 := bcell BK156.out 8 (.int .i64 a1_8) rfl; have hcz41_9 := bcell BK156.out 9 (.int .i64 a1_9) rfl; have hcz41_10 := bcell BK156.out 10 (.int .i64 a1_10) rfl; have hcz41_11 := bcell BK156.out 11 (.int .i64 a1_11) rfl; have hcz41_12 := bcell BK156.out 12 (.int .i64 a1_12) rfl; have hcz41_13 := bcell BK156.out 13 (.int .i64 a1_13) rfl; have hcz41_14 := bcell BK156.out 14 (.int .i64 a1_14) rfl; have hcz41_15 := bcell BK156.out 15 (.int .i64 a1_15) rfl) | ((with_reducible refine gate_callee (f := 64) rfl ?_); refine goesL_ (some 20) rfl rfl Try.func64 (by kernel_rfl) rfl #[.agg #[.int .i64 a0_6, .int .i64 a0_7, .int .i64 a0_8], .agg #[.int .i64 a1_6, .int .i64 a1_7, .int .i64 a1_8]] rfl (by (try simp only [List.map_toArray, List.map_cons, List.map_nil]); first | done | rfl | (simp only [List.length_drop, List.length_take]; rfl)) ?_; (with_reducible refine (laws_eqEllipsoid.calls a0_6 a0_7 a0_8 a1_6 a1_7 a1_8 false _ A6.out).mono ?_); rintro e w42 ⟨rfl, hb⟩; refine ⟨_, rfl, ?_⟩; have n0_ := Aside0.mk (blk_below (g := gb155) (o := .cells #[.int .i64 a0_0, .int .i64 a0_1, .int .i64 a0_2, .int .i64 a0_3, .int .i64 a0_4, .int .i64 a0_5, .int .i64 a0_6, .int .i64 a0_7, .int .i64 a0_8, .int .i64 a0_9, .int .i64 a0_10, .int .i64 a0_11, .int .i64 a0_12, .int .i64 a0_13, .int .i64 a0_14, .int .i64 a0_15] 60 (0, 0)) (by (with_reducible repeat (first | refine blk_drewN ?_ _ | refine blk_drew ?_ | refine blk_alloc ?_ _)); exact BK155.out) hb); have n1_ := Aside0.mk (blk_below (g := gb156) (o := .cells #[.int .i64 a1_0, .int .i64 a1_1, .int .i64 a1_2, .int .i64 a1_3, .int .i64 a1_4, .int .i64 a1_5, .int .i64 a1_6, .int .i64 a1_7, .int .i64 a1_8, .int .i64 a1_9, .int .i64 a1_10, .int .i64 a1_11, .int .i64 a1_12, .int .i64 a1_13, .int .i64 a1_14, .int .i64 a1_15] 60 (0, 0)) (by (with_reducible repeat (first | refine blk_drewN ?_ _ | refine blk_drew ?_ | refine blk_alloc ?_ _)); exact BK156.out) hb); have n2_ := Aside0.mk (below_step (by repeat (first | (with_reducible first | exact HB.out | apply below_alloc | apply pw_below_drewN | apply below_drew1 | refine below_set ?_ GE155.out | refine below_set ?_ GE156.out) | exact HB.out)) hb); clear BK155; clear BK156; clear HB; have BK155 := n0_; have BK156 := n1_; have HB := n2_; clear n0_ n1_ n2_; (try clear hb); (try clear hb2); (try clear hk); (try clear hi)))
    go_ret
    exact ⟨by first | rfl | (simp <;> rfl) | (simp; decide +kernel) | (simp [*] <;> rfl), by repeat (first | (with_reducible first | exact HB.out | apply below_alloc | apply pw_below_drewN | apply below_drew1 | refine below_set ?_ GE155.out | refine below_set ?_ GE156.out) | exact HB.out)⟩
  ·replace c5 := Bool.eq_false_iff.mpr c5
   subst c5
   have H1 : (some false) = some r := by rw [if_neg (show ¬ (false = true) by decide)] at H; exact H
   clear H
   have H := H1
   clear H1
   obtain rfl := Option.some.inj H
   go_enter Try.func82, Try.ntmps82
   go_wp2_with (first | ((with_reducible refine gate_dst (N := 2) rfl ?_); refine box_event ?hg (N := 2) ?hd (cs := #[.int .i64 a0_0, .int .i64 a0_1, .int .i64 a0_2, .int .i64 a0_3, .int .i64 a0_4, .int .i64 a0_5, .int .i64 a0_6, .int .i64 a0_7, .int .i64 a0_8, .int .i64 a0_9, .int .i64 a0_10, .int .i64 a0_11, .int .i64 a0_12, .int .i64 a0_13, .int .i64 a0_14, .int .i64 a0_15]) (t := 60) ?hr ?_; (case hd => rfl); (case hg => rfl); (case hr => first | (go_simp; done) | (go_simp; rfl)); intro gb155 hg w43 hbox hb; have n0_ := Aside0.mk (below_step (by repeat (first | (with_reducible first | exact HB.out | apply below_alloc | apply pw_below_drewN | apply below_drew1) | exact HB.out)) hb); have n1_ := Aside0.mk (hbox); have n2_ := Aside0.mk ((by rw [hg]; exact (below_size (by repeat (first | (with_reducible first | exact HB.out | apply below_alloc | apply pw_below_drewN | apply below_drew1) | exact HB.out))) : w.heap.size ≤ gb155)); have n3_ := n2_; clear HB; have HB := n0_; have BK155 := n1_; have GW155 := n2_; have GE155 := n3_; clear n0_ n1_ n2_ n3_; clear hb hbox hg) | ((with_reducible refine gate_dst (N := 3) rfl ?_); refine box_event ?hg (N := 3) ?hd (cs := #[.int .i64 a1_0, .int .i64 a1_1, .int .i64 a1_2, .int .i64 a1_3, .int .i64 a1_4, .int .i64 a1_5, .int .i64 a1_6, .int .i64 a1_7, .int .i64 a1_8, .int .i64 a1_9, .int .i64 a1_10, .int .i64 a1_11, .int .i64 a1_12, .int .i64 a1_13, .int .i64 a1_14, .int .i64 a1_15]) (t := 60) ?hr ?_; (case hd => rfl); (case hg => rfl); (case hr => first | (go_simp; done) | (go_simp; rfl)); intro gb156 hg w44 hbox hb; have n0_ := Aside0.mk (blk_below (g := gb155) (o := .cells #[.int .i64 a0_0, .int .i64 a0_1, .int .i64 a0_2, .int .i64 a0_3, .int .i64 a0_4, .int .i64 a0_5, .int .i64 a0_6, .int .i64 a0_7, .int .i64 a0_8, .int .i64 a0_9, .int .i64 a0_10, .int .i64 a0_11, .int .i64 a0_12, .int .i64 a0_13, .int .i64 a0_14, .int .i64 a0_15] 60 (0, 0)) (by (with_reducible repeat (first | refine blk_drewN ?_ _ | refine blk_drew ?_ | refine blk_alloc ?_ _)); exact BK155.out) hb); have n1_ := Aside0.mk (below_step (by repeat (first | (with_reducible first | exact HB.out | apply below_alloc | apply pw_below_drewN | apply below_drew1 | refine below_set ?_ GE155.out) | exact HB.out)) hb); have n2_ := Aside0.mk (hbox); have n3_ := Aside0.mk ((by rw [hg]; exact (below_size (by repeat (first | (with_reducible first | exact HB.out | apply below_alloc | apply pw_below_drewN | apply below_drew1 | refine below_set ?_ GE155.out) | exact HB.out))) : w.heap.size ≤ gb156)); have n4_ := Aside0.mk ((by rw [hg]; exact (below_size (by repeat (first | (with_reducible first | exact HB.out | apply below_alloc | apply pw_below_drewN | apply below_drew1 | refine below_set ?_ GE155.out) | exact HB.out))) : w.heap.size ≤ gb156)); have n5_ := Aside0.mk ((by rw [hg]; exact Nat.ne_of_lt (blk_lt (g := gb155) (o := .cells #[.int .i64 a0_0, .int .i64 a0_1, .int .i64 a0_2, .int .i64 a0_3, .int .i64 a0_4, .int .i64 a0_5, .int .i64 a0_6, .int .i64 a0_7, .int .i64 a0_8, .int .i64 a0_9, .int .i64 a0_10, .int .i64 a0_11, .int .i64 a0_12, .int .i64 a0_13, .int .i64 a0_14, .int .i64 a0_15] 60 (0, 0)) (by (with_reducible repeat (first | refine blk_drewN ?_ _ | refine blk_drew ?_ | refine blk_alloc ?_ _)); exact BK155.out)) : gb155 ≠ gb156)); have n6_ := Aside0.mk ((by rw [hg]; exact Nat.ne_of_gt (blk_lt (g := gb155) (o := .cells #[.int .i64 a0_0, .int .i64 a0_1, .int .i64 a0_2, .int .i64 a0_3, .int .i64 a0_4, .int .i64 a0_5, .int .i64 a0_6, .int .i64 a0_7, .int .i64 a0_8, .int .i64 a0_9, .int .i64 a0_10, .int .i64 a0_11, .int .i64 a0_12, .int .i64 a0_13, .int .i64 a0_14, .int .i64 a0_15] 60 (0, 0)) (by (with_reducible repeat (first | refine blk_drewN ?_ _ | refine blk_drew ?_ | refine blk_alloc ?_ _)); exact BK155.out)) : gb156 ≠ gb155)); clear BK155; clear HB; have BK155 := n0_; have HB := n1_; have BK156 := n2_; have GW156 := n3_; have GE156 := n4_; have NB155_156 := n5_; have NB156_155 := n6_; clear n0_ n1_ n2_ n3_ n4_ n5_ n6_; clear hb hbox hg; have hnb45 := NB155_156.out; have hnc45 := NB156_155.out; have hcz46_0 := bcell BK155.out 0 (.int .i64 a0_0) rfl; have hcz46_1 := bcell BK155.out 1 (.int .i64 a0_1) rfl; have hcz46_2 := bcell BK155.out 2 (.int .i64 a0_2) rfl; have hcz46_3 := bcell BK155.out 3 (.int .i64 a0_3) rfl; have hcz46_4 := bcell BK155.out 4 (.int .i64 a0_4) rfl; have hcz46_5 := bcell BK155.out 5 (.int .i64 a0_5) rfl; have hcz46_6 := bcell BK155.out 6 (.int .i64 a0_6) rfl; have hcz46_7 := bcell BK155.out 7 (.int .i64 a0_7) rfl; have hcz46_8 := bcell BK155.out 8 (.int .i64 a0_8) rfl; have hcz46_9 := bcell BK155.out 9 (.int .i64 a0_9) rfl; have hcz46_10 := bcell BK155.out 10 (.int .i64 a0_10) rfl; have hcz46_11 := bcell BK155.out 11 (.int .i64 a0_11) rfl; have hcz46_12 := bcell BK155.out 12 (.int .i64 a0_12) rfl; have hcz46_13 := bcell BK155.out 13 (.int .i64 a0_13) rfl; have hcz46_14 := bcell BK155.out 14 (.int .i64 a0_14) rfl; have hcz46_15 := bcell BK155.out 15 (.int .i64 a0_15) rfl; have hcz47_0 := bcell BK156.out 0 (.int .i64 a1_0) rfl; have hcz47_1 := bcell BK156.out 1 (.int .i64 a1_1) rfl; have hcz47_2 := bcell BK156.out 2 (.int .i64 a1_2) rfl; have hcz47_3 := bcell BK156.out 3 (.int .i64 a1_3) rfl; have hcz47_4 := bcell BK156.out 4 (.int .i64 a1_4) rfl; have hcz47_5 := bcell BK156.out 5 (.int .i64 a1_5) rfl; have hcz47_6 := bcell BK156.out 6 (.int .i64 a1_6) rfl; have hcz47_7 := bcell BK156.out 7 (.int .i64 a1_7) rfl; have hcz47_8 := bcell BK156.out 8 (.int .i64 a1_8) rfl; have hcz47_9 := bcell BK156.out 9 (.int .i64 a1_9) rfl; have hcz47_10 := bcell BK156.out 10 (.int .i64 a1_10) rfl; have hcz47_11 := bcell BK156.out 11 (.int .i64 a1_11) rfl; have hcz47_12 := bcell BK156.out 12 (.int .i64 a1_12) rfl; have hcz47_13 := bcell BK156.out 13 (.int .i64 a1_13) rfl; have hcz47_14 := bcell BK156.out 14 (.int .i64 a1_14) rfl; have hcz47_15 := bcell BK156.out 15 (.int .i64 a1_15) rfl) | ((with_reducible refine gate_callee (f := 65) rfl ?_); refine goesL_ (some 14) rfl rfl Try.func65 (by kernel_rfl) rfl #[.agg #[.int .i64 a0_1, .int .i64 a0_2, .int .i64 a0_3, .int .i64 a0_4, .int .i64 a0_5], .agg #[.int .i64 a1_1, .int .i64 a1_2, .int .i64 a1_3, .int .i64 a1_4, .int .i64 a1_5]] rfl (by (try simp only [List.map_toArray, List.map_cons, List.map_nil]); first | done | rfl | (simp only [List.length_drop, List.length_take]; rfl)) ?_; (with_reducible refine (laws_eqProjection.calls a0_1 a0_2 a0_3 a0_4 a0_5 a1_1 a1_2 a1_3 a1_4 a1_5 false _ A4.out).mono ?_); rintro e w48 ⟨rfl, hb⟩; refine ⟨_, rfl, ?_⟩; have n0_ := Aside0.mk (blk_below (g := gb155) (o := .cells #[.int .i64 a0_0, .int .i64 a0_1, .int .i64 a0_2, .int .i64 a0_3, .int .i64 a0_4, .int .i64 a0_5, .int .i64 a0_6, .int .i64 a0_7, .int .i64 a0_8, .int .i64 a0_9, .int .i64 a0_10, .int .i64 a0_11, .int .i64 a0_12, .int .i64 a0_13, .int .i64 a0_14, .int .i64 a0_15] 60 (0, 0)) (by (with_reducible repeat (first | refine blk_drewN ?_ _ | refine blk_drew ?_ | refine blk_alloc ?_ _)); exact BK155.out) hb); have n1_ := Aside0.mk (blk_below (g := gb156) (o := .cells #[.int .i64 a1_0, .int .i64 a1_1, .int .i64 a1_2, .int .i64 a1_3, .int .i64 a1_4, .int .i64 a1_5, .int .i64 a1_6, .int .i64 a1_7, .int .i64 a1_8, .int .i64 a1_9, .int .i64 a1_10, .int .i64 a1_11, .int .i64 a1_12, .int .i64 a1_13, .int .i64 a1_14, .int .i64 a1_15] 60 (0, 0)) (by (with_reducible repeat (first | refine blk_drewN ?_ _ | refine blk_drew ?_ | refine blk_alloc ?_ _)); exact BK156.out) hb); have n2_ := Aside0.mk (below_step (by repeat (first | (with_reducible first | exact HB.out | apply below_alloc | apply pw_below_drewN | apply below_drew1 | refine below_set ?_ GE155.out | refine below_set ?_ GE156.out) | exact HB.out)) hb); clear BK155; clear BK156; clear HB; have BK155 := n0_; have BK156 := n1_; have HB := n2_; clear n0_ n1_ n2_; (try clear hb); (try clear hb2); (try clear hk); (try clear hi)))
   go_ret
   exact ⟨by first | rfl | (simp <;> rfl) | (simp; decide +kernel) | (simp [*] <;> rfl), by repeat (first | (with_reducible first | exact HB.out | apply below_alloc | apply pw_below_drewN | apply below_drew1 | refine below_set ?_ GE155.out | refine below_set ?_ GE156.out) | exact HB.out)⟩
 ·rw [if_neg c3] at H
  have c3b0 : (a0_0 == a1_0) = false := beq_eq_false_iff_ne.mpr c3
  have c3b1 : (a0_0 != a1_0) = true := bne_iff_ne.mpr c3
  obtain rfl := Option.some.inj H
  go_enter Try.func82, Try.ntmps82
  go_wp2_with (first | ((with_reducible refine gate_dst (N := 2) rfl ?_); refine box_event ?hg (N := 2) ?hd (cs := #[.int .i64 a0_0, .int .i64 a0_1, .int .i64 a0_2, .int .i64 a0_3, .int .i64 a0_4, .int .i64 a0_5, .int .i64 a0_6, .int .i64 a0_7, .int .i64 a0_8, .int .i64 a0_9, .int .i64 a0_10, .int .i64 a0_11, .int .i64 a0_12, .int .i64 a0_13, .int .i64 a0_14, .int .i64 a0_15]) (t := 60) ?hr ?_; (case hd => rfl); (case hg => rfl); (case hr => first | (go_simp; done) | (go_simp; rfl)); intro gb155 hg w49 hbox hb; have n0_ := Aside0.mk (below_step (by repeat (first | (with_reducible first | exact HB.out | apply below_alloc | apply pw_below_drewN | apply below_drew1) | exact HB.out)) hb); have n1_ := Aside0.mk (hbox); have n2_ := Aside0.mk ((by rw [hg]; exact (below_size (by repeat (first | (with_reducible first | exact HB.out | apply below_alloc | apply pw_below_drewN | apply below_drew1) | exact HB.out))) : w.heap.size ≤ gb155)); have n3_ := n2_; clear HB; have HB := n0_; have BK155 := n1_; have GW155 := n2_; have GE155 := n3_; clear n0_ n1_ n2_ n3_; clear hb hbox hg) | ((with_reducible refine gate_dst (N := 3) rfl ?_); refine box_event ?hg (N := 3) ?hd (cs := #[.int .i64 a1_0, .int .i64 a1_1, .int .i64 a1_2, .int .i64 a1_3, .int .i64 a1_4, .int .i64 a1_5, .int .i64 a1_6, .int .i64 a1_7, .int .i64 a1_8, .int .i64 a1_9, .int .i64 a1_10, .int .i64 a1_11, .int .i64 a1_12, .int .i64 a1_13, .int .i64 a1_14, .int .i64 a1_15]) (t := 60) ?hr ?_; (case hd => rfl); (case hg => rfl); (case hr => first | (go_simp; done) | (go_simp; rfl)); intro gb156 hg w50 hbox hb; have n0_ := Aside0.mk (blk_below (g := gb155) (o := .cells #[.int .i64 a0_0, .int .i64 a0_1, .int .i64 a0_2, .int .i64 a0_3, .int .i64 a0_4, .int .i64 a0_5, .int .i64 a0_6, .int .i64 a0_7, .int .i64 a0_8, .int .i64 a0_9, .int .i64 a0_10, .int .i64 a0_11, .int .i64 a0_12, .int .i64 a0_13, .int .i64 a0_14, .int .i64 a0_15] 60 (0, 0)) (by (with_reducible repeat (first | refine blk_drewN ?_ _ | refine blk_drew ?_ | refine blk_alloc ?_ _)); exact BK155.out) hb); have n1_ := Aside0.mk (below_step (by repeat (first | (with_reducible first | exact HB.out | apply below_alloc | apply pw_below_drewN | apply below_drew1 | refine below_set ?_ GE155.out) | exact HB.out)) hb); have n2_ := Aside0.mk (hbox); have n3_ := Aside0.mk ((by rw [hg]; exact (below_size (by repeat (first | (with_reducible first | exact HB.out | apply below_alloc | apply pw_below_drewN | apply below_drew1 | refine below_set ?_ GE155.out) | exact HB.out))) : w.heap.size ≤ gb156)); have n4_ := Aside0.mk ((by rw [hg]; exact (below_size (by repeat (first | (with_reducible first | exact HB.out | apply below_alloc | apply pw_below_drewN | apply below_drew1 | refine below_set ?_ GE155.out) | exact HB.out))) : w.heap.size ≤ gb156)); have n5_ := Aside0.mk ((by rw [hg]; exact Nat.ne_of_lt (blk_lt (g := gb155) (o := .cells #[.int .i64 a0_0, .int .i64 a0_1, .int .i64 a0_2, .int .i64 a0_3, .int .i64 a0_4, .int .i64 a0_5, .int .i64 a0_6, .int .i64 a0_7, .int .i64 a0_8, .int .i64 a0_9, .int .i64 a0_10, .int .i64 a0_11, .int .i64 a0_12, .int .i64 a0_13, .int .i64 a0_14, .int .i64 a0_15] 60 (0, 0)) (by (with_reducible repeat (first | refine blk_drewN ?_ _ | refine blk_drew ?_ | refine blk_alloc ?_ _)); exact BK155.out)) : gb155 ≠ gb156)); have n6_ := Aside0.mk ((by rw [hg]; exact Nat.ne_of_gt (blk_lt (g := gb155) (o := .cells #[.int .i64 a0_0, .int .i64 a0_1, .int .i64 a0_2, .int .i64 a0_3, .int .i64 a0_4, .int .i64 a0_5, .int .i64 a0_6, .int .i64 a0_7, .int .i64 a0_8, .int .i64 a0_9, .int .i64 a0_10, .int .i64 a0_11, .int .i64 a0_12, .int .i64 a0_13, .int .i64 a0_14, .int .i64 a0_15] 60 (0, 0)) (by (with_reducible repeat (first | refine blk_drewN ?_ _ | refine blk_drew ?_ | refine blk_alloc ?_ _)); exact BK155.out)) : gb156 ≠ gb155)); clear BK155; clear HB; have BK155 := n0_; have HB := n1_; have BK156 := n2_; have GW156 := n3_; have GE156 := n4_; have NB155_156 := n5_; have NB156_155 := n6_; clear n0_ n1_ n2_ n3_ n4_ n5_ n6_; clear hb hbox hg; have hnb51 := NB155_156.out; have hnc51 := NB156_155.out; have hcz52_0 := bcell BK155.out 0 (.int .i64 a0_0) rfl; have hcz52_1 := bcell BK155.out 1 (.int .i64 a0_1) rfl; have hcz52_2 := bcell BK155.out 2 (.int .i64 a0_2) rfl; have hcz52_3 := bcell BK155.out 3 (.int .i64 a0_3) rfl; have hcz52_4 := bcell BK155.out 4 (.int .i64 a0_4) rfl; have hcz52_5 := bcell BK155.out 5 (.int .i64 a0_5) rfl; have hcz52_6 := bcell BK155.out 6 (.int .i64 a0_6) rfl; have hcz52_7 := bcell BK155.out 7 (.int .i64 a0_7) rfl; have hcz52_8 := bcell BK155.out 8 (.int .i64 a0_8) rfl; have hcz52_9 := bcell BK155.out 9 (.int .i64 a0_9) rfl; have hcz52_10 := bcell BK155.out 10 (.int .i64 a0_10) rfl; have hcz52_11 := bcell BK155.out 11 (.int .i64 a0_11) rfl; have hcz52_12 := bcell BK155.out 12 (.int .i64 a0_12) rfl; have hcz52_13 := bcell BK155.out 13 (.int .i64 a0_13) rfl; have hcz52_14 := bcell BK155.out 14 (.int .i64 a0_14) rfl; have hcz52_15 := bcell BK155.out 15 (.int .i64 a0_15) rfl; have hcz53_0 := bcell BK156.out 0 (.int .i64 a1_0) rfl; have hcz53_1 := bcell BK156.out 1 (.int .i64 a1_1) rfl; have hcz53_2 := bcell BK156.out 2 (.int .i64 a1_2) rfl; have hcz53_3 := bcell BK156.out 3 (.int .i64 a1_3) rfl; have hcz53_4 := bcell BK156.out 4 (.int .i64 a1_4) rfl; have hcz53_5 := bcell BK156.out 5 (.int .i64 a1_5) rfl; have hcz53_6 := bcell BK156.out 6 (.int .i64 a1_6) rfl; have hcz53_7 := bcell BK156.out 7 (.int .i64 a1_7) rfl; have hcz53_8 := bcell BK156.out 8 (.int .i64 a1_8) rfl; have hcz53_9 := bcell BK156.out 9 (.int .i64 a1_9) rfl; have hcz53_10 := bcell BK156.out 10 (.int .i64 a1_10) rfl; have hcz53_11 := bcell BK156.out 11 (.int .i64 a1_11) rfl; have hcz53_12 := bcell BK156.out 12 (.int .i64 a1_12) rfl; have hcz53_13 := bcell BK156.out 13 (.int .i64 a1_13) rfl; have hcz53_14 := bcell BK156.out 14 (.int .i64 a1_14) rfl; have hcz53_15 := bcell BK156.out 15 (.int .i64 a1_15) rfl))
  go_ret
  exact ⟨by first | rfl | (simp <;> rfl) | (simp; decide +kernel) | (simp [*] <;> rfl), by repeat (first | (with_reducible first | exact HB.out | apply below_alloc | apply pw_below_drewN | apply below_drew1 | refine below_set ?_ GE155.out | refine below_set ?_ GE156.out) | exact HB.out)⟩

/-! ### laws_eqStepS: function 44 -/
def laws_eqStepS.l0 : Nat → List (S60) → List (S60) → Int → Option (Bool)
 | 0, _, _, _ => none
 | k + 1, x0, x1, x5 => if x5 < (x0.length : Int) then (if 0 ≤ x5 then (if x5 < (x1.length : Int) then ((laws_eqStep.f ((rd_T60 x0 x5).f0) ((rd_T60 x0 x5).f1.f0) ((rd_T60 x0 x5).f1.f1) ((rd_T60 x0 x5).f1.f2) ((rd_T60 x0 x5).f1.f3) ((rd_T60 x0 x5).f1.f4) ((rd_T60 x0 x5).f2.f0) ((rd_T60 x0 x5).f2.f1) ((rd_T60 x0 x5).f2.f2) ((rd_T60 x0 x5).f3.f0) ((rd_T60 x0 x5).f3.f1) ((rd_T60 x0 x5).f3.f2) ((rd_T60 x0 x5).f3.f3) ((rd_T60 x0 x5).f3.f4) ((rd_T60 x0 x5).f3.f5) ((rd_T60 x0 x5).f3.f6) ((rd_T60 x1 x5).f0) ((rd_T60 x1 x5).f1.f0) ((rd_T60 x1 x5).f1.f1) ((rd_T60 x1 x5).f1.f2) ((rd_T60 x1 x5).f1.f3) ((rd_T60 x1 x5).f1.f4) ((rd_T60 x1 x5).f2.f0) ((rd_T60 x1 x5).f2.f1) ((rd_T60 x1 x5).f2.f2) ((rd_T60 x1 x5).f3.f0) ((rd_T60 x1 x5).f3.f1) ((rd_T60 x1 x5).f3.f2) ((rd_T60 x1 x5).f3.f3) ((rd_T60 x1 x5).f3.f4) ((rd_T60 x1 x5).f3.f5) ((rd_T60 x1 x5).f3.f6)).bind fun t162 => (if t162 = true then (laws_eqStepS.l0 k x0 x1 (wrap64 (x5 + 1))) else (some false))) else (none)) else (none)) else (some true)
def laws_eqStepS.f (k : Nat) (l0 : List (S60)) (l1 : List (S60)) : Option (Bool) := if (l0.length : Int) = (l1.length : Int) then (laws_eqStepS.l0 k l0 l1 0) else (some false)
theorem laws_eqStepS.mono_l : ∀ k, (∀ y0 y1 y2, LeO (laws_eqStepS.l0 k y0 y1 y2) (laws_eqStepS.l0 (k + 1) y0 y1 y2))
 | 0 => fun _ _ _ r h => by simp [laws_eqStepS.l0] at h
 | k + 1 => by
  have ih0 := laws_eqStepS.mono_l k
  ·intro y0 y1 y2
   unfold laws_eqStepS.l0
   repeat' first
   | (with_reducible exact ih0 _ _ _)
   | (with_reducible exact LeO.refl _)
   | (with_reducible exact LeO.none _)
   | (with_reducible refine LeO.ite ?_ ?_)
   | (with_reducible refine LeO.bind ?_ (fun _ => ?_))
   | exact ih0 _ _ _
   | exact LeO.none _
   | refine LeO.ite ?_ ?_
   | refine LeO.bind ?_ (fun _ => ?_)
theorem laws_eqStepS.mono : ∀ a0 a1 k, LeO (laws_eqStepS.f k a0 a1) (laws_eqStepS.f (k + 1) a0 a1) := by
 intro a0 a1 k
 have ih0 := laws_eqStepS.mono_l k
 unfold laws_eqStepS.f
 repeat' first
   | (with_reducible exact ih0 _ _ _)
   | (with_reducible exact LeO.refl _)
   | (with_reducible exact LeO.none _)
   | (with_reducible refine LeO.ite ?_ ?_)
   | (with_reducible refine LeO.bind ?_ (fun _ => ?_))
   | exact ih0 _ _ _
   | exact LeO.none _
   | refine LeO.ite ?_ ?_
   | refine LeO.bind ?_ (fun _ => ?_)
def laws_eqStepS.T6 : Bool × List (List Nat × List Nat) := (true, [([], []), ([], []), ([0, 1], [0, 1]), ([2], [2]), ([], []), ([], []), ([4, 5], [4, 5]), ([6], [6]), ([3, 7], [3, 7]), ([8], [8])])
def laws_eqStepS.B6 : List Nat := [0, 0, 3, 7, 0, 0, 48, 112, 255, 511]
theorem laws_eqStepS.tab6 : rtab .any (opsOf Try.f44 6) = laws_eqStepS.T6 := by kernel_rfl
theorem laws_eqStepS.bits6 : waitsOk laws_eqStepS.T6.2 laws_eqStepS.B6 = true := by kernel_rfl
set_option maxHeartbeats 8000000 in
set_option maxRecDepth 100000 in
theorem laws_eqStepS.calls (k : Nat) (A0 : Option Addr) (c0 : Nat) (l0 : List (S60)) (A1 : Option Addr) (c1 : Nat) (l1 : List (S60)) (r : Bool) (w : World) (hr0 : Kd.C k60 w A0 l0.length l0) (hc0 : l0.length ≤ c0) (hr1 : Kd.C k60 w A1 l1.length l1) (hc1 : l1.length ≤ c1) (h : laws_eqStepS.f k l0 l1 = some r) :
  Calls Try.prog 44 #[.slice A0 l0.length c0, .slice A1 l1.length c1] w fun e w' => e = .returned (.bool r) ∧ Below w.heap.size w w' := by
 have hu60 := Try.underlying60
 have HR0 := Aside0.mk hr0
 have HC0 := Aside0.mk hc0
 clear hr0 hc0
 have HR1 := Aside0.mk hr1
 have HC1 := Aside0.mk hc1
 clear hr1 hc1
 have HB := Aside0.mk (Below.refl w.heap.size w)
 have H : (if (l0.length : Int) = (l1.length : Int) then (laws_eqStepS.l0 k l0 l1 0) else (some false)) = some r := h
 clear h
 by_cases c3 : (l0.length : Int) = (l1.length : Int)
 ·rw [if_pos c3] at H
  have c3b0 : ((l0.length : Int) == (l1.length : Int)) = true := beq_iff_eq.mpr c3
  have c3b1 : ((l0.length : Int) != (l1.length : Int)) = false := bne_eq_false_iff_eq.mpr c3
  have c3b2 : (l0.length == l1.length) = true := by first | simpa using c3 | (simp at c3 ⊢; omega)
  clear c3
  have H' := Aside0.mk H
  clear H
  go_enter Try.func44, Try.ntmps44
  go_wp2
  go_loopg [5] k (fun kq v5 w' => ∃ (x5_1 : Int), v5 = .int .i64 x5_1 ∧ Aside0 (laws_eqStepS.l0 kq l0 l1 x5_1 = some r) ∧ Aside0 (kq ≤ k) ∧ Aside0 (Below w.heap.size w w'))
  case atStart => exact ⟨(0), (by first | rfl | (simp; done) | (simp; decide +kernel) | (simp [*]; done)), H', ⟨Nat.le_refl _⟩, ⟨by repeat (first | (with_reducible first | exact HB.out | apply below_alloc | apply pw_below_drewN | apply below_drew1) | exact HB.out)⟩⟩
  case round =>
   clear H'
   try clear c1
   try clear p2
   try clear c3
   try clear c3b0
   try clear c3b1
   try clear c3b2
   obtain ⟨x5_1, rfl, HA, HK1, HB⟩ := hrel
   cases gk with
   | zero => exact absurd HA.out (by simp [laws_eqStepS.l0])
   | succ k1 =>
    have H := HA.out
    clear HA
    simp only [laws_eqStepS.l0] at H
    by_cases c4 : x5_1 < (l0.length : Int)
    ·rw [if_pos c4] at H
     have c4b0 : decide (x5_1 < (l0.length : Int)) = true := decide_eq_true c4
     clear c4
     by_cases c5 : 0 ≤ x5_1
     ·rw [if_pos c5] at H
      have c5b0 : decide (0 ≤ x5_1) = true := decide_eq_true c5
      clear c5
      by_cases c6 : x5_1 < (l1.length : Int)
      ·rw [if_pos c6] at H
       have c6b0 : decide (x5_1 < (l1.length : Int)) = true := decide_eq_true c6
       clear c6
       replace H := Option.bind_eq_some_iff.mp H
       obtain ⟨t162, A70, H⟩ := H
       replace H : (if t162 = true then (laws_eqStepS.l0 k1 l0 l1 (wrap64 (x5_1 + 1))) else (some false)) = some r := H
       have A7 := Aside0.mk A70
       clear A70
       by_cases c8 : t162 = true
       ·subst c8
        have H1 : (laws_eqStepS.l0 k1 l0 l1 (wrap64 (x5_1 + 1))) = some r := by rw [if_pos rfl] at H; exact H
        clear H
        have H := H1
        clear H1
        have H' := Aside0.mk H
        clear H
        try go_wp2
        have n0_ := Aside0.mk (below_drew1 HB.out)
        clear HB
        have HB := n0_
        clear n0_
        have p160 : 0 ≤ (x5_1 : Int) := of_decide_eq_true (by first | (with_reducible assumption) | assumption)
        have q160 : x5_1 < (l0.length : Int) := of_decide_eq_true (by first | (with_reducible assumption) | assumption)
        obtain ⟨ad160, e160, hx160_0, hx160_1, hx160_2, hx160_3, hx160_4, hx160_5, hx160_6, hx160_7, hx160_8, hx160_9, hx160_10, hx160_11, hx160_12, hx160_13, hx160_14, hx160_15⟩ := at_T60 HR0.out x5_1 p160 q160
        have hw160_15 := hx160_15
        have hw160_14 := hx160_14
        have hw160_13 := hx160_13
        have hw160_12 := hx160_12
        have hw160_11 := hx160_11
        have hw160_10 := hx160_10
        have hw160_9 := hx160_9
        have hw160_8 := hx160_8
        have hw160_7 := hx160_7
        have hw160_6 := hx160_6
        have hw160_5 := hx160_5
        have hw160_4 := hx160_4
        have hw160_3 := hx160_3
        have hw160_2 := hx160_2
        have hw160_1 := hx160_1
        have hw160_0 := hx160_0
        cases e160
        replace hx160_0 := (HB.out.cell (World.block_lt_of_cell? w _ hx160_0)).trans hx160_0
        replace hx160_1 := (HB.out.cell (World.block_lt_of_cell? w _ hx160_1)).trans hx160_1
        replace hx160_2 := (HB.out.cell (World.block_lt_of_cell? w _ hx160_2)).trans hx160_2
        replace hx160_3 := (HB.out.cell (World.block_lt_of_cell? w _ hx160_3)).trans hx160_3
        replace hx160_4 := (HB.out.cell (World.block_lt_of_cell? w _ hx160_4)).trans hx160_4
        replace hx160_5 := (HB.out.cell (World.block_lt_of_cell? w _ hx160_5)).trans hx160_5
        replace hx160_6 := (HB.out.cell (World.block_lt_of_cell? w _ hx160_6)).trans hx160_6
        replace hx160_7 := (HB.out.cell (World.block_lt_of_cell? w _ hx160_7)).trans hx160_7
        replace hx160_8 := (HB.out.cell (World.block_lt_of_cell? w _ hx160_8)).trans hx160_8
        replace hx160_9 := (HB.out.cell (World.block_lt_of_cell? w _ hx160_9)).trans hx160_9
        replace hx160_10 := (HB.out.cell (World.block_lt_of_cell? w _ hx160_10)).trans hx160_10
        replace hx160_11 := (HB.out.cell (World.block_lt_of_cell? w _ hx160_11)).trans hx160_11
        replace hx160_12 := (HB.out.cell (World.block_lt_of_cell? w _ hx160_12)).trans hx160_12
        replace hx160_13 := (HB.out.cell (World.block_lt_of_cell? w _ hx160_13)).trans hx160_13
        replace hx160_14 := (HB.out.cell (World.block_lt_of_cell? w _ hx160_14)).trans hx160_14
        replace hx160_15 := (HB.out.cell (World.block_lt_of_cell? w _ hx160_15)).trans hx160_15
        replace p160 := eq_true p160
        replace q160 := eq_true q160
        have p161 : 0 ≤ (x5_1 : Int) := of_decide_eq_true (by first | (with_reducible assumption) | assumption)
        have q161 : x5_1 < (l1.length : Int) := of_decide_eq_true (by first | (with_reducible assumption) | assumption)
        obtain ⟨ad161, e161, hx161_0, hx161_1, hx161_2, hx161_3, hx161_4, hx161_5, hx161_6, hx161_7, hx161_8, hx161_9, hx161_10, hx161_11, hx161_12, hx161_13, hx161_14, hx161_15⟩ := at_T60 HR1.out x5_1 p161 q161
        have hw161_15 := hx161_15
        have hw161_14 := hx161_14
        have hw161_13 := hx161_13
        have hw161_12 := hx161_12
        have hw161_11 := hx161_11
        have hw161_10 := hx161_10
        have hw161_9 := hx161_9
        have hw161_8 := hx161_8
        have hw161_7 := hx161_7
        have hw161_6 := hx161_6
        have hw161_5 := hx161_5
        have hw161_4 := hx161_4
        have hw161_3 := hx161_3
        have hw161_2 := hx161_2
        have hw161_1 := hx161_1
        have hw161_0 := hx161_0
        cases e161
        replace hx161_0 := (HB.out.cell (World.block_lt_of_cell? w _ hx161_0)).trans hx161_0
        replace hx161_1 := (HB.out.cell (World.block_lt_of_cell? w _ hx161_1)).trans hx161_1
        replace hx161_2 := (HB.out.cell (World.block_lt_of_cell? w _ hx161_2)).trans hx161_2
        replace hx161_3 := (HB.out.cell (World.block_lt_of_cell? w _ hx161_3)).trans hx161_3
        replace hx161_4 := (HB.out.cell (World.block_lt_of_cell? w _ hx161_4)).trans hx161_4
        replace hx161_5 := (HB.out.cell (World.block_lt_of_cell? w _ hx161_5)).trans hx161_5
        replace hx161_6 := (HB.out.cell (World.block_lt_of_cell? w _ hx161_6)).trans hx161_6
        replace hx161_7 := (HB.out.cell (World.block_lt_of_cell? w _ hx161_7)).trans hx161_7
        replace hx161_8 := (HB.out.cell (World.block_lt_of_cell? w _ hx161_8)).trans hx161_8
        replace hx161_9 := (HB.out.cell (World.block_lt_of_cell? w _ hx161_9)).trans hx161_9
        replace hx161_10 := (HB.out.cell (World.block_lt_of_cell? w _ hx161_10)).trans hx161_10
        replace hx161_11 := (HB.out.cell (World.block_lt_of_cell? w _ hx161_11)).trans hx161_11
        replace hx161_12 := (HB.out.cell (World.block_lt_of_cell? w _ hx161_12)).trans hx161_12
        replace hx161_13 := (HB.out.cell (World.block_lt_of_cell? w _ hx161_13)).trans hx161_13
        replace hx161_14 := (HB.out.cell (World.block_lt_of_cell? w _ hx161_14)).trans hx161_14
        replace hx161_15 := (HB.out.cell (World.block_lt_of_cell? w _ hx161_15)).trans hx161_15
        replace p161 := eq_true p161
        replace q161 := eq_true q161
        refine start_ (n := 10) (S := fun w' => w'.cell? (ad160.add ((x5_1).toNat * 16)) = some (.int .i64 ((rd_T60 l0 x5_1).f0)) ∧ w'.cell? ⟨(ad160.add ((x5_1).toNat * 16)).block, (ad160.add ((x5_1).toNat * 16)).off + 1, none⟩ = some (.int .i64 ((rd_T60 l0 x5_1).f1.f0)) ∧ w'.cell? ⟨(ad160.add ((x5_1).toNat * 16)).block, (ad160.add ((x5_1).toNat * 16)).off + 2, none⟩ = some (.int .i64 ((rd_T60 l0 x5_1).f1.f1)) ∧ w'.cell? ⟨(ad160.add ((x5_1).toNat * 16)).block, (ad160.add ((x5_1).toNat * 16)).off + 3, none⟩ = some (.int .i64 ((rd_T60 l0 x5_1).f1.f2)) ∧ w'.cell? ⟨(ad160.add ((x5_1).toNat * 16)).block, (ad160.add ((x5_1).toNat * 16)).off + 4, none⟩ = some (.int .i64 ((rd_T60 l0 x5_1).f1.f3)) ∧ w'.cell? ⟨(ad160.add ((x5_1).toNat * 16)).block, (ad160.add ((x5_1).toNat * 16)).off + 5, none⟩ = some (.int .i64 ((rd_T60 l0 x5_1).f1.f4)) ∧ w'.cell? ⟨(ad160.add ((x5_1).toNat * 16)).block, (ad160.add ((x5_1).toNat * 16)).off + 6, none⟩ = some (.int .i64 ((rd_T60 l0 x5_1).f2.f0)) ∧ w'.cell? ⟨(ad160.add ((x5_1).toNat * 16)).block, (ad160.add ((x5_1).toNat * 16)).off + 7, none⟩ = some (.int .i64 ((rd_T60 l0 x5_1).f2.f1)) ∧ w'.cell? ⟨(ad160.add ((x5_1).toNat * 16)).block, (ad160.add ((x5_1).toNat * 16)).off + 8, none⟩ = some (.int .i64 ((rd_T60 l0 x5_1).f2.f2)) ∧ w'.cell? ⟨(ad160.add ((x5_1).toNat * 16)).block, (ad160.add ((x5_1).toNat * 16)).off + 9, none⟩ = some (.int .i64 ((rd_T60 l0 x5_1).f3.f0)) ∧ w'.cell? ⟨(ad160.add ((x5_1).toNat * 16)).block, (ad160.add ((x5_1).toNat * 16)).off + 10, none⟩ = some (.int .i64 ((rd_T60 l0 x5_1).f3.f1)) ∧ w'.cell? ⟨(ad160.add ((x5_1).toNat * 16)).block, (ad160.add ((x5_1).toNat * 16)).off + 11, none⟩ = some (.int .i64 ((rd_T60 l0 x5_1).f3.f2)) ∧ w'.cell? ⟨(ad160.add ((x5_1).toNat * 16)).block, (ad160.add ((x5_1).toNat * 16)).off + 12, none⟩ = some (.int .i64 ((rd_T60 l0 x5_1).f3.f3)) ∧ w'.cell? ⟨(ad160.add ((x5_1).toNat * 16)).block, (ad160.add ((x5_1).toNat * 16)).off + 13, none⟩ = some (.int .i64 ((rd_T60 l0 x5_1).f3.f4)) ∧ w'.cell? ⟨(ad160.add ((x5_1).toNat * 16)).block, (ad160.add ((x5_1).toNat * 16)).off + 14, none⟩ = some (.int .i64 ((rd_T60 l0 x5_1).f3.f5)) ∧ w'.cell? ⟨(ad160.add ((x5_1).toNat * 16)).block, (ad160.add ((x5_1).toNat * 16)).off + 15, none⟩ = some (.int .i64 ((rd_T60 l0 x5_1).f3.f6)) ∧ w'.cell? (ad161.add ((x5_1).toNat * 16)) = some (.int .i64 ((rd_T60 l1 x5_1).f0)) ∧ w'.cell? ⟨(ad161.add ((x5_1).toNat * 16)).block, (ad161.add ((x5_1).toNat * 16)).off + 1, none⟩ = some (.int .i64 ((rd_T60 l1 x5_1).f1.f0)) ∧ w'.cell? ⟨(ad161.add ((x5_1).toNat * 16)).block, (ad161.add ((x5_1).toNat * 16)).off + 2, none⟩ = some (.int .i64 ((rd_T60 l1 x5_1).f1.f1)) ∧ w'.cell? ⟨(ad161.add ((x5_1).toNat * 16)).block, (ad161.add ((x5_1).toNat * 16)).off + 3, none⟩ = some (.int .i64 ((rd_T60 l1 x5_1).f1.f2)) ∧ w'.cell? ⟨(ad161.add ((x5_1).toNat * 16)).block, (ad161.add ((x5_1).toNat * 16)).off + 4, none⟩ = some (.int .i64 ((rd_T60 l1 x5_1).f1.f3)) ∧ w'.cell? ⟨(ad161.add ((x5_1).toNat * 16)).block, (ad161.add ((x5_1).toNat * 16)).off + 5, none⟩ = some (.int .i64 ((rd_T60 l1 x5_1).f1.f4)) ∧ w'.cell? ⟨(ad161.add ((x5_1).toNat * 16)).block, (ad161.add ((x5_1).toNat * 16)).off + 6, none⟩ = some (.int .i64 ((rd_T60 l1 x5_1).f2.f0)) ∧ w'.cell? ⟨(ad161.add ((x5_1).toNat * 16)).block, (ad161.add ((x5_1).toNat * 16)).off + 7, none⟩ = some (.int .i64 ((rd_T60 l1 x5_1).f2.f1)) ∧ w'.cell? ⟨(ad161.add ((x5_1).toNat * 16)).block, (ad161.add ((x5_1).toNat * 16)).off + 8, none⟩ = some (.int .i64 ((rd_T60 l1 x5_1).f2.f2)) ∧ w'.cell? ⟨(ad161.add ((x5_1).toNat * 16)).block, (ad161.add ((x5_1).toNat * 16)).off + 9, none⟩ = some (.int .i64 ((rd_T60 l1 x5_1).f3.f0)) ∧ w'.cell? ⟨(ad161.add ((x5_1).toNat * 16)).block, (ad161.add ((x5_1).toNat * 16)).off + 10, none⟩ = some (.int .i64 ((rd_T60 l1 x5_1).f3.f1)) ∧ w'.cell? ⟨(ad161.add ((x5_1).toNat * 16)).block, (ad161.add ((x5_1).toNat * 16)).off + 11, none⟩ = some (.int .i64 ((rd_T60 l1 x5_1).f3.f2)) ∧ w'.cell? ⟨(ad161.add ((x5_1).toNat * 16)).block, (ad161.add ((x5_1).toNat * 16)).off + 12, none⟩ = some (.int .i64 ((rd_T60 l1 x5_1).f3.f3)) ∧ w'.cell? ⟨(ad161.add ((x5_1).toNat * 16)).block, (ad161.add ((x5_1).toNat * 16)).off + 13, none⟩ = some (.int .i64 ((rd_T60 l1 x5_1).f3.f4)) ∧ w'.cell? ⟨(ad161.add ((x5_1).toNat * 16)).block, (ad161.add ((x5_1).toNat * 16)).off + 14, none⟩ = some (.int .i64 ((rd_T60 l1 x5_1).f3.f5)) ∧ w'.cell? ⟨(ad161.add ((x5_1).toNat * 16)).block, (ad161.add ((x5_1).toNat * 16)).off + 15, none⟩ = some (.int .i64 ((rd_T60 l1 x5_1).f3.f6))) (ds := []) #[false, false, false, false, false, false, false, false, false, false] (by kernel_rfl) rfl rfl ⟨((HB.out.cell (World.block_lt_of_cell? w _ hw160_0)).trans hw160_0), ((HB.out.cell (World.block_lt_of_cell? w _ hw160_1)).trans hw160_1), ((HB.out.cell (World.block_lt_of_cell? w _ hw160_2)).trans hw160_2), ((HB.out.cell (World.block_lt_of_cell? w _ hw160_3)).trans hw160_3), ((HB.out.cell (World.block_lt_of_cell? w _ hw160_4)).trans hw160_4), ((HB.out.cell (World.block_lt_of_cell? w _ hw160_5)).trans hw160_5), ((HB.out.cell (World.block_lt_of_cell? w _ hw160_6)).trans hw160_6), ((HB.out.cell (World.block_lt_of_cell? w _ hw160_7)).trans hw160_7), ((HB.out.cell (World.block_lt_of_cell? w _ hw160_8)).trans hw160_8), ((HB.out.cell (World.block_lt_of_cell? w _ hw160_9)).trans hw160_9), ((HB.out.cell (World.block_lt_of_cell? w _ hw160_10)).trans hw160_10), ((HB.out.cell (World.block_lt_of_cell? w _ hw160_11)).trans hw160_11), ((HB.out.cell (World.block_lt_of_cell? w _ hw160_12)).trans hw160_12), ((HB.out.cell (World.block_lt_of_cell? w _ hw160_13)).trans hw160_13), ((HB.out.cell (World.block_lt_of_cell? w _ hw160_14)).trans hw160_14), ((HB.out.cell (World.block_lt_of_cell? w _ hw160_15)).trans hw160_15), ((HB.out.cell (World.block_lt_of_cell? w _ hw161_0)).trans hw161_0), ((HB.out.cell (World.block_lt_of_cell? w _ hw161_1)).trans hw161_1), ((HB.out.cell (World.block_lt_of_cell? w _ hw161_2)).trans hw161_2), ((HB.out.cell (World.block_lt_of_cell? w _ hw161_3)).trans hw161_3), ((HB.out.cell (World.block_lt_of_cell? w _ hw161_4)).trans hw161_4), ((HB.out.cell (World.block_lt_of_cell? w _ hw161_5)).trans hw161_5), ((HB.out.cell (World.block_lt_of_cell? w _ hw161_6)).trans hw161_6), ((HB.out.cell (World.block_lt_of_cell? w _ hw161_7)).trans hw161_7), ((HB.out.cell (World.block_lt_of_cell? w _ hw161_8)).trans hw161_8), ((HB.out.cell (World.block_lt_of_cell? w _ hw161_9)).trans hw161_9), ((HB.out.cell (World.block_lt_of_cell? w _ hw161_10)).trans hw161_10), ((HB.out.cell (World.block_lt_of_cell? w _ hw161_11)).trans hw161_11), ((HB.out.cell (World.block_lt_of_cell? w _ hw161_12)).trans hw161_12), ((HB.out.cell (World.block_lt_of_cell? w _ hw161_13)).trans hw161_13), ((HB.out.cell (World.block_lt_of_cell? w _ hw161_14)).trans hw161_14), ((HB.out.cell (World.block_lt_of_cell? w _ hw161_15)).trans hw161_15)⟩ (fun hHeld => ?_); refine with_tabW laws_eqStepS.tab6 laws_eqStepS.bits6 (fun HT_ HW_ => ?_)
        generalize wr.drew = w9 at HB hx160_0 hx160_1 hx160_10 hx160_11 hx160_12 hx160_13 hx160_14 hx160_15 hx160_2 hx160_3 hx160_4 hx160_5 hx160_6 hx160_7 hx160_8 hx160_9 hx161_0 hx161_1 hx161_10 hx161_11 hx161_12 hx161_13 hx161_14 hx161_15 hx161_2 hx161_3 hx161_4 hx161_5 hx161_6 hx161_7 hx161_8 hx161_9 hHeld ⊢
        refine pure_ (i := 0) (N := some 17) (v := ?_) (a' := ?_) #[true, false, false, false, false, false, false, false, false, false] rfl rfl (any_of HT_.out (by kernel_rfl)) (fun _ _ _ h => h) (Or.inl ⟨by rfl, ?_⟩) ?_ ?_
        rotate_left
        ·intro w'
         go_simp
         with_reducible rfl
        rotate_left
        ·simp only [Act.put, List.setIfInBounds_toArray, List.set_cons_zero, List.set_cons_succ, i64_w, i32_w]
         rfl
        refine pure_ (i := 1) (N := some 18) (v := ?_) (a' := ?_) #[true, true, false, false, false, false, false, false, false, false] rfl rfl (any_of HT_.out (by kernel_rfl)) (fun _ _ _ h => h) (Or.inl ⟨by rfl, ?_⟩) ?_ ?_
        rotate_left
        ·intro w'
         go_simp
         with_reducible rfl
        rotate_left
        ·simp only [Act.put, List.setIfInBounds_toArray, List.set_cons_zero, List.set_cons_succ, i64_w, i32_w]
         rfl
        refine pure_ (i := 2) (N := some 19) (v := ?_) (a' := ?_) #[true, true, true, false, false, false, false, false, false, false] rfl rfl (any_of HT_.out (by kernel_rfl)) (fun _ _ _ h => h) (Or.inl ⟨by rfl, ?_⟩) ?_ ?_
        rotate_left
        ·intro w'
         go_simp
         with_reducible rfl
        rotate_left
        ·simp only [Act.put, List.setIfInBounds_toArray, List.set_cons_zero, List.set_cons_succ, i64_w, i32_w]
         rfl
        refine pure_ (i := 4) (N := some 21) (v := ?_) (a' := ?_) #[true, true, true, false, true, false, false, false, false, false] rfl rfl (any_of HT_.out (by kernel_rfl)) (fun _ _ _ h => h) (Or.inl ⟨by rfl, ?_⟩) ?_ ?_
        rotate_left
        ·intro w'
         go_simp
         with_reducible rfl
        rotate_left
        ·simp only [Act.put, List.setIfInBounds_toArray, List.set_cons_zero, List.set_cons_succ, i64_w, i32_w]
         rfl
        refine pure_ (i := 5) (N := some 22) (v := ?_) (a' := ?_) #[true, true, true, false, true, true, false, false, false, false] rfl rfl (any_of HT_.out (by kernel_rfl)) (fun _ _ _ h => h) (Or.inl ⟨by rfl, ?_⟩) ?_ ?_
        rotate_left
        ·intro w'
         go_simp
         with_reducible rfl
        rotate_left
        ·simp only [Act.put, List.setIfInBounds_toArray, List.set_cons_zero, List.set_cons_succ, i64_w, i32_w]
         rfl
        refine pure_ (i := 6) (N := some 23) (v := ?_) (a' := ?_) #[true, true, true, false, true, true, true, false, false, false] rfl rfl (any_of HT_.out (by kernel_rfl)) (fun _ _ _ h => h) (Or.inl ⟨by rfl, ?_⟩) ?_ ?_
        rotate_left
        ·intro w'
         go_simp
         with_reducible rfl
        rotate_left
        ·simp only [Act.put, List.setIfInBounds_toArray, List.set_cons_zero, List.set_cons_succ, i64_w, i32_w]
         rfl
        refine take_ (i := 3) (N := some 20) (v := ?_) (a' := ?_) #[true, true, true, true, true, true, true, false, false, false] rfl rfl (take_ofW HT_.out HW_.out (by kernel_rfl)) (fun _ _ _ h => h) (Or.inl ⟨by rfl, ?_⟩) hHeld ?_ ?_
        rotate_left
        ·rintro w' ⟨s0, s1, s2, s3, s4, s5, s6, s7, s8, s9, s10, s11, s12, s13, s14, s15, s16, s17, s18, s19, s20, s21, s22, s23, s24, s25, s26, s27, s28, s29, s30, s31⟩
         go_simp
         with_reducible rfl
        rotate_left
        ·simp only [Act.put, List.setIfInBounds_toArray, List.set_cons_zero, List.set_cons_succ, i64_w, i32_w]
         rfl
        refine take_ (i := 7) (N := some 24) (v := ?_) (a' := ?_) #[true, true, true, true, true, true, true, true, false, false] rfl rfl (take_ofW HT_.out HW_.out (by kernel_rfl)) (fun _ _ _ h => h) (Or.inl ⟨by rfl, ?_⟩) hHeld ?_ ?_
        rotate_left
        ·rintro w' ⟨s0, s1, s2, s3, s4, s5, s6, s7, s8, s9, s10, s11, s12, s13, s14, s15, s16, s17, s18, s19, s20, s21, s22, s23, s24, s25, s26, s27, s28, s29, s30, s31⟩
         go_simp
         with_reducible rfl
        rotate_left
        ·simp only [Act.put, List.setIfInBounds_toArray, List.set_cons_zero, List.set_cons_succ, i64_w, i32_w]
         rfl
        refine one_ (i := 8) (N := some 25) #[true, true, true, true, true, true, true, true, true, false] rfl rfl (one_of HT_.out (by kernel_rfl)) (by decide) (fun K hK => ?_)
        refine goes_ Try.func82 (by kernel_rfl) rfl #[.agg #[.int .i64 ((rd_T60 l0 x5_1).f0), .int .i64 ((rd_T60 l0 x5_1).f1.f0), .int .i64 ((rd_T60 l0 x5_1).f1.f1), .int .i64 ((rd_T60 l0 x5_1).f1.f2), .int .i64 ((rd_T60 l0 x5_1).f1.f3), .int .i64 ((rd_T60 l0 x5_1).f1.f4), .int .i64 ((rd_T60 l0 x5_1).f2.f0), .int .i64 ((rd_T60 l0 x5_1).f2.f1), .int .i64 ((rd_T60 l0 x5_1).f2.f2), .int .i64 ((rd_T60 l0 x5_1).f3.f0), .int .i64 ((rd_T60 l0 x5_1).f3.f1), .int .i64 ((rd_T60 l0 x5_1).f3.f2), .int .i64 ((rd_T60 l0 x5_1).f3.f3), .int .i64 ((rd_T60 l0 x5_1).f3.f4), .int .i64 ((rd_T60 l0 x5_1).f3.f5), .int .i64 ((rd_T60 l0 x5_1).f3.f6)], .agg #[.int .i64 ((rd_T60 l1 x5_1).f0), .int .i64 ((rd_T60 l1 x5_1).f1.f0), .int .i64 ((rd_T60 l1 x5_1).f1.f1), .int .i64 ((rd_T60 l1 x5_1).f1.f2), .int .i64 ((rd_T60 l1 x5_1).f1.f3), .int .i64 ((rd_T60 l1 x5_1).f1.f4), .int .i64 ((rd_T60 l1 x5_1).f2.f0), .int .i64 ((rd_T60 l1 x5_1).f2.f1), .int .i64 ((rd_T60 l1 x5_1).f2.f2), .int .i64 ((rd_T60 l1 x5_1).f3.f0), .int .i64 ((rd_T60 l1 x5_1).f3.f1), .int .i64 ((rd_T60 l1 x5_1).f3.f2), .int .i64 ((rd_T60 l1 x5_1).f3.f3), .int .i64 ((rd_T60 l1 x5_1).f3.f4), .int .i64 ((rd_T60 l1 x5_1).f3.f5), .int .i64 ((rd_T60 l1 x5_1).f3.f6)]] (by rfl) rfl rfl (by (try simp only [List.map_toArray, List.map_cons, List.map_nil]); first | done | rfl | (simp only [List.length_drop, List.length_take]; rfl)) ?_
        with_reducible refine (laws_eqStep.calls ((rd_T60 l0 x5_1).f0) ((rd_T60 l0 x5_1).f1.f0) ((rd_T60 l0 x5_1).f1.f1) ((rd_T60 l0 x5_1).f1.f2) ((rd_T60 l0 x5_1).f1.f3) ((rd_T60 l0 x5_1).f1.f4) ((rd_T60 l0 x5_1).f2.f0) ((rd_T60 l0 x5_1).f2.f1) ((rd_T60 l0 x5_1).f2.f2) ((rd_T60 l0 x5_1).f3.f0) ((rd_T60 l0 x5_1).f3.f1) ((rd_T60 l0 x5_1).f3.f2) ((rd_T60 l0 x5_1).f3.f3) ((rd_T60 l0 x5_1).f3.f4) ((rd_T60 l0 x5_1).f3.f5) ((rd_T60 l0 x5_1).f3.f6) ((rd_T60 l1 x5_1).f0) ((rd_T60 l1 x5_1).f1.f0) ((rd_T60 l1 x5_1).f1.f1) ((rd_T60 l1 x5_1).f1.f2) ((rd_T60 l1 x5_1).f1.f3) ((rd_T60 l1 x5_1).f1.f4) ((rd_T60 l1 x5_1).f2.f0) ((rd_T60 l1 x5_1).f2.f1) ((rd_T60 l1 x5_1).f2.f2) ((rd_T60 l1 x5_1).f3.f0) ((rd_T60 l1 x5_1).f3.f1) ((rd_T60 l1 x5_1).f3.f2) ((rd_T60 l1 x5_1).f3.f3) ((rd_T60 l1 x5_1).f3.f4) ((rd_T60 l1 x5_1).f3.f5) ((rd_T60 l1 x5_1).f3.f6) true _ A7.out).mono ?_
        rintro e w10 ⟨rfl, hb⟩
        refine ⟨_, rfl, ?_⟩
        have n0_ := Aside0.mk (below_step (by repeat (first | (with_reducible first | exact HB.out | apply below_alloc | apply pw_below_drewN | apply below_drew1) | exact HB.out)) hb)
        clear HB
        have HB := n0_
        clear n0_
        (try clear hb)
        (try clear hb2)
        (try clear hk)
        (try clear hi)
        refine hK.out _ _ ⟨((HB.out.cell (World.block_lt_of_cell? w _ hw160_0)).trans hw160_0), ((HB.out.cell (World.block_lt_of_cell? w _ hw160_1)).trans hw160_1), ((HB.out.cell (World.block_lt_of_cell? w _ hw160_2)).trans hw160_2), ((HB.out.cell (World.block_lt_of_cell? w _ hw160_3)).trans hw160_3), ((HB.out.cell (World.block_lt_of_cell? w _ hw160_4)).trans hw160_4), ((HB.out.cell (World.block_lt_of_cell? w _ hw160_5)).trans hw160_5), ((HB.out.cell (World.block_lt_of_cell? w _ hw160_6)).trans hw160_6), ((HB.out.cell (World.block_lt_of_cell? w _ hw160_7)).trans hw160_7), ((HB.out.cell (World.block_lt_of_cell? w _ hw160_8)).trans hw160_8), ((HB.out.cell (World.block_lt_of_cell? w _ hw160_9)).trans hw160_9), ((HB.out.cell (World.block_lt_of_cell? w _ hw160_10)).trans hw160_10), ((HB.out.cell (World.block_lt_of_cell? w _ hw160_11)).trans hw160_11), ((HB.out.cell (World.block_lt_of_cell? w _ hw160_12)).trans hw160_12), ((HB.out.cell (World.block_lt_of_cell? w _ hw160_13)).trans hw160_13), ((HB.out.cell (World.block_lt_of_cell? w _ hw160_14)).trans hw160_14), ((HB.out.cell (World.block_lt_of_cell? w _ hw160_15)).trans hw160_15), ((HB.out.cell (World.block_lt_of_cell? w _ hw161_0)).trans hw161_0), ((HB.out.cell (World.block_lt_of_cell? w _ hw161_1)).trans hw161_1), ((HB.out.cell (World.block_lt_of_cell? w _ hw161_2)).trans hw161_2), ((HB.out.cell (World.block_lt_of_cell? w _ hw161_3)).trans hw161_3), ((HB.out.cell (World.block_lt_of_cell? w _ hw161_4)).trans hw161_4), ((HB.out.cell (World.block_lt_of_cell? w _ hw161_5)).trans hw161_5), ((HB.out.cell (World.block_lt_of_cell? w _ hw161_6)).trans hw161_6), ((HB.out.cell (World.block_lt_of_cell? w _ hw161_7)).trans hw161_7), ((HB.out.cell (World.block_lt_of_cell? w _ hw161_8)).trans hw161_8), ((HB.out.cell (World.block_lt_of_cell? w _ hw161_9)).trans hw161_9), ((HB.out.cell (World.block_lt_of_cell? w _ hw161_10)).trans hw161_10), ((HB.out.cell (World.block_lt_of_cell? w _ hw161_11)).trans hw161_11), ((HB.out.cell (World.block_lt_of_cell? w _ hw161_12)).trans hw161_12), ((HB.out.cell (World.block_lt_of_cell? w _ hw161_13)).trans hw161_13), ((HB.out.cell (World.block_lt_of_cell? w _ hw161_14)).trans hw161_14), ((HB.out.cell (World.block_lt_of_cell? w _ hw161_15)).trans hw161_15)⟩ (fun hHeld => ?_)
        clear hK K
        refine norm_ (a' := ?_) ?_ ?_
        rotate_left
        ·show Act.put _ (some 25) _ = _
         simp only [Act.put, List.setIfInBounds_toArray, List.set_cons_zero, List.set_cons_succ, i64_w, i32_w]
         rfl
        refine pure_ (i := 9) (N := some 26) (v := ?_) (a' := ?_) #[true, true, true, true, true, true, true, true, true, true] rfl rfl (any_of HT_.out (by kernel_rfl)) (fun _ _ _ h => h) (Or.inl ⟨by rfl, ?_⟩) ?_ ?_
        rotate_left
        ·intro w'
         go_simp
         with_reducible rfl
        rotate_left
        ·simp only [Act.put, List.setIfInBounds_toArray, List.set_cons_zero, List.set_cons_succ, i64_w, i32_w]
         rfl
        refine done_ (done_of HT_.out (by kernel_rfl)) ?_
        try go_wp2
        go_roundg k1
        case measure => have := HK1.out; omega
        case rel => exact ⟨(wrap64 (x5_1 + 1)), (by first | rfl | (simp; done) | (simp; decide +kernel) | (simp [*]; done)), H', ⟨by have := HK1.out; omega⟩, ⟨by repeat (first | (with_reducible first | exact HB.out | apply below_alloc | apply pw_below_drewN | apply below_drew1) | exact HB.out)⟩⟩
       ·replace c8 := Bool.eq_false_iff.mpr c8
        subst c8
        have H1 : (some false) = some r := by rw [if_neg (show ¬ (false = true) by decide)] at H; exact H
        clear H
        have H := H1
        clear H1
        obtain rfl := Option.some.inj H
        try go_wp2
        have n0_ := Aside0.mk (below_drew1 HB.out)
        clear HB
        have HB := n0_
        clear n0_
        have p160 : 0 ≤ (x5_1 : Int) := of_decide_eq_true (by first | (with_reducible assumption) | assumption)
        have q160 : x5_1 < (l0.length : Int) := of_decide_eq_true (by first | (with_reducible assumption) | assumption)
        obtain ⟨ad160, e160, hx160_0, hx160_1, hx160_2, hx160_3, hx160_4, hx160_5, hx160_6, hx160_7, hx160_8, hx160_9, hx160_10, hx160_11, hx160_12, hx160_13, hx160_14, hx160_15⟩ := at_T60 HR0.out x5_1 p160 q160
        have hw160_15 := hx160_15
        have hw160_14 := hx160_14
        have hw160_13 := hx160_13
        have hw160_12 := hx160_12
        have hw160_11 := hx160_11
        have hw160_10 := hx160_10
        have hw160_9 := hx160_9
        have hw160_8 := hx160_8
        have hw160_7 := hx160_7
        have hw160_6 := hx160_6
        have hw160_5 := hx160_5
        have hw160_4 := hx160_4
        have hw160_3 := hx160_3
        have hw160_2 := hx160_2
        have hw160_1 := hx160_1
        have hw160_0 := hx160_0
        cases e160
        replace hx160_0 := (HB.out.cell (World.block_lt_of_cell? w _ hx160_0)).trans hx160_0
        replace hx160_1 := (HB.out.cell (World.block_lt_of_cell? w _ hx160_1)).trans hx160_1
        replace hx160_2 := (HB.out.cell (World.block_lt_of_cell? w _ hx160_2)).trans hx160_2
        replace hx160_3 := (HB.out.cell (World.block_lt_of_cell? w _ hx160_3)).trans hx160_3
        replace hx160_4 := (HB.out.cell (World.block_lt_of_cell? w _ hx160_4)).trans hx160_4
        replace hx160_5 := (HB.out.cell (World.block_lt_of_cell? w _ hx160_5)).trans hx160_5
        replace hx160_6 := (HB.out.cell (World.block_lt_of_cell? w _ hx160_6)).trans hx160_6
        replace hx160_7 := (HB.out.cell (World.block_lt_of_cell? w _ hx160_7)).trans hx160_7
        replace hx160_8 := (HB.out.cell (World.block_lt_of_cell? w _ hx160_8)).trans hx160_8
        replace hx160_9 := (HB.out.cell (World.block_lt_of_cell? w _ hx160_9)).trans hx160_9
        replace hx160_10 := (HB.out.cell (World.block_lt_of_cell? w _ hx160_10)).trans hx160_10
        replace hx160_11 := (HB.out.cell (World.block_lt_of_cell? w _ hx160_11)).trans hx160_11
        replace hx160_12 := (HB.out.cell (World.block_lt_of_cell? w _ hx160_12)).trans hx160_12
        replace hx160_13 := (HB.out.cell (World.block_lt_of_cell? w _ hx160_13)).trans hx160_13
        replace hx160_14 := (HB.out.cell (World.block_lt_of_cell? w _ hx160_14)).trans hx160_14
        replace hx160_15 := (HB.out.cell (World.block_lt_of_cell? w _ hx160_15)).trans hx160_15
        replace p160 := eq_true p160
        replace q160 := eq_true q160
        have p161 : 0 ≤ (x5_1 : Int) := of_decide_eq_true (by first | (with_reducible assumption) | assumption)
        have q161 : x5_1 < (l1.length : Int) := of_decide_eq_true (by first | (with_reducible assumption) | assumption)
        obtain ⟨ad161, e161, hx161_0, hx161_1, hx161_2, hx161_3, hx161_4, hx161_5, hx161_6, hx161_7, hx161_8, hx161_9, hx161_10, hx161_11, hx161_12, hx161_13, hx161_14, hx161_15⟩ := at_T60 HR1.out x5_1 p161 q161
        have hw161_15 := hx161_15
        have hw161_14 := hx161_14
        have hw161_13 := hx161_13
        have hw161_12 := hx161_12
        have hw161_11 := hx161_11
        have hw161_10 := hx161_10
        have hw161_9 := hx161_9
        have hw161_8 := hx161_8
        have hw161_7 := hx161_7
        have hw161_6 := hx161_6
        have hw161_5 := hx161_5
        have hw161_4 := hx161_4
        have hw161_3 := hx161_3
        have hw161_2 := hx161_2
        have hw161_1 := hx161_1
        have hw161_0 := hx161_0
        cases e161
        replace hx161_0 := (HB.out.cell (World.block_lt_of_cell? w _ hx161_0)).trans hx161_0
        replace hx161_1 := (HB.out.cell (World.block_lt_of_cell? w _ hx161_1)).trans hx161_1
        replace hx161_2 := (HB.out.cell (World.block_lt_of_cell? w _ hx161_2)).trans hx161_2
        replace hx161_3 := (HB.out.cell (World.block_lt_of_cell? w _ hx161_3)).trans hx161_3
        replace hx161_4 := (HB.out.cell (World.block_lt_of_cell? w _ hx161_4)).trans hx161_4
        replace hx161_5 := (HB.out.cell (World.block_lt_of_cell? w _ hx161_5)).trans hx161_5
        replace hx161_6 := (HB.out.cell (World.block_lt_of_cell? w _ hx161_6)).trans hx161_6
        replace hx161_7 := (HB.out.cell (World.block_lt_of_cell? w _ hx161_7)).trans hx161_7
        replace hx161_8 := (HB.out.cell (World.block_lt_of_cell? w _ hx161_8)).trans hx161_8
        replace hx161_9 := (HB.out.cell (World.block_lt_of_cell? w _ hx161_9)).trans hx161_9
        replace hx161_10 := (HB.out.cell (World.block_lt_of_cell? w _ hx161_10)).trans hx161_10
        replace hx161_11 := (HB.out.cell (World.block_lt_of_cell? w _ hx161_11)).trans hx161_11
        replace hx161_12 := (HB.out.cell (World.block_lt_of_cell? w _ hx161_12)).trans hx161_12
        replace hx161_13 := (HB.out.cell (World.block_lt_of_cell? w _ hx161_13)).trans hx161_13
        replace hx161_14 := (HB.out.cell (World.block_lt_of_cell? w _ hx161_14)).trans hx161_14
        replace hx161_15 := (HB.out.cell (World.block_lt_of_cell? w _ hx161_15)).trans hx161_15
        replace p161 := eq_true p161
        replace q161 := eq_true q161
        refine start_ (n := 10) (S := fun w' => w'.cell? (ad160.add ((x5_1).toNat * 16)) = some (.int .i64 ((rd_T60 l0 x5_1).f0)) ∧ w'.cell? ⟨(ad160.add ((x5_1).toNat * 16)).block, (ad160.add ((x5_1).toNat * 16)).off + 1, none⟩ = some (.int .i64 ((rd_T60 l0 x5_1).f1.f0)) ∧ w'.cell? ⟨(ad160.add ((x5_1).toNat * 16)).block, (ad160.add ((x5_1).toNat * 16)).off + 2, none⟩ = some (.int .i64 ((rd_T60 l0 x5_1).f1.f1)) ∧ w'.cell? ⟨(ad160.add ((x5_1).toNat * 16)).block, (ad160.add ((x5_1).toNat * 16)).off + 3, none⟩ = some (.int .i64 ((rd_T60 l0 x5_1).f1.f2)) ∧ w'.cell? ⟨(ad160.add ((x5_1).toNat * 16)).block, (ad160.add ((x5_1).toNat * 16)).off + 4, none⟩ = some (.int .i64 ((rd_T60 l0 x5_1).f1.f3)) ∧ w'.cell? ⟨(ad160.add ((x5_1).toNat * 16)).block, (ad160.add ((x5_1).toNat * 16)).off + 5, none⟩ = some (.int .i64 ((rd_T60 l0 x5_1).f1.f4)) ∧ w'.cell? ⟨(ad160.add ((x5_1).toNat * 16)).block, (ad160.add ((x5_1).toNat * 16)).off + 6, none⟩ = some (.int .i64 ((rd_T60 l0 x5_1).f2.f0)) ∧ w'.cell? ⟨(ad160.add ((x5_1).toNat * 16)).block, (ad160.add ((x5_1).toNat * 16)).off + 7, none⟩ = some (.int .i64 ((rd_T60 l0 x5_1).f2.f1)) ∧ w'.cell? ⟨(ad160.add ((x5_1).toNat * 16)).block, (ad160.add ((x5_1).toNat * 16)).off + 8, none⟩ = some (.int .i64 ((rd_T60 l0 x5_1).f2.f2)) ∧ w'.cell? ⟨(ad160.add ((x5_1).toNat * 16)).block, (ad160.add ((x5_1).toNat * 16)).off + 9, none⟩ = some (.int .i64 ((rd_T60 l0 x5_1).f3.f0)) ∧ w'.cell? ⟨(ad160.add ((x5_1).toNat * 16)).block, (ad160.add ((x5_1).toNat * 16)).off + 10, none⟩ = some (.int .i64 ((rd_T60 l0 x5_1).f3.f1)) ∧ w'.cell? ⟨(ad160.add ((x5_1).toNat * 16)).block, (ad160.add ((x5_1).toNat * 16)).off + 11, none⟩ = some (.int .i64 ((rd_T60 l0 x5_1).f3.f2)) ∧ w'.cell? ⟨(ad160.add ((x5_1).toNat * 16)).block, (ad160.add ((x5_1).toNat * 16)).off + 12, none⟩ = some (.int .i64 ((rd_T60 l0 x5_1).f3.f3)) ∧ w'.cell? ⟨(ad160.add ((x5_1).toNat * 16)).block, (ad160.add ((x5_1).toNat * 16)).off + 13, none⟩ = some (.int .i64 ((rd_T60 l0 x5_1).f3.f4)) ∧ w'.cell? ⟨(ad160.add ((x5_1).toNat * 16)).block, (ad160.add ((x5_1).toNat * 16)).off + 14, none⟩ = some (.int .i64 ((rd_T60 l0 x5_1).f3.f5)) ∧ w'.cell? ⟨(ad160.add ((x5_1).toNat * 16)).block, (ad160.add ((x5_1).toNat * 16)).off + 15, none⟩ = some (.int .i64 ((rd_T60 l0 x5_1).f3.f6)) ∧ w'.cell? (ad161.add ((x5_1).toNat * 16)) = some (.int .i64 ((rd_T60 l1 x5_1).f0)) ∧ w'.cell? ⟨(ad161.add ((x5_1).toNat * 16)).block, (ad161.add ((x5_1).toNat * 16)).off + 1, none⟩ = some (.int .i64 ((rd_T60 l1 x5_1).f1.f0)) ∧ w'.cell? ⟨(ad161.add ((x5_1).toNat * 16)).block, (ad161.add ((x5_1).toNat * 16)).off + 2, none⟩ = some (.int .i64 ((rd_T60 l1 x5_1).f1.f1)) ∧ w'.cell? ⟨(ad161.add ((x5_1).toNat * 16)).block, (ad161.add ((x5_1).toNat * 16)).off + 3, none⟩ = some (.int .i64 ((rd_T60 l1 x5_1).f1.f2)) ∧ w'.cell? ⟨(ad161.add ((x5_1).toNat * 16)).block, (ad161.add ((x5_1).toNat * 16)).off + 4, none⟩ = some (.int .i64 ((rd_T60 l1 x5_1).f1.f3)) ∧ w'.cell? ⟨(ad161.add ((x5_1).toNat * 16)).block, (ad161.add ((x5_1).toNat * 16)).off + 5, none⟩ = some (.int .i64 ((rd_T60 l1 x5_1).f1.f4)) ∧ w'.cell? ⟨(ad161.add ((x5_1).toNat * 16)).block, (ad161.add ((x5_1).toNat * 16)).off + 6, none⟩ = some (.int .i64 ((rd_T60 l1 x5_1).f2.f0)) ∧ w'.cell? ⟨(ad161.add ((x5_1).toNat * 16)).block, (ad161.add ((x5_1).toNat * 16)).off + 7, none⟩ = some (.int .i64 ((rd_T60 l1 x5_1).f2.f1)) ∧ w'.cell? ⟨(ad161.add ((x5_1).toNat * 16)).block, (ad161.add ((x5_1).toNat * 16)).off + 8, none⟩ = some (.int .i64 ((rd_T60 l1 x5_1).f2.f2)) ∧ w'.cell? ⟨(ad161.add ((x5_1).toNat * 16)).block, (ad161.add ((x5_1).toNat * 16)).off + 9, none⟩ = some (.int .i64 ((rd_T60 l1 x5_1).f3.f0)) ∧ w'.cell? ⟨(ad161.add ((x5_1).toNat * 16)).block, (ad161.add ((x5_1).toNat * 16)).off + 10, none⟩ = some (.int .i64 ((rd_T60 l1 x5_1).f3.f1)) ∧ w'.cell? ⟨(ad161.add ((x5_1).toNat * 16)).block, (ad161.add ((x5_1).toNat * 16)).off + 11, none⟩ = some (.int .i64 ((rd_T60 l1 x5_1).f3.f2)) ∧ w'.cell? ⟨(ad161.add ((x5_1).toNat * 16)).block, (ad161.add ((x5_1).toNat * 16)).off + 12, none⟩ = some (.int .i64 ((rd_T60 l1 x5_1).f3.f3)) ∧ w'.cell? ⟨(ad161.add ((x5_1).toNat * 16)).block, (ad161.add ((x5_1).toNat * 16)).off + 13, none⟩ = some (.int .i64 ((rd_T60 l1 x5_1).f3.f4)) ∧ w'.cell? ⟨(ad161.add ((x5_1).toNat * 16)).block, (ad161.add ((x5_1).toNat * 16)).off + 14, none⟩ = some (.int .i64 ((rd_T60 l1 x5_1).f3.f5)) ∧ w'.cell? ⟨(ad161.add ((x5_1).toNat * 16)).block, (ad161.add ((x5_1).toNat * 16)).off + 15, none⟩ = some (.int .i64 ((rd_T60 l1 x5_1).f3.f6))) (ds := []) #[false, false, false, false, false, false, false, false, false, false] (by kernel_rfl) rfl rfl ⟨((HB.out.cell (World.block_lt_of_cell? w _ hw160_0)).trans hw160_0), ((HB.out.cell (World.block_lt_of_cell? w _ hw160_1)).trans hw160_1), ((HB.out.cell (World.block_lt_of_cell? w _ hw160_2)).trans hw160_2), ((HB.out.cell (World.block_lt_of_cell? w _ hw160_3)).trans hw160_3), ((HB.out.cell (World.block_lt_of_cell? w _ hw160_4)).trans hw160_4), ((HB.out.cell (World.block_lt_of_cell? w _ hw160_5)).trans hw160_5), ((HB.out.cell (World.block_lt_of_cell? w _ hw160_6)).trans hw160_6), ((HB.out.cell (World.block_lt_of_cell? w _ hw160_7)).trans hw160_7), ((HB.out.cell (World.block_lt_of_cell? w _ hw160_8)).trans hw160_8), ((HB.out.cell (World.block_lt_of_cell? w _ hw160_9)).trans hw160_9), ((HB.out.cell (World.block_lt_of_cell? w _ hw160_10)).trans hw160_10), ((HB.out.cell (World.block_lt_of_cell? w _ hw160_11)).trans hw160_11), ((HB.out.cell (World.block_lt_of_cell? w _ hw160_12)).trans hw160_12), ((HB.out.cell (World.block_lt_of_cell? w _ hw160_13)).trans hw160_13), ((HB.out.cell (World.block_lt_of_cell? w _ hw160_14)).trans hw160_14), ((HB.out.cell (World.block_lt_of_cell? w _ hw160_15)).trans hw160_15), ((HB.out.cell (World.block_lt_of_cell? w _ hw161_0)).trans hw161_0), ((HB.out.cell (World.block_lt_of_cell? w _ hw161_1)).trans hw161_1), ((HB.out.cell (World.block_lt_of_cell? w _ hw161_2)).trans hw161_2), ((HB.out.cell (World.block_lt_of_cell? w _ hw161_3)).trans hw161_3), ((HB.out.cell (World.block_lt_of_cell? w _ hw161_4)).trans hw161_4), ((HB.out.cell (World.block_lt_of_cell? w _ hw161_5)).trans hw161_5), ((HB.out.cell (World.block_lt_of_cell? w _ hw161_6)).trans hw161_6), ((HB.out.cell (World.block_lt_of_cell? w _ hw161_7)).trans hw161_7), ((HB.out.cell (World.block_lt_of_cell? w _ hw161_8)).trans hw161_8), ((HB.out.cell (World.block_lt_of_cell? w _ hw161_9)).trans hw161_9), ((HB.out.cell (World.block_lt_of_cell? w _ hw161_10)).trans hw161_10), ((HB.out.cell (World.block_lt_of_cell? w _ hw161_11)).trans hw161_11), ((HB.out.cell (World.block_lt_of_cell? w _ hw161_12)).trans hw161_12), ((HB.out.cell (World.block_lt_of_cell? w _ hw161_13)).trans hw161_13), ((HB.out.cell (World.block_lt_of_cell? w _ hw161_14)).trans hw161_14), ((HB.out.cell (World.block_lt_of_cell? w _ hw161_15)).trans hw161_15)⟩ (fun hHeld => ?_); refine with_tabW laws_eqStepS.tab6 laws_eqStepS.bits6 (fun HT_ HW_ => ?_)
        generalize wr.drew = w11 at HB hx160_0 hx160_1 hx160_10 hx160_11 hx160_12 hx160_13 hx160_14 hx160_15 hx160_2 hx160_3 hx160_4 hx160_5 hx160_6 hx160_7 hx160_8 hx160_9 hx161_0 hx161_1 hx161_10 hx161_11 hx161_12 hx161_13 hx161_14 hx161_15 hx161_2 hx161_3 hx161_4 hx161_5 hx161_6 hx161_7 hx161_8 hx161_9 hHeld ⊢
        refine pure_ (i := 0) (N := some 17) (v := ?_) (a' := ?_) #[true, false, false, false, false, false, false, false, false, false] rfl rfl (any_of HT_.out (by kernel_rfl)) (fun _ _ _ h => h) (Or.inl ⟨by rfl, ?_⟩) ?_ ?_
        rotate_left
        ·intro w'
         go_simp
         with_reducible rfl
        rotate_left
        ·simp only [Act.put, List.setIfInBounds_toArray, List.set_cons_zero, List.set_cons_succ, i64_w, i32_w]
         rfl
        refine pure_ (i := 1) (N := some 18) (v := ?_) (a' := ?_) #[true, true, false, false, false, false, false, false, false, false] rfl rfl (any_of HT_.out (by kernel_rfl)) (fun _ _ _ h => h) (Or.inl ⟨by rfl, ?_⟩) ?_ ?_
        rotate_left
        ·intro w'
         go_simp
         with_reducible rfl
        rotate_left
        ·simp only [Act.put, List.setIfInBounds_toArray, List.set_cons_zero, List.set_cons_succ, i64_w, i32_w]
         rfl
        refine pure_ (i := 2) (N := some 19) (v := ?_) (a' := ?_) #[true, true, true, false, false, false, false, false, false, false] rfl rfl (any_of HT_.out (by kernel_rfl)) (fun _ _ _ h => h) (Or.inl ⟨by rfl, ?_⟩) ?_ ?_
        rotate_left
        ·intro w'
         go_simp
         with_reducible rfl
        rotate_left
        ·simp only [Act.put, List.setIfInBounds_toArray, List.set_cons_zero, List.set_cons_succ, i64_w, i32_w]
         rfl
        refine pure_ (i := 4) (N := some 21) (v := ?_) (a' := ?_) #[true, true, true, false, true, false, false, false, false, false] rfl rfl (any_of HT_.out (by kernel_rfl)) (fun _ _ _ h => h) (Or.inl ⟨by rfl, ?_⟩) ?_ ?_
        rotate_left
        ·intro w'
         go_simp
         with_reducible rfl
        rotate_left
        ·simp only [Act.put, List.setIfInBounds_toArray, List.set_cons_zero, List.set_cons_succ, i64_w, i32_w]
         rfl
        refine pure_ (i := 5) (N := some 22) (v := ?_) (a' := ?_) #[true, true, true, false, true, true, false, false, false, false] rfl rfl (any_of HT_.out (by kernel_rfl)) (fun _ _ _ h => h) (Or.inl ⟨by rfl, ?_⟩) ?_ ?_
        rotate_left
        ·intro w'
         go_simp
         with_reducible rfl
        rotate_left
        ·simp only [Act.put, List.setIfInBounds_toArray, List.set_cons_zero, List.set_cons_succ, i64_w, i32_w]
         rfl
        refine pure_ (i := 6) (N := some 23) (v := ?_) (a' := ?_) #[true, true, true, false, true, true, true, false, false, false] rfl rfl (any_of HT_.out (by kernel_rfl)) (fun _ _ _ h => h) (Or.inl ⟨by rfl, ?_⟩) ?_ ?_
        rotate_left
        ·intro w'
         go_simp
         with_reducible rfl
        rotate_left
        ·simp only [Act.put, List.setIfInBounds_toArray, List.set_cons_zero, List.set_cons_succ, i64_w, i32_w]
         rfl
        refine take_ (i := 3) (N := some 20) (v := ?_) (a' := ?_) #[true, true, true, true, true, true, true, false, false, false] rfl rfl (take_ofW HT_.out HW_.out (by kernel_rfl)) (fun _ _ _ h => h) (Or.inl ⟨by rfl, ?_⟩) hHeld ?_ ?_
        rotate_left
        ·rintro w' ⟨s0, s1, s2, s3, s4, s5, s6, s7, s8, s9, s10, s11, s12, s13, s14, s15, s16, s17, s18, s19, s20, s21, s22, s23, s24, s25, s26, s27, s28, s29, s30, s31⟩
         go_simp
         with_reducible rfl
        rotate_left
        ·simp only [Act.put, List.setIfInBounds_toArray, List.set_cons_zero, List.set_cons_succ, i64_w, i32_w]
         rfl
        refine take_ (i := 7) (N := some 24) (v := ?_) (a' := ?_) #[true, true, true, true, true, true, true, true, false, false] rfl rfl (take_ofW HT_.out HW_.out (by kernel_rfl)) (fun _ _ _ h => h) (Or.inl ⟨by rfl, ?_⟩) hHeld ?_ ?_
        rotate_left
        ·rintro w' ⟨s0, s1, s2, s3, s4, s5, s6, s7, s8, s9, s10, s11, s12, s13, s14, s15, s16, s17, s18, s19, s20, s21, s22, s23, s24, s25, s26, s27, s28, s29, s30, s31⟩
         go_simp
         with_reducible rfl
        rotate_left
        ·simp only [Act.put, List.setIfInBounds_toArray, List.set_cons_zero, List.set_cons_succ, i64_w, i32_w]
         rfl
        refine one_ (i := 8) (N := some 25) #[true, true, true, true, true, true, true, true, true, false] rfl rfl (one_of HT_.out (by kernel_rfl)) (by decide) (fun K hK => ?_)
        refine goes_ Try.func82 (by kernel_rfl) rfl #[.agg #[.int .i64 ((rd_T60 l0 x5_1).f0), .int .i64 ((rd_T60 l0 x5_1).f1.f0), .int .i64 ((rd_T60 l0 x5_1).f1.f1), .int .i64 ((rd_T60 l0 x5_1).f1.f2), .int .i64 ((rd_T60 l0 x5_1).f1.f3), .int .i64 ((rd_T60 l0 x5_1).f1.f4), .int .i64 ((rd_T60 l0 x5_1).f2.f0), .int .i64 ((rd_T60 l0 x5_1).f2.f1), .int .i64 ((rd_T60 l0 x5_1).f2.f2), .int .i64 ((rd_T60 l0 x5_1).f3.f0), .int .i64 ((rd_T60 l0 x5_1).f3.f1), .int .i64 ((rd_T60 l0 x5_1).f3.f2), .int .i64 ((rd_T60 l0 x5_1).f3.f3), .int .i64 ((rd_T60 l0 x5_1).f3.f4), .int .i64 ((rd_T60 l0 x5_1).f3.f5), .int .i64 ((rd_T60 l0 x5_1).f3.f6)], .agg #[.int .i64 ((rd_T60 l1 x5_1).f0), .int .i64 ((rd_T60 l1 x5_1).f1.f0), .int .i64 ((rd_T60 l1 x5_1).f1.f1), .int .i64 ((rd_T60 l1 x5_1).f1.f2), .int .i64 ((rd_T60 l1 x5_1).f1.f3), .int .i64 ((rd_T60 l1 x5_1).f1.f4), .int .i64 ((rd_T60 l1 x5_1).f2.f0), .int .i64 ((rd_T60 l1 x5_1).f2.f1), .int .i64 ((rd_T60 l1 x5_1).f2.f2), .int .i64 ((rd_T60 l1 x5_1).f3.f0), .int .i64 ((rd_T60 l1 x5_1).f3.f1), .int .i64 ((rd_T60 l1 x5_1).f3.f2), .int .i64 ((rd_T60 l1 x5_1).f3.f3), .int .i64 ((rd_T60 l1 x5_1).f3.f4), .int .i64 ((rd_T60 l1 x5_1).f3.f5), .int .i64 ((rd_T60 l1 x5_1).f3.f6)]] (by rfl) rfl rfl (by (try simp only [List.map_toArray, List.map_cons, List.map_nil]); first | done | rfl | (simp only [List.length_drop, List.length_take]; rfl)) ?_
        with_reducible refine (laws_eqStep.calls ((rd_T60 l0 x5_1).f0) ((rd_T60 l0 x5_1).f1.f0) ((rd_T60 l0 x5_1).f1.f1) ((rd_T60 l0 x5_1).f1.f2) ((rd_T60 l0 x5_1).f1.f3) ((rd_T60 l0 x5_1).f1.f4) ((rd_T60 l0 x5_1).f2.f0) ((rd_T60 l0 x5_1).f2.f1) ((rd_T60 l0 x5_1).f2.f2) ((rd_T60 l0 x5_1).f3.f0) ((rd_T60 l0 x5_1).f3.f1) ((rd_T60 l0 x5_1).f3.f2) ((rd_T60 l0 x5_1).f3.f3) ((rd_T60 l0 x5_1).f3.f4) ((rd_T60 l0 x5_1).f3.f5) ((rd_T60 l0 x5_1).f3.f6) ((rd_T60 l1 x5_1).f0) ((rd_T60 l1 x5_1).f1.f0) ((rd_T60 l1 x5_1).f1.f1) ((rd_T60 l1 x5_1).f1.f2) ((rd_T60 l1 x5_1).f1.f3) ((rd_T60 l1 x5_1).f1.f4) ((rd_T60 l1 x5_1).f2.f0) ((rd_T60 l1 x5_1).f2.f1) ((rd_T60 l1 x5_1).f2.f2) ((rd_T60 l1 x5_1).f3.f0) ((rd_T60 l1 x5_1).f3.f1) ((rd_T60 l1 x5_1).f3.f2) ((rd_T60 l1 x5_1).f3.f3) ((rd_T60 l1 x5_1).f3.f4) ((rd_T60 l1 x5_1).f3.f5) ((rd_T60 l1 x5_1).f3.f6) false _ A7.out).mono ?_
        rintro e w12 ⟨rfl, hb⟩
        refine ⟨_, rfl, ?_⟩
        have n0_ := Aside0.mk (below_step (by repeat (first | (with_reducible first | exact HB.out | apply below_alloc | apply pw_below_drewN | apply below_drew1) | exact HB.out)) hb)
        clear HB
        have HB := n0_
        clear n0_
        (try clear hb)
        (try clear hb2)
        (try clear hk)
        (try clear hi)
        refine hK.out _ _ ⟨((HB.out.cell (World.block_lt_of_cell? w _ hw160_0)).trans hw160_0), ((HB.out.cell (World.block_lt_of_cell? w _ hw160_1)).trans hw160_1), ((HB.out.cell (World.block_lt_of_cell? w _ hw160_2)).trans hw160_2), ((HB.out.cell (World.block_lt_of_cell? w _ hw160_3)).trans hw160_3), ((HB.out.cell (World.block_lt_of_cell? w _ hw160_4)).trans hw160_4), ((HB.out.cell (World.block_lt_of_cell? w _ hw160_5)).trans hw160_5), ((HB.out.cell (World.block_lt_of_cell? w _ hw160_6)).trans hw160_6), ((HB.out.cell (World.block_lt_of_cell? w _ hw160_7)).trans hw160_7), ((HB.out.cell (World.block_lt_of_cell? w _ hw160_8)).trans hw160_8), ((HB.out.cell (World.block_lt_of_cell? w _ hw160_9)).trans hw160_9), ((HB.out.cell (World.block_lt_of_cell? w _ hw160_10)).trans hw160_10), ((HB.out.cell (World.block_lt_of_cell? w _ hw160_11)).trans hw160_11), ((HB.out.cell (World.block_lt_of_cell? w _ hw160_12)).trans hw160_12), ((HB.out.cell (World.block_lt_of_cell? w _ hw160_13)).trans hw160_13), ((HB.out.cell (World.block_lt_of_cell? w _ hw160_14)).trans hw160_14), ((HB.out.cell (World.block_lt_of_cell? w _ hw160_15)).trans hw160_15), ((HB.out.cell (World.block_lt_of_cell? w _ hw161_0)).trans hw161_0), ((HB.out.cell (World.block_lt_of_cell? w _ hw161_1)).trans hw161_1), ((HB.out.cell (World.block_lt_of_cell? w _ hw161_2)).trans hw161_2), ((HB.out.cell (World.block_lt_of_cell? w _ hw161_3)).trans hw161_3), ((HB.out.cell (World.block_lt_of_cell? w _ hw161_4)).trans hw161_4), ((HB.out.cell (World.block_lt_of_cell? w _ hw161_5)).trans hw161_5), ((HB.out.cell (World.block_lt_of_cell? w _ hw161_6)).trans hw161_6), ((HB.out.cell (World.block_lt_of_cell? w _ hw161_7)).trans hw161_7), ((HB.out.cell (World.block_lt_of_cell? w _ hw161_8)).trans hw161_8), ((HB.out.cell (World.block_lt_of_cell? w _ hw161_9)).trans hw161_9), ((HB.out.cell (World.block_lt_of_cell? w _ hw161_10)).trans hw161_10), ((HB.out.cell (World.block_lt_of_cell? w _ hw161_11)).trans hw161_11), ((HB.out.cell (World.block_lt_of_cell? w _ hw161_12)).trans hw161_12), ((HB.out.cell (World.block_lt_of_cell? w _ hw161_13)).trans hw161_13), ((HB.out.cell (World.block_lt_of_cell? w _ hw161_14)).trans hw161_14), ((HB.out.cell (World.block_lt_of_cell? w _ hw161_15)).trans hw161_15)⟩ (fun hHeld => ?_)
        clear hK K
        refine norm_ (a' := ?_) ?_ ?_
        rotate_left
        ·show Act.put _ (some 25) _ = _
         simp only [Act.put, List.setIfInBounds_toArray, List.set_cons_zero, List.set_cons_succ, i64_w, i32_w]
         rfl
        refine pure_ (i := 9) (N := some 26) (v := ?_) (a' := ?_) #[true, true, true, true, true, true, true, true, true, true] rfl rfl (any_of HT_.out (by kernel_rfl)) (fun _ _ _ h => h) (Or.inl ⟨by rfl, ?_⟩) ?_ ?_
        rotate_left
        ·intro w'
         go_simp
         with_reducible rfl
        rotate_left
        ·simp only [Act.put, List.setIfInBounds_toArray, List.set_cons_zero, List.set_cons_succ, i64_w, i32_w]
         rfl
        refine done_ (done_of HT_.out (by kernel_rfl)) ?_
        try go_wp2
        go_ret
        exact ⟨by first | rfl | (simp <;> rfl) | (simp; decide +kernel) | (simp [*] <;> rfl), by repeat (first | (with_reducible first | exact HB.out | apply below_alloc | apply pw_below_drewN | apply below_drew1) | exact HB.out)⟩
      ·rw [if_neg c6] at H
       exact absurd H (by simp)
     ·rw [if_neg c5] at H
      exact absurd H (by simp)
    ·rw [if_neg c4] at H
     have c4b0 : decide (x5_1 < (l0.length : Int)) = false := decide_eq_false c4
     clear c4
     obtain rfl := Option.some.inj H
     go_wp2
     go_ret
     exact ⟨by first | rfl | (simp <;> rfl) | (simp; decide +kernel) | (simp [*] <;> rfl), by repeat (first | (with_reducible first | exact HB.out | apply below_alloc | apply pw_below_drewN | apply below_drew1) | exact HB.out)⟩
 ·rw [if_neg c3] at H
  have c3b0 : ((l0.length : Int) == (l1.length : Int)) = false := beq_eq_false_iff_ne.mpr c3
  have c3b1 : ((l0.length : Int) != (l1.length : Int)) = true := bne_iff_ne.mpr c3
  have c3b2 : (l0.length == l1.length) = false := by first | simpa using c3 | (simp at c3 ⊢; omega)
  obtain rfl := Option.some.inj H
  go_enter Try.func44, Try.ntmps44
  go_wp2
  go_ret
  exact ⟨by first | rfl | (simp <;> rfl) | (simp; decide +kernel) | (simp [*] <;> rfl), by repeat (first | (with_reducible first | exact HB.out | apply below_alloc | apply pw_below_drewN | apply below_drew1) | exact HB.out)⟩

/-! ### spec_l27None: function 98 -/
def spec_l27None.f  : Option (Int × Int × Int × Int × Int × Int × Int × Int × Int × Int × Int × Int × Int × Int × Int × Int) := some (0, 0, 0, 0, 0, 0, 0, 0, 0, 0, 0, 0, 0, 0, 0, 0)
set_option maxHeartbeats 8000000 in
set_option maxRecDepth 100000 in
theorem spec_l27None.calls  (r1 : Int) (r2 : Int) (r3 : Int) (r4 : Int) (r5 : Int) (r6 : Int) (r7 : Int) (r8 : Int) (r9 : Int) (r10 : Int) (r11 : Int) (r12 : Int) (r13 : Int) (r14 : Int) (r15 : Int) (r16 : Int) (w : World) (h : spec_l27None.f  = some (r1, r2, r3, r4, r5, r6, r7, r8, r9, r10, r11, r12, r13, r14, r15, r16)) :
  Calls Try.prog 98 #[] w fun e w' => e = .returned (.agg #[.int .i64 r1, .int .i64 r2, .int .i64 r3, .int .i64 r4, .int .i64 r5, .int .i64 r6, .int .i64 r7, .int .i64 r8, .int .i64 r9, .int .i64 r10, .int .i64 r11, .int .i64 r12, .int .i64 r13, .int .i64 r14, .int .i64 r15, .int .i64 r16]) ∧ Below w.heap.size w w' := by
 have hu60 := Try.underlying60
 have HB := Aside0.mk (Below.refl w.heap.size w)
 have H : (some (0, 0, 0, 0, 0, 0, 0, 0, 0, 0, 0, 0, 0, 0, 0, 0)) = some (r1, r2, r3, r4, r5, r6, r7, r8, r9, r10, r11, r12, r13, r14, r15, r16) := h
 clear h
 simp only [Option.some.injEq, Prod.mk.injEq] at H
 obtain ⟨rfl, rfl, rfl, rfl, rfl, rfl, rfl, rfl, rfl, rfl, rfl, rfl, rfl, rfl, rfl, rfl⟩ := H
 go_enter Try.func98, Try.ntmps98
 go_wp2_with (first | ((with_reducible refine gate_dst (N := 0) rfl ?_); refine box_event ?hg (N := 0) ?hd (cs := #[.int .i64 0, .int .i64 0, .int .i64 0, .int .i64 0, .int .i64 0, .int .i64 0, .int .i64 0, .int .i64 0, .int .i64 0, .int .i64 0, .int .i64 0, .int .i64 0, .int .i64 0, .int .i64 0, .int .i64 0, .int .i64 0]) (t := 60) ?hr ?_; (case hd => rfl); (case hg => rfl); (case hr => first | (go_simp; done) | (go_simp; rfl)); intro gb163 hg w1 hbox hb; have n0_ := Aside0.mk (below_step (by repeat (first | (with_reducible first | exact HB.out | apply below_alloc | apply pw_below_drewN | apply below_drew1) | exact HB.out)) hb); have n1_ := Aside0.mk (hbox); have n2_ := Aside0.mk ((by rw [hg]; exact (below_size (by repeat (first | (with_reducible first | exact HB.out | apply below_alloc | apply pw_below_drewN | apply below_drew1) | exact HB.out))) : w.heap.size ≤ gb163)); have n3_ := n2_; clear HB; have HB := n0_; have BK163 := n1_; have GW163 := n2_; have GE163 := n3_; clear n0_ n1_ n2_ n3_; clear hb hbox hg; have hcz2_0 := bcell BK163.out 0 (.int .i64 0) rfl; have hcz2_1 := bcell BK163.out 1 (.int .i64 0) rfl; have hcz2_2 := bcell BK163.out 2 (.int .i64 0) rfl; have hcz2_3 := bcell BK163.out 3 (.int .i64 0) rfl; have hcz2_4 := bcell BK163.out 4 (.int .i64 0) rfl; have hcz2_5 := bcell BK163.out 5 (.int .i64 0) rfl; have hcz2_6 := bcell BK163.out 6 (.int .i64 0) rfl; have hcz2_7 := bcell BK163.out 7 (.int .i64 0) rfl; have hcz2_8 := bcell BK163.out 8 (.int .i64 0) rfl; have hcz2_9 := bcell BK163.out 9 (.int .i64 0) rfl; have hcz2_10 := bcell BK163.out 10 (.int .i64 0) rfl; have hcz2_11 := bcell BK163.out 11 (.int .i64 0) rfl; have hcz2_12 := bcell BK163.out 12 (.int .i64 0) rfl; have hcz2_13 := bcell BK163.out 13 (.int .i64 0) rfl; have hcz2_14 := bcell BK163.out 14 (.int .i64 0) rfl; have hcz2_15 := bcell BK163.out 15 (.int .i64 0) rfl; have hfz2_0 := blk_frozen BK163.out 0; have hfz2_1 := blk_frozen BK163.out 1; have hfz2_2 := blk_frozen BK163.out 2; have hfz2_3 := blk_frozen BK163.out 3; have hfz2_4 := blk_frozen BK163.out 4; have hfz2_5 := blk_frozen BK163.out 5; have hfz2_6 := blk_frozen BK163.out 6; have hfz2_7 := blk_frozen BK163.out 7; have hfz2_8 := blk_frozen BK163.out 8; have hfz2_9 := blk_frozen BK163.out 9; have hfz2_10 := blk_frozen BK163.out 10; have hfz2_11 := blk_frozen BK163.out 11; have hfz2_12 := blk_frozen BK163.out 12; have hfz2_13 := blk_frozen BK163.out 13; have hfz2_14 := blk_frozen BK163.out 14; have hfz2_15 := blk_frozen BK163.out 15))
 refine bodyPost_ret (results_cell_row rfl _ _ gb163 60 #[.int .i64 0, .int .i64 0, .int .i64 0, .int .i64 0, .int .i64 0, .int .i64 0, .int .i64 0, .int .i64 0, .int .i64 0, .int .i64 0, .int .i64 0, .int .i64 0, .int .i64 0, .int .i64 0, .int .i64 0, .int .i64 0] (0, 0) _ rfl (by (with_reducible repeat (first | refine blk_drewN ?_ _ | refine blk_drew ?_ | refine blk_alloc ?_ _)); refine blk_put (cs := #[.int .i64 0, .int .i64 0, .int .i64 0, .int .i64 0, .int .i64 0, .int .i64 0, .int .i64 0, .int .i64 0, .int .i64 0, .int .i64 0, .int .i64 0, .int .i64 0, .int .i64 0, .int .i64 0, .int .i64 0, .int .i64 0]) ?_ 15 _ rfl; (with_reducible repeat (first | refine blk_drewN ?_ _ | refine blk_drew ?_ | refine blk_alloc ?_ _)); refine blk_put (cs := #[.int .i64 0, .int .i64 0, .int .i64 0, .int .i64 0, .int .i64 0, .int .i64 0, .int .i64 0, .int .i64 0, .int .i64 0, .int .i64 0, .int .i64 0, .int .i64 0, .int .i64 0, .int .i64 0, .int .i64 0, .int .i64 0]) ?_ 14 _ rfl; (with_reducible repeat (first | refine blk_drewN ?_ _ | refine blk_drew ?_ | refine blk_alloc ?_ _)); refine blk_put (cs := #[.int .i64 0, .int .i64 0, .int .i64 0, .int .i64 0, .int .i64 0, .int .i64 0, .int .i64 0, .int .i64 0, .int .i64 0, .int .i64 0, .int .i64 0, .int .i64 0, .int .i64 0, .int .i64 0, .int .i64 0, .int .i64 0]) ?_ 13 _ rfl; (with_reducible repeat (first | refine blk_drewN ?_ _ | refine blk_drew ?_ | refine blk_alloc ?_ _)); refine blk_put (cs := #[.int .i64 0, .int .i64 0, .int .i64 0, .int .i64 0, .int .i64 0, .int .i64 0, .int .i64 0, .int .i64 0, .int .i64 0, .int .i64 0, .int .i64 0, .int .i64 0, .int .i64 0, .int .i64 0, .int .i64 0, .int .i64 0]) ?_ 12 _ rfl; (with_reducible repeat (first | refine blk_drewN ?_ _ | refine blk_drew ?_ | refine blk_alloc ?_ _)); refine blk_put (cs := #[.int .i64 0, .int .i64 0, .int .i64 0, .int .i64 0, .int .i64 0, .int .i64 0, .int .i64 0, .int .i64 0, .int .i64 0, .int .i64 0, .int .i64 0, .int .i64 0, .int .i64 0, .int .i64 0, .int .i64 0, .int .i64 0]) ?_ 11 _ rfl; (with_reducible repeat (first | refine blk_drewN ?_ _ | refine blk_drew ?_ | refine blk_alloc ?_ _)); refine blk_put (cs := #[.int .i64 0, .int .i64 0, .int .i64 0, .int .i64 0, .int .i64 0, .int .i64 0, .int .i64 0, .int .i64 0, .int .i64 0, .int .i64 0, .int .i64 0, .int .i64 0, .int .i64 0, .int .i64 0, .int .i64 0, .int .i64 0]) ?_ 10 _ rfl; (with_reducible repeat (first | refine blk_drewN ?_ _ | refine blk_drew ?_ | refine blk_alloc ?_ _)); refine blk_put (cs := #[.int .i64 0, .int .i64 0, .int .i64 0, .int .i64 0, .int .i64 0, .int .i64 0, .int .i64 0, .int .i64 0, .int .i64 0, .int .i64 0, .int .i64 0, .int .i64 0, .int .i64 0, .int .i64 0, .int .i64 0, .int .i64 0]) ?_ 9 _ rfl; (with_reducible repeat (first | refine blk_drewN ?_ _ | refine blk_drew ?_ | refine blk_alloc ?_ _)); refine blk_put (cs := #[.int .i64 0, .int .i64 0, .int .i64 0, .int .i64 0, .int .i64 0, .int .i64 0, .int .i64 0, .int .i64 0, .int .i64 0, .int .i64 0, .int .i64 0, .int .i64 0, .int .i64 0, .int .i64 0, .int .i64 0, .int .i64 0]) ?_ 8 _ rfl; (with_reducible repeat (first | refine blk_drewN ?_ _ | refine blk_drew ?_ | refine blk_alloc ?_ _)); refine blk_put (cs := #[.int .i64 0, .int .i64 0, .int .i64 0, .int .i64 0, .int .i64 0, .int .i64 0, .int .i64 0, .int .i64 0, .int .i64 0, .int .i64 0, .int .i64 0, .int .i64 0, .int .i64 0, .int .i64 0, .int .i64 0, .int .i64 0]) ?_ 7 _ rfl; (with_reducible repeat (first | refine blk_drewN ?_ _ | refine blk_drew ?_ | refine blk_alloc ?_ _)); refine blk_put (cs := #[.int .i64 0, .int .i64 0, .int .i64 0, .int .i64 0, .int .i64 0, .int .i64 0, .int .i64 0, .int .i64 0, .int .i64 0, .int .i64 0, .int .i64 0, .int .i64 0, .int .i64 0, .int .i64 0, .int .i64 0, .int .i64 0]) ?_ 6 _ rfl; (with_reducible repeat (first | refine blk_drewN ?_ _ | refine blk_drew ?_ | refine blk_alloc ?_ _)); refine blk_put (cs := #[.int .i64 0, .int .i64 0, .int .i64 0, .int .i64 0, .int .i64 0, .int .i64 0, .int .i64 0, .int .i64 0, .int .i64 0, .int .i64 0, .int .i64 0, .int .i64 0, .int .i64 0, .int .i64 0, .int .i64 0, .int .i64 0]) ?_ 5 _ rfl; (with_reducible repeat (first | refine blk_drewN ?_ _ | refine blk_drew ?_ | refine blk_alloc ?_ _)); refine blk_put (cs := #[.int .i64 0, .int .i64 0, .int .i64 0, .int .i64 0, .int .i64 0, .int .i64 0, .int .i64 0, .int .i64 0, .int .i64 0, .int .i64 0, .int .i64 0, .int .i64 0, .int .i64 0, .int .i64 0, .int .i64 0, .int .i64 0]) ?_ 4 _ rfl; (with_reducible repeat (first | refine blk_drewN ?_ _ | refine blk_drew ?_ | refine blk_alloc ?_ _)); refine blk_put (cs := #[.int .i64 0, .int .i64 0, .int .i64 0, .int .i64 0, .int .i64 0, .int .i64 0, .int .i64 0, .int .i64 0, .int .i64 0, .int .i64 0, .int .i64 0, .int .i64 0, .int .i64 0, .int .i64 0, .int .i64 0, .int .i64 0]) ?_ 3 _ rfl; (with_reducible repeat (first | refine blk_drewN ?_ _ | refine blk_drew ?_ | refine blk_alloc ?_ _)); refine blk_put (cs := #[.int .i64 0, .int .i64 0, .int .i64 0, .int .i64 0, .int .i64 0, .int .i64 0, .int .i64 0, .int .i64 0, .int .i64 0, .int .i64 0, .int .i64 0, .int .i64 0, .int .i64 0, .int .i64 0, .int .i64 0, .int .i64 0]) ?_ 2 _ rfl; (with_reducible repeat (first | refine blk_drewN ?_ _ | refine blk_drew ?_ | refine blk_alloc ?_ _)); refine blk_put (cs := #[.int .i64 0, .int .i64 0, .int .i64 0, .int .i64 0, .int .i64 0, .int .i64 0, .int .i64 0, .int .i64 0, .int .i64 0, .int .i64 0, .int .i64 0, .int .i64 0, .int .i64 0, .int .i64 0, .int .i64 0, .int .i64 0]) ?_ 1 _ rfl; (with_reducible repeat (first | refine blk_drewN ?_ _ | refine blk_drew ?_ | refine blk_alloc ?_ _)); refine blk_put (cs := #[.int .i64 0, .int .i64 0, .int .i64 0, .int .i64 0, .int .i64 0, .int .i64 0, .int .i64 0, .int .i64 0, .int .i64 0, .int .i64 0, .int .i64 0, .int .i64 0, .int .i64 0, .int .i64 0, .int .i64 0, .int .i64 0]) ?_ 0 _ rfl; (with_reducible repeat (first | refine blk_drewN ?_ _ | refine blk_drew ?_ | refine blk_alloc ?_ _)); exact BK163.out) Try.underlying60 rfl (by kernel_rfl)) rfl ?_
 exact ⟨by first | rfl | (simp <;> rfl) | (simp; decide +kernel) | (simp [*] <;> rfl), by repeat (first | (with_reducible first | exact HB.out | apply below_alloc | apply pw_below_drewN | apply below_drew1 | refine below_set ?_ GE163.out) | exact HB.out)⟩

/-! ### spec_l00In: function 53 -/
def spec_l00In.f (a0 : Int) (a1 : Int) (a2 : Int) : Option (Bool) := if a0 ≥ a1 then (some (decide (a0 ≤ a2))) else (some false)
set_option maxHeartbeats 8000000 in
set_option maxRecDepth 100000 in
theorem spec_l00In.calls (a0 : Int) (a1 : Int) (a2 : Int) (r : Bool) (w : World) (h : spec_l00In.f a0 a1 a2 = some r) :
  Calls Try.prog 53 #[.int .i64 a0, .int .i64 a1, .int .i64 a2] w fun e w' => e = .returned (.bool r) ∧ Drawn0 w w' := by
 have H : (if a0 ≥ a1 then (some (decide (a0 ≤ a2))) else (some false)) = some r := h
 clear h
 by_cases c4 : a0 ≥ a1
 ·rw [if_pos c4] at H
  have c4b0 : decide (a1 ≤ a0) = true := decide_eq_true c4
  clear c4
  obtain rfl := Option.some.inj H
  go_enter Try.func53, Try.ntmps53
  go_wp2
  go_ret
  exact ⟨by first | rfl | (simp; done) | (simp; decide +kernel) | (simp [*]; done), by repeat (first | exact Drawn0.refl _ | apply Drawn0.step)⟩
 ·rw [if_neg c4] at H
  have c4b0 : decide (a1 ≤ a0) = false := decide_eq_false c4
  clear c4
  obtain rfl := Option.some.inj H
  go_enter Try.func53, Try.ntmps53
  go_wp2
  go_ret
  exact ⟨by first | rfl | (simp; done) | (simp; decide +kernel) | (simp [*]; done), by repeat (first | exact Drawn0.refl _ | apply Drawn0.step)⟩

/-! ### spec_l11Ok: function 48 -/
def spec_l11Ok.f (a0_0 : Int) (a0_1 : Int) : Option (Bool) := (spec_l00In.f a0_0 (-900000000) 900000000).bind fun t165 => (if t165 = true then ((spec_l00In.f a0_1 (-1799999999) 1800000000).bind fun t166 => (some t166)) else (some false))
set_option maxHeartbeats 8000000 in
set_option maxRecDepth 100000 in
theorem spec_l11Ok.calls (a0_0 : Int) (a0_1 : Int) (r : Bool) (w : World) (h : spec_l11Ok.f a0_0 a0_1 = some r) :
  Calls Try.prog 48 #[.agg #[.int .i64 a0_0, .int .i64 a0_1]] w fun e w' => e = .returned (.bool r) ∧ Below w.heap.size w w' := by
 have hu25 := Try.underlying25
 have HB := Aside0.mk (Below.refl w.heap.size w)
 have H : ((spec_l00In.f a0_0 (-900000000) 900000000).bind fun t165 => (if t165 = true then ((spec_l00In.f a0_1 (-1799999999) 1800000000).bind fun t166 => (some t166)) else (some false))) = some r := h
 clear h
 replace H := Option.bind_eq_some_iff.mp H
 obtain ⟨t165, A20, H⟩ := H
 replace H : (if t165 = true then ((spec_l00In.f a0_1 (-1799999999) 1800000000).bind fun t166 => (some t166)) else (some false)) = some r := H
 have A2 := Aside0.mk A20
 clear A20
 by_cases c3 : t165 = true
 ·subst c3
  have H1 : ((spec_l00In.f a0_1 (-1799999999) 1800000000).bind fun t166 => (some t166)) = some r := by rw [if_pos rfl] at H; exact H
  clear H
  have H := H1
  clear H1
  replace H := Option.bind_eq_some_iff.mp H
  obtain ⟨t166, A40, H⟩ := H
  replace H : (some t166) = some r := H
  have A4 := Aside0.mk A40
  clear A40
  obtain rfl := Option.some.inj H
  go_enter Try.func48, Try.ntmps48
  go_wp2_with (first | ((with_reducible refine gate_dst (N := 1) rfl ?_); refine box_event ?hg (N := 1) ?hd (cs := #[.int .i64 a0_0, .int .i64 a0_1]) (t := 25) ?hr ?_; (case hd => rfl); (case hg => rfl); (case hr => first | (go_simp; done) | (go_simp; rfl)); intro gb164 hg w5 hbox hb; have n0_ := Aside0.mk (below_step (by repeat (first | (with_reducible first | exact HB.out | apply below_alloc | apply pw_below_drewN | apply below_drew1) | exact HB.out)) hb); have n1_ := Aside0.mk (hbox); have n2_ := Aside0.mk ((by rw [hg]; exact (below_size (by repeat (first | (with_reducible first | exact HB.out | apply below_alloc | apply pw_below_drewN | apply below_drew1) | exact HB.out))) : w.heap.size ≤ gb164)); have n3_ := n2_; clear HB; have HB := n0_; have BK164 := n1_; have GW164 := n2_; have GE164 := n3_; clear n0_ n1_ n2_ n3_; clear hb hbox hg; have hcz6_0 := bcell BK164.out 0 (.int .i64 a0_0) rfl; have hcz6_1 := bcell BK164.out 1 (.int .i64 a0_1) rfl) | ((with_reducible refine gate_callee (f := 53) rfl ?_); refine goesL_ (some 5) rfl rfl Try.func53 (by kernel_rfl) rfl #[.int .i64 a0_0, .int .i64 (-900000000), .int .i64 900000000] rfl (by (try simp only [List.map_toArray, List.map_cons, List.map_nil]); first | done | rfl | (simp only [List.length_drop, List.length_take]; rfl)) ?_; (with_reducible refine (spec_l00In.calls a0_0 (-900000000) 900000000 true _ A2.out).mono ?_); rintro e w' ⟨rfl, ⟨nd, rfl⟩⟩; refine ⟨_, rfl, ?_⟩) | (go_at_call 53; (with_reducible refine (spec_l00In.calls a0_1 (-1799999999) 1800000000 t166 _ A4.out).mono ?_); rintro e w' ⟨rfl, ⟨nd, rfl⟩⟩))
  go_ret
  exact ⟨by first | rfl | (simp <;> rfl) | (simp; decide +kernel) | (simp [*] <;> rfl), by repeat (first | (with_reducible first | exact HB.out | apply below_alloc | apply pw_below_drewN | apply below_drew1 | refine below_set ?_ GE164.out) | exact HB.out)⟩
 ·replace c3 := Bool.eq_false_iff.mpr c3
  subst c3
  have H1 : (some false) = some r := by rw [if_neg (show ¬ (false = true) by decide)] at H; exact H
  clear H
  have H := H1
  clear H1
  obtain rfl := Option.some.inj H
  go_enter Try.func48, Try.ntmps48
  go_wp2_with (first | ((with_reducible refine gate_dst (N := 1) rfl ?_); refine box_event ?hg (N := 1) ?hd (cs := #[.int .i64 a0_0, .int .i64 a0_1]) (t := 25) ?hr ?_; (case hd => rfl); (case hg => rfl); (case hr => first | (go_simp; done) | (go_simp; rfl)); intro gb164 hg w7 hbox hb; have n0_ := Aside0.mk (below_step (by repeat (first | (with_reducible first | exact HB.out | apply below_alloc | apply pw_below_drewN | apply below_drew1) | exact HB.out)) hb); have n1_ := Aside0.mk (hbox); have n2_ := Aside0.mk ((by rw [hg]; exact (below_size (by repeat (first | (with_reducible first | exact HB.out | apply below_alloc | apply pw_below_drewN | apply below_drew1) | exact HB.out))) : w.heap.size ≤ gb164)); have n3_ := n2_; clear HB; have HB := n0_; have BK164 := n1_; have GW164 := n2_; have GE164 := n3_; clear n0_ n1_ n2_ n3_; clear hb hbox hg; have hcz8_0 := bcell BK164.out 0 (.int .i64 a0_0) rfl; have hcz8_1 := bcell BK164.out 1 (.int .i64 a0_1) rfl) | ((with_reducible refine gate_callee (f := 53) rfl ?_); refine goesL_ (some 5) rfl rfl Try.func53 (by kernel_rfl) rfl #[.int .i64 a0_0, .int .i64 (-900000000), .int .i64 900000000] rfl (by (try simp only [List.map_toArray, List.map_cons, List.map_nil]); first | done | rfl | (simp only [List.length_drop, List.length_take]; rfl)) ?_; (with_reducible refine (spec_l00In.calls a0_0 (-900000000) 900000000 false _ A2.out).mono ?_); rintro e w' ⟨rfl, ⟨nd, rfl⟩⟩; refine ⟨_, rfl, ?_⟩))
  go_ret
  exact ⟨by first | rfl | (simp <;> rfl) | (simp; decide +kernel) | (simp [*] <;> rfl), by repeat (first | (with_reducible first | exact HB.out | apply below_alloc | apply pw_below_drewN | apply below_drew1 | refine below_set ?_ GE164.out) | exact HB.out)⟩

/-! ### spec_l17Standard: function 117 -/
def spec_l17Standard.f (a0 : Int) : Option (Bool) := (spec_l00In.f a0 (-890000000) 890000000).bind fun t167 => (some t167)
set_option maxHeartbeats 8000000 in
set_option maxRecDepth 100000 in
theorem spec_l17Standard.calls (a0 : Int) (r : Bool) (w : World) (h : spec_l17Standard.f a0 = some r) :
  Calls Try.prog 117 #[.int .i64 a0] w fun e w' => e = .returned (.bool r) ∧ Drawn0 w w' := by
 have H : ((spec_l00In.f a0 (-890000000) 890000000).bind fun t167 => (some t167)) = some r := h
 clear h
 replace H := Option.bind_eq_some_iff.mp H
 obtain ⟨t167, A20, H⟩ := H
 replace H : (some t167) = some r := H
 have A2 := Aside0.mk A20
 clear A20
 obtain rfl := Option.some.inj H
 go_enter Try.func117, Try.ntmps117
 go_wp2_with (first | ((with_reducible refine gate_callee (f := 53) rfl ?_); refine goesL_ (some 4) rfl rfl Try.func53 (by kernel_rfl) rfl #[.int .i64 a0, .int .i64 (-890000000), .int .i64 890000000] rfl (by (try simp only [List.map_toArray, List.map_cons, List.map_nil]); first | done | rfl | (simp only [List.length_drop, List.length_take]; rfl)) ?_; (with_reducible refine (spec_l00In.calls a0 (-890000000) 890000000 t167 _ A2.out).mono ?_); rintro e w' ⟨rfl, ⟨nd, rfl⟩⟩; refine ⟨_, rfl, ?_⟩))
 go_ret
 exact ⟨by first | rfl | (simp; done) | (simp; decide +kernel) | (simp [*]; done), by repeat (first | exact Drawn0.refl _ | apply Drawn0.step)⟩

end Go.Proofs.Ytillihiadpgalaa.P
