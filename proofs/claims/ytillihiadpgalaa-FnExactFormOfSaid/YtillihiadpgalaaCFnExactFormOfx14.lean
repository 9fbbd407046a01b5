-- Printed by drive.py, which calls the kit's print.py with changes of its own.
import Derived.Test.YtillihiadpgalaaCFnExactFormOfx0
import Derived.Test.YtillihiadpgalaaCFnExactFormOfx5
import Derived.Test.YtillihiadpgalaaCFnExactFormOfx6
import Derived.Test.YtillihiadpgalaaCFnExactFormOfx10
import Derived.Test.YtillihiadpgalaaCFnExactFormOfx13
namespace Go.Proofs.Ytillihiadpgalaa.P
open Go.RowKit Go.Proofs.YtillihiadpgalaaW.PrintWords Go.Proofs.YtillihiadpgalaaW.PrintLast Go.Proofs.YtillihiadpgalaaW.PrintMore
attribute [local go_sem] max2_int min2_int max_two min_two max_three min_three max_four min_four   -- for this text's walks alone
set_option linter.unusedVariables false
set_option linter.unusedSimpArgs false

/-! ### impl_StepForms: function 111 -/
def impl_StepForms.j0 : Nat → Int → Bool → Option (Int × Int)
 | 0, _, _ => none
 | k + 1, x4, x13 => if x13 = true then (some (3, 3)) else (if x4 = 7 then (some (4, 1)) else (some (0, 0)))
def impl_StepForms.f (k : Nat) (a0 : Int) : Option (Int × Int) := if a0 = 1 then (some (1, 2)) else (if a0 = 2 then (some (2, 4)) else (if a0 = 3 then (some (1, 3)) else (if a0 = 4 then (some (3, 4)) else (if a0 = 5 then (impl_StepForms.j0 k a0 (a0 == 5)) else (impl_StepForms.j0 k a0 (a0 == 6))))))
theorem impl_StepForms.mono_l : ∀ k, (∀ y0 y1, LeO (impl_StepForms.j0 k y0 y1) (impl_StepForms.j0 (k + 1) y0 y1))
 | 0 => fun _ _ r h => by simp [impl_StepForms.j0] at h
 | k + 1 => by
  have ih0 := impl_StepForms.mono_l k
  ·intro y0 y1
   unfold impl_StepForms.j0
   repeat' first
   | (with_reducible exact ih0 _ _)
   | (with_reducible exact LeO.refl _)
   | (with_reducible exact LeO.none _)
   | (with_reducible refine LeO.ite ?_ ?_)
   | (with_reducible refine LeO.bind ?_ (fun _ => ?_))
   | exact ih0 _ _
   | exact LeO.none _
   | refine LeO.ite ?_ ?_
   | refine LeO.bind ?_ (fun _ => ?_)
theorem impl_StepForms.mono : ∀ a0 k, LeO (impl_StepForms.f k a0) (impl_StepForms.f (k + 1) a0) := by
 intro a0 k
 have ih0 := impl_StepForms.mono_l k
 unfold impl_StepForms.f
 repeat' first
   | (with_reducible exact ih0 _ _)
   | (with_reducible exact LeO.refl _)
   | (with_reducible exact LeO.none _)
   | (with_reducible refine LeO.ite ?_ ?_)
   | (with_reducible refine LeO.bind ?_ (fun _ => ?_))
   | exact ih0 _ _
   | exact LeO.none _
   | refine LeO.ite ?_ ?_
   | refine LeO.bind ?_ (fun _ => ?_)
set_option maxHeartbeats 8000000 in
set_option maxRecDepth 100000 in
theorem impl_StepForms.calls (k : Nat) (a0 : Int) (r1 : Int) (r2 : Int) (w : World) (h : impl_StepForms.f k a0 = some (r1, r2)) :
  Calls Try.prog 111 #[.int .i64 a0] w fun e w' => e = .returned (.tuple #[.int .i64 r1, .int .i64 r2]) ∧ Drawn0 w w' := by
 have H : (if a0 = 1 then (some (1, 2)) else (if a0 = 2 then (some (2, 4)) else (if a0 = 3 then (some (1, 3)) else (if a0 = 4 then (some (3, 4)) else (if a0 = 5 then (impl_StepForms.j0 k a0 (a0 == 5)) else (impl_StepForms.j0 k a0 (a0 == 6))))))) = some (r1, r2) := h
 clear h
 by_cases c2 : a0 = 1
 ·rw [if_pos c2] at H
  have c2b0 : (a0 == 1) = true := beq_iff_eq.mpr c2
  have c2b1 : (a0 != 1) = false := bne_eq_false_iff_eq.mpr c2
  clear c2
  simp only [Option.some.injEq, Prod.mk.injEq] at H
  obtain ⟨rfl, rfl⟩ := H
  go_enter Try.func111, Try.ntmps111
  go_wp2
  go_ret2
  exact ⟨by first | rfl | (simp; done) | (simp; decide +kernel) | (simp [*]; done), by repeat (first | exact Drawn0.refl _ | apply Drawn0.step)⟩
 ·rw [if_neg c2] at H
  have c2b0 : (a0 == 1) = false := beq_eq_false_iff_ne.mpr c2
  have c2b1 : (a0 != 1) = true := bne_iff_ne.mpr c2
  by_cases c3 : a0 = 2
  ·rw [if_pos c3] at H
   have c3b0 : (a0 == 2) = true := beq_iff_eq.mpr c3
   have c3b1 : (a0 != 2) = false := bne_eq_false_iff_eq.mpr c3
   clear c3
   simp only [Option.some.injEq, Prod.mk.injEq] at H
   obtain ⟨rfl, rfl⟩ := H
   go_enter Try.func111, Try.ntmps111
   go_wp2
   go_ret2
   exact ⟨by first | rfl | (simp; done) | (simp; decide +kernel) | (simp [*]; done), by repeat (first | exact Drawn0.refl _ | apply Drawn0.step)⟩
  ·rw [if_neg c3] at H
   have c3b0 : (a0 == 2) = false := beq_eq_false_iff_ne.mpr c3
   have c3b1 : (a0 != 2) = true := bne_iff_ne.mpr c3
   by_cases c4 : a0 = 3
   ·rw [if_pos c4] at H
    have c4b0 : (a0 == 3) = true := beq_iff_eq.mpr c4
    have c4b1 : (a0 != 3) = false := bne_eq_false_iff_eq.mpr c4
    clear c4
    simp only [Option.some.injEq, Prod.mk.injEq] at H
    obtain ⟨rfl, rfl⟩ := H
    go_enter Try.func111, Try.ntmps111
    go_wp2
    go_ret2
    exact ⟨by first | rfl | (simp; done) | (simp; decide +kernel) | (simp [*]; done), by repeat (first | exact Drawn0.refl _ | apply Drawn0.step)⟩
   ·rw [if_neg c4] at H
    have c4b0 : (a0 == 3) = false := beq_eq_false_iff_ne.mpr c4
    have c4b1 : (a0 != 3) = true := bne_iff_ne.mpr c4
    by_cases c5 : a0 = 4
    ·rw [if_pos c5] at H
     have c5b0 : (a0 == 4) = true := beq_iff_eq.mpr c5
     have c5b1 : (a0 != 4) = false := bne_eq_false_iff_eq.mpr c5
     clear c5
     simp only [Option.some.injEq, Prod.mk.injEq] at H
     obtain ⟨rfl, rfl⟩ := H
     go_enter Try.func111, Try.ntmps111
     go_wp2
     go_ret2
     exact ⟨by first | rfl | (simp; done) | (simp; decide +kernel) | (simp [*]; done), by repeat (first | exact Drawn0.refl _ | apply Drawn0.step)⟩
    ·rw [if_neg c5] at H
     have c5b0 : (a0 == 4) = false := beq_eq_false_iff_ne.mpr c5
     have c5b1 : (a0 != 4) = true := bne_iff_ne.mpr c5
     have HC6 := Aside0.mk H
     clear H
     go_enter Try.func111, Try.ntmps111
     go_upto_if 13 with (fail)
     go_cut [13] (fun v13 wc => ∃ (kq : Nat) (x13_5 : Bool), v13 = .bool x13_5 ∧ Aside0 (impl_StepForms.j0 kq a0 x13_5 = some (r1, r2)) ∧ Aside0 (kq ≤ k) ∧ Drawn0 w wc)
     case first =>
      have H := HC6.out
      clear HC6
      by_cases c7 : a0 = 5
      ·rw [if_pos c7] at H
       have c7b0 : (a0 == 5) = true := beq_iff_eq.mpr c7
       have c7b1 : (a0 != 5) = false := bne_eq_false_iff_eq.mpr c7
       clear c7
       (first | rw [c7b0] | (simp only [i64_w, i32_w]; rw [c7b0]) | skip)
       have H' := Aside0.mk H
       clear H
       go_wp2
       go_meet
       case rel => exact ⟨_, ((a0 == 5)), (by first | rfl | (simp; done) | (simp; decide +kernel) | (simp [*]; done)), H', ⟨by first | omega | exact Nat.le_refl _⟩, by repeat (first | exact Drawn0.refl _ | apply Drawn0.step)⟩
      ·rw [if_neg c7] at H
       have c7b0 : (a0 == 5) = false := beq_eq_false_iff_ne.mpr c7
       have c7b1 : (a0 != 5) = true := bne_iff_ne.mpr c7
       (first | rw [c7b0] | (simp only [i64_w, i32_w]; rw [c7b0]) | skip)
       have H' := Aside0.mk H
       clear H
       go_wp2
       go_meet
       case rel => exact ⟨_, ((a0 == 6)), (by first | rfl | (simp; done) | (simp; decide +kernel) | (simp [*]; done)), H', ⟨by first | omega | exact Nat.le_refl _⟩, by repeat (first | exact Drawn0.refl _ | apply Drawn0.step)⟩
     case rest =>
      clear HC6
      try clear c1
      try clear c2
      try clear c2b0
      try clear c2b1
      try clear p2
      try clear c3
      try clear c3b0
      try clear c3b1
      try clear c4
      try clear c4b0
      try clear c4b1
      try clear c5
      try clear c5b0
      try clear c5b1
      try clear c7
      try clear c7b0
      try clear c7b1
      obtain ⟨kq, x13_5, rfl, HA, HJ5, ⟨mc5, rfl⟩⟩ := hcut
      cases kq with
      | zero => exact absurd HA.out (by simp [impl_StepForms.j0])
      | succ kj5 =>
       have H := HA.out
       clear HA
       simp only [impl_StepForms.j0] at H
       by_cases c8 : x13_5 = true
       ·subst c8
        have H1 : (some (3, 3)) = some (r1, r2) := by rw [if_pos rfl] at H; exact H
        clear H
        have H := H1
        clear H1
        simp only [Option.some.injEq, Prod.mk.injEq] at H
        obtain ⟨rfl, rfl⟩ := H
        go_wp2
        go_ret2
        exact ⟨by first | rfl | (simp; done) | (simp; decide +kernel) | (simp [*]; done), by repeat (first | exact Drawn0.refl _ | apply Drawn0.step)⟩
       ·replace c8 := Bool.eq_false_iff.mpr c8
        subst c8
        have H1 : (if a0 = 7 then (some (4, 1)) else (some (0, 0))) = some (r1, r2) := by rw [if_neg (show ¬ (false = true) by decide)] at H; exact H
        clear H
        have H := H1
        clear H1
        by_cases c9 : a0 = 7
        ·rw [if_pos c9] at H
         have c9b0 : (a0 == 7) = true := beq_iff_eq.mpr c9
         have c9b1 : (a0 != 7) = false := bne_eq_false_iff_eq.mpr c9
         clear c9
         simp only [Option.some.injEq, Prod.mk.injEq] at H
         obtain ⟨rfl, rfl⟩ := H
         go_wp2
         go_ret2
         exact ⟨by first | rfl | (simp; done) | (simp; decide +kernel) | (simp [*]; done), by repeat (first | exact Drawn0.refl _ | apply Drawn0.step)⟩
        ·rw [if_neg c9] at H
         have c9b0 : (a0 == 7) = false := beq_eq_false_iff_ne.mpr c9
         have c9b1 : (a0 != 7) = true := bne_iff_ne.mpr c9
         simp only [Option.some.injEq, Prod.mk.injEq] at H
         obtain ⟨rfl, rfl⟩ := H
         go_wp2
         go_ret2
         exact ⟨by first | rfl | (simp; done) | (simp; decide +kernel) | (simp [*]; done), by repeat (first | exact Drawn0.refl _ | apply Drawn0.step)⟩

/-! ### impl_formOf: function 81 -/
def impl_formOf.l0 : Nat → List (S60) → Int → List (S60) → Int → Int → Option (Int × Bool)
 | 0, _, _, _, _, _ => none
 | k + 1, x0, x4, x9, x10, x11 => if x11 < x10 then (if 0 ≤ x11 then (if x11 < (x9.length : Int) then ((impl_StepForms.f k ((rd_T60 x9 x11).f0)).bind fun bt264 => ((impl_ValidStep.f k ((rd_T60 x9 x11).f0) ((rd_T60 x9 x11).f1.f0) ((rd_T60 x9 x11).f1.f1) ((rd_T60 x9 x11).f1.f2) ((rd_T60 x9 x11).f1.f3) ((rd_T60 x9 x11).f1.f4) ((rd_T60 x9 x11).f2.f0) ((rd_T60 x9 x11).f2.f1) ((rd_T60 x9 x11).f2.f2) ((rd_T60 x9 x11).f3.f0) ((rd_T60 x9 x11).f3.f1) ((rd_T60 x9 x11).f3.f2) ((rd_T60 x9 x11).f3.f3) ((rd_T60 x9 x11).f3.f4) ((rd_T60 x9 x11).f3.f5) ((rd_T60 x9 x11).f3.f6)).bind fun t266 => (if t266 = true then (if bt264.1 = x4 then (impl_formOf.l0 k x0 bt264.2 x9 x10 (wrap64 (x11 + 1))) else (some (0, false))) else (some (0, false))))) else (none)) else (none)) else (some (x4, decide ((x0.length : Int) ≤ 12)))
def impl_formOf.f (k : Nat) (l0 : List (S60)) : Option (Int × Bool) := impl_formOf.l0 k l0 1 l0 (l0.length : Int) 0
theorem impl_formOf.mono_l : ∀ k, (∀ y0 y1 y2 y3 y4, LeO (impl_formOf.l0 k y0 y1 y2 y3 y4) (impl_formOf.l0 (k + 1) y0 y1 y2 y3 y4))
 | 0 => fun _ _ _ _ _ r h => by simp [impl_formOf.l0] at h
 | k + 1 => by
  have ih0 := impl_formOf.mono_l k
  ·intro y0 y1 y2 y3 y4
   unfold impl_formOf.l0
   repeat' first
   | (with_reducible exact ih0 _ _ _ _ _)
   | (with_reducible exact impl_StepForms.mono _ _)
   | (with_reducible exact impl_ValidStep.mono _ _ _ _ _ _ _ _ _ _ _ _ _ _ _ _ _)
   | (with_reducible exact LeO.refl _)
   | (with_reducible exact LeO.none _)
   | (with_reducible refine LeO.ite ?_ ?_)
   | (with_reducible refine LeO.bind ?_ (fun _ => ?_))
   | exact ih0 _ _ _ _ _
   | exact impl_StepForms.mono _ _
   | exact impl_ValidStep.mono _ _ _ _ _ _ _ _ _ _ _ _ _ _ _ _ _
   | exact LeO.none _
   | refine LeO.ite ?_ ?_
   | refine LeO.bind ?_ (fun _ => ?_)
theorem impl_formOf.mono : ∀ a0 k, LeO (impl_formOf.f k a0) (impl_formOf.f (k + 1) a0) := by
 intro a0 k
 have ih0 := impl_formOf.mono_l k
 unfold impl_formOf.f
 repeat' first
   | (with_reducible exact ih0 _ _ _ _ _)
   | (with_reducible exact impl_StepForms.mono _ _)
   | (with_reducible exact impl_ValidStep.mono _ _ _ _ _ _ _ _ _ _ _ _ _ _ _ _ _)
   | (with_reducible exact LeO.refl _)
   | (with_reducible exact LeO.none _)
   | (with_reducible refine LeO.ite ?_ ?_)
   | (with_reducible refine LeO.bind ?_ (fun _ => ?_))
   | exact ih0 _ _ _ _ _
   | exact impl_StepForms.mono _ _
   | exact impl_ValidStep.mono _ _ _ _ _ _ _ _ _ _ _ _ _ _ _ _ _
   | exact LeO.none _
   | refine LeO.ite ?_ ?_
   | refine LeO.bind ?_ (fun _ => ?_)
theorem addr_add_add (a : Addr) (m j : Nat) : (a.add m).add j = a.add (m + j) := by
 by_cases hm : m = 0 <;> by_cases hj : j = 0 <;> simp [Addr.add, hm, hj, Nat.add_assoc]
theorem run_loadVar_at {P : Program} (w : World) (a : Addr) (ty : TypeId) (vs : List Value) (d : TypeDesc) (hc : ∀ (j : Nat) v, vs[j]? = some v → w.cell? (a.add j) = some v)
  (hu : P.underlying ty = some d) (hd : (match d with | .struct _ | .array _ _ => true | _ => false) = true) (hi : (P.info? ty).map (·.size) = some vs.length) :
  (loadVar ty a).run P w = .ok (.agg vs.toArray) w := by
 have hl : (loadCells a vs.length).run P w = .ok vs.toArray w := run_loadCells_list (P := P) w a vs hc
 cases hq : P.info? ty with
 | none => simp [hq] at hi
 | some i =>
  have hs : i.size = vs.length := by simpa [hq] using hi
  have hagg : (isAgg ty).run P w = .ok true w := by
   unfold isAgg
   rw [Sem.run_bind, run_underlying hu w]
   cases d <;> simp_all
  simp [loadVar, Sem.run_bind, hagg, sizeOf, typeInfo, hq, hs, hl]
theorem wpList_load_at {P : Program} {ops : Array Oper} {rest : List Oper} {o : Oper} {a : Act} {w : World} {Q : Exit → Act → World → Prop} (hgd : o.guard = none) (ty : TypeId) (x : Operand) (ho : o.op = .load ty x)
  (ad : Addr) (hx : a.eval x = .pointer (some ad)) (vs : List Value) (d : TypeDesc) (hc : ∀ (j : Nat) v, vs[j]? = some v → w.cell? (ad.add j) = some v)
  (hu : P.underlying ty = some d) (hd : (match d with | .struct _ | .array _ _ => true | _ => false) = true) (hi : (P.info? ty).map (·.size) = some vs.length)
  (h : wpList P ops Q rest (a.put o.dst (.agg vs.toArray)) w) : wpList P ops Q (o :: rest) a w :=
 wpList_plain hgd fun K hK => by
  unfold Oper.wp execOp
  simp only [ho, hx, Instr.loadAt, Instr.sureAddr, Sem.run_bind, Sem.run_pure, Result.andThen_ok, run_loadVar_at w ad ty vs d hc hu hd hi]
  exact hK _ _ h
theorem below_setRow {w W : World} {g : Nat} {cs : Array Value} (h : Below w.heap.size w W) (hg : w.heap.size ≤ g) : Below w.heap.size w (W.setRow g cs) :=
 ⟨h.os, h.tape, h.output, by rw [setRow_size]; exact h.size, fun i hi => (setRow_other W g i cs (by omega)).trans (h.block i hi)⟩
theorem at_T60_row {w : World} {A : Option Addr} {n : Nat} {xs : List S60} (h : Kd.C k60 w A n xs) (i : Int) (h0 : 0 ≤ i) (h1 : i < n) : ∃ ad , A = some ad ∧ ∀ (j : Nat) u, ([.int .i64 ((rd_T60 xs i).f0), .int .i64 ((rd_T60 xs i).f1.f0), .int .i64 ((rd_T60 xs i).f1.f1), .int .i64 ((rd_T60 xs i).f1.f2), .int .i64 ((rd_T60 xs i).f1.f3), .int .i64 ((rd_T60 xs i).f1.f4), .int .i64 ((rd_T60 xs i).f2.f0), .int .i64 ((rd_T60 xs i).f2.f1), .int .i64 ((rd_T60 xs i).f2.f2), .int .i64 ((rd_T60 xs i).f3.f0), .int .i64 ((rd_T60 xs i).f3.f1), .int .i64 ((rd_T60 xs i).f3.f2), .int .i64 ((rd_T60 xs i).f3.f3), .int .i64 ((rd_T60 xs i).f3.f4), .int .i64 ((rd_T60 xs i).f3.f5), .int .i64 ((rd_T60 xs i).f3.f6)] : List Value)[j]? = some u → w.cell? ((ad.add (i.toNat * 16)).add j) = some u := by
 obtain ⟨ad, c, e, _, hK, hc0⟩ := Kd.C_get h z60 i h0 h1
 obtain rfl := k60_open hK
 exact ⟨ad, e, fun j u hu => by rw [addr_add_add]; exact hc0 j u hu⟩
set_option maxHeartbeats 8000000 in
set_option maxRecDepth 100000 in
theorem impl_formOf.calls (k : Nat) (A0 : Option Addr) (c0 : Nat) (l0 : List (S60)) (r1 : Int) (r2 : Bool) (w : World) (hr0 : Kd.C k60 w A0 l0.length l0) (hc0 : l0.length ≤ c0) (h : impl_formOf.f k l0 = some (r1, r2)) :
  Calls Try.prog 81 #[.slice A0 l0.length c0] w fun e w' => e = .returned (.tuple #[.int .i64 r1, .bool r2]) ∧ Below w.heap.size w w' := by
 have hu60 := Try.underlying60
 have HR0 := Aside0.mk hr0
 have HC0 := Aside0.mk hc0
 clear hr0 hc0
 have HB := Aside0.mk (Below.refl w.heap.size w)
 have H : (impl_formOf.l0 k l0 1 l0 (l0.length : Int) 0) = some (r1, r2) := h
 clear h
 have H' := Aside0.mk H
 clear H
 go_enter Try.func81, Try.ntmps81
 go_wp2
 go_loopg [4, 11] k (fun kq v4 v11 w' => ∃ (x4_1 : Int) (x11_1 : Int), v4 = .int .i64 x4_1 ∧ v11 = .int .i64 x11_1 ∧ Aside0 (impl_formOf.l0 kq l0 x4_1 l0 (l0.length : Int) x11_1 = some (r1, r2)) ∧ Aside0 (kq ≤ k) ∧ Aside0 (Below w.heap.size w w'))
 case atStart => exact ⟨(1), (0), (by first | rfl | (simp; done) | (simp; decide +kernel) | (simp [*]; done)), (by first | rfl | (simp; done) | (simp; decide +kernel) | (simp [*]; done)), H', ⟨Nat.le_refl _⟩, ⟨by repeat (first | (with_reducible first | exact HB.out | apply below_alloc | apply pw_below_drewN | apply below_drew1) | exact HB.out)⟩⟩
 case round =>
  clear H'
  obtain ⟨x4_1, x11_1, rfl, rfl, HA, HK1, HB⟩ := hrel
  cases gk with
  | zero => exact absurd HA.out (by simp [impl_formOf.l0])
  | succ k1 =>
   have H := HA.out
   clear HA
   simp only [impl_formOf.l0] at H
   by_cases c2 : x11_1 < (l0.length : Int)
   ·rw [if_pos c2] at H
    have c2b0 : decide (x11_1 < (l0.length : Int)) = true := decide_eq_true c2
    clear c2
    by_cases c3 : 0 ≤ x11_1
    ·rw [if_pos c3] at H
     have c3b0 : decide (0 ≤ x11_1) = true := decide_eq_true c3
     clear c3
     by_cases c4 : x11_1 < (l0.length : Int)
     ·rw [if_pos c4] at H
      have c4b0 : decide (x11_1 < (l0.length : Int)) = true := decide_eq_true c4
      clear c4
      replace H := Option.bind_eq_some_iff.mp H
      obtain ⟨⟨t264, t265⟩, A50, H⟩ := H
      replace H : ((impl_ValidStep.f k1 ((rd_T60 l0 x11_1).f0) ((rd_T60 l0 x11_1).f1.f0) ((rd_T60 l0 x11_1).f1.f1) ((rd_T60 l0 x11_1).f1.f2) ((rd_T60 l0 x11_1).f1.f3) ((rd_T60 l0 x11_1).f1.f4) ((rd_T60 l0 x11_1).f2.f0) ((rd_T60 l0 x11_1).f2.f1) ((rd_T60 l0 x11_1).f2.f2) ((rd_T60 l0 x11_1).f3.f0) ((rd_T60 l0 x11_1).f3.f1) ((rd_T60 l0 x11_1).f3.f2) ((rd_T60 l0 x11_1).f3.f3) ((rd_T60 l0 x11_1).f3.f4) ((rd_T60 l0 x11_1).f3.f5) ((rd_T60 l0 x11_1).f3.f6)).bind fun t266 => (if t266 = true then (if t264 = x4_1 then (impl_formOf.l0 k1 l0 t265 l0 (l0.length : Int) (wrap64 (x11_1 + 1))) else (some (0, false))) else (some (0, false)))) = some (r1, r2) := H
      have A5 := Aside0.mk A50
      clear A50
      replace H := Option.bind_eq_some_iff.mp H
      obtain ⟨t266, A60, H⟩ := H
      replace H : (if t266 = true then (if t264 = x4_1 then (impl_formOf.l0 k1 l0 t265 l0 (l0.length : Int) (wrap64 (x11_1 + 1))) else (some (0, false))) else (some (0, false))) = some (r1, r2) := H
      have A6 := Aside0.mk A60
      clear A60
      by_cases c7 : t266 = true
      ·subst c7
       have H1 : (if t264 = x4_1 then (impl_formOf.l0 k1 l0 t265 l0 (l0.length : Int) (wrap64 (x11_1 + 1))) else (some (0, false))) = some (r1, r2) := by rw [if_pos rfl] at H; exact H
       clear H
       have H := H1
       clear H1
       by_cases c8 : t264 = x4_1
       ·rw [if_pos c8] at H
        have c8b0 : (t264 == x4_1) = true := beq_iff_eq.mpr c8
        have c8b1 : (t264 != x4_1) = false := bne_eq_false_iff_eq.mpr c8
        clear c8
        have H' := Aside0.mk H
        clear H
        have p262 : 0 ≤ (x11_1 : Int) := of_decide_eq_true (by first | (with_reducible assumption) | assumption)
        have q262 : x11_1 < (l0.length : Int) := of_decide_eq_true (by first | (with_reducible assumption) | assumption)
        obtain ⟨ad262, e262, hrow_⟩ := at_T60_row HR0.out x11_1 p262 q262
        cases e262
        replace hrow_ := fun (j : Nat) u hu => (HB.out.cell (World.block_lt_of_cell? w _ (hrow_ j u hu))).trans (hrow_ j u hu)
        replace p262 := eq_true p262
        replace q262 := eq_true q262
        go_wp2_with (first | ((with_reducible refine gate_dst (N := 6) rfl ?_); refine box_event ?hg (N := 6) ?hd (cs := #[.int .i64 0, .int .i64 0, .int .i64 0, .int .i64 0, .int .i64 0, .int .i64 0, .int .i64 0, .int .i64 0, .int .i64 0, .int .i64 0, .int .i64 0, .int .i64 0, .int .i64 0, .int .i64 0, .int .i64 0, .int .i64 0]) (t := 60) ?hr ?_; (case hd => rfl); (case hg => rfl); (case hr => first | (go_simp; done) | (go_simp; rfl) | (go_simp; done)); intro gb263 hg w9 hbox hb; have n0_ := Aside0.mk (below_step (by repeat (first | (with_reducible first | exact HB.out | apply below_alloc | apply pw_below_drewN | apply below_drew1) | exact HB.out)) hb); have n1_ := Aside0.mk (hbox); have n2_ := Aside0.mk ((by rw [hg]; exact (below_size (by repeat (first | (with_reducible first | exact HB.out | apply below_alloc | apply pw_below_drewN | apply below_drew1) | exact HB.out))) : w.heap.size ≤ gb263)); have n3_ := n2_; clear HB; have HB := n0_; have BK263 := n1_; have GW263 := n2_; have GE263 := n3_; clear n0_ n1_ n2_ n3_; clear hb hbox hg) | ((with_reducible refine gate_dst (N := 14) rfl ?_); refine wpList_load_at rfl 60 (.tmp 13) rfl _ rfl [.int .i64 ((rd_T60 l0 x11_1).f0), .int .i64 ((rd_T60 l0 x11_1).f1.f0), .int .i64 ((rd_T60 l0 x11_1).f1.f1), .int .i64 ((rd_T60 l0 x11_1).f1.f2), .int .i64 ((rd_T60 l0 x11_1).f1.f3), .int .i64 ((rd_T60 l0 x11_1).f1.f4), .int .i64 ((rd_T60 l0 x11_1).f2.f0), .int .i64 ((rd_T60 l0 x11_1).f2.f1), .int .i64 ((rd_T60 l0 x11_1).f2.f2), .int .i64 ((rd_T60 l0 x11_1).f3.f0), .int .i64 ((rd_T60 l0 x11_1).f3.f1), .int .i64 ((rd_T60 l0 x11_1).f3.f2), .int .i64 ((rd_T60 l0 x11_1).f3.f3), .int .i64 ((rd_T60 l0 x11_1).f3.f4), .int .i64 ((rd_T60 l0 x11_1).f3.f5), .int .i64 ((rd_T60 l0 x11_1).f3.f6)] _ hrow_ hu60 rfl (by kernel_rfl) ?_) | (refine wpList_store_row rfl 60 (.tmp 6) (.tmp 14) rfl gb263 #[.int .i64 ((rd_T60 l0 x11_1).f0), .int .i64 ((rd_T60 l0 x11_1).f1.f0), .int .i64 ((rd_T60 l0 x11_1).f1.f1), .int .i64 ((rd_T60 l0 x11_1).f1.f2), .int .i64 ((rd_T60 l0 x11_1).f1.f3), .int .i64 ((rd_T60 l0 x11_1).f1.f4), .int .i64 ((rd_T60 l0 x11_1).f2.f0), .int .i64 ((rd_T60 l0 x11_1).f2.f1), .int .i64 ((rd_T60 l0 x11_1).f2.f2), .int .i64 ((rd_T60 l0 x11_1).f3.f0), .int .i64 ((rd_T60 l0 x11_1).f3.f1), .int .i64 ((rd_T60 l0 x11_1).f3.f2), .int .i64 ((rd_T60 l0 x11_1).f3.f3), .int .i64 ((rd_T60 l0 x11_1).f3.f4), .int .i64 ((rd_T60 l0 x11_1).f3.f5), .int .i64 ((rd_T60 l0 x11_1).f3.f6)] rfl rfl 60 _ BK263.out (by kernel_rfl) rfl (by kernel_rfl) ?_; have n0_ := Aside0.mk (setRow_heap _ gb263 _ #[.int .i64 ((rd_T60 l0 x11_1).f0), .int .i64 ((rd_T60 l0 x11_1).f1.f0), .int .i64 ((rd_T60 l0 x11_1).f1.f1), .int .i64 ((rd_T60 l0 x11_1).f1.f2), .int .i64 ((rd_T60 l0 x11_1).f1.f3), .int .i64 ((rd_T60 l0 x11_1).f1.f4), .int .i64 ((rd_T60 l0 x11_1).f2.f0), .int .i64 ((rd_T60 l0 x11_1).f2.f1), .int .i64 ((rd_T60 l0 x11_1).f2.f2), .int .i64 ((rd_T60 l0 x11_1).f3.f0), .int .i64 ((rd_T60 l0 x11_1).f3.f1), .int .i64 ((rd_T60 l0 x11_1).f3.f2), .int .i64 ((rd_T60 l0 x11_1).f3.f3), .int .i64 ((rd_T60 l0 x11_1).f3.f4), .int .i64 ((rd_T60 l0 x11_1).f3.f5), .int .i64 ((rd_T60 l0 x11_1).f3.f6)] 60 (0, 0) BK263.out); have n1_ := Aside0.mk (below_setRow (cs := #[.int .i64 ((rd_T60 l0 x11_1).f0), .int .i64 ((rd_T60 l0 x11_1).f1.f0), .int .i64 ((rd_T60 l0 x11_1).f1.f1), .int .i64 ((rd_T60 l0 x11_1).f1.f2), .int .i64 ((rd_T60 l0 x11_1).f1.f3), .int .i64 ((rd_T60 l0 x11_1).f1.f4), .int .i64 ((rd_T60 l0 x11_1).f2.f0), .int .i64 ((rd_T60 l0 x11_1).f2.f1), .int .i64 ((rd_T60 l0 x11_1).f2.f2), .int .i64 ((rd_T60 l0 x11_1).f3.f0), .int .i64 ((rd_T60 l0 x11_1).f3.f1), .int .i64 ((rd_T60 l0 x11_1).f3.f2), .int .i64 ((rd_T60 l0 x11_1).f3.f3), .int .i64 ((rd_T60 l0 x11_1).f3.f4), .int .i64 ((rd_T60 l0 x11_1).f3.f5), .int .i64 ((rd_T60 l0 x11_1).f3.f6)]) HB.out GE263.out); (try clear hrow_); generalize World.setRow _ gb263 #[.int .i64 ((rd_T60 l0 x11_1).f0), .int .i64 ((rd_T60 l0 x11_1).f1.f0), .int .i64 ((rd_T60 l0 x11_1).f1.f1), .int .i64 ((rd_T60 l0 x11_1).f1.f2), .int .i64 ((rd_T60 l0 x11_1).f1.f3), .int .i64 ((rd_T60 l0 x11_1).f1.f4), .int .i64 ((rd_T60 l0 x11_1).f2.f0), .int .i64 ((rd_T60 l0 x11_1).f2.f1), .int .i64 ((rd_T60 l0 x11_1).f2.f2), .int .i64 ((rd_T60 l0 x11_1).f3.f0), .int .i64 ((rd_T60 l0 x11_1).f3.f1), .int .i64 ((rd_T60 l0 x11_1).f3.f2), .int .i64 ((rd_T60 l0 x11_1).f3.f3), .int .i64 ((rd_T60 l0 x11_1).f3.f4), .int .i64 ((rd_T60 l0 x11_1).f3.f5), .int .i64 ((rd_T60 l0 x11_1).f3.f6)] = wst_ at n0_ n1_ ⊢; clear BK263 HB; have BK263 := n0_; have HB := n1_; clear n0_ n1_; have hcz_0 : wst_.cell? ⟨gb263, 0, none⟩ = some (.int .i64 ((rd_T60 l0 x11_1).f0)) := (blk_cell BK263.out 0).trans rfl) | ((with_reducible refine gate_dst (N := 21) rfl ?_); refine wpList_load_row rfl 60 (.tmp 6) rfl gb263 rfl 60 _ (0, 0) _ (by (with_reducible repeat (first | refine blk_drewN ?_ _ | refine blk_drew ?_ | refine blk_alloc ?_ _)); exact BK263.out) hu60 rfl (by kernel_rfl) ?_) | ((with_reducible refine gate_callee (f := 111) rfl ?_); refine goesL_ (some 18) rfl rfl Try.func111 (by kernel_rfl) rfl #[.int .i64 ((rd_T60 l0 x11_1).f0)] rfl (by (try simp only [List.map_toArray, List.map_cons, List.map_nil]); first | done | rfl | (simp only [List.length_drop, List.length_take]; rfl)) ?_; (with_reducible refine (impl_StepForms.calls k1 ((rd_T60 l0 x11_1).f0) t264 t265 _ A5.out).mono ?_); rintro e w' ⟨rfl, ⟨nd, rfl⟩⟩; refine ⟨_, rfl, ?_⟩) | ((with_reducible refine gate_callee (f := 30) rfl ?_); refine goesL_ (some 22) rfl rfl Try.func30 (by kernel_rfl) rfl #[.agg #[.int .i64 ((rd_T60 l0 x11_1).f0), .int .i64 ((rd_T60 l0 x11_1).f1.f0), .int .i64 ((rd_T60 l0 x11_1).f1.f1), .int .i64 ((rd_T60 l0 x11_1).f1.f2), .int .i64 ((rd_T60 l0 x11_1).f1.f3), .int .i64 ((rd_T60 l0 x11_1).f1.f4), .int .i64 ((rd_T60 l0 x11_1).f2.f0), .int .i64 ((rd_T60 l0 x11_1).f2.f1), .int .i64 ((rd_T60 l0 x11_1).f2.f2), .int .i64 ((rd_T60 l0 x11_1).f3.f0), .int .i64 ((rd_T60 l0 x11_1).f3.f1), .int .i64 ((rd_T60 l0 x11_1).f3.f2), .int .i64 ((rd_T60 l0 x11_1).f3.f3), .int .i64 ((rd_T60 l0 x11_1).f3.f4), .int .i64 ((rd_T60 l0 x11_1).f3.f5), .int .i64 ((rd_T60 l0 x11_1).f3.f6)]] rfl (by (try simp only [List.map_toArray, List.map_cons, List.map_nil]); first | done | rfl | (simp only [List.length_drop, List.length_take]; rfl)) ?_; (with_reducible refine (impl_ValidStep.calls k1 ((rd_T60 l0 x11_1).f0) ((rd_T60 l0 x11_1).f1.f0) ((rd_T60 l0 x11_1).f1.f1) ((rd_T60 l0 x11_1).f1.f2) ((rd_T60 l0 x11_1).f1.f3) ((rd_T60 l0 x11_1).f1.f4) ((rd_T60 l0 x11_1).f2.f0) ((rd_T60 l0 x11_1).f2.f1) ((rd_T60 l0 x11_1).f2.f2) ((rd_T60 l0 x11_1).f3.f0) ((rd_T60 l0 x11_1).f3.f1) ((rd_T60 l0 x11_1).f3.f2) ((rd_T60 l0 x11_1).f3.f3) ((rd_T60 l0 x11_1).f3.f4) ((rd_T60 l0 x11_1).f3.f5) ((rd_T60 l0 x11_1).f3.f6) true _ A6.out).mono ?_); rintro e w11 ⟨rfl, hb⟩; refine ⟨_, rfl, ?_⟩; have n1_ := Aside0.mk (below_step (by repeat (first | (with_reducible first | exact HB.out | apply below_alloc | apply pw_below_drewN | apply below_drew1) | exact HB.out)) hb); clear HB; have HB := n1_; clear n1_ hb))
        go_roundg k1
        case measure => have := HK1.out; omega
        case rel => exact ⟨(t265), (wrap64 (x11_1 + 1)), (by first | rfl | (simp; done) | (simp; decide +kernel) | (simp [*]; done)), (by first | rfl | (simp; done) | (simp; decide +kernel) | (simp [*]; done)), H', ⟨by have := HK1.out; omega⟩, ⟨by repeat (first | (with_reducible first | exact HB.out | apply below_alloc | apply pw_below_drewN | apply below_drew1 | refine below_set ?_ GE263.out) | exact HB.out)⟩⟩
       ·rw [if_neg c8] at H
        have c8b0 : (t264 == x4_1) = false := beq_eq_false_iff_ne.mpr c8
        have c8b1 : (t264 != x4_1) = true := bne_iff_ne.mpr c8
        simp only [Option.some.injEq, Prod.mk.injEq] at H
        obtain ⟨rfl, rfl⟩ := H
        have p262 : 0 ≤ (x11_1 : Int) := of_decide_eq_true (by first | (with_reducible assumption) | assumption)
        have q262 : x11_1 < (l0.length : Int) := of_decide_eq_true (by first | (with_reducible assumption) | assumption)
        obtain ⟨ad262, e262, hrow_⟩ := at_T60_row HR0.out x11_1 p262 q262
        cases e262
        replace hrow_ := fun (j : Nat) u hu => (HB.out.cell (World.block_lt_of_cell? w _ (hrow_ j u hu))).trans (hrow_ j u hu)
        replace p262 := eq_true p262
        replace q262 := eq_true q262
        go_wp2_with (first | ((with_reducible refine gate_dst (N := 6) rfl ?_); refine box_event ?hg (N := 6) ?hd (cs := #[.int .i64 0, .int .i64 0, .int .i64 0, .int .i64 0, .int .i64 0, .int .i64 0, .int .i64 0, .int .i64 0, .int .i64 0, .int .i64 0, .int .i64 0, .int .i64 0, .int .i64 0, .int .i64 0, .int .i64 0, .int .i64 0]) (t := 60) ?hr ?_; (case hd => rfl); (case hg => rfl); (case hr => first | (go_simp; done) | (go_simp; rfl) | (go_simp; done)); intro gb263 hg w12 hbox hb; have n0_ := Aside0.mk (below_step (by repeat (first | (with_reducible first | exact HB.out | apply below_alloc | apply pw_below_drewN | apply below_drew1) | exact HB.out)) hb); have n1_ := Aside0.mk (hbox); have n2_ := Aside0.mk ((by rw [hg]; exact (below_size (by repeat (first | (with_reducible first | exact HB.out | apply below_alloc | apply pw_below_drewN | apply below_drew1) | exact HB.out))) : w.heap.size ≤ gb263)); have n3_ := n2_; clear HB; have HB := n0_; have BK263 := n1_; have GW263 := n2_; have GE263 := n3_; clear n0_ n1_ n2_ n3_; clear hb hbox hg) | ((with_reducible refine gate_dst (N := 14) rfl ?_); refine wpList_load_at rfl 60 (.tmp 13) rfl _ rfl [.int .i64 ((rd_T60 l0 x11_1).f0), .int .i64 ((rd_T60 l0 x11_1).f1.f0), .int .i64 ((rd_T60 l0 x11_1).f1.f1), .int .i64 ((rd_T60 l0 x11_1).f1.f2), .int .i64 ((rd_T60 l0 x11_1).f1.f3), .int .i64 ((rd_T60 l0 x11_1).f1.f4), .int .i64 ((rd_T60 l0 x11_1).f2.f0), .int .i64 ((rd_T60 l0 x11_1).f2.f1), .int .i64 ((rd_T60 l0 x11_1).f2.f2), .int .i64 ((rd_T60 l0 x11_1).f3.f0), .int .i64 ((rd_T60 l0 x11_1).f3.f1), .int .i64 ((rd_T60 l0 x11_1).f3.f2), .int .i64 ((rd_T60 l0 x11_1).f3.f3), .int .i64 ((rd_T60 l0 x11_1).f3.f4), .int .i64 ((rd_T60 l0 x11_1).f3.f5), .int .i64 ((rd_T60 l0 x11_1).f3.f6)] _ hrow_ hu60 rfl (by kernel_rfl) ?_) | (refine wpList_store_row rfl 60 (.tmp 6) (.tmp 14) rfl gb263 #[.int .i64 ((rd_T60 l0 x11_1).f0), .int .i64 ((rd_T60 l0 x11_1).f1.f0), .int .i64 ((rd_T60 l0 x11_1).f1.f1), .int .i64 ((rd_T60 l0 x11_1).f1.f2), .int .i64 ((rd_T60 l0 x11_1).f1.f3), .int .i64 ((rd_T60 l0 x11_1).f1.f4), .int .i64 ((rd_T60 l0 x11_1).f2.f0), .int .i64 ((rd_T60 l0 x11_1).f2.f1), .int .i64 ((rd_T60 l0 x11_1).f2.f2), .int .i64 ((rd_T60 l0 x11_1).f3.f0), .int .i64 ((rd_T60 l0 x11_1).f3.f1), .int .i64 ((rd_T60 l0 x11_1).f3.f2), .int .i64 ((rd_T60 l0 x11_1).f3.f3), .int .i64 ((rd_T60 l0 x11_1).f3.f4), .int .i64 ((rd_T60 l0 x11_1).f3.f5), .int .i64 ((rd_T60 l0 x11_1).f3.f6)] rfl rfl 60 _ BK263.out (by kernel_rfl) rfl (by kernel_rfl) ?_; have n0_ := Aside0.mk (setRow_heap _ gb263 _ #[.int .i64 ((rd_T60 l0 x11_1).f0), .int .i64 ((rd_T60 l0 x11_1).f1.f0), .int .i64 ((rd_T60 l0 x11_1).f1.f1), .int .i64 ((rd_T60 l0 x11_1).f1.f2), .int .i64 ((rd_T60 l0 x11_1).f1.f3), .int .i64 ((rd_T60 l0 x11_1).f1.f4), .int .i64 ((rd_T60 l0 x11_1).f2.f0), .int .i64 ((rd_T60 l0 x11_1).f2.f1), .int .i64 ((rd_T60 l0 x11_1).f2.f2), .int .i64 ((rd_T60 l0 x11_1).f3.f0), .int .i64 ((rd_T60 l0 x11_1).f3.f1), .int .i64 ((rd_T60 l0 x11_1).f3.f2), .int .i64 ((rd_T60 l0 x11_1).f3.f3), .int .i64 ((rd_T60 l0 x11_1).f3.f4), .int .i64 ((rd_T60 l0 x11_1).f3.f5), .int .i64 ((rd_T60 l0 x11_1).f3.f6)] 60 (0, 0) BK263.out); have n1_ := Aside0.mk (below_setRow (cs := #[.int .i64 ((rd_T60 l0 x11_1).f0), .int .i64 ((rd_T60 l0 x11_1).f1.f0), .int .i64 ((rd_T60 l0 x11_1).f1.f1), .int .i64 ((rd_T60 l0 x11_1).f1.f2), .int .i64 ((rd_T60 l0 x11_1).f1.f3), .int .i64 ((rd_T60 l0 x11_1).f1.f4), .int .i64 ((rd_T60 l0 x11_1).f2.f0), .int .i64 ((rd_T60 l0 x11_1).f2.f1), .int .i64 ((rd_T60 l0 x11_1).f2.f2), .int .i64 ((rd_T60 l0 x11_1).f3.f0), .int .i64 ((rd_T60 l0 x11_1).f3.f1), .int .i64 ((rd_T60 l0 x11_1).f3.f2), .int .i64 ((rd_T60 l0 x11_1).f3.f3), .int .i64 ((rd_T60 l0 x11_1).f3.f4), .int .i64 ((rd_T60 l0 x11_1).f3.f5), .int .i64 ((rd_T60 l0 x11_1).f3.f6)]) HB.out GE263.out); (try clear hrow_); generalize World.setRow _ gb263 #[.int .i64 ((rd_T60 l0 x11_1).f0), .int .i64 ((rd_T60 l0 x11_1).f1.f0), .int .i64 ((rd_T60 l0 x11_1).f1.f1), .int .i64 ((rd_T60 l0 x11_1).f1.f2), .int .i64 ((rd_T60 l0 x11_1).f1.f3), .int .i64 ((rd_T60 l0 x11_1).f1.f4), .int .i64 ((rd_T60 l0 x11_1).f2.f0), .int .i64 ((rd_T60 l0 x11_1).f2.f1), .int .i64 ((rd_T60 l0 x11_1).f2.f2), .int .i64 ((rd_T60 l0 x11_1).f3.f0), .int .i64 ((rd_T60 l0 x11_1).f3.f1), .int .i64 ((rd_T60 l0 x11_1).f3.f2), .int .i64 ((rd_T60 l0 x11_1).f3.f3), .int .i64 ((rd_T60 l0 x11_1).f3.f4), .int .i64 ((rd_T60 l0 x11_1).f3.f5), .int .i64 ((rd_T60 l0 x11_1).f3.f6)] = wst_ at n0_ n1_ ⊢; clear BK263 HB; have BK263 := n0_; have HB := n1_; clear n0_ n1_; have hcz_0 : wst_.cell? ⟨gb263, 0, none⟩ = some (.int .i64 ((rd_T60 l0 x11_1).f0)) := (blk_cell BK263.out 0).trans rfl) | ((with_reducible refine gate_dst (N := 21) rfl ?_); refine wpList_load_row rfl 60 (.tmp 6) rfl gb263 rfl 60 _ (0, 0) _ (by (with_reducible repeat (first | refine blk_drewN ?_ _ | refine blk_drew ?_ | refine blk_alloc ?_ _)); exact BK263.out) hu60 rfl (by kernel_rfl) ?_) | ((with_reducible refine gate_callee (f := 111) rfl ?_); refine goesL_ (some 18) rfl rfl Try.func111 (by kernel_rfl) rfl #[.int .i64 ((rd_T60 l0 x11_1).f0)] rfl (by (try simp only [List.map_toArray, List.map_cons, List.map_nil]); first | done | rfl | (simp only [List.length_drop, List.length_take]; rfl)) ?_; (with_reducible refine (impl_StepForms.calls k1 ((rd_T60 l0 x11_1).f0) t264 t265 _ A5.out).mono ?_); rintro e w' ⟨rfl, ⟨nd, rfl⟩⟩; refine ⟨_, rfl, ?_⟩) | ((with_reducible refine gate_callee (f := 30) rfl ?_); refine goesL_ (some 22) rfl rfl Try.func30 (by kernel_rfl) rfl #[.agg #[.int .i64 ((rd_T60 l0 x11_1).f0), .int .i64 ((rd_T60 l0 x11_1).f1.f0), .int .i64 ((rd_T60 l0 x11_1).f1.f1), .int .i64 ((rd_T60 l0 x11_1).f1.f2), .int .i64 ((rd_T60 l0 x11_1).f1.f3), .int .i64 ((rd_T60 l0 x11_1).f1.f4), .int .i64 ((rd_T60 l0 x11_1).f2.f0), .int .i64 ((rd_T60 l0 x11_1).f2.f1), .int .i64 ((rd_T60 l0 x11_1).f2.f2), .int .i64 ((rd_T60 l0 x11_1).f3.f0), .int .i64 ((rd_T60 l0 x11_1).f3.f1), .int .i64 ((rd_T60 l0 x11_1).f3.f2), .int .i64 ((rd_T60 l0 x11_1).f3.f3), .int .i64 ((rd_T60 l0 x11_1).f3.f4), .int .i64 ((rd_T60 l0 x11_1).f3.f5), .int .i64 ((rd_T60 l0 x11_1).f3.f6)]] rfl (by (try simp only [List.map_toArray, List.map_cons, List.map_nil]); first | done | rfl | (simp only [List.length_drop, List.length_take]; rfl)) ?_; (with_reducible refine (impl_ValidStep.calls k1 ((rd_T60 l0 x11_1).f0) ((rd_T60 l0 x11_1).f1.f0) ((rd_T60 l0 x11_1).f1.f1) ((rd_T60 l0 x11_1).f1.f2) ((rd_T60 l0 x11_1).f1.f3) ((rd_T60 l0 x11_1).f1.f4) ((rd_T60 l0 x11_1).f2.f0) ((rd_T60 l0 x11_1).f2.f1) ((rd_T60 l0 x11_1).f2.f2) ((rd_T60 l0 x11_1).f3.f0) ((rd_T60 l0 x11_1).f3.f1) ((rd_T60 l0 x11_1).f3.f2) ((rd_T60 l0 x11_1).f3.f3) ((rd_T60 l0 x11_1).f3.f4) ((rd_T60 l0 x11_1).f3.f5) ((rd_T60 l0 x11_1).f3.f6) true _ A6.out).mono ?_); rintro e w14 ⟨rfl, hb⟩; refine ⟨_, rfl, ?_⟩; have n1_ := Aside0.mk (below_step (by repeat (first | (with_reducible first | exact HB.out | apply below_alloc | apply pw_below_drewN | apply below_drew1) | exact HB.out)) hb); clear HB; have HB := n1_; clear n1_ hb))
        go_ret2
        exact ⟨by first | rfl | (simp <;> rfl) | (simp; decide +kernel) | (simp [*] <;> rfl), by repeat (first | (with_reducible first | exact HB.out | apply below_alloc | apply pw_below_drewN | apply below_drew1 | refine below_set ?_ GE263.out) | exact HB.out)⟩
      ·replace c7 := Bool.eq_false_iff.mpr c7
       subst c7
       have H1 : (some (0, false)) = some (r1, r2) := by rw [if_neg (show ¬ (false = true) by decide)] at H; exact H
       clear H
       have H := H1
       clear H1
       simp only [Option.some.injEq, Prod.mk.injEq] at H
       obtain ⟨rfl, rfl⟩ := H
       have p262 : 0 ≤ (x11_1 : Int) := of_decide_eq_true (by first | (with_reducible assumption) | assumption)
       have q262 : x11_1 < (l0.length : Int) := of_decide_eq_true (by first | (with_reducible assumption) | assumption)
       obtain ⟨ad262, e262, hrow_⟩ := at_T60_row HR0.out x11_1 p262 q262
       cases e262
       replace hrow_ := fun (j : Nat) u hu => (HB.out.cell (World.block_lt_of_cell? w _ (hrow_ j u hu))).trans (hrow_ j u hu)
       replace p262 := eq_true p262
       replace q262 := eq_true q262
       go_wp2_with (first | ((with_reducible refine gate_dst (N := 6) rfl ?_); refine box_event ?hg (N := 6) ?hd (cs := #[.int .i64 0, .int .i64 0, .int .i64 0, .int .i64 0, .int .i64 0, .int .i64 0, .int .i64 0, .int .i64 0, .int .i64 0, .int .i64 0, .int .i64 0, .int .i64 0, .int .i64 0, .int .i64 0, .int .i64 0, .int .i64 0]) (t := 60) ?hr ?_; (case hd => rfl); (case hg => rfl); (case hr => first | (go_simp; done) | (go_simp; rfl) | (go_simp; done)); intro gb263 hg w15 hbox hb; have n0_ := Aside0.mk (below_step (by repeat (first | (with_reducible first | exact HB.out | apply below_alloc | apply pw_below_drewN | apply below_drew1) | exact HB.out)) hb); have n1_ := Aside0.mk (hbox); have n2_ := Aside0.mk ((by rw [hg]; exact (below_size (by repeat (first | (with_reducible first | exact HB.out | apply below_alloc | apply pw_below_drewN | apply below_drew1) | exact HB.out))) : w.heap.size ≤ gb263)); have n3_ := n2_; clear HB; have HB := n0_; have BK263 := n1_; have GW263 := n2_; have GE263 := n3_; clear n0_ n1_ n2_ n3_; clear hb hbox hg) | ((with_reducible refine gate_dst (N := 14) rfl ?_); refine wpList_load_at rfl 60 (.tmp 13) rfl _ rfl [.int .i64 ((rd_T60 l0 x11_1).f0), .int .i64 ((rd_T60 l0 x11_1).f1.f0), .int .i64 ((rd_T60 l0 x11_1).f1.f1), .int .i64 ((rd_T60 l0 x11_1).f1.f2), .int .i64 ((rd_T60 l0 x11_1).f1.f3), .int .i64 ((rd_T60 l0 x11_1).f1.f4), .int .i64 ((rd_T60 l0 x11_1).f2.f0), .int .i64 ((rd_T60 l0 x11_1).f2.f1), .int .i64 ((rd_T60 l0 x11_1).f2.f2), .int .i64 ((rd_T60 l0 x11_1).f3.f0), .int .i64 ((rd_T60 l0 x11_1).f3.f1), .int .i64 ((rd_T60 l0 x11_1).f3.f2), .int .i64 ((rd_T60 l0 x11_1).f3.f3), .int .i64 ((rd_T60 l0 x11_1).f3.f4), .int .i64 ((rd_T60 l0 x11_1).f3.f5), .int .i64 ((rd_T60 l0 x11_1).f3.f6)] _ hrow_ hu60 rfl (by kernel_rfl) ?_) | (refine wpList_store_row rfl 60 (.tmp 6) (.tmp 14) rfl gb263 #[.int .i64 ((rd_T60 l0 x11_1).f0), .int .i64 ((rd_T60 l0 x11_1).f1.f0), .int .i64 ((rd_T60 l0 x11_1).f1.f1), .int .i64 ((rd_T60 l0 x11_1).f1.f2), .int .i64 ((rd_T60 l0 x11_1).f1.f3), .int .i64 ((rd_T60 l0 x11_1).f1.f4), .int .i64 ((rd_T60 l0 x11_1).f2.f0), .int .i64 ((rd_T60 l0 x11_1).f2.f1), .int .i64 ((rd_T60 l0 x11_1).f2.f2), .int .i64 ((rd_T60 l0 x11_1).f3.f0), .int .i64 ((rd_T60 l0 x11_1).f3.f1), .int .i64 ((rd_T60 l0 x11_1).f3.f2), .int .i64 ((rd_T60 l0 x11_1).f3.f3), .int .i64 ((rd_T60 l0 x11_1).f3.f4), .int .i64 ((rd_T60 l0 x11_1).f3.f5), .int .i64 ((rd_T60 l0 x11_1).f3.f6)] rfl rfl 60 _ BK263.out (by kernel_rfl) rfl (by kernel_rfl) ?_; have n0_ := Aside0.mk (setRow_heap _ gb263 _ #[.int .i64 ((rd_T60 l0 x11_1).f0), .int .i64 ((rd_T60 l0 x11_1).f1.f0), .int .i64 ((rd_T60 l0 x11_1).f1.f1), .int .i64 ((rd_T60 l0 x11_1).f1.f2), .int .i64 ((rd_T60 l0 x11_1).f1.f3), .int .i64 ((rd_T60 l0 x11_1).f1.f4), .int .i64 ((rd_T60 l0 x11_1).f2.f0), .int .i64 ((rd_T60 l0 x11_1).f2.f1), .int .i64 ((rd_T60 l0 x11_1).f2.f2), .int .i64 ((rd_T60 l0 x11_1).f3.f0), .int .i64 ((rd_T60 l0 x11_1).f3.f1), .int .i64 ((rd_T60 l0 x11_1).f3.f2), .int .i64 ((rd_T60 l0 x11_1).f3.f3), .int .i64 ((rd_T60 l0 x11_1).f3.f4), .int .i64 ((rd_T60 l0 x11_1).f3.f5), .int .i64 ((rd_T60 l0 x11_1).f3.f6)] 60 (0, 0) BK263.out); have n1_ := Aside0.mk (below_setRow (cs := #[.int .i64 ((rd_T60 l0 x11_1).f0), .int .i64 ((rd_T60 l0 x11_1).f1.f0), .int .i64 ((rd_T60 l0 x11_1).f1.f1), .int .i64 ((rd_T60 l0 x11_1).f1.f2), .int .i64 ((rd_T60 l0 x11_1).f1.f3), .int .i64 ((rd_T60 l0 x11_1).f1.f4), .int .i64 ((rd_T60 l0 x11_1).f2.f0), .int .i64 ((rd_T60 l0 x11_1).f2.f1), .int .i64 ((rd_T60 l0 x11_1).f2.f2), .int .i64 ((rd_T60 l0 x11_1).f3.f0), .int .i64 ((rd_T60 l0 x11_1).f3.f1), .int .i64 ((rd_T60 l0 x11_1).f3.f2), .int .i64 ((rd_T60 l0 x11_1).f3.f3), .int .i64 ((rd_T60 l0 x11_1).f3.f4), .int .i64 ((rd_T60 l0 x11_1).f3.f5), .int .i64 ((rd_T60 l0 x11_1).f3.f6)]) HB.out GE263.out); (try clear hrow_); generalize World.setRow _ gb263 #[.int .i64 ((rd_T60 l0 x11_1).f0), .int .i64 ((rd_T60 l0 x11_1).f1.f0), .int .i64 ((rd_T60 l0 x11_1).f1.f1), .int .i64 ((rd_T60 l0 x11_1).f1.f2), .int .i64 ((rd_T60 l0 x11_1).f1.f3), .int .i64 ((rd_T60 l0 x11_1).f1.f4), .int .i64 ((rd_T60 l0 x11_1).f2.f0), .int .i64 ((rd_T60 l0 x11_1).f2.f1), .int .i64 ((rd_T60 l0 x11_1).f2.f2), .int .i64 ((rd_T60 l0 x11_1).f3.f0), .int .i64 ((rd_T60 l0 x11_1).f3.f1), .int .i64 ((rd_T60 l0 x11_1).f3.f2), .int .i64 ((rd_T60 l0 x11_1).f3.f3), .int .i64 ((rd_T60 l0 x11_1).f3.f4), .int .i64 ((rd_T60 l0 x11_1).f3.f5), .int .i64 ((rd_T60 l0 x11_1).f3.f6)] = wst_ at n0_ n1_ ⊢; clear BK263 HB; have BK263 := n0_; have HB := n1_; clear n0_ n1_; have hcz_0 : wst_.cell? ⟨gb263, 0, none⟩ = some (.int .i64 ((rd_T60 l0 x11_1).f0)) := (blk_cell BK263.out 0).trans rfl) | ((with_reducible refine gate_dst (N := 21) rfl ?_); refine wpList_load_row rfl 60 (.tmp 6) rfl gb263 rfl 60 _ (0, 0) _ (by (with_reducible repeat (first | refine blk_drewN ?_ _ | refine blk_drew ?_ | refine blk_alloc ?_ _)); exact BK263.out) hu60 rfl (by kernel_rfl) ?_) | ((with_reducible refine gate_callee (f := 111) rfl ?_); refine goesL_ (some 18) rfl rfl Try.func111 (by kernel_rfl) rfl #[.int .i64 ((rd_T60 l0 x11_1).f0)] rfl (by (try simp only [List.map_toArray, List.map_cons, List.map_nil]); first | done | rfl | (simp only [List.length_drop, List.length_take]; rfl)) ?_; (with_reducible refine (impl_StepForms.calls k1 ((rd_T60 l0 x11_1).f0) t264 t265 _ A5.out).mono ?_); rintro e w' ⟨rfl, ⟨nd, rfl⟩⟩; refine ⟨_, rfl, ?_⟩) | ((with_reducible refine gate_callee (f := 30) rfl ?_); refine goesL_ (some 22) rfl rfl Try.func30 (by kernel_rfl) rfl #[.agg #[.int .i64 ((rd_T60 l0 x11_1).f0), .int .i64 ((rd_T60 l0 x11_1).f1.f0), .int .i64 ((rd_T60 l0 x11_1).f1.f1), .int .i64 ((rd_T60 l0 x11_1).f1.f2), .int .i64 ((rd_T60 l0 x11_1).f1.f3), .int .i64 ((rd_T60 l0 x11_1).f1.f4), .int .i64 ((rd_T60 l0 x11_1).f2.f0), .int .i64 ((rd_T60 l0 x11_1).f2.f1), .int .i64 ((rd_T60 l0 x11_1).f2.f2), .int .i64 ((rd_T60 l0 x11_1).f3.f0), .int .i64 ((rd_T60 l0 x11_1).f3.f1), .int .i64 ((rd_T60 l0 x11_1).f3.f2), .int .i64 ((rd_T60 l0 x11_1).f3.f3), .int .i64 ((rd_T60 l0 x11_1).f3.f4), .int .i64 ((rd_T60 l0 x11_1).f3.f5), .int .i64 ((rd_T60 l0 x11_1).f3.f6)]] rfl (by (try simp only [List.map_toArray, List.map_cons, List.map_nil]); first | done | rfl | (simp only [List.length_drop, List.length_take]; rfl)) ?_; (with_reducible refine (impl_ValidStep.calls k1 ((rd_T60 l0 x11_1).f0) ((rd_T60 l0 x11_1).f1.f0) ((rd_T60 l0 x11_1).f1.f1) ((rd_T60 l0 x11_1).f1.f2) ((rd_T60 l0 x11_1).f1.f3) ((rd_T60 l0 x11_1).f1.f4) ((rd_T60 l0 x11_1).f2.f0) ((rd_T60 l0 x11_1).f2.f1) ((rd_T60 l0 x11_1).f2.f2) ((rd_T60 l0 x11_1).f3.f0) ((rd_T60 l0 x11_1).f3.f1) ((rd_T60 l0 x11_1).f3.f2) ((rd_T60 l0 x11_1).f3.f3) ((rd_T60 l0 x11_1).f3.f4) ((rd_T60 l0 x11_1).f3.f5) ((rd_T60 l0 x11_1).f3.f6) false _ A6.out).mono ?_); rintro e w17 ⟨rfl, hb⟩; refine ⟨_, rfl, ?_⟩; have n1_ := Aside0.mk (below_step (by repeat (first | (with_reducible first | exact HB.out | apply below_alloc | apply pw_below_drewN | apply below_drew1) | exact HB.out)) hb); clear HB; have HB := n1_; clear n1_ hb))
       go_ret2
       exact ⟨by first | rfl | (simp <;> rfl) | (simp; decide +kernel) | (simp [*] <;> rfl), by repeat (first | (with_reducible first | exact HB.out | apply below_alloc | apply pw_below_drewN | apply below_drew1 | refine below_set ?_ GE263.out) | exact HB.out)⟩
     ·rw [if_neg c4] at H
      exact absurd H (by simp)
    ·rw [if_neg c3] at H
     exact absurd H (by simp)
   ·rw [if_neg c2] at H
    have c2b0 : decide (x11_1 < (l0.length : Int)) = false := decide_eq_false c2
    clear c2
    simp only [Option.some.injEq, Prod.mk.injEq] at H
    obtain ⟨rfl, rfl⟩ := H
    go_wp2
    go_ret2
    exact ⟨by first | rfl | (simp <;> rfl) | (simp; decide +kernel) | (simp [*] <;> rfl), by repeat (first | (with_reducible first | exact HB.out | apply below_alloc | apply pw_below_drewN | apply below_drew1) | exact HB.out)⟩

/-! ### impl_FormOf: function 46 -/
def impl_FormOf.f (k : Nat) (l0 : List (S60)) : Option (Int × Int) := (impl_formOf.f k l0).bind fun bt267 => (if bt267.2 = true then (some (bt267.1, 0)) else (some (0, 1)))
theorem impl_FormOf.mono : ∀ a0 k, LeO (impl_FormOf.f k a0) (impl_FormOf.f (k + 1) a0) := by
 intro a0 k
 unfold impl_FormOf.f
 repeat' first
   | (with_reducible exact impl_formOf.mono _ _)
   | (with_reducible exact LeO.refl _)
   | (with_reducible exact LeO.none _)
   | (with_reducible refine LeO.ite ?_ ?_)
   | (with_reducible refine LeO.bind ?_ (fun _ => ?_))
   | exact impl_formOf.mono _ _
   | exact LeO.none _
   | refine LeO.ite ?_ ?_
   | refine LeO.bind ?_ (fun _ => ?_)
set_option maxHeartbeats 8000000 in
set_option maxRecDepth 100000 in
theorem impl_FormOf.calls (k : Nat) (A0 : Option Addr) (c0 : Nat) (l0 : List (S60)) (r1 : Int) (r2 : Int) (w : World) (hr0 : Kd.C k60 w A0 l0.length l0) (hc0 : l0.length ≤ c0) (h : impl_FormOf.f k l0 = some (r1, r2)) :
  Calls Try.prog 46 #[.slice A0 l0.length c0] w fun e w' => e = .returned (.tuple #[.int .i64 r1, .int .i64 r2]) ∧ Below w.heap.size w w' := by
 have HR0 := Aside0.mk hr0
 have HC0 := Aside0.mk hc0
 clear hr0 hc0
 have HB := Aside0.mk (Below.refl w.heap.size w)
 have H : ((impl_formOf.f k l0).bind fun bt267 => (if bt267.2 = true then (some (bt267.1, 0)) else (some (0, 1)))) = some (r1, r2) := h
 clear h
 replace H := Option.bind_eq_some_iff.mp H
 obtain ⟨⟨t267, t268⟩, A20, H⟩ := H
 replace H : (if t268 = true then (some (t267, 0)) else (some (0, 1))) = some (r1, r2) := H
 have A2 := Aside0.mk A20
 clear A20
 by_cases c3 : t268 = true
 ·subst c3
  have H1 : (some (t267, 0)) = some (r1, r2) := by rw [if_pos rfl] at H; exact H
  clear H
  have H := H1
  clear H1
  simp only [Option.some.injEq, Prod.mk.injEq] at H
  obtain ⟨rfl, rfl⟩ := H
  go_enter Try.func46, Try.ntmps46
  go_wp2_with (first | ((with_reducible refine gate_callee (f := 81) rfl ?_); refine goesL_ (some 8) rfl rfl Try.func81 (by kernel_rfl) rfl #[.slice A0 l0.length c0] rfl (by (try simp only [List.map_toArray, List.map_cons, List.map_nil]); first | done | rfl | (simp only [List.length_drop, List.length_take]; rfl)) ?_; (with_reducible refine (impl_formOf.calls k _ _ l0 t267 true _ ?side1 ?side2 A2.out).mono ?_); (case side1 => repeat (first | exact HR0.out | (with_reducible refine Kd.C_alloc ?_ _) | (with_reducible refine Kd.C_drewN ?_ _) | (with_reducible refine Kd.C_drew ?_))); (case side2 => exact HC0.out); rintro e w4 ⟨rfl, hb⟩; refine ⟨_, rfl, ?_⟩; have n0_ := Aside0.mk (below_step (by repeat (first | (with_reducible first | exact HB.out | apply below_alloc | apply pw_below_drewN | apply below_drew1) | exact HB.out)) hb); clear HB; have HB := n0_; clear n0_; (try clear hb); (try clear hb2); (try clear hk); (try clear hi)))
  go_ret2
  exact ⟨by first | rfl | (simp <;> rfl) | (simp; decide +kernel) | (simp [*] <;> rfl), by repeat (first | (with_reducible first | exact HB.out | apply below_alloc | apply pw_below_drewN | apply below_drew1) | exact HB.out)⟩
 ·replace c3 := Bool.eq_false_iff.mpr c3
  subst c3
  have H1 : (some (0, 1)) = some (r1, r2) := by rw [if_neg (show ¬ (false = true) by decide)] at H; exact H
  clear H
  have H := H1
  clear H1
  simp only [Option.some.injEq, Prod.mk.injEq] at H
  obtain ⟨rfl, rfl⟩ := H
  go_enter Try.func46, Try.ntmps46
  go_wp2_with (first | ((with_reducible refine gate_callee (f := 81) rfl ?_); refine goesL_ (some 8) rfl rfl Try.func81 (by kernel_rfl) rfl #[.slice A0 l0.length c0] rfl (by (try simp only [List.map_toArray, List.map_cons, List.map_nil]); first | done | rfl | (simp only [List.length_drop, List.length_take]; rfl)) ?_; (with_reducible refine (impl_formOf.calls k _ _ l0 t267 false _ ?side1 ?side2 A2.out).mono ?_); (case side1 => repeat (first | exact HR0.out | (with_reducible refine Kd.C_alloc ?_ _) | (with_reducible refine Kd.C_drewN ?_ _) | (with_reducible refine Kd.C_drew ?_))); (case side2 => exact HC0.out); rintro e w5 ⟨rfl, hb⟩; refine ⟨_, rfl, ?_⟩; have n0_ := Aside0.mk (below_step (by repeat (first | (with_reducible first | exact HB.out | apply below_alloc | apply pw_below_drewN | apply below_drew1) | exact HB.out)) hb); clear HB; have HB := n0_; clear n0_; (try clear hb); (try clear hb2); (try clear hk); (try clear hi)))
  go_ret2
  exact ⟨by first | rfl | (simp <;> rfl) | (simp; decide +kernel) | (simp [*] <;> rfl), by repeat (first | (with_reducible first | exact HB.out | apply below_alloc | apply pw_below_drewN | apply below_drew1) | exact HB.out)⟩

/-! ### laws_FnExactFormOf: function 12 -/
def laws_FnExactFormOf.j0 : Nat → List (S56) → List (S60) → Bool → Option (Bool)
 | 0, _, _, _ => none
 | k + 1, x0, x6, x34 => if x34 = true then (some false) else ((laws_toStepS.f k x0).bind fun t280 => ((laws_eqStepS.f k x6 t280).bind fun t283 => (if t283 = true then (some true) else (some false))))
def laws_FnExactFormOf.f (k : Nat) (l0 : List (S56)) : Option (Bool) := (laws_szStepS.f l0 1048576).bind fun t269 => (if t269 < 0 then (some true) else ((laws_toStepS.f k l0).bind fun t270 => ((spec_FormOf.f k t270).bind fun bt273 => ((laws_toStepS.f k l0).bind fun t275 => ((impl_FormOf.f k t275).bind fun bt278 => (if bt278.1 = bt273.1 then (laws_FnExactFormOf.j0 k l0 t275 (bt278.2 != bt273.2)) else (laws_FnExactFormOf.j0 k l0 t275 true)))))))
theorem laws_FnExactFormOf.mono_l : ∀ k, (∀ y0 y1 y2, LeO (laws_FnExactFormOf.j0 k y0 y1 y2) (laws_FnExactFormOf.j0 (k + 1) y0 y1 y2))
 | 0 => fun _ _ _ r h => by simp [laws_FnExactFormOf.j0] at h
 | k + 1 => by
  have ih0 := laws_FnExactFormOf.mono_l k
  ·intro y0 y1 y2
   unfold laws_FnExactFormOf.j0
   repeat' first
   | (with_reducible exact ih0 _ _ _)
   | (with_reducible exact impl_FormOf.mono _ _)
   | (with_reducible exact laws_eqStepS.mono _ _ _)
   | (with_reducible exact laws_toStepS.mono _ _)
   | (with_reducible exact spec_FormOf.mono _ _)
   | (with_reducible exact LeO.refl _)
   | (with_reducible exact LeO.none _)
   | (with_reducible refine LeO.ite ?_ ?_)
   | (with_reducible refine LeO.bind ?_ (fun _ => ?_))
   | exact ih0 _ _ _
   | exact impl_FormOf.mono _ _
   | exact laws_eqStepS.mono _ _ _
   | exact laws_toStepS.mono _ _
   | exact spec_FormOf.mono _ _
   | exact LeO.none _
   | refine LeO.ite ?_ ?_
   | refine LeO.bind ?_ (fun _ => ?_)
theorem laws_FnExactFormOf.mono : ∀ a0 k, LeO (laws_FnExactFormOf.f k a0) (laws_FnExactFormOf.f (k + 1) a0) := by
 intro a0 k
 have ih0 := laws_FnExactFormOf.mono_l k
 unfold laws_FnExactFormOf.f
 repeat' first
   | (with_reducible exact ih0 _ _ _)
   | (with_reducible exact impl_FormOf.mono _ _)
   | (with_reducible exact laws_eqStepS.mono _ _ _)
   | (with_reducible exact laws_toStepS.mono _ _)
   | (with_reducible exact spec_FormOf.mono _ _)
   | (with_reducible exact LeO.refl _)
   | (with_reducible exact LeO.none _)
   | (with_reducible refine LeO.ite ?_ ?_)
   | (with_reducible refine LeO.bind ?_ (fun _ => ?_))
   | exact ih0 _ _ _
   | exact impl_FormOf.mono _ _
   | exact laws_eqStepS.mono _ _ _
   | exact laws_toStepS.mono _ _
   | exact spec_FormOf.mono _ _
   | exact LeO.none _
   | refine LeO.ite ?_ ?_
   | refine LeO.bind ?_ (fun _ => ?_)
set_option maxHeartbeats 8000000 in
set_option maxRecDepth 100000 in
theorem laws_FnExactFormOf.calls (k : Nat) (A0 : Option Addr) (c0 : Nat) (l0 : List (S56)) (w : World) (hr0 : Kd.C k56 w A0 l0.length l0) (hc0 : l0.length ≤ c0) (h : laws_FnExactFormOf.f k l0 = some true) :
  Calls Try.prog 12 #[.slice A0 l0.length c0] w fun e w' => e = .returned (.bool true) ∧ Below w.heap.size w w' := by
 have HR0 := Aside0.mk hr0
 have HC0 := Aside0.mk hc0
 clear hr0 hc0
 have HB := Aside0.mk (Below.refl w.heap.size w)
 have H : ((laws_szStepS.f l0 1048576).bind fun t269 => (if t269 < 0 then (some true) else ((laws_toStepS.f k l0).bind fun t270 => ((spec_FormOf.f k t270).bind fun bt273 => ((laws_toStepS.f k l0).bind fun t275 => ((impl_FormOf.f k t275).bind fun bt278 => (if bt278.1 = bt273.1 then (laws_FnExactFormOf.j0 k l0 t275 (bt278.2 != bt273.2)) else (laws_FnExactFormOf.j0 k l0 t275 true)))))))) = some true := h
 clear h
 replace H := Option.bind_eq_some_iff.mp H
 obtain ⟨t269, A20, H⟩ := H
 replace H : (if t269 < 0 then (some true) else ((laws_toStepS.f k l0).bind fun t270 => ((spec_FormOf.f k t270).bind fun bt273 => ((laws_toStepS.f k l0).bind fun t275 => ((impl_FormOf.f k t275).bind fun bt278 => (if bt278.1 = bt273.1 then (laws_FnExactFormOf.j0 k l0 t275 (bt278.2 != bt273.2)) else (laws_FnExactFormOf.j0 k l0 t275 true))))))) = some true := H
 have A2 := Aside0.mk A20
 clear A20
 by_cases c3 : t269 < 0
 ·rw [if_pos c3] at H
  have c3b0 : decide (t269 < 0) = true := decide_eq_true c3
  clear c3
  clear H
  go_enter Try.func12, Try.ntmps12
  go_wp2_with (first | ((with_reducible refine gate_callee (f := 40) rfl ?_); refine goesL_ (some 11) rfl rfl Try.func40 (by kernel_rfl) rfl #[.slice A0 l0.length c0, .int .i64 1048576] rfl (by (try simp only [List.map_toArray, List.map_cons, List.map_nil]); first | done | rfl | (simp only [List.length_drop, List.length_take]; rfl)) ?_; (with_reducible refine (laws_szStepS.calls _ _ l0 1048576 t269 _ ?side1 ?side2 A2.out).mono ?_); (case side1 => repeat (first | exact HR0.out | (with_reducible refine Kd.C_alloc ?_ _) | (with_reducible refine Kd.C_drewN ?_ _) | (with_reducible refine Kd.C_drew ?_))); (case side2 => exact HC0.out); rintro e w' ⟨rfl, ⟨nd, rfl⟩⟩; refine ⟨_, rfl, ?_⟩))
  go_ret
  exact ⟨by first | rfl | (simp <;> rfl) | (simp; decide +kernel) | (simp [*] <;> rfl), by repeat (first | (with_reducible first | exact HB.out | apply below_alloc | apply pw_below_drewN | apply below_drew1) | exact HB.out)⟩
 ·rw [if_neg c3] at H
  have c3b0 : decide (t269 < 0) = false := decide_eq_false c3
  clear c3
  replace H := Option.bind_eq_some_iff.mp H
  obtain ⟨t270, A40, H⟩ := H
  replace H : ((spec_FormOf.f k t270).bind fun bt273 => ((laws_toStepS.f k l0).bind fun t275 => ((impl_FormOf.f k t275).bind fun bt278 => (if bt278.1 = bt273.1 then (laws_FnExactFormOf.j0 k l0 t275 (bt278.2 != bt273.2)) else (laws_FnExactFormOf.j0 k l0 t275 true))))) = some true := H
  have A4 := Aside0.mk A40
  clear A40
  replace H := Option.bind_eq_some_iff.mp H
  obtain ⟨⟨t273, t274⟩, A50, H⟩ := H
  replace H : ((laws_toStepS.f k l0).bind fun t275 => ((impl_FormOf.f k t275).bind fun bt278 => (if bt278.1 = t273 then (laws_FnExactFormOf.j0 k l0 t275 (bt278.2 != t274)) else (laws_FnExactFormOf.j0 k l0 t275 true)))) = some true := H
  have A5 := Aside0.mk A50
  clear A50
  replace H := Option.bind_eq_some_iff.mp H
  obtain ⟨t275, A60, H⟩ := H
  replace H : ((impl_FormOf.f k t275).bind fun bt278 => (if bt278.1 = t273 then (laws_FnExactFormOf.j0 k l0 t275 (bt278.2 != t274)) else (laws_FnExactFormOf.j0 k l0 t275 true))) = some true := H
  have A6 := Aside0.mk A60
  clear A60
  replace H := Option.bind_eq_some_iff.mp H
  obtain ⟨⟨t278, t279⟩, A70, H⟩ := H
  replace H : (if t278 = t273 then (laws_FnExactFormOf.j0 k l0 t275 (t279 != t274)) else (laws_FnExactFormOf.j0 k l0 t275 true)) = some true := H
  have A7 := Aside0.mk A70
  clear A70
  have HC8 := Aside0.mk H
  clear H
  go_enter Try.func12, Try.ntmps12
  go_upto_region 8 with (first | ((with_reducible refine gate_callee (f := 40) rfl ?_); refine goesL_ (some 11) rfl rfl Try.func40 (by kernel_rfl) rfl #[.slice A0 l0.length c0, .int .i64 1048576] rfl (by (try simp only [List.map_toArray, List.map_cons, List.map_nil]); first | done | rfl | (simp only [List.length_drop, List.length_take]; rfl)) ?_; (with_reducible refine (laws_szStepS.calls _ _ l0 1048576 t269 _ ?side1 ?side2 A2.out).mono ?_); (case side1 => repeat (first | exact HR0.out | (with_reducible refine Kd.C_alloc ?_ _) | (with_reducible refine Kd.C_drewN ?_ _) | (with_reducible refine Kd.C_drew ?_))); (case side2 => exact HC0.out); rintro e w' ⟨rfl, ⟨nd, rfl⟩⟩; refine ⟨_, rfl, ?_⟩) | ((with_reducible refine gate_callee (f := 42) rfl ?_); refine goesL_ (some 16) rfl rfl Try.func42 (by kernel_rfl) rfl #[.slice A0 l0.length c0] rfl (by (try simp only [List.map_toArray, List.map_cons, List.map_nil]); first | done | rfl | (simp only [List.length_drop, List.length_take]; rfl)) ?_; (with_reducible refine (laws_toStepS.calls k _ _ l0 t270 _ ?side1 ?side2 A4.out).mono ?_); (case side1 => repeat (first | exact HR0.out | (with_reducible refine Kd.C_alloc ?_ _) | (with_reducible refine Kd.C_drewN ?_ _) | (with_reducible refine Kd.C_drew ?_))); (case side2 => exact HC0.out); rintro e w9 ⟨v271, rfl, ho0, hb⟩; refine ⟨_, rfl, ?_⟩; have n0_ := Aside0.mk (Kd.R_lower ho0 (below_size (by repeat (first | (with_reducible first | exact HB.out | apply below_alloc | apply pw_below_drewN | apply below_drew1) | exact HB.out)))); have n1_ := Aside0.mk (below_step (by repeat (first | (with_reducible first | exact HB.out | apply below_alloc | apply pw_below_drewN | apply below_drew1) | exact HB.out)) hb); clear HB; have HO272 := n0_; have HB := n1_; clear n0_ n1_; (try clear hb); (try clear hb2); (try clear hk); (try clear hi); (try clear ho0); obtain ⟨Ao10, co10, eo10⟩ := Kd.R_slice HO272.out; subst eo10) | ((with_reducible refine gate_callee (f := 45) rfl ?_); refine goesL_ (some 17) rfl rfl Try.func45 (by kernel_rfl) rfl #[.slice Ao10 t270.length co10] rfl (by (try simp only [List.map_toArray, List.map_cons, List.map_nil]); first | done | rfl | (simp only [List.length_drop, List.length_take]; rfl)) ?_; (with_reducible refine (spec_FormOf.calls k _ _ t270 t273 t274 _ ?side1 ?side2 A5.out).mono ?_); (case side1 => repeat (first | exact (Kd.R_reads' HO272.out).2.2 | (with_reducible refine Kd.C_alloc ?_ _) | (with_reducible refine Kd.C_drewN ?_ _) | (with_reducible refine Kd.C_drew ?_))); (case side2 => exact (Kd.R_reads' HO272.out).2.1); rintro e w11 ⟨rfl, hb⟩; refine ⟨_, rfl, ?_⟩; have n0_ := Aside0.mk (Kd.R_below (by (with_reducible repeat (first | apply Kd.R_alloc | apply Kd.R_drewN | apply Kd.R_drew)); exact HO272.out) hb); have n1_ := Aside0.mk (below_step (by repeat (first | (with_reducible first | exact HB.out | apply below_alloc | apply pw_below_drewN | apply below_drew1) | exact HB.out)) hb); clear HO272; clear HB; have HO272 := n0_; have HB := n1_; clear n0_ n1_; (try clear hb); (try clear hb2); (try clear hk); (try clear hi)) | ((with_reducible refine gate_callee (f := 42) rfl ?_); refine goesL_ (some 21) rfl rfl Try.func42 (by kernel_rfl) rfl #[.slice A0 l0.length c0] rfl (by (try simp only [List.map_toArray, List.map_cons, List.map_nil]); first | done | rfl | (simp only [List.length_drop, List.length_take]; rfl)) ?_; (with_reducible refine (laws_toStepS.calls k _ _ l0 t275 _ ?side1 ?side2 A6.out).mono ?_); (case side1 => repeat (first | exact (Kd.C_below HR0.out HB.out) | (with_reducible refine Kd.C_alloc ?_ _) | (with_reducible refine Kd.C_drewN ?_ _) | (with_reducible refine Kd.C_drew ?_))); (case side2 => exact HC0.out); rintro e w12 ⟨v276, rfl, ho0, hb⟩; refine ⟨_, rfl, ?_⟩; have n0_ := Aside0.mk (Kd.R_elder' (by (with_reducible repeat (first | apply Kd.R_alloc | apply Kd.R_drewN | apply Kd.R_drew)); exact HO272.out) (Kd.R_base ho0) hb); have n1_ := Aside0.mk (Kd.R_lower (Kd.R_new' ho0 (Kd.R_lt (by (with_reducible repeat (first | apply Kd.R_alloc | apply Kd.R_drewN | apply Kd.R_drew)); exact HO272.out))) (below_size (by repeat (first | (with_reducible first | exact HB.out | apply below_alloc | apply pw_below_drewN | apply below_drew1) | exact HB.out)))); have n2_ := Aside0.mk (below_step (by repeat (first | (with_reducible first | exact HB.out | apply below_alloc | apply pw_below_drewN | apply below_drew1) | exact HB.out)) hb); clear HO272; clear HB; have HO272 := n0_; have HO277 := n1_; have HB := n2_; clear n0_ n1_ n2_; (try clear hb); (try clear hb2); (try clear hk); (try clear hi); (try clear ho0); obtain ⟨Ao13, co13, eo13⟩ := Kd.R_slice HO277.out; subst eo13) | ((with_reducible refine gate_callee (f := 46) rfl ?_); refine goesL_ (some 24) rfl rfl Try.func46 (by kernel_rfl) rfl #[.slice Ao13 t275.length co13] rfl (by (try simp only [List.map_toArray, List.map_cons, List.map_nil]); first | done | rfl | (simp only [List.length_drop, List.length_take]; rfl)) ?_; (with_reducible refine (impl_FormOf.calls k _ _ t275 t278 t279 _ ?side1 ?side2 A7.out).mono ?_); (case side1 => repeat (first | exact (Kd.R_reads' HO277.out).2.2 | (with_reducible refine Kd.C_alloc ?_ _) | (with_reducible refine Kd.C_drewN ?_ _) | (with_reducible refine Kd.C_drew ?_))); (case side2 => exact (Kd.R_reads' HO277.out).2.1); rintro e w14 ⟨rfl, hb⟩; refine ⟨_, rfl, ?_⟩; have n0_ := Aside0.mk (Kd.R_below (by (with_reducible repeat (first | apply Kd.R_alloc | apply Kd.R_drewN | apply Kd.R_drew)); exact HO272.out) hb); have n1_ := Aside0.mk (Kd.R_below (by (with_reducible repeat (first | apply Kd.R_alloc | apply Kd.R_drewN | apply Kd.R_drew)); exact HO277.out) hb); have n2_ := Aside0.mk (below_step (by repeat (first | (with_reducible first | exact HB.out | apply below_alloc | apply pw_below_drewN | apply below_drew1) | exact HB.out)) hb); clear HO272; clear HO277; clear HB; have HO272 := n0_; have HO277 := n1_; have HB := n2_; clear n0_ n1_ n2_; (try clear hb); (try clear hb2); (try clear hk); (try clear hi)))
  (try simp only [Act.put, List.setIfInBounds_toArray, List.set_cons_zero, List.set_cons_succ])
  go_cut [34] (fun v34 wc => ∃ (kq : Nat) (x34_7 : Bool), v34 = .bool x34_7 ∧ Aside0 (laws_FnExactFormOf.j0 kq l0 t275 x34_7 = some true) ∧ Aside0 (kq ≤ k) ∧ Aside0 (Kd.R k60 60 wc w.heap.size (fun _ => True) (.slice Ao13 t275.length co13) t275) ∧ Aside0 (Below w.heap.size w wc))
  case first =>
   have H := HC8.out
   clear HC8
   by_cases c15 : t278 = t273
   ·rw [if_pos c15] at H
    have c15b0 : (t278 == t273) = true := beq_iff_eq.mpr c15
    have c15b1 : (t278 != t273) = false := bne_eq_false_iff_eq.mpr c15
    clear c15
    (first | rw [c15b0] | (simp only [i64_w, i32_w]; rw [c15b0]) | skip)
    have H' := Aside0.mk H
    clear H
    go_wp2
    go_meet
    case rel => exact ⟨_, ((t279 != t274)), (by first | rfl | (simp; done) | (simp; decide +kernel) | (simp [*]; done)), H', ⟨by first | omega | exact Nat.le_refl _⟩, ⟨by (with_reducible repeat (first | apply Kd.R_alloc | apply Kd.R_drewN | apply Kd.R_drew)); exact Kd.R_mono HO277.out (fun _ hk => trivial)⟩, ⟨by repeat (first | (with_reducible first | exact HB.out | apply below_alloc | apply pw_below_drewN | apply below_drew1) | exact HB.out)⟩⟩
   ·rw [if_neg c15] at H
    have c15b0 : (t278 == t273) = false := beq_eq_false_iff_ne.mpr c15
    have c15b1 : (t278 != t273) = true := bne_iff_ne.mpr c15
    (first | rw [c15b0] | (simp only [i64_w, i32_w]; rw [c15b0]) | skip)
    have H' := Aside0.mk H
    clear H
    go_wp2
    go_meet
    case rel => exact ⟨_, (true), (by first | rfl | (simp; done) | (simp; decide +kernel) | (simp [*]; done)), H', ⟨by first | omega | exact Nat.le_refl _⟩, ⟨by (with_reducible repeat (first | apply Kd.R_alloc | apply Kd.R_drewN | apply Kd.R_drew)); exact Kd.R_mono HO277.out (fun _ hk => trivial)⟩, ⟨by repeat (first | (with_reducible first | exact HB.out | apply below_alloc | apply pw_below_drewN | apply below_drew1) | exact HB.out)⟩⟩
  case rest =>
   clear HC8
   try clear c1
   try clear p2
   try clear c3
   try clear c3b0
   try clear c4
   try clear c12
   try clear c15
   try clear c15b0
   try clear c15b1
   obtain ⟨kq, x34_7, rfl, HA, HJ7, HO_6, HB⟩ := hcut
   cases kq with
   | zero => exact absurd HA.out (by simp [laws_FnExactFormOf.j0])
   | succ kj7 =>
    have H := HA.out
    clear HA
    simp only [laws_FnExactFormOf.j0] at H
    by_cases c16 : x34_7 = true
    ·subst c16
     have H1 : (some false) = some true := by first | (rw [if_pos rfl] at H; exact H) | (rw [if_pos rfl] at H)
     clear H
     have H := H1
     clear H1
     exact absurd H (by simp)
    ·replace c16 := Bool.eq_false_iff.mpr c16
     subst c16
     have H1 : ((laws_toStepS.f kj7 l0).bind fun t280 => ((laws_eqStepS.f kj7 t275 t280).bind fun t283 => (if t283 = true then (some true) else (some false)))) = some true := by first | (rw [if_neg (show ¬ (false = true) by decide)] at H; exact H) | (rw [if_neg (show ¬ (false = true) by decide)] at H)
     clear H
     have H := H1
     clear H1
     replace H := Option.bind_eq_some_iff.mp H
     obtain ⟨t280, A170, H⟩ := H
     replace H : ((laws_eqStepS.f kj7 t275 t280).bind fun t283 => (if t283 = true then (some true) else (some false))) = some true := H
     have A17 := Aside0.mk A170
     clear A170
     replace H := Option.bind_eq_some_iff.mp H
     obtain ⟨t283, A180, H⟩ := H
     replace H : (if t283 = true then (some true) else (some false)) = some true := H
     have A18 := Aside0.mk A180
     clear A180
     by_cases c19 : t283 = true
     ·subst c19
      have H1 : (some true) = some true := by first | (rw [if_pos rfl] at H; exact H) | (rw [if_pos rfl] at H)
      clear H
      have H := H1
      clear H1
      clear H
      go_wp2_with (first | ((with_reducible refine gate_callee (f := 42) rfl ?_); refine goesL_ (some 37) rfl rfl Try.func42 (by kernel_rfl) rfl #[.slice A0 l0.length c0] rfl (by (try simp only [List.map_toArray, List.map_cons, List.map_nil]); first | done | rfl | (simp only [List.length_drop, List.length_take]; rfl)) ?_; (with_reducible refine (laws_toStepS.calls kj7 _ _ l0 t280 _ ?side1 ?side2 A17.out).mono ?_); (case side1 => repeat (first | exact (Kd.C_below HR0.out HB.out) | (with_reducible refine Kd.C_alloc ?_ _) | (with_reducible refine Kd.C_drewN ?_ _) | (with_reducible refine Kd.C_drew ?_))); (case side2 => exact HC0.out); rintro e w20 ⟨v281, rfl, ho0, hb⟩; refine ⟨_, rfl, ?_⟩; have n0_ := Aside0.mk (Kd.R_elder' (by (with_reducible repeat (first | apply Kd.R_alloc | apply Kd.R_drewN | apply Kd.R_drew)); exact HO_6.out) (Kd.R_base ho0) hb); have n1_ := Aside0.mk (Kd.R_lower (Kd.R_new' ho0 (Kd.R_lt (by (with_reducible repeat (first | apply Kd.R_alloc | apply Kd.R_drewN | apply Kd.R_drew)); exact HO_6.out))) (below_size (by repeat (first | (with_reducible first | exact HB.out | apply below_alloc | apply pw_below_drewN | apply below_drew1) | exact HB.out)))); have n2_ := Aside0.mk (below_step (by repeat (first | (with_reducible first | exact HB.out | apply below_alloc | apply pw_below_drewN | apply below_drew1) | exact HB.out)) hb); clear HO_6; clear HB; have HO_6 := n0_; have HO282 := n1_; have HB := n2_; clear n0_ n1_ n2_; (try clear hb); (try clear hb2); (try clear hk); (try clear hi); (try clear ho0); obtain ⟨Ao21, co21, eo21⟩ := Kd.R_slice HO282.out; subst eo21) | ((with_reducible refine gate_callee (f := 44) rfl ?_); refine goesL_ (some 38) rfl rfl Try.func44 (by kernel_rfl) rfl #[.slice Ao13 t275.length co13, .slice Ao21 t280.length co21] rfl (by (try simp only [List.map_toArray, List.map_cons, List.map_nil]); first | done | rfl | (simp only [List.length_drop, List.length_take]; rfl)) ?_; (with_reducible refine (laws_eqStepS.calls kj7 _ _ t275 _ _ t280 true _ ?side1 ?side2 ?side3 ?side4 A18.out).mono ?_); (case side1 => repeat (first | exact (Kd.R_reads' HO_6.out).2.2 | (with_reducible refine Kd.C_alloc ?_ _) | (with_reducible refine Kd.C_drewN ?_ _) | (with_reducible refine Kd.C_drew ?_))); (case side2 => exact (Kd.R_reads' HO_6.out).2.1); (case side3 => repeat (first | exact (Kd.R_reads' HO282.out).2.2 | (with_reducible refine Kd.C_alloc ?_ _) | (with_reducible refine Kd.C_drewN ?_ _) | (with_reducible refine Kd.C_drew ?_))); (case side4 => exact (Kd.R_reads' HO282.out).2.1); rintro e w22 ⟨rfl, hb⟩; refine ⟨_, rfl, ?_⟩; have n0_ := Aside0.mk (Kd.R_below (by (with_reducible repeat (first | apply Kd.R_alloc | apply Kd.R_drewN | apply Kd.R_drew)); exact HO_6.out) hb); have n1_ := Aside0.mk (Kd.R_below (by (with_reducible repeat (first | apply Kd.R_alloc | apply Kd.R_drewN | apply Kd.R_drew)); exact HO282.out) hb); have n2_ := Aside0.mk (below_step (by repeat (first | (with_reducible first | exact HB.out | apply below_alloc | apply pw_below_drewN | apply below_drew1) | exact HB.out)) hb); clear HO_6; clear HO282; clear HB; have HO_6 := n0_; have HO282 := n1_; have HB := n2_; clear n0_ n1_ n2_; (try clear hb); (try clear hb2); (try clear hk); (try clear hi)))
      go_ret
      exact ⟨by first | rfl | (simp <;> rfl) | (simp; decide +kernel) | (simp [*] <;> rfl), by repeat (first | (with_reducible first | exact HB.out | apply below_alloc | apply pw_below_drewN | apply below_drew1) | exact HB.out)⟩
     ·replace c19 := Bool.eq_false_iff.mpr c19
      subst c19
      have H1 : (some false) = some true := by first | (rw [if_neg (show ¬ (false = true) by decide)] at H; exact H) | (rw [if_neg (show ¬ (false = true) by decide)] at H)
      clear H
      have H := H1
      clear H1
      exact absurd H (by simp)

end Go.Proofs.Ytillihiadpgalaa.P
