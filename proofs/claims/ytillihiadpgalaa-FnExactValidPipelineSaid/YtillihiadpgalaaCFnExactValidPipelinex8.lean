-- Printed by drive.py, which calls the kit's print.py with changes of its own.
import Derived.Test.YtillihiadpgalaaCFnExactValidPipelinex0
import Derived.Test.YtillihiadpgalaaCFnExactValidPipelinex1
import Derived.Test.YtillihiadpgalaaCFnExactValidPipelinex2
import Derived.Test.YtillihiadpgalaaCFnExactValidPipelinex3
import Derived.Test.YtillihiadpgalaaCFnExactValidPipelinex5
import Derived.Test.YtillihiadpgalaaCFnExactValidPipelinex7
namespace Go.Proofs.Ytillihiadpgalaa.P
open Go.RowKit Go.Proofs.YtillihiadpgalaaW.PrintWords Go.Proofs.YtillihiadpgalaaW.PrintLast Go.Proofs.YtillihiadpgalaaW.PrintMore
attribute [local go_sem] max2_int min2_int max_two min_two max_three min_three max_four min_four   -- for this text's walks alone
set_option linter.unusedVariables false
set_option linter.unusedSimpArgs false

attribute [local go_sem high] eqA47 eqA48 eqA58
/-! ### spec_l27Step: function 66 -/
mutual
def spec_l27Step.j0 : Nat → Bool → Bool → Bool → Int → Bool → Int → Int → Int → Int → Int → Int → Int → Int → Int → Int → Int → Int → Int → Int → Int → Int → Option (Bool)
 | 0, _, _, _, _, _, _, _, _, _, _, _, _, _, _, _, _, _, _, _, _, _ => none
 | k + 1, x4, x5, x6, x32, x33, x1000, x1001, x1002, x1003, x1004, x1005, x1006, x1007, x1008, x1009, x1010, x1011, x1012, x1013, x1014, x1015 => if x33 = true then ((spec_ValidProjection.f k x1001 x1002 x1003 x1004 x1005).bind fun t145 => (if t145 = true then (if x5 = true then (some x6) else (some false)) else (some false))) else (if x32 = 3 then (spec_l27Step.j1 k x4 x5 x6 x32 (x32 == 3) x1000 x1001 x1002 x1003 x1004 x1005 x1006 x1007 x1008 x1009 x1010 x1011 x1012 x1013 x1014 x1015) else (spec_l27Step.j1 k x4 x5 x6 x32 (x32 == 4) x1000 x1001 x1002 x1003 x1004 x1005 x1006 x1007 x1008 x1009 x1010 x1011 x1012 x1013 x1014 x1015))
def spec_l27Step.j1 : Nat → Bool → Bool → Bool → Int → Bool → Int → Int → Int → Int → Int → Int → Int → Int → Int → Int → Int → Int → Int → Int → Int → Int → Option (Bool)
 | 0, _, _, _, _, _, _, _, _, _, _, _, _, _, _, _, _, _, _, _, _, _ => none
 | k + 1, x4, x5, x6, x32, x47, x1000, x1001, x1002, x1003, x1004, x1005, x1006, x1007, x1008, x1009, x1010, x1011, x1012, x1013, x1014, x1015 => if x47 = true then (if x4 = true then ((spec_ValidEllipsoid.f x1006 x1007 x1008).bind fun t146 => (if t146 = true then (some x6) else (some false))) else (some false)) else (if x32 = 5 then (spec_l27Step.j2 k x4 x5 x6 x32 (x32 == 5) x1000 x1001 x1002 x1003 x1004 x1005 x1006 x1007 x1008 x1009 x1010 x1011 x1012 x1013 x1014 x1015) else (spec_l27Step.j2 k x4 x5 x6 x32 (x32 == 6) x1000 x1001 x1002 x1003 x1004 x1005 x1006 x1007 x1008 x1009 x1010 x1011 x1012 x1013 x1014 x1015))
def spec_l27Step.j2 : Nat → Bool → Bool → Bool → Int → Bool → Int → Int → Int → Int → Int → Int → Int → Int → Int → Int → Int → Int → Int → Int → Int → Int → Option (Bool)
 | 0, _, _, _, _, _, _, _, _, _, _, _, _, _, _, _, _, _, _, _, _, _ => none
 | k + 1, x4, x5, x6, x32, x61, x1000, x1001, x1002, x1003, x1004, x1005, x1006, x1007, x1008, x1009, x1010, x1011, x1012, x1013, x1014, x1015 => if x61 = true then (if x4 = true then (if x5 = true then ((spec_l23Ok.f k x1009 x1010 x1011 x1012 x1013 x1014 x1015).bind fun t147 => (some t147)) else (some false)) else (some false)) else (if x32 = 7 then (if x4 = true then (if x5 = true then (some x6) else (some false)) else (some false)) else (some false))
end
def spec_l27Step.f (k : Nat) (s0_0 : Int) (s0_1 : Int) (s0_2 : Int) (s0_3 : Int) (s0_4 : Int) (s0_5 : Int) (s0_6 : Int) (s0_7 : Int) (s0_8 : Int) (s0_9 : Int) (s0_10 : Int) (s0_11 : Int) (s0_12 : Int) (s0_13 : Int) (s0_14 : Int) (s0_15 : Int) : Option (Bool) := (spec_l27None.f).bind fun bt128 => (if s0_0 = 1 then (spec_l27Step.j0 k (s0_1 == bt128.2.1 && (s0_2 == bt128.2.2.1 && (s0_3 == bt128.2.2.2.1 && (s0_4 == bt128.2.2.2.2.1 && (s0_5 == bt128.2.2.2.2.2.1))))) (s0_6 == bt128.2.2.2.2.2.2.1 && (s0_7 == bt128.2.2.2.2.2.2.2.1 && (s0_8 == bt128.2.2.2.2.2.2.2.2.1))) (s0_9 == bt128.2.2.2.2.2.2.2.2.2.1 && (s0_10 == bt128.2.2.2.2.2.2.2.2.2.2.1 && (s0_11 == bt128.2.2.2.2.2.2.2.2.2.2.2.1 && (s0_12 == bt128.2.2.2.2.2.2.2.2.2.2.2.2.1 && (s0_13 == bt128.2.2.2.2.2.2.2.2.2.2.2.2.2.1 && (s0_14 == bt128.2.2.2.2.2.2.2.2.2.2.2.2.2.2.1 && (s0_15 == bt128.2.2.2.2.2.2.2.2.2.2.2.2.2.2.2))))))) s0_0 (s0_0 == 1) s0_0 s0_1 s0_2 s0_3 s0_4 s0_5 s0_6 s0_7 s0_8 s0_9 s0_10 s0_11 s0_12 s0_13 s0_14 s0_15) else (spec_l27Step.j0 k (s0_1 == bt128.2.1 && (s0_2 == bt128.2.2.1 && (s0_3 == bt128.2.2.2.1 && (s0_4 == bt128.2.2.2.2.1 && (s0_5 == bt128.2.2.2.2.2.1))))) (s0_6 == bt128.2.2.2.2.2.2.1 && (s0_7 == bt128.2.2.2.2.2.2.2.1 && (s0_8 == bt128.2.2.2.2.2.2.2.2.1))) (s0_9 == bt128.2.2.2.2.2.2.2.2.2.1 && (s0_10 == bt128.2.2.2.2.2.2.2.2.2.2.1 && (s0_11 == bt128.2.2.2.2.2.2.2.2.2.2.2.1 && (s0_12 == bt128.2.2.2.2.2.2.2.2.2.2.2.2.1 && (s0_13 == bt128.2.2.2.2.2.2.2.2.2.2.2.2.2.1 && (s0_14 == bt128.2.2.2.2.2.2.2.2.2.2.2.2.2.2.1 && (s0_15 == bt128.2.2.2.2.2.2.2.2.2.2.2.2.2.2.2))))))) s0_0 (s0_0 == 2) s0_0 s0_1 s0_2 s0_3 s0_4 s0_5 s0_6 s0_7 s0_8 s0_9 s0_10 s0_11 s0_12 s0_13 s0_14 s0_15))
theorem spec_l27Step.mono_l : ∀ k, (∀ y0 y1 y2 y3 y4 y5 y6 y7 y8 y9 y10 y11 y12 y13 y14 y15 y16 y17 y18 y19 y20, LeO (spec_l27Step.j0 k y0 y1 y2 y3 y4 y5 y6 y7 y8 y9 y10 y11 y12 y13 y14 y15 y16 y17 y18 y19 y20) (spec_l27Step.j0 (k + 1) y0 y1 y2 y3 y4 y5 y6 y7 y8 y9 y10 y11 y12 y13 y14 y15 y16 y17 y18 y19 y20)) ∧ (∀ y0 y1 y2 y3 y4 y5 y6 y7 y8 y9 y10 y11 y12 y13 y14 y15 y16 y17 y18 y19 y20, LeO (spec_l27Step.j1 k y0 y1 y2 y3 y4 y5 y6 y7 y8 y9 y10 y11 y12 y13 y14 y15 y16 y17 y18 y19 y20) (spec_l27Step.j1 (k + 1) y0 y1 y2 y3 y4 y5 y6 y7 y8 y9 y10 y11 y12 y13 y14 y15 y16 y17 y18 y19 y20)) ∧ (∀ y0 y1 y2 y3 y4 y5 y6 y7 y8 y9 y10 y11 y12 y13 y14 y15 y16 y17 y18 y19 y20, LeO (spec_l27Step.j2 k y0 y1 y2 y3 y4 y5 y6 y7 y8 y9 y10 y11 y12 y13 y14 y15 y16 y17 y18 y19 y20) (spec_l27Step.j2 (k + 1) y0 y1 y2 y3 y4 y5 y6 y7 y8 y9 y10 y11 y12 y13 y14 y15 y16 y17 y18 y19 y20))
 | 0 => ⟨fun _ _ _ _ _ _ _ _ _ _ _ _ _ _ _ _ _ _ _ _ _ r h => by simp [spec_l27Step.j0] at h, fun _ _ _ _ _ _ _ _ _ _ _ _ _ _ _ _ _ _ _ _ _ r h => by simp [spec_l27Step.j1] at h, fun _ _ _ _ _ _ _ _ _ _ _ _ _ _ _ _ _ _ _ _ _ r h => by simp [spec_l27Step.j2] at h⟩
 | k + 1 => by
  obtain ⟨ih0, ih1, ih2⟩ := spec_l27Step.mono_l k
  refine ⟨?_, ?_, ?_⟩
  ·intro y0 y1 y2 y3 y4 y5 y6 y7 y8 y9 y10 y11 y12 y13 y14 y15 y16 y17 y18 y19 y20
   unfold spec_l27Step.j0
   repeat' first
   | (with_reducible exact ih0 _ _ _ _ _ _ _ _ _ _ _ _ _ _ _ _ _ _ _ _ _)
   | (with_reducible exact ih1 _ _ _ _ _ _ _ _ _ _ _ _ _ _ _ _ _ _ _ _ _)
   | (with_reducible exact ih2 _ _ _ _ _ _ _ _ _ _ _ _ _ _ _ _ _ _ _ _ _)
   | (with_reducible exact spec_ValidProjection.mono _ _ _ _ _ _)
   | (with_reducible exact spec_l23Ok.mono _ _ _ _ _ _ _ _)
   | (with_reducible exact LeO.refl _)
   | (with_reducible exact LeO.none _)
   | (with_reducible refine LeO.ite ?_ ?_)
   | (with_reducible refine LeO.bind ?_ (fun _ => ?_))
   | exact ih0 _ _ _ _ _ _ _ _ _ _ _ _ _ _ _ _ _ _ _ _ _
   | exact ih1 _ _ _ _ _ _ _ _ _ _ _ _ _ _ _ _ _ _ _ _ _
   | exact ih2 _ _ _ _ _ _ _ _ _ _ _ _ _ _ _ _ _ _ _ _ _
   | exact spec_ValidProjection.mono _ _ _ _ _ _
   | exact spec_l23Ok.mono _ _ _ _ _ _ _ _
   | exact LeO.none _
   | refine LeO.ite ?_ ?_
   | refine LeO.bind ?_ (fun _ => ?_)
  ·intro y0 y1 y2 y3 y4 y5 y6 y7 y8 y9 y10 y11 y12 y13 y14 y15 y16 y17 y18 y19 y20
   unfold spec_l27Step.j1
   repeat' first
   | (with_reducible exact ih0 _ _ _ _ _ _ _ _ _ _ _ _ _ _ _ _ _ _ _ _ _)
   | (with_reducible exact ih1 _ _ _ _ _ _ _ _ _ _ _ _ _ _ _ _ _ _ _ _ _)
   | (with_reducible exact ih2 _ _ _ _ _ _ _ _ _ _ _ _ _ _ _ _ _ _ _ _ _)
   | (with_reducible exact spec_ValidProjection.mono _ _ _ _ _ _)
   | (with_reducible exact spec_l23Ok.mono _ _ _ _ _ _ _ _)
   | (with_reducible exact LeO.refl _)
   | (with_reducible exact LeO.none _)
   | (with_reducible refine LeO.ite ?_ ?_)
   | (with_reducible refine LeO.bind ?_ (fun _ => ?_))
   | exact ih0 _ _ _ _ _ _ _ _ _ _ _ _ _ _ _ _ _ _ _ _ _
   | exact ih1 _ _ _ _ _ _ _ _ _ _ _ _ _ _ _ _ _ _ _ _ _
   | exact ih2 _ _ _ _ _ _ _ _ _ _ _ _ _ _ _ _ _ _ _ _ _
   | exact spec_ValidProjection.mono _ _ _ _ _ _
   | exact spec_l23Ok.mono _ _ _ _ _ _ _ _
   | exact LeO.none _
   | refine LeO.ite ?_ ?_
   | refine LeO.bind ?_ (fun _ => ?_)
  ·intro y0 y1 y2 y3 y4 y5 y6 y7 y8 y9 y10 y11 y12 y13 y14 y15 y16 y17 y18 y19 y20
   unfold spec_l27Step.j2
   repeat' first
   | (with_reducible exact ih0 _ _ _ _ _ _ _ _ _ _ _ _ _ _ _ _ _ _ _ _ _)
   | (with_reducible exact ih1 _ _ _ _ _ _ _ _ _ _ _ _ _ _ _ _ _ _ _ _ _)
   | (with_reducible exact ih2 _ _ _ _ _ _ _ _ _ _ _ _ _ _ _ _ _ _ _ _ _)
   | (with_reducible exact spec_ValidProjection.mono _ _ _ _ _ _)
   | (with_reducible exact spec_l23Ok.mono _ _ _ _ _ _ _ _)
   | (with_reducible exact LeO.refl _)
   | (with_reducible exact LeO.none _)
   | (with_reducible refine LeO.ite ?_ ?_)
   | (with_reducible refine LeO.bind ?_ (fun _ => ?_))
   | exact ih0 _ _ _ _ _ _ _ _ _ _ _ _ _ _ _ _ _ _ _ _ _
   | exact ih1 _ _ _ _ _ _ _ _ _ _ _ _ _ _ _ _ _ _ _ _ _
   | exact ih2 _ _ _ _ _ _ _ _ _ _ _ _ _ _ _ _ _ _ _ _ _
   | exact spec_ValidProjection.mono _ _ _ _ _ _
   | exact spec_l23Ok.mono _ _ _ _ _ _ _ _
   | exact LeO.none _
   | refine LeO.ite ?_ ?_
   | refine LeO.bind ?_ (fun _ => ?_)
theorem spec_l27Step.mono : ∀ a0 a1 a2 a3 a4 a5 a6 a7 a8 a9 a10 a11 a12 a13 a14 a15 k, LeO (spec_l27Step.f k a0 a1 a2 a3 a4 a5 a6 a7 a8 a9 a10 a11 a12 a13 a14 a15) (spec_l27Step.f (k + 1) a0 a1 a2 a3 a4 a5 a6 a7 a8 a9 a10 a11 a12 a13 a14 a15) := by
 intro a0 a1 a2 a3 a4 a5 a6 a7 a8 a9 a10 a11 a12 a13 a14 a15 k
 obtain ⟨ih0, ih1, ih2⟩ := spec_l27Step.mono_l k
 unfold spec_l27Step.f
 repeat' first
   | (with_reducible exact ih0 _ _ _ _ _ _ _ _ _ _ _ _ _ _ _ _ _ _ _ _ _)
   | (with_reducible exact ih1 _ _ _ _ _ _ _ _ _ _ _ _ _ _ _ _ _ _ _ _ _)
   | (with_reducible exact ih2 _ _ _ _ _ _ _ _ _ _ _ _ _ _ _ _ _ _ _ _ _)
   | (with_reducible exact spec_ValidProjection.mono _ _ _ _ _ _)
   | (with_reducible exact spec_l23Ok.mono _ _ _ _ _ _ _ _)
   | (with_reducible exact LeO.refl _)
   | (with_reducible exact LeO.none _)
   | (with_reducible refine LeO.ite ?_ ?_)
   | (with_reducible refine LeO.bind ?_ (fun _ => ?_))
   | exact ih0 _ _ _ _ _ _ _ _ _ _ _ _ _ _ _ _ _ _ _ _ _
   | exact ih1 _ _ _ _ _ _ _ _ _ _ _ _ _ _ _ _ _ _ _ _ _
   | exact ih2 _ _ _ _ _ _ _ _ _ _ _ _ _ _ _ _ _ _ _ _ _
   | exact spec_ValidProjection.mono _ _ _ _ _ _
   | exact spec_l23Ok.mono _ _ _ _ _ _ _ _
   | exact LeO.none _
   | refine LeO.ite ?_ ?_
   | refine LeO.bind ?_ (fun _ => ?_)
set_option maxHeartbeats 8000000 in
set_option maxRecDepth 100000 in
theorem spec_l27Step.calls (k : Nat) (p0_ : Addr) (s0_0 : Int) (s0_1 : Int) (s0_2 : Int) (s0_3 : Int) (s0_4 : Int) (s0_5 : Int) (s0_6 : Int) (s0_7 : Int) (s0_8 : Int) (s0_9 : Int) (s0_10 : Int) (s0_11 : Int) (s0_12 : Int) (s0_13 : Int) (s0_14 : Int) (s0_15 : Int) (r : Bool) (w : World) (hp0_0 : w.cell? p0_ = some (.int .i64 s0_0)) (hp0_1 : w.cell? ⟨p0_.block, p0_.off + 1, none⟩ = some (.int .i64 s0_1)) (hp0_2 : w.cell? ⟨p0_.block, p0_.off + 2, none⟩ = some (.int .i64 s0_2)) (hp0_3 : w.cell? ⟨p0_.block, p0_.off + 3, none⟩ = some (.int .i64 s0_3)) (hp0_4 : w.cell? ⟨p0_.block, p0_.off + 4, none⟩ = some (.int .i64 s0_4)) (hp0_5 : w.cell? ⟨p0_.block, p0_.off + 5, none⟩ = some (.int .i64 s0_5)) (hp0_6 : w.cell? ⟨p0_.block, p0_.off + 6, none⟩ = some (.int .i64 s0_6)) (hp0_7 : w.cell? ⟨p0_.block, p0_.off + 7, none⟩ = some (.int .i64 s0_7)) (hp0_8 : w.cell? ⟨p0_.block, p0_.off + 8, none⟩ = some (.int .i64 s0_8)) (hp0_9 : w.cell? ⟨p0_.block, p0_.off + 9, none⟩ = some (.int .i64 s0_9)) (hp0_10 : w.cell? ⟨p0_.block, p0_.off + 10, none⟩ = some (.int .i64 s0_10)) (hp0_11 : w.cell? ⟨p0_.block, p0_.off + 11, none⟩ = some (.int .i64 s0_11)) (hp0_12 : w.cell? ⟨p0_.block, p0_.off + 12, none⟩ = some (.int .i64 s0_12)) (hp0_13 : w.cell? ⟨p0_.block, p0_.off + 13, none⟩ = some (.int .i64 s0_13)) (hp0_14 : w.cell? ⟨p0_.block, p0_.off + 14, none⟩ = some (.int .i64 s0_14)) (hp0_15 : w.cell? ⟨p0_.block, p0_.off + 15, none⟩ = some (.int .i64 s0_15)) (h : spec_l27Step.f k s0_0 s0_1 s0_2 s0_3 s0_4 s0_5 s0_6 s0_7 s0_8 s0_9 s0_10 s0_11 s0_12 s0_13 s0_14 s0_15 = some r) :
  Calls Try.prog 66 #[.pointer (some p0_)] w fun e w' => e = .returned (.bool r) ∧ Below w.heap.size w w' := by
 have hu60 := Try.underlying60
 have hu48 := Try.underlying48
 have hu47 := Try.underlying47
 have hu58 := Try.underlying58
 obtain ⟨g0_, o0_, x0_⟩ := p0_
 dsimp only at hp0_1 hp0_2 hp0_3 hp0_4 hp0_5 hp0_6 hp0_7 hp0_8 hp0_9 hp0_10 hp0_11 hp0_12 hp0_13 hp0_14 hp0_15
 have HP0_0 := Aside0.mk hp0_0
 clear hp0_0
 have HP0_1 := Aside0.mk hp0_1
 clear hp0_1
 have HP0_2 := Aside0.mk hp0_2
 clear hp0_2
 have HP0_3 := Aside0.mk hp0_3
 clear hp0_3
 have HP0_4 := Aside0.mk hp0_4
 clear hp0_4
 have HP0_5 := Aside0.mk hp0_5
 clear hp0_5
 have HP0_6 := Aside0.mk hp0_6
 clear hp0_6
 have HP0_7 := Aside0.mk hp0_7
 clear hp0_7
 have HP0_8 := Aside0.mk hp0_8
 clear hp0_8
 have HP0_9 := Aside0.mk hp0_9
 clear hp0_9
 have HP0_10 := Aside0.mk hp0_10
 clear hp0_10
 have HP0_11 := Aside0.mk hp0_11
 clear hp0_11
 have HP0_12 := Aside0.mk hp0_12
 clear hp0_12
 have HP0_13 := Aside0.mk hp0_13
 clear hp0_13
 have HP0_14 := Aside0.mk hp0_14
 clear hp0_14
 have HP0_15 := Aside0.mk hp0_15
 clear hp0_15
 have HB := Aside0.mk (Below.refl w.heap.size w)
 have H : ((spec_l27None.f).bind fun bt128 => (if s0_0 = 1 then (spec_l27Step.j0 k (s0_1 == bt128.2.1 && (s0_2 == bt128.2.2.1 && (s0_3 == bt128.2.2.2.1 && (s0_4 == bt128.2.2.2.2.1 && (s0_5 == bt128.2.2.2.2.2.1))))) (s0_6 == bt128.2.2.2.2.2.2.1 && (s0_7 == bt128.2.2.2.2.2.2.2.1 && (s0_8 == bt128.2.2.2.2.2.2.2.2.1))) (s0_9 == bt128.2.2.2.2.2.2.2.2.2.1 && (s0_10 == bt128.2.2.2.2.2.2.2.2.2.2.1 && (s0_11 == bt128.2.2.2.2.2.2.2.2.2.2.2.1 && (s0_12 == bt128.2.2.2.2.2.2.2.2.2.2.2.2.1 && (s0_13 == bt128.2.2.2.2.2.2.2.2.2.2.2.2.2.1 && (s0_14 == bt128.2.2.2.2.2.2.2.2.2.2.2.2.2.2.1 && (s0_15 == bt128.2.2.2.2.2.2.2.2.2.2.2.2.2.2.2))))))) s0_0 (s0_0 == 1) s0_0 s0_1 s0_2 s0_3 s0_4 s0_5 s0_6 s0_7 s0_8 s0_9 s0_10 s0_11 s0_12 s0_13 s0_14 s0_15) else (spec_l27Step.j0 k (s0_1 == bt128.2.1 && (s0_2 == bt128.2.2.1 && (s0_3 == bt128.2.2.2.1 && (s0_4 == bt128.2.2.2.2.1 && (s0_5 == bt128.2.2.2.2.2.1))))) (s0_6 == bt128.2.2.2.2.2.2.1 && (s0_7 == bt128.2.2.2.2.2.2.2.1 && (s0_8 == bt128.2.2.2.2.2.2.2.2.1))) (s0_9 == bt128.2.2.2.2.2.2.2.2.2.1 && (s0_10 == bt128.2.2.2.2.2.2.2.2.2.2.1 && (s0_11 == bt128.2.2.2.2.2.2.2.2.2.2.2.1 && (s0_12 == bt128.2.2.2.2.2.2.2.2.2.2.2.2.1 && (s0_13 == bt128.2.2.2.2.2.2.2.2.2.2.2.2.2.1 && (s0_14 == bt128.2.2.2.2.2.2.2.2.2.2.2.2.2.2.1 && (s0_15 == bt128.2.2.2.2.2.2.2.2.2.2.2.2.2.2.2))))))) s0_0 (s0_0 == 2) s0_0 s0_1 s0_2 s0_3 s0_4 s0_5 s0_6 s0_7 s0_8 s0_9 s0_10 s0_11 s0_12 s0_13 s0_14 s0_15))) = some r := h
 clear h
 replace H := Option.bind_eq_some_iff.mp H
 obtain ⟨⟨t128, t129, t130, t131, t132, t133, t134, t135, t136, t137, t138, t139, t140, t141, t142, t143⟩, A20, H⟩ := H
 replace H : (if s0_0 = 1 then (spec_l27Step.j0 k (s0_1 == t129 && (s0_2 == t130 && (s0_3 == t131 && (s0_4 == t132 && (s0_5 == t133))))) (s0_6 == t134 && (s0_7 == t135 && (s0_8 == t136))) (s0_9 == t137 && (s0_10 == t138 && (s0_11 == t139 && (s0_12 == t140 && (s0_13 == t141 && (s0_14 == t142 && (s0_15 == t143))))))) s0_0 (s0_0 == 1) s0_0 s0_1 s0_2 s0_3 s0_4 s0_5 s0_6 s0_7 s0_8 s0_9 s0_10 s0_11 s0_12 s0_13 s0_14 s0_15) else (spec_l27Step.j0 k (s0_1 == t129 && (s0_2 == t130 && (s0_3 == t131 && (s0_4 == t132 && (s0_5 == t133))))) (s0_6 == t134 && (s0_7 == t135 && (s0_8 == t136))) (s0_9 == t137 && (s0_10 == t138 && (s0_11 == t139 && (s0_12 == t140 && (s0_13 == t141 && (s0_14 == t142 && (s0_15 == t143))))))) s0_0 (s0_0 == 2) s0_0 s0_1 s0_2 s0_3 s0_4 s0_5 s0_6 s0_7 s0_8 s0_9 s0_10 s0_11 s0_12 s0_13 s0_14 s0_15)) = some r := H
 have A2 := Aside0.mk A20
 clear A20
 have HC3 := Aside0.mk H
 clear H
 go_enter Try.func66, Try.ntmps66
 go_upto_if 33 with (first | (go_at_call 98; (with_reducible refine (spec_l27None.calls  t128 t129 t130 t131 t132 t133 t134 t135 t136 t137 t138 t139 t140 t141 t142 t143 _ A2.out).mono ?_); rintro e w4 ⟨rfl, hb⟩; have n0_ := Aside0.mk (below_step (by repeat (first | (with_reducible first | exact HB.out | apply below_alloc | apply pw_below_drewN | apply below_drew1) | exact HB.out)) hb); clear HB; have HB := n0_; clear n0_; (try clear hb); (try clear hb2); (try clear hk); (try clear hi)) | ((with_reducible refine gate_dst (N := 3) rfl ?_); refine box_event ?hg (N := 3) ?hd (cs := #[.int .i64 0, .int .i64 0, .int .i64 0, .int .i64 0, .int .i64 0, .int .i64 0, .int .i64 0, .int .i64 0, .int .i64 0, .int .i64 0, .int .i64 0, .int .i64 0, .int .i64 0, .int .i64 0, .int .i64 0, .int .i64 0]) (t := 60) ?hr ?_; (case hd => rfl); (case hg => rfl); (case hr => first | (go_simp; done) | (go_simp; rfl)); intro gb144 hg w5 hbox hb; have n0_ := Aside0.mk (below_step (by repeat (first | (with_reducible first | exact HB.out | apply below_alloc | apply pw_below_drewN | apply below_drew1) | exact HB.out)) hb); have n1_ := Aside0.mk (hbox); have n2_ := Aside0.mk ((by rw [hg]; exact (below_size (by repeat (first | (with_reducible first | exact HB.out | apply below_alloc | apply pw_below_drewN | apply below_drew1) | exact HB.out))) : w.heap.size ≤ gb144)); have n3_ := n2_; clear HB; have HB := n0_; have BK144 := n1_; have GW144 := n2_; have GE144 := n3_; clear n0_ n1_ n2_ n3_; clear hb hbox hg; have hcz6_0 := bcell BK144.out 0 (.int .i64 0) rfl; have hcz6_1 := bcell BK144.out 1 (.int .i64 0) rfl; have hcz6_2 := bcell BK144.out 2 (.int .i64 0) rfl; have hcz6_3 := bcell BK144.out 3 (.int .i64 0) rfl; have hcz6_4 := bcell BK144.out 4 (.int .i64 0) rfl; have hcz6_5 := bcell BK144.out 5 (.int .i64 0) rfl; have hcz6_6 := bcell BK144.out 6 (.int .i64 0) rfl; have hcz6_7 := bcell BK144.out 7 (.int .i64 0) rfl; have hcz6_8 := bcell BK144.out 8 (.int .i64 0) rfl; have hcz6_9 := bcell BK144.out 9 (.int .i64 0) rfl; have hcz6_10 := bcell BK144.out 10 (.int .i64 0) rfl; have hcz6_11 := bcell BK144.out 11 (.int .i64 0) rfl; have hcz6_12 := bcell BK144.out 12 (.int .i64 0) rfl; have hcz6_13 := bcell BK144.out 13 (.int .i64 0) rfl; have hcz6_14 := bcell BK144.out 14 (.int .i64 0) rfl; have hcz6_15 := bcell BK144.out 15 (.int .i64 0) rfl; have hfz6_0 := blk_frozen BK144.out 0; have hfz6_1 := blk_frozen BK144.out 1; have hfz6_2 := blk_frozen BK144.out 2; have hfz6_3 := blk_frozen BK144.out 3; have hfz6_4 := blk_frozen BK144.out 4; have hfz6_5 := blk_frozen BK144.out 5; have hfz6_6 := blk_frozen BK144.out 6; have hfz6_7 := blk_frozen BK144.out 7; have hfz6_8 := blk_frozen BK144.out 8; have hfz6_9 := blk_frozen BK144.out 9; have hfz6_10 := blk_frozen BK144.out 10; have hfz6_11 := blk_frozen BK144.out 11; have hfz6_12 := blk_frozen BK144.out 12; have hfz6_13 := blk_frozen BK144.out 13; have hfz6_14 := blk_frozen BK144.out 14; have hfz6_15 := blk_frozen BK144.out 15; have hcz7_0 : w5.cell? ⟨g0_, o0_, x0_⟩ = some (.int .i64 s0_0) := pw_cell_below HB.out HP0_0.out; have hcz7_1 : w5.cell? ⟨g0_, o0_ + 1, none⟩ = some (.int .i64 s0_1) := pw_cell_below HB.out HP0_1.out; have hcz7_2 : w5.cell? ⟨g0_, o0_ + 2, none⟩ = some (.int .i64 s0_2) := pw_cell_below HB.out HP0_2.out; have hcz7_3 : w5.cell? ⟨g0_, o0_ + 3, none⟩ = some (.int .i64 s0_3) := pw_cell_below HB.out HP0_3.out; have hcz7_4 : w5.cell? ⟨g0_, o0_ + 4, none⟩ = some (.int .i64 s0_4) := pw_cell_below HB.out HP0_4.out; have hcz7_5 : w5.cell? ⟨g0_, o0_ + 5, none⟩ = some (.int .i64 s0_5) := pw_cell_below HB.out HP0_5.out; have hcz7_6 : w5.cell? ⟨g0_, o0_ + 6, none⟩ = some (.int .i64 s0_6) := pw_cell_below HB.out HP0_6.out; have hcz7_7 : w5.cell? ⟨g0_, o0_ + 7, none⟩ = some (.int .i64 s0_7) := pw_cell_below HB.out HP0_7.out; have hcz7_8 : w5.cell? ⟨g0_, o0_ + 8, none⟩ = some (.int .i64 s0_8) := pw_cell_below HB.out HP0_8.out; have hcz7_9 : w5.cell? ⟨g0_, o0_ + 9, none⟩ = some (.int .i64 s0_9) := pw_cell_below HB.out HP0_9.out; have hcz7_10 : w5.cell? ⟨g0_, o0_ + 10, none⟩ = some (.int .i64 s0_10) := pw_cell_below HB.out HP0_10.out; have hcz7_11 : w5.cell? ⟨g0_, o0_ + 11, none⟩ = some (.int .i64 s0_11) := pw_cell_below HB.out HP0_11.out; have hcz7_12 : w5.cell? ⟨g0_, o0_ + 12, none⟩ = some (.int .i64 s0_12) := pw_cell_below HB.out HP0_12.out; have hcz7_13 : w5.cell? ⟨g0_, o0_ + 13, none⟩ = some (.int .i64 s0_13) := pw_cell_below HB.out HP0_13.out; have hcz7_14 : w5.cell? ⟨g0_, o0_ + 14, none⟩ = some (.int .i64 s0_14) := pw_cell_below HB.out HP0_14.out; have hcz7_15 : w5.cell? ⟨g0_, o0_ + 15, none⟩ = some (.int .i64 s0_15) := pw_cell_below HB.out HP0_15.out; have hnrz7_144 : g0_ ≠ gb144 := Nat.ne_of_lt (Nat.lt_of_lt_of_le (World.block_lt_of_cell? _ _ HP0_0.out) GW144.out); have hnsz7_144 := hnrz7_144.symm))
 repeat (go_quiet (first | (go_at_call 98; (with_reducible refine (spec_l27None.calls  t128 t129 t130 t131 t132 t133 t134 t135 t136 t137 t138 t139 t140 t141 t142 t143 _ A2.out).mono ?_); rintro e w4 ⟨rfl, hb⟩; have n0_ := Aside0.mk (below_step (by repeat (first | (with_reducible first | exact HB.out | apply below_alloc | apply pw_below_drewN | apply below_drew1) | exact HB.out)) hb); clear HB; have HB := n0_; clear n0_; (try clear hb); (try clear hb2); (try clear hk); (try clear hi)) | ((with_reducible refine gate_dst (N := 3) rfl ?_); refine box_event ?hg (N := 3) ?hd (cs := #[.int .i64 0, .int .i64 0, .int .i64 0, .int .i64 0, .int .i64 0, .int .i64 0, .int .i64 0, .int .i64 0, .int .i64 0, .int .i64 0, .int .i64 0, .int .i64 0, .int .i64 0, .int .i64 0, .int .i64 0, .int .i64 0]) (t := 60) ?hr ?_; (case hd => rfl); (case hg => rfl); (case hr => first | (go_simp; done) | (go_simp; rfl)); intro gb144 hg w5 hbox hb; have n0_ := Aside0.mk (below_step (by repeat (first | (with_reducible first | exact HB.out | apply below_alloc | apply pw_below_drewN | apply below_drew1) | exact HB.out)) hb); have n1_ := Aside0.mk (hbox); have n2_ := Aside0.mk ((by rw [hg]; exact (below_size (by repeat (first | (with_reducible first | exact HB.out | apply below_alloc | apply pw_below_drewN | apply below_drew1) | exact HB.out))) : w.heap.size ≤ gb144)); have n3_ := n2_; clear HB; have HB := n0_; have BK144 := n1_; have GW144 := n2_; have GE144 := n3_; clear n0_ n1_ n2_ n3_; clear hb hbox hg; have hcz6_0 := bcell BK144.out 0 (.int .i64 0) rfl; have hcz6_1 := bcell BK144.out 1 (.int .i64 0) rfl; have hcz6_2 := bcell BK144.out 2 (.int .i64 0) rfl; have hcz6_3 := bcell BK144.out 3 (.int .i64 0) rfl; have hcz6_4 := bcell BK144.out 4 (.int .i64 0) rfl; have hcz6_5 := bcell BK144.out 5 (.int .i64 0) rfl; have hcz6_6 := bcell BK144.out 6 (.int .i64 0) rfl; have hcz6_7 := bcell BK144.out 7 (.int .i64 0) rfl; have hcz6_8 := bcell BK144.out 8 (.int .i64 0) rfl; have hcz6_9 := bcell BK144.out 9 (.int .i64 0) rfl; have hcz6_10 := bcell BK144.out 10 (.int .i64 0) rfl; have hcz6_11 := bcell BK144.out 11 (.int .i64 0) rfl; have hcz6_12 := bcell BK144.out 12 (.int .i64 0) rfl; have hcz6_13 := bcell BK144.out 13 (.int .i64 0) rfl; have hcz6_14 := bcell BK144.out 14 (.int .i64 0) rfl; have hcz6_15 := bcell BK144.out 15 (.int .i64 0) rfl; have hfz6_0 := blk_frozen BK144.out 0; have hfz6_1 := blk_frozen BK144.out 1; have hfz6_2 := blk_frozen BK144.out 2; have hfz6_3 := blk_frozen BK144.out 3; have hfz6_4 := blk_frozen BK144.out 4; have hfz6_5 := blk_frozen BK144.out 5; have hfz6_6 := blk_frozen BK144.out 6; have hfz6_7 := blk_frozen BK144.out 7; have hfz6_8 := blk_frozen BK144.out 8; have hfz6_9 := blk_frozen BK144.out 9; have hfz6_10 := blk_frozen BK144.out 10; have hfz6_11 := blk_frozen BK144.out 11; have hfz6_12 := blk_frozen BK144.out 12; have hfz6_13 := blk_frozen BK144.out 13; have hfz6_14 := blk_frozen BK144.out 14; have hfz6_15 := blk_frozen BK144.out 15; have hcz7_0 : w5.cell? ⟨g0_, o0_, x0_⟩ = some (.int .i64 s0_0) := pw_cell_below HB.out HP0_0.out; have hcz7_1 : w5.cell? ⟨g0_, o0_ + 1, none⟩ = some (.int .i64 s0_1) := pw_cell_below HB.out HP0_1.out; have hcz7_2 : w5.cell? ⟨g0_, o0_ + 2, none⟩ = some (.int .i64 s0_2) := pw_cell_below HB.out HP0_2.out; have hcz7_3 : w5.cell? ⟨g0_, o0_ + 3, none⟩ = some (.int .i64 s0_3) := pw_cell_below HB.out HP0_3.out; have hcz7_4 : w5.cell? ⟨g0_, o0_ + 4, none⟩ = some (.int .i64 s0_4) := pw_cell_below HB.out HP0_4.out; have hcz7_5 : w5.cell? ⟨g0_, o0_ + 5, none⟩ = some (.int .i64 s0_5) := pw_cell_below HB.out HP0_5.out; have hcz7_6 : w5.cell? ⟨g0_, o0_ + 6, none⟩ = some (.int .i64 s0_6) := pw_cell_below HB.out HP0_6.out; have hcz7_7 : w5.cell? ⟨g0_, o0_ + 7, none⟩ = some (.int .i64 s0_7) := pw_cell_below HB.out HP0_7.out; have hcz7_8 : w5.cell? ⟨g0_, o0_ + 8, none⟩ = some (.int .i64 s0_8) := pw_cell_below HB.out HP0_8.out; have hcz7_9 : w5.cell? ⟨g0_, o0_ + 9, none⟩ = some (.int .i64 s0_9) := pw_cell_below HB.out HP0_9.out; have hcz7_10 : w5.cell? ⟨g0_, o0_ + 10, none⟩ = some (.int .i64 s0_10) := pw_cell_below HB.out HP0_10.out; have hcz7_11 : w5.cell? ⟨g0_, o0_ + 11, none⟩ = some (.int .i64 s0_11) := pw_cell_below HB.out HP0_11.out; have hcz7_12 : w5.cell? ⟨g0_, o0_ + 12, none⟩ = some (.int .i64 s0_12) := pw_cell_below HB.out HP0_12.out; have hcz7_13 : w5.cell? ⟨g0_, o0_ + 13, none⟩ = some (.int .i64 s0_13) := pw_cell_below HB.out HP0_13.out; have hcz7_14 : w5.cell? ⟨g0_, o0_ + 14, none⟩ = some (.int .i64 s0_14) := pw_cell_below HB.out HP0_14.out; have hcz7_15 : w5.cell? ⟨g0_, o0_ + 15, none⟩ = some (.int .i64 s0_15) := pw_cell_below HB.out HP0_15.out; have hnrz7_144 : g0_ ≠ gb144 := Nat.ne_of_lt (Nat.lt_of_lt_of_le (World.block_lt_of_cell? _ _ HP0_0.out) GW144.out); have hnsz7_144 := hnrz7_144.symm)); go_upto_if 33 with (first | (go_at_call 98; (with_reducible refine (spec_l27None.calls  t128 t129 t130 t131 t132 t133 t134 t135 t136 t137 t138 t139 t140 t141 t142 t143 _ A2.out).mono ?_); rintro e w4 ⟨rfl, hb⟩; have n0_ := Aside0.mk (below_step (by repeat (first | (with_reducible first | exact HB.out | apply below_alloc | apply pw_below_drewN | apply below_drew1) | exact HB.out)) hb); clear HB; have HB := n0_; clear n0_; (try clear hb); (try clear hb2); (try clear hk); (try clear hi)) | ((with_reducible refine gate_dst (N := 3) rfl ?_); refine box_event ?hg (N := 3) ?hd (cs := #[.int .i64 0, .int .i64 0, .int .i64 0, .int .i64 0, .int .i64 0, .int .i64 0, .int .i64 0, .int .i64 0, .int .i64 0, .int .i64 0, .int .i64 0, .int .i64 0, .int .i64 0, .int .i64 0, .int .i64 0, .int .i64 0]) (t := 60) ?hr ?_; (case hd => rfl); (case hg => rfl); (case hr => first | (go_simp; done) | (go_simp; rfl)); intro gb144 hg w5 hbox hb; have n0_ := Aside0.mk (below_step (by repeat (first | (with_reducible first | exact HB.out | apply below_alloc | apply pw_below_drewN | apply below_drew1) | exact HB.out)) hb); have n1_ := Aside0.mk (hbox); have n2_ := Aside0.mk ((by rw [hg]; exact (below_size (by repeat (first | (with_reducible first | exact HB.out | apply below_alloc | apply pw_below_drewN | apply below_drew1) | exact HB.out))) : w.heap.size ≤ gb144)); have n3_ := n2_; clear HB; have HB := n0_; have BK144 := n1_; have GW144 := n2_; have GE144 := n3_; clear n0_ n1_ n2_ n3_; clear hb hbox hg; have hcz6_0 := bcell BK144.out 0 (.int .i64 0) rfl; have hcz6_1 := bcell BK144.out 1 (.int .i64 0) rfl; have hcz6_2 := bcell BK144.out 2 (.int .i64 0) rfl; have hcz6_3 := bcell BK144.out 3 (.int .i64 0) rfl; have hcz6_4 := bcell BK144.out 4 (.int .i64 0) rfl; have hcz6_5 := bcell BK144.out 5 (.int .i64 0) rfl; have hcz6_6 := bcell BK144.out 6 (.int .i64 0) rfl; have hcz6_7 := bcell BK144.out 7 (.int .i64 0) rfl; have hcz6_8 := bcell BK144.out 8 (.int .i64 0) rfl; have hcz6_9 := bcell BK144.out 9 (.int .i64 0) rfl; have hcz6_10 := bcell BK144.out 10 (.int .i64 0) rfl; have hcz6_11 := bcell BK144.out 11 (.int .i64 0) rfl; have hcz6_12 := bcell BK144.out 12 (.int .i64 0) rfl; have hcz6_13 := bcell BK144.out 13 (.int .i64 0) rfl; have hcz6_14 := bcell BK144.out 14 (.int .i64 0) rfl; have hcz6_15 := bcell BK144.out 15 (.int .i64 0) rfl; have hfz6_0 := blk_frozen BK144.out 0; have hfz6_1 := blk_frozen BK144.out 1; have hfz6_2 := blk_frozen BK144.out 2; have hfz6_3 := blk_frozen BK144.out 3; have hfz6_4 := blk_frozen BK144.out 4; have hfz6_5 := blk_frozen BK144.out 5; have hfz6_6 := blk_frozen BK144.out 6; have hfz6_7 := blk_frozen BK144.out 7; have hfz6_8 := blk_frozen BK144.out 8; have hfz6_9 := blk_frozen BK144.out 9; have hfz6_10 := blk_frozen BK144.out 10; have hfz6_11 := blk_frozen BK144.out 11; have hfz6_12 := blk_frozen BK144.out 12; have hfz6_13 := blk_frozen BK144.out 13; have hfz6_14 := blk_frozen BK144.out 14; have hfz6_15 := blk_frozen BK144.out 15; have hcz7_0 : w5.cell? ⟨g0_, o0_, x0_⟩ = some (.int .i64 s0_0) := pw_cell_below HB.out HP0_0.out; have hcz7_1 : w5.cell? ⟨g0_, o0_ + 1, none⟩ = some (.int .i64 s0_1) := pw_cell_below HB.out HP0_1.out; have hcz7_2 : w5.cell? ⟨g0_, o0_ + 2, none⟩ = some (.int .i64 s0_2) := pw_cell_below HB.out HP0_2.out; have hcz7_3 : w5.cell? ⟨g0_, o0_ + 3, none⟩ = some (.int .i64 s0_3) := pw_cell_below HB.out HP0_3.out; have hcz7_4 : w5.cell? ⟨g0_, o0_ + 4, none⟩ = some (.int .i64 s0_4) := pw_cell_below HB.out HP0_4.out; have hcz7_5 : w5.cell? ⟨g0_, o0_ + 5, none⟩ = some (.int .i64 s0_5) := pw_cell_below HB.out HP0_5.out; have hcz7_6 : w5.cell? ⟨g0_, o0_ + 6, none⟩ = some (.int .i64 s0_6) := pw_cell_below HB.out HP0_6.out; have hcz7_7 : w5.cell? ⟨g0_, o0_ + 7, none⟩ = some (.int .i64 s0_7) := pw_cell_below HB.out HP0_7.out; have hcz7_8 : w5.cell? ⟨g0_, o0_ + 8, none⟩ = some (.int .i64 s0_8) := pw_cell_below HB.out HP0_8.out; have hcz7_9 : w5.cell? ⟨g0_, o0_ + 9, none⟩ = some (.int .i64 s0_9) := pw_cell_below HB.out HP0_9.out; have hcz7_10 : w5.cell? ⟨g0_, o0_ + 10, none⟩ = some (.int .i64 s0_10) := pw_cell_below HB.out HP0_10.out; have hcz7_11 : w5.cell? ⟨g0_, o0_ + 11, none⟩ = some (.int .i64 s0_11) := pw_cell_below HB.out HP0_11.out; have hcz7_12 : w5.cell? ⟨g0_, o0_ + 12, none⟩ = some (.int .i64 s0_12) := pw_cell_below HB.out HP0_12.out; have hcz7_13 : w5.cell? ⟨g0_, o0_ + 13, none⟩ = some (.int .i64 s0_13) := pw_cell_below HB.out HP0_13.out; have hcz7_14 : w5.cell? ⟨g0_, o0_ + 14, none⟩ = some (.int .i64 s0_14) := pw_cell_below HB.out HP0_14.out; have hcz7_15 : w5.cell? ⟨g0_, o0_ + 15, none⟩ = some (.int .i64 s0_15) := pw_cell_below HB.out HP0_15.out; have hnrz7_144 : g0_ ≠ gb144 := Nat.ne_of_lt (Nat.lt_of_lt_of_le (World.block_lt_of_cell? _ _ HP0_0.out) GW144.out); have hnsz7_144 := hnrz7_144.symm)))
 (try simp only [Act.put, List.setIfInBounds_toArray, List.set_cons_zero, List.set_cons_succ])
 go_cut [33] (fun v33 wc => ∃ (kq : Nat) (x33_2 : Bool), v33 = .bool x33_2 ∧ Aside0 (spec_l27Step.j0 kq (s0_1 == t129 && (s0_2 == t130 && (s0_3 == t131 && (s0_4 == t132 && (s0_5 == t133))))) (s0_6 == t134 && (s0_7 == t135 && (s0_8 == t136))) (s0_9 == t137 && (s0_10 == t138 && (s0_11 == t139 && (s0_12 == t140 && (s0_13 == t141 && (s0_14 == t142 && (s0_15 == t143))))))) s0_0 x33_2 s0_0 s0_1 s0_2 s0_3 s0_4 s0_5 s0_6 s0_7 s0_8 s0_9 s0_10 s0_11 s0_12 s0_13 s0_14 s0_15 = some r) ∧ Aside0 (kq ≤ k) ∧ Aside0 (wc.heap[gb144]? = some (.cells #[.int .i64 t128, .int .i64 t129, .int .i64 t130, .int .i64 t131, .int .i64 t132, .int .i64 t133, .int .i64 t134, .int .i64 t135, .int .i64 t136, .int .i64 t137, .int .i64 t138, .int .i64 t139, .int .i64 t140, .int .i64 t141, .int .i64 t142, .int .i64 t143] 60 (0, 0))) ∧ Aside0 (Below w.heap.size w wc))
 case first =>
  have H := HC3.out
  clear HC3
  by_cases c8 : s0_0 = 1
  ·rw [if_pos c8] at H
   have c8b0 : (s0_0 == 1) = true := beq_iff_eq.mpr c8
   have c8b1 : (s0_0 != 1) = false := bne_eq_false_iff_eq.mpr c8
   clear c8
   (first | rw [c8b0] | (simp only [i64_w, i32_w]; rw [c8b0]) | skip)
   as_aux_lemma =>
    have H' := Aside0.mk H
    clear H
    go_wp2
    repeat (go_quiet (fail); try go_wp2)
    go_meet
    case rel => exact ⟨_, ((s0_0 == 1)), (by first | rfl | (simp; done) | (simp; decide +kernel) | (simp [*]; done)), H', ⟨by first | omega | exact Nat.le_refl _⟩, ⟨by (with_reducible repeat (first | refine blk_drewN ?_ _ | refine blk_drew ?_ | refine blk_alloc ?_ _)); refine blk_put (cs := #[.int .i64 t128, .int .i64 t129, .int .i64 t130, .int .i64 t131, .int .i64 t132, .int .i64 t133, .int .i64 t134, .int .i64 t135, .int .i64 t136, .int .i64 t137, .int .i64 t138, .int .i64 t139, .int .i64 t140, .int .i64 t141, .int .i64 t142, .int .i64 0]) ?_ 15 _ rfl; (with_reducible repeat (first | refine blk_drewN ?_ _ | refine blk_drew ?_ | refine blk_alloc ?_ _)); refine blk_put (cs := #[.int .i64 t128, .int .i64 t129, .int .i64 t130, .int .i64 t131, .int .i64 t132, .int .i64 t133, .int .i64 t134, .int .i64 t135, .int .i64 t136, .int .i64 t137, .int .i64 t138, .int .i64 t139, .int .i64 t140, .int .i64 t141, .int .i64 0, .int .i64 0]) ?_ 14 _ rfl; (with_reducible repeat (first | refine blk_drewN ?_ _ | refine blk_drew ?_ | refine blk_alloc ?_ _)); refine blk_put (cs := #[.int .i64 t128, .int .i64 t129, .int .i64 t130, .int .i64 t131, .int .i64 t132, .int .i64 t133, .int .i64 t134, .int .i64 t135, .int .i64 t136, .int .i64 t137, .int .i64 t138, .int .i64 t139, .int .i64 t140, .int .i64 0, .int .i64 0, .int .i64 0]) ?_ 13 _ rfl; (with_reducible repeat (first | refine blk_drewN ?_ _ | refine blk_drew ?_ | refine blk_alloc ?_ _)); refine blk_put (cs := #[.int .i64 t128, .int .i64 t129, .int .i64 t130, .int .i64 t131, .int .i64 t132, .int .i64 t133, .int .i64 t134, .int .i64 t135, .int .i64 t136, .int .i64 t137, .int .i64 t138, .int .i64 t139, .int .i64 0, .int .i64 0, .int .i64 0, .int .i64 0]) ?_ 12 _ rfl; (with_reducible repeat (first | refine blk_drewN ?_ _ | refine blk_drew ?_ | refine blk_alloc ?_ _)); refine blk_put (cs := #[.int .i64 t128, .int .i64 t129, .int .i64 t130, .int .i64 t131, .int .i64 t132, .int .i64 t133, .int .i64 t134, .int .i64 t135, .int .i64 t136, .int .i64 t137, .int .i64 t138, .int .i64 0, .int .i64 0, .int .i64 0, .int .i64 0, .int .i64 0]) ?_ 11 _ rfl; (with_reducible repeat (first | refine blk_drewN ?_ _ | refine blk_drew ?_ | refine blk_alloc ?_ _)); refine blk_put (cs := #[.int .i64 t128, .int .i64 t129, .int .i64 t130, .int .i64 t131, .int .i64 t132, .int .i64 t133, .int .i64 t134, .int .i64 t135, .int .i64 t136, .int .i64 t137, .int .i64 0, .int .i64 0, .int .i64 0, .int .i64 0, .int .i64 0, .int .i64 0]) ?_ 10 _ rfl; (with_reducible repeat (first | refine blk_drewN ?_ _ | refine blk_drew ?_ | refine blk_alloc ?_ _)); refine blk_put (cs := #[.int .i64 t128, .int .i64 t129, .int .i64 t130, .int .i64 t131, .int .i64 t132, .int .i64 t133, .int .i64 t134, .int .i64 t135, .int .i64 t136, .int .i64 0, .int .i64 0, .int .i64 0, .int .i64 0, .int .i64 0, .int .i64 0, .int .i64 0]) ?_ 9 _ rfl; (with_reducible repeat (first | refine blk_drewN ?_ _ | refine blk_drew ?_ | refine blk_alloc ?_ _)); refine blk_put (cs := #[.int .i64 t128, .int .i64 t129, .int .i64 t130, .int .i64 t131, .int .i64 t132, .int .i64 t133, .int .i64 t134, .int .i64 t135, .int .i64 0, .int .i64 0, .int .i64 0, .int .i64 0, .int .i64 0, .int .i64 0, .int .i64 0, .int .i64 0]) ?_ 8 _ rfl; (with_reducible repeat (first | refine blk_drewN ?_ _ | refine blk_drew ?_ | refine blk_alloc ?_ _)); refine blk_put (cs := #[.int .i64 t128, .int .i64 t129, .int .i64 t130, .int .i64 t131, .int .i64 t132, .int .i64 t133, .int .i64 t134, .int .i64 0, .int .i64 0, .int .i64 0, .int .i64 0, .int .i64 0, .int .i64 0, .int .i64 0, .int .i64 0, .int .i64 0]) ?_ 7 _ rfl; (with_reducible repeat (first | refine blk_drewN ?_ _ | refine blk_drew ?_ | refine blk_alloc ?_ _)); refine blk_put (cs := #[.int .i64 t128, .int .i64 t129, .int .i64 t130, .int .i64 t131, .int .i64 t132, .int .i64 t133, .int .i64 0, .int .i64 0, .int .i64 0, .int .i64 0, .int .i64 0, .int .i64 0, .int .i64 0, .int .i64 0, .int .i64 0, .int .i64 0]) ?_ 6 _ rfl; (with_reducible repeat (first | refine blk_drewN ?_ _ | refine blk_drew ?_ | refine blk_alloc ?_ _)); refine blk_put (cs := #[.int .i64 t128, .int .i64 t129, .int .i64 t130, .int .i64 t131, .int .i64 t132, .int .i64 0, .int .i64 0, .int .i64 0, .int .i64 0, .int .i64 0, .int .i64 0, .int .i64 0, .int .i64 0, .int .i64 0, .int .i64 0, .int .i64 0]) ?_ 5 _ rfl; (with_reducible repeat (first | refine blk_drewN ?_ _ | refine blk_drew ?_ | refine blk_alloc ?_ _)); refine blk_put (cs := #[.int .i64 t128, .int .i64 t129, .int .i64 t130, .int .i64 t131, .int .i64 0, .int .i64 0, .int .i64 0, .int .i64 0, .int .i64 0, .int .i64 0, .int .i64 0, .int .i64 0, .int .i64 0, .int .i64 0, .int .i64 0, .int .i64 0]) ?_ 4 _ rfl; (with_reducible repeat (first | refine blk_drewN ?_ _ | refine blk_drew ?_ | refine blk_alloc ?_ _)); refine blk_put (cs := #[.int .i64 t128, .int .i64 t129, .int .i64 t130, .int .i64 0, .int .i64 0, .int .i64 0, .int .i64 0, .int .i64 0, .int .i64 0, .int .i64 0, .int .i64 0, .int .i64 0, .int .i64 0, .int .i64 0, .int .i64 0, .int .i64 0]) ?_ 3 _ rfl; (with_reducible repeat (first | refine blk_drewN ?_ _ | refine blk_drew ?_ | refine blk_alloc ?_ _)); refine blk_put (cs := #[.int .i64 t128, .int .i64 t129, .int .i64 0, .int .i64 0, .int .i64 0, .int .i64 0, .int .i64 0, .int .i64 0, .int .i64 0, .int .i64 0, .int .i64 0, .int .i64 0, .int .i64 0, .int .i64 0, .int .i64 0, .int .i64 0]) ?_ 2 _ rfl; (with_reducible repeat (first | refine blk_drewN ?_ _ | refine blk_drew ?_ | refine blk_alloc ?_ _)); refine blk_put (cs := #[.int .i64 t128, .int .i64 0, .int .i64 0, .int .i64 0, .int .i64 0, .int .i64 0, .int .i64 0, .int .i64 0, .int .i64 0, .int .i64 0, .int .i64 0, .int .i64 0, .int .i64 0, .int .i64 0, .int .i64 0, .int .i64 0]) ?_ 1 _ rfl; (with_reducible repeat (first | refine blk_drewN ?_ _ | refine blk_drew ?_ | refine blk_alloc ?_ _)); refine blk_put (cs := #[.int .i64 0, .int .i64 0, .int .i64 0, .int .i64 0, .int .i64 0, .int .i64 0, .int .i64 0, .int .i64 0, .int .i64 0, .int .i64 0, .int .i64 0, .int .i64 0, .int .i64 0, .int .i64 0, .int .i64 0, .int .i64 0]) ?_ 0 _ rfl; (with_reducible repeat (first | refine blk_drewN ?_ _ | refine blk_drew ?_ | refine blk_alloc ?_ _)); exact BK144.out⟩, ⟨by repeat (first | (with_reducible first | exact HB.out | apply below_alloc | apply pw_below_drewN | apply below_drew1 | refine below_set ?_ GE144.out) | exact HB.out)⟩⟩
  ·rw [if_neg c8] at H
   have c8b0 : (s0_0 == 1) = false := beq_eq_false_iff_ne.mpr c8
   have c8b1 : (s0_0 != 1) = true := bne_iff_ne.mpr c8
   (first | rw [c8b0] | (simp only [i64_w, i32_w]; rw [c8b0]) | skip)
   as_aux_lemma =>
    have H' := Aside0.mk H
    clear H
    go_wp2
    repeat (go_quiet (fail); try go_wp2)
    go_meet
    case rel => exact ⟨_, ((s0_0 == 2)), (by first | rfl | (simp; done) | (simp; decide +kernel) | (simp [*]; done)), H', ⟨by first | omega | exact Nat.le_refl _⟩, ⟨by (with_reducible repeat (first | refine blk_drewN ?_ _ | refine blk_drew ?_ | refine blk_alloc ?_ _)); refine blk_put (cs := #[.int .i64 t128, .int .i64 t129, .int .i64 t130, .int .i64 t131, .int .i64 t132, .int .i64 t133, .int .i64 t134, .int .i64 t135, .int .i64 t136, .int .i64 t137, .int .i64 t138, .int .i64 t139, .int .i64 t140, .int .i64 t141, .int .i64 t142, .int .i64 0]) ?_ 15 _ rfl; (with_reducible repeat (first | refine blk_drewN ?_ _ | refine blk_drew ?_ | refine blk_alloc ?_ _)); refine blk_put (cs := #[.int .i64 t128, .int .i64 t129, .int .i64 t130, .int .i64 t131, .int .i64 t132, .int .i64 t133, .int .i64 t134, .int .i64 t135, .int .i64 t136, .int .i64 t137, .int .i64 t138, .int .i64 t139, .int .i64 t140, .int .i64 t141, .int .i64 0, .int .i64 0]) ?_ 14 _ rfl; (with_reducible repeat (first | refine blk_drewN ?_ _ | refine blk_drew ?_ | refine blk_alloc ?_ _)); refine blk_put (cs := #[.int .i64 t128, .int .i64 t129, .int .i64 t130, .int .i64 t131, .int .i64 t132, .int .i64 t133, .int .i64 t134, .int .i64 t135, .int .i64 t136, .int .i64 t137, .int .i64 t138, .int .i64 t139, .int .i64 t140, .int .i64 0, .int .i64 0, .int .i64 0]) ?_ 13 _ rfl; (with_reducible repeat (first | refine blk_drewN ?_ _ | refine blk_drew ?_ | refine blk_alloc ?_ _)); refine blk_put (cs := #[.int .i64 t128, .int .i64 t129, .int .i64 t130, .int .i64 t131, .int .i64 t132, .int .i64 t133, .int .i64 t134, .int .i64 t135, .int .i64 t136, .int .i64 t137, .int .i64 t138, .int .i64 t139, .int .i64 0, .int .i64 0, .int .i64 0, .int .i64 0]) ?_ 12 _ rfl; (with_reducible repeat (first | refine blk_drewN ?_ _ | refine blk_drew ?_ | refine blk_alloc ?_ _)); refine blk_put (cs := #[.int .i64 t128, .int .i64 t129, .int .i64 t130, .int .i64 t131, .int .i64 t132, .int .i64 t133, .int .i64 t134, .int .i64 t135, .int .i64 t136, .int .i64 t137, .int .i64 t138, .int .i64 0, .int .i64 0, .int .i64 0, .int .i64 0, .int .i64 0]) ?_ 11 _ rfl; (with_reducible repeat (first | refine blk_drewN ?_ _ | refine blk_drew ?_ | refine blk_alloc ?_ _)); refine blk_put (cs := #[.int .i64 t128, .int .i64 t129, .int .i64 t130, .int .i64 t131, .int .i64 t132, .int .i64 t133, .int .i64 t134, .int .i64 t135, .int .i64 t136, .int .i64 t137, .int .i64 0, .int .i64 0, .int .i64 0, .int .i64 0, .int .i64 0, .int .i64 0]) ?_ 10 _ rfl; (with_reducible repeat (first | refine blk_drewN ?_ _ | refine blk_drew ?_ | refine blk_alloc ?_ _)); refine blk_put (cs := #[.int .i64 t128, .int .i64 t129, .int .i64 t130, .int .i64 t131, .int .i64 t132, .int .i64 t133, .int .i64 t134, .int .i64 t135, .int .i64 t136, .int .i64 0, .int .i64 0, .int .i64 0, .int .i64 0, .int .i64 0, .int .i64 0, .int .i64 0]) ?_ 9 _ rfl; (with_reducible repeat (first | refine blk_drewN ?_ _ | refine blk_drew ?_ | refine blk_alloc ?_ _)); refine blk_put (cs := #[.int .i64 t128, .int .i64 t129, .int .i64 t130, .int .i64 t131, .int .i64 t132, .int .i64 t133, .int .i64 t134, .int .i64 t135, .int .i64 0, .int .i64 0, .int .i64 0, .int .i64 0, .int .i64 0, .int .i64 0, .int .i64 0, .int .i64 0]) ?_ 8 _ rfl; (with_reducible repeat (first | refine blk_drewN ?_ _ | refine blk_drew ?_ | refine blk_alloc ?_ _)); refine blk_put (cs := #[.int .i64 t128, .int .i64 t129, .int .i64 t130, .int .i64 t131, .int .i64 t132, .int .i64 t133, .int .i64 t134, .int .i64 0, .int .i64 0, .int .i64 0, .int .i64 0, .int .i64 0, .int .i64 0, .int .i64 0, .int .i64 0, .int .i64 0]) ?_ 7 _ rfl; (with_reducible repeat (first | refine blk_drewN ?_ _ | refine blk_drew ?_ | refine blk_alloc ?_ _)); refine blk_put (cs := #[.int .i64 t128, .int .i64 t129, .int .i64 t130, .int .i64 t131, .int .i64 t132, .int .i64 t133, .int .i64 0, .int .i64 0, .int .i64 0, .int .i64 0, .int .i64 0, .int .i64 0, .int .i64 0, .int .i64 0, .int .i64 0, .int .i64 0]) ?_ 6 _ rfl; (with_reducible repeat (first | refine blk_drewN ?_ _ | refine blk_drew ?_ | refine blk_alloc ?_ _)); refine blk_put (cs := #[.int .i64 t128, .int .i64 t129, .int .i64 t130, .int .i64 t131, .int .i64 t132, .int .i64 0, .int .i64 0, .int .i64 0, .int .i64 0, .int .i64 0, .int .i64 0, .int .i64 0, .int .i64 0, .int .i64 0, .int .i64 0, .int .i64 0]) ?_ 5 _ rfl; (with_reducible repeat (first | refine blk_drewN ?_ _ | refine blk_drew ?_ | refine blk_alloc ?_ _)); refine blk_put (cs := #[.int .i64 t128, .int .i64 t129, .int .i64 t130, .int .i64 t131, .int .i64 0, .int .i64 0, .int .i64 0, .int .i64 0, .int .i64 0, .int .i64 0, .int .i64 0, .int .i64 0, .int .i64 0, .int .i64 0, .int .i64 0, .int .i64 0]) ?_ 4 _ rfl; (with_reducible repeat (first | refine blk_drewN ?_ _ | refine blk_drew ?_ | refine blk_alloc ?_ _)); refine blk_put (cs := #[.int .i64 t128, .int .i64 t129, .int .i64 t130, .int .i64 0, .int .i64 0, .int .i64 0, .int .i64 0, .int .i64 0, .int .i64 0, .int .i64 0, .int .i64 0, .int .i64 0, .int .i64 0, .int .i64 0, .int .i64 0, .int .i64 0]) ?_ 3 _ rfl; (with_reducible repeat (first | refine blk_drewN ?_ _ | refine blk_drew ?_ | refine blk_alloc ?_ _)); refine blk_put (cs := #[.int .i64 t128, .int .i64 t129, .int .i64 0, .int .i64 0, .int .i64 0, .int .i64 0, .int .i64 0, .int .i64 0, .int .i64 0, .int .i64 0, .int .i64 0, .int .i64 0, .int .i64 0, .int .i64 0, .int .i64 0, .int .i64 0]) ?_ 2 _ rfl; (with_reducible repeat (first | refine blk_drewN ?_ _ | refine blk_drew ?_ | refine blk_alloc ?_ _)); refine blk_put (cs := #[.int .i64 t128, .int .i64 0, .int .i64 0, .int .i64 0, .int .i64 0, .int .i64 0, .int .i64 0, .int .i64 0, .int .i64 0, .int .i64 0, .int .i64 0, .int .i64 0, .int .i64 0, .int .i64 0, .int .i64 0, .int .i64 0]) ?_ 1 _ rfl; (with_reducible repeat (first | refine blk_drewN ?_ _ | refine blk_drew ?_ | refine blk_alloc ?_ _)); refine blk_put (cs := #[.int .i64 0, .int .i64 0, .int .i64 0, .int .i64 0, .int .i64 0, .int .i64 0, .int .i64 0, .int .i64 0, .int .i64 0, .int .i64 0, .int .i64 0, .int .i64 0, .int .i64 0, .int .i64 0, .int .i64 0, .int .i64 0]) ?_ 0 _ rfl; (with_reducible repeat (first | refine blk_drewN ?_ _ | refine blk_drew ?_ | refine blk_alloc ?_ _)); exact BK144.out⟩, ⟨by repeat (first | (with_reducible first | exact HB.out | apply below_alloc | apply pw_below_drewN | apply below_drew1 | refine below_set ?_ GE144.out) | exact HB.out)⟩⟩
 case rest =>
  clear HC3
  try clear p2
  try clear c6
  try clear c8
  try clear c8b0
  try clear c8b1
  try clear hcz6_0
  try clear hcz6_1
  try clear hcz6_10
  try clear hcz6_11
  try clear hcz6_12
  try clear hcz6_13
  try clear hcz6_14
  try clear hcz6_15
  try clear hcz6_2
  try clear hcz6_3
  try clear hcz6_4
  try clear hcz6_5
  try clear hcz6_6
  try clear hcz6_7
  try clear hcz6_8
  try clear hcz6_9
  try clear hcz7_0
  try clear hcz7_1
  try clear hcz7_10
  try clear hcz7_11
  try clear hcz7_12
  try clear hcz7_13
  try clear hcz7_14
  try clear hcz7_15
  try clear hcz7_2
  try clear hcz7_3
  try clear hcz7_4
  try clear hcz7_5
  try clear hcz7_6
  try clear hcz7_7
  try clear hcz7_8
  try clear hcz7_9
  try clear hfz6_0
  try clear hfz6_1
  try clear hfz6_10
  try clear hfz6_11
  try clear hfz6_12
  try clear hfz6_13
  try clear hfz6_14
  try clear hfz6_15
  try clear hfz6_2
  try clear hfz6_3
  try clear hfz6_4
  try clear hfz6_5
  try clear hfz6_6
  try clear hfz6_7
  try clear hfz6_8
  try clear hfz6_9
  obtain ⟨kq, x33_2, rfl, HA, HJ2, BK144, HB⟩ := hcut
  cases kq with
  | zero => exact absurd HA.out (by simp [spec_l27Step.j0])
  | succ kj2 =>
   have H := HA.out
   clear HA
   simp only [spec_l27Step.j0] at H
   by_cases c9 : x33_2 = true
   ·subst c9
    have H1 : ((spec_ValidProjection.f kj2 s0_1 s0_2 s0_3 s0_4 s0_5).bind fun t145 => (if t145 = true then (if (s0_6 == t134 && (s0_7 == t135 && (s0_8 == t136))) = true then (some (s0_9 == t137 && (s0_10 == t138 && (s0_11 == t139 && (s0_12 == t140 && (s0_13 == t141 && (s0_14 == t142 && (s0_15 == t143)))))))) else (some false)) else (some false))) = some r := by rw [if_pos rfl] at H; exact H
    clear H
    have H := H1
    clear H1
    replace H := Option.bind_eq_some_iff.mp H
    obtain ⟨t145, A100, H⟩ := H
    replace H : (if t145 = true then (if (s0_6 == t134 && (s0_7 == t135 && (s0_8 == t136))) = true then (some (s0_9 == t137 && (s0_10 == t138 && (s0_11 == t139 && (s0_12 == t140 && (s0_13 == t141 && (s0_14 == t142 && (s0_15 == t143)))))))) else (some false)) else (some false)) = some r := H
    have A10 := Aside0.mk A100
    clear A100
    by_cases c11 : t145 = true
    ·subst c11
     have H1 : (if (s0_6 == t134 && (s0_7 == t135 && (s0_8 == t136))) = true then (some (s0_9 == t137 && (s0_10 == t138 && (s0_11 == t139 && (s0_12 == t140 && (s0_13 == t141 && (s0_14 == t142 && (s0_15 == t143)))))))) else (some false)) = some r := by rw [if_pos rfl] at H; exact H
     clear H
     have H := H1
     clear H1
     by_cases c12 : (s0_6 == t134 && (s0_7 == t135 && (s0_8 == t136))) = true
     ·rw [if_pos c12] at H
      have c12b0 : (s0_6 == t134 && (s0_7 == t135 && (s0_8 == t136))) = true := c12
      (try (have c12b1 : decide (s0_6 = t134 && (s0_7 == t135 && (s0_8 == t136))) = true := by simpa using c12))
      (try (have c12b2 : (s0_6 == t134 && (s0_7 == t135 && (s0_8 == t136))) = true := by simpa using c12))
      clear c12
      as_aux_lemma =>
       obtain rfl := Option.some.inj H
       have hcz13_0 : wc.cell? ⟨g0_, o0_, x0_⟩ = some (.int .i64 s0_0) := pw_cell_below HB.out HP0_0.out
       have hcz13_1 : wc.cell? ⟨g0_, o0_ + 1, none⟩ = some (.int .i64 s0_1) := pw_cell_below HB.out HP0_1.out
       have hcz13_2 : wc.cell? ⟨g0_, o0_ + 2, none⟩ = some (.int .i64 s0_2) := pw_cell_below HB.out HP0_2.out
       have hcz13_3 : wc.cell? ⟨g0_, o0_ + 3, none⟩ = some (.int .i64 s0_3) := pw_cell_below HB.out HP0_3.out
       have hcz13_4 : wc.cell? ⟨g0_, o0_ + 4, none⟩ = some (.int .i64 s0_4) := pw_cell_below HB.out HP0_4.out
       have hcz13_5 : wc.cell? ⟨g0_, o0_ + 5, none⟩ = some (.int .i64 s0_5) := pw_cell_below HB.out HP0_5.out
       have hcz13_6 : wc.cell? ⟨g0_, o0_ + 6, none⟩ = some (.int .i64 s0_6) := pw_cell_below HB.out HP0_6.out
       have hcz13_7 : wc.cell? ⟨g0_, o0_ + 7, none⟩ = some (.int .i64 s0_7) := pw_cell_below HB.out HP0_7.out
       have hcz13_8 : wc.cell? ⟨g0_, o0_ + 8, none⟩ = some (.int .i64 s0_8) := pw_cell_below HB.out HP0_8.out
       have hcz13_9 : wc.cell? ⟨g0_, o0_ + 9, none⟩ = some (.int .i64 s0_9) := pw_cell_below HB.out HP0_9.out
       have hcz13_10 : wc.cell? ⟨g0_, o0_ + 10, none⟩ = some (.int .i64 s0_10) := pw_cell_below HB.out HP0_10.out
       have hcz13_11 : wc.cell? ⟨g0_, o0_ + 11, none⟩ = some (.int .i64 s0_11) := pw_cell_below HB.out HP0_11.out
       have hcz13_12 : wc.cell? ⟨g0_, o0_ + 12, none⟩ = some (.int .i64 s0_12) := pw_cell_below HB.out HP0_12.out
       have hcz13_13 : wc.cell? ⟨g0_, o0_ + 13, none⟩ = some (.int .i64 s0_13) := pw_cell_below HB.out HP0_13.out
       have hcz13_14 : wc.cell? ⟨g0_, o0_ + 14, none⟩ = some (.int .i64 s0_14) := pw_cell_below HB.out HP0_14.out
       have hcz13_15 : wc.cell? ⟨g0_, o0_ + 15, none⟩ = some (.int .i64 s0_15) := pw_cell_below HB.out HP0_15.out
       have hnrz13_144 : g0_ ≠ gb144 := Nat.ne_of_lt (Nat.lt_of_lt_of_le (World.block_lt_of_cell? _ _ HP0_0.out) GW144.out)
       have hnsz13_144 := hnrz13_144.symm
       go_wp2_with (first | (go_at_call 99; (with_reducible refine (spec_ValidProjection.calls kj2 s0_1 s0_2 s0_3 s0_4 s0_5 true _ A10.out).mono ?_); rintro e w14 ⟨rfl, hb⟩; have n0_ := Aside0.mk (blk_below (g := gb144) (o := .cells #[.int .i64 t128, .int .i64 t129, .int .i64 t130, .int .i64 t131, .int .i64 t132, .int .i64 t133, .int .i64 t134, .int .i64 t135, .int .i64 t136, .int .i64 t137, .int .i64 t138, .int .i64 t139, .int .i64 t140, .int .i64 t141, .int .i64 t142, .int .i64 t143] 60 (0, 0)) (by (with_reducible repeat (first | refine blk_drewN ?_ _ | refine blk_drew ?_ | refine blk_alloc ?_ _)); exact BK144.out) hb); have n1_ := Aside0.mk (below_step (by repeat (first | (with_reducible first | exact HB.out | apply below_alloc | apply pw_below_drewN | apply below_drew1 | refine below_set ?_ GE144.out) | exact HB.out)) hb); clear BK144; clear HB; have BK144 := n0_; have HB := n1_; clear n0_ n1_; (try clear hb); (try clear hb2); (try clear hk); (try clear hi)))
       repeat (go_quiet (first | (go_at_call 99; (with_reducible refine (spec_ValidProjection.calls kj2 s0_1 s0_2 s0_3 s0_4 s0_5 true _ A10.out).mono ?_); rintro e w14 ⟨rfl, hb⟩; have n0_ := Aside0.mk (blk_below (g := gb144) (o := .cells #[.int .i64 t128, .int .i64 t129, .int .i64 t130, .int .i64 t131, .int .i64 t132, .int .i64 t133, .int .i64 t134, .int .i64 t135, .int .i64 t136, .int .i64 t137, .int .i64 t138, .int .i64 t139, .int .i64 t140, .int .i64 t141, .int .i64 t142, .int .i64 t143] 60 (0, 0)) (by (with_reducible repeat (first | refine blk_drewN ?_ _ | refine blk_drew ?_ | refine blk_alloc ?_ _)); exact BK144.out) hb); have n1_ := Aside0.mk (below_step (by repeat (first | (with_reducible first | exact HB.out | apply below_alloc | apply pw_below_drewN | apply below_drew1 | refine below_set ?_ GE144.out) | exact HB.out)) hb); clear BK144; clear HB; have BK144 := n0_; have HB := n1_; clear n0_ n1_; (try clear hb); (try clear hb2); (try clear hk); (try clear hi))); try go_wp2_with (first | (go_at_call 99; (with_reducible refine (spec_ValidProjection.calls kj2 s0_1 s0_2 s0_3 s0_4 s0_5 true _ A10.out).mono ?_); rintro e w14 ⟨rfl, hb⟩; have n0_ := Aside0.mk (blk_below (g := gb144) (o := .cells #[.int .i64 t128, .int .i64 t129, .int .i64 t130, .int .i64 t131, .int .i64 t132, .int .i64 t133, .int .i64 t134, .int .i64 t135, .int .i64 t136, .int .i64 t137, .int .i64 t138, .int .i64 t139, .int .i64 t140, .int .i64 t141, .int .i64 t142, .int .i64 t143] 60 (0, 0)) (by (with_reducible repeat (first | refine blk_drewN ?_ _ | refine blk_drew ?_ | refine blk_alloc ?_ _)); exact BK144.out) hb); have n1_ := Aside0.mk (below_step (by repeat (first | (with_reducible first | exact HB.out | apply below_alloc | apply pw_below_drewN | apply below_drew1 | refine below_set ?_ GE144.out) | exact HB.out)) hb); clear BK144; clear HB; have BK144 := n0_; have HB := n1_; clear n0_ n1_; (try clear hb); (try clear hb2); (try clear hk); (try clear hi))))
       go_ret
       exact ⟨by first | rfl | (simp <;> rfl) | (simp; decide +kernel) | (simp [*] <;> rfl), by repeat (first | (with_reducible first | exact HB.out | apply below_alloc | apply pw_below_drewN | apply below_drew1 | refine below_set ?_ GE144.out) | exact HB.out)⟩
     ·rw [if_neg c12] at H
      have c12b0 : (s0_6 == t134 && (s0_7 == t135 && (s0_8 == t136))) = false := by simpa using c12
      (try (have c12b1 : decide (s0_6 = t134 && (s0_7 == t135 && (s0_8 == t136))) = false := by simpa using c12))
      (try (have c12b2 : (s0_6 == t134 && (s0_7 == t135 && (s0_8 == t136))) = false := by simpa using c12))
      (try (have c12b3 : ¬ (s0_6 = t134 && (s0_7 == t135 && (s0_8 == t136))) := by simpa using c12))
      clear c12
      as_aux_lemma =>
       obtain rfl := Option.some.inj H
       have hcz15_0 : wc.cell? ⟨g0_, o0_, x0_⟩ = some (.int .i64 s0_0) := pw_cell_below HB.out HP0_0.out
       have hcz15_1 : wc.cell? ⟨g0_, o0_ + 1, none⟩ = some (.int .i64 s0_1) := pw_cell_below HB.out HP0_1.out
       have hcz15_2 : wc.cell? ⟨g0_, o0_ + 2, none⟩ = some (.int .i64 s0_2) := pw_cell_below HB.out HP0_2.out
       have hcz15_3 : wc.cell? ⟨g0_, o0_ + 3, none⟩ = some (.int .i64 s0_3) := pw_cell_below HB.out HP0_3.out
       have hcz15_4 : wc.cell? ⟨g0_, o0_ + 4, none⟩ = some (.int .i64 s0_4) := pw_cell_below HB.out HP0_4.out
       have hcz15_5 : wc.cell? ⟨g0_, o0_ + 5, none⟩ = some (.int .i64 s0_5) := pw_cell_below HB.out HP0_5.out
       have hcz15_6 : wc.cell? ⟨g0_, o0_ + 6, none⟩ = some (.int .i64 s0_6) := pw_cell_below HB.out HP0_6.out
       have hcz15_7 : wc.cell? ⟨g0_, o0_ + 7, none⟩ = some (.int .i64 s0_7) := pw_cell_below HB.out HP0_7.out
       have hcz15_8 : wc.cell? ⟨g0_, o0_ + 8, none⟩ = some (.int .i64 s0_8) := pw_cell_below HB.out HP0_8.out
       have hcz15_9 : wc.cell? ⟨g0_, o0_ + 9, none⟩ = some (.int .i64 s0_9) := pw_cell_below HB.out HP0_9.out
       have hcz15_10 : wc.cell? ⟨g0_, o0_ + 10, none⟩ = some (.int .i64 s0_10) := pw_cell_below HB.out HP0_10.out
       have hcz15_11 : wc.cell? ⟨g0_, o0_ + 11, none⟩ = some (.int .i64 s0_11) := pw_cell_below HB.out HP0_11.out
       have hcz15_12 : wc.cell? ⟨g0_, o0_ + 12, none⟩ = some (.int .i64 s0_12) := pw_cell_below HB.out HP0_12.out
       have hcz15_13 : wc.cell? ⟨g0_, o0_ + 13, none⟩ = some (.int .i64 s0_13) := pw_cell_below HB.out HP0_13.out
       have hcz15_14 : wc.cell? ⟨g0_, o0_ + 14, none⟩ = some (.int .i64 s0_14) := pw_cell_below HB.out HP0_14.out
       have hcz15_15 : wc.cell? ⟨g0_, o0_ + 15, none⟩ = some (.int .i64 s0_15) := pw_cell_below HB.out HP0_15.out
       have hnrz15_144 : g0_ ≠ gb144 := Nat.ne_of_lt (Nat.lt_of_lt_of_le (World.block_lt_of_cell? _ _ HP0_0.out) GW144.out)
       have hnsz15_144 := hnrz15_144.symm
       go_wp2_with (first | (go_at_call 99; (with_reducible refine (spec_ValidProjection.calls kj2 s0_1 s0_2 s0_3 s0_4 s0_5 true _ A10.out).mono ?_); rintro e w16 ⟨rfl, hb⟩; have n0_ := Aside0.mk (blk_below (g := gb144) (o := .cells #[.int .i64 t128, .int .i64 t129, .int .i64 t130, .int .i64 t131, .int .i64 t132, .int .i64 t133, .int .i64 t134, .int .i64 t135, .int .i64 t136, .int .i64 t137, .int .i64 t138, .int .i64 t139, .int .i64 t140, .int .i64 t141, .int .i64 t142, .int .i64 t143] 60 (0, 0)) (by (with_reducible repeat (first | refine blk_drewN ?_ _ | refine blk_drew ?_ | refine blk_alloc ?_ _)); exact BK144.out) hb); have n1_ := Aside0.mk (below_step (by repeat (first | (with_reducible first | exact HB.out | apply below_alloc | apply pw_below_drewN | apply below_drew1 | refine below_set ?_ GE144.out) | exact HB.out)) hb); clear BK144; clear HB; have BK144 := n0_; have HB := n1_; clear n0_ n1_; (try clear hb); (try clear hb2); (try clear hk); (try clear hi)))
       repeat (go_quiet (first | (go_at_call 99; (with_reducible refine (spec_ValidProjection.calls kj2 s0_1 s0_2 s0_3 s0_4 s0_5 true _ A10.out).mono ?_); rintro e w16 ⟨rfl, hb⟩; have n0_ := Aside0.mk (blk_below (g := gb144) (o := .cells #[.int .i64 t128, .int .i64 t129, .int .i64 t130, .int .i64 t131, .int .i64 t132, .int .i64 t133, .int .i64 t134, .int .i64 t135, .int .i64 t136, .int .i64 t137, .int .i64 t138, .int .i64 t139, .int .i64 t140, .int .i64 t141, .int .i64 t142, .int .i64 t143] 60 (0, 0)) (by (with_reducible repeat (first | refine blk_drewN ?_ _ | refine blk_drew ?_ | refine blk_alloc ?_ _)); exact BK144.out) hb); have n1_ := Aside0.mk (below_step (by repeat (first | (with_reducible first | exact HB.out | apply below_alloc | apply pw_below_drewN | apply below_drew1 | refine below_set ?_ GE144.out) | exact HB.out)) hb); clear BK144; clear HB; have BK144 := n0_; have HB := n1_; clear n0_ n1_; (try clear hb); (try clear hb2); (try clear hk); (try clear hi))); try go_wp2_with (first | (go_at_call 99; (with_reducible refine (spec_ValidProjection.calls kj2 s0_1 s0_2 s0_3 s0_4 s0_5 true _ A10.out).mono ?_); rintro e w16 ⟨rfl, hb⟩; have n0_ := Aside0.mk (blk_below (g := gb144) (o := .cells #[.int .i64 t128, .int .i64 t129, .int .i64 t130, .int .i64 t131, .int .i64 t132, .int .i64 t133, .int .i64 t134, .int .i64 t135, .int .i64 t136, .int .i64 t137, .int .i64 t138, .int .i64 t139, .int .i64 t140, .int .i64 t141, .int .i64 t142, .int .i64 t143] 60 (0, 0)) (by (with_reducible repeat (first | refine blk_drewN ?_ _ | refine blk_drew ?_ | refine blk_alloc ?_ _)); exact BK144.out) hb); have n1_ := Aside0.mk (below_step (by repeat (first | (with_reducible first | exact HB.out | apply below_alloc | apply pw_below_drewN | apply below_drew1 | refine below_set ?_ GE144.out) | exact HB.out)) hb); clear BK144; clear HB; have BK144 := n0_; have HB := n1_; clear n0_ n1_; (try clear hb); (try clear hb2); (try clear hk); (try clear hi))))
       go_ret
       exact ⟨by first | rfl | (simp <;> rfl) | (simp; decide +kernel) | (simp [*] <;> rfl), by repeat (first | (with_reducible first | exact HB.out | apply below_alloc | apply pw_below_drewN | apply below_drew1 | refine below_set ?_ GE144.out) | exact HB.out)⟩
    ·replace c11 := Bool.eq_false_iff.mpr c11
     subst c11
     have H1 : (some false) = some r := by rw [if_neg (show ¬ (false = true) by decide)] at H; exact H
     clear H
     have H := H1
     clear H1
     as_aux_lemma =>
      obtain rfl := Option.some.inj H
      have hcz17_0 : wc.cell? ⟨g0_, o0_, x0_⟩ = some (.int .i64 s0_0) := pw_cell_below HB.out HP0_0.out
      have hcz17_1 : wc.cell? ⟨g0_, o0_ + 1, none⟩ = some (.int .i64 s0_1) := pw_cell_below HB.out HP0_1.out
      have hcz17_2 : wc.cell? ⟨g0_, o0_ + 2, none⟩ = some (.int .i64 s0_2) := pw_cell_below HB.out HP0_2.out
      have hcz17_3 : wc.cell? ⟨g0_, o0_ + 3, none⟩ = some (.int .i64 s0_3) := pw_cell_below HB.out HP0_3.out
      have hcz17_4 : wc.cell? ⟨g0_, o0_ + 4, none⟩ = some (.int .i64 s0_4) := pw_cell_below HB.out HP0_4.out
      have hcz17_5 : wc.cell? ⟨g0_, o0_ + 5, none⟩ = some (.int .i64 s0_5) := pw_cell_below HB.out HP0_5.out
      have hcz17_6 : wc.cell? ⟨g0_, o0_ + 6, none⟩ = some (.int .i64 s0_6) := pw_cell_below HB.out HP0_6.out
      have hcz17_7 : wc.cell? ⟨g0_, o0_ + 7, none⟩ = some (.int .i64 s0_7) := pw_cell_below HB.out HP0_7.out
      have hcz17_8 : wc.cell? ⟨g0_, o0_ + 8, none⟩ = some (.int .i64 s0_8) := pw_cell_below HB.out HP0_8.out
      have hcz17_9 : wc.cell? ⟨g0_, o0_ + 9, none⟩ = some (.int .i64 s0_9) := pw_cell_below HB.out HP0_9.out
      have hcz17_10 : wc.cell? ⟨g0_, o0_ + 10, none⟩ = some (.int .i64 s0_10) := pw_cell_below HB.out HP0_10.out
      have hcz17_11 : wc.cell? ⟨g0_, o0_ + 11, none⟩ = some (.int .i64 s0_11) := pw_cell_below HB.out HP0_11.out
      have hcz17_12 : wc.cell? ⟨g0_, o0_ + 12, none⟩ = some (.int .i64 s0_12) := pw_cell_below HB.out HP0_12.out
      have hcz17_13 : wc.cell? ⟨g0_, o0_ + 13, none⟩ = some (.int .i64 s0_13) := pw_cell_below HB.out HP0_13.out
      have hcz17_14 : wc.cell? ⟨g0_, o0_ + 14, none⟩ = some (.int .i64 s0_14) := pw_cell_below HB.out HP0_14.out
      have hcz17_15 : wc.cell? ⟨g0_, o0_ + 15, none⟩ = some (.int .i64 s0_15) := pw_cell_below HB.out HP0_15.out
      have hnrz17_144 : g0_ ≠ gb144 := Nat.ne_of_lt (Nat.lt_of_lt_of_le (World.block_lt_of_cell? _ _ HP0_0.out) GW144.out)
      have hnsz17_144 := hnrz17_144.symm
      go_wp2_with (first | (go_at_call 99; (with_reducible refine (spec_ValidProjection.calls kj2 s0_1 s0_2 s0_3 s0_4 s0_5 false _ A10.out).mono ?_); rintro e w18 ⟨rfl, hb⟩; have n0_ := Aside0.mk (blk_below (g := gb144) (o := .cells #[.int .i64 t128, .int .i64 t129, .int .i64 t130, .int .i64 t131, .int .i64 t132, .int .i64 t133, .int .i64 t134, .int .i64 t135, .int .i64 t136, .int .i64 t137, .int .i64 t138, .int .i64 t139, .int .i64 t140, .int .i64 t141, .int .i64 t142, .int .i64 t143] 60 (0, 0)) (by (with_reducible repeat (first | refine blk_drewN ?_ _ | refine blk_drew ?_ | refine blk_alloc ?_ _)); exact BK144.out) hb); have n1_ := Aside0.mk (below_step (by repeat (first | (with_reducible first | exact HB.out | apply below_alloc | apply pw_below_drewN | apply below_drew1 | refine below_set ?_ GE144.out) | exact HB.out)) hb); clear BK144; clear HB; have BK144 := n0_; have HB := n1_; clear n0_ n1_; (try clear hb); (try clear hb2); (try clear hk); (try clear hi)))
      repeat (go_quiet (first | (go_at_call 99; (with_reducible refine (spec_ValidProjection.calls kj2 s0_1 s0_2 s0_3 s0_4 s0_5 false _ A10.out).mono ?_); rintro e w18 ⟨rfl, hb⟩; have n0_ := Aside0.mk (blk_below (g := gb144) (o := .cells #[.int .i64 t128, .int .i64 t129, .int .i64 t130, .int .i64 t131, .int .i64 t132, .int .i64 t133, .int .i64 t134, .int .i64 t135, .int .i64 t136, .int .i64 t137, .int .i64 t138, .int .i64 t139, .int .i64 t140, .int .i64 t141, .int .i64 t142, .int .i64 t143] 60 (0, 0)) (by (with_reducible repeat (first | refine blk_drewN ?_ _ | refine blk_drew ?_ | refine blk_alloc ?_ _)); exact BK144.out) hb); have n1_ := Aside0.mk (below_step (by repeat (first | (with_reducible first | exact HB.out | apply below_alloc | apply pw_below_drewN | apply below_drew1 | refine below_set ?_ GE144.out) | exact HB.out)) hb); clear BK144; clear HB; have BK144 := n0_; have HB := n1_; clear n0_ n1_; (try clear hb); (try clear hb2); (try clear hk); (try clear hi))); try go_wp2_with (first | (go_at_call 99; (with_reducible refine (spec_ValidProjection.calls kj2 s0_1 s0_2 s0_3 s0_4 s0_5 false _ A10.out).mono ?_); rintro e w18 ⟨rfl, hb⟩; have n0_ := Aside0.mk (blk_below (g := gb144) (o := .cells #[.int .i64 t128, .int .i64 t129, .int .i64 t130, .int .i64 t131, .int .i64 t132, .int .i64 t133, .int .i64 t134, .int .i64 t135, .int .i64 t136, .int .i64 t137, .int .i64 t138, .int .i64 t139, .int .i64 t140, .int .i64 t141, .int .i64 t142, .int .i64 t143] 60 (0, 0)) (by (with_reducible repeat (first | refine blk_drewN ?_ _ | refine blk_drew ?_ | refine blk_alloc ?_ _)); exact BK144.out) hb); have n1_ := Aside0.mk (below_step (by repeat (first | (with_reducible first | exact HB.out | apply below_alloc | apply pw_below_drewN | apply below_drew1 | refine below_set ?_ GE144.out) | exact HB.out)) hb); clear BK144; clear HB; have BK144 := n0_; have HB := n1_; clear n0_ n1_; (try clear hb); (try clear hb2); (try clear hk); (try clear hi))))
      go_ret
      exact ⟨by first | rfl | (simp <;> rfl) | (simp; decide +kernel) | (simp [*] <;> rfl), by repeat (first | (with_reducible first | exact HB.out | apply below_alloc | apply pw_below_drewN | apply below_drew1 | refine below_set ?_ GE144.out) | exact HB.out)⟩
   ·replace c9 := Bool.eq_false_iff.mpr c9
    subst c9
    have H1 : (if s0_0 = 3 then (spec_l27Step.j1 kj2 (s0_1 == t129 && (s0_2 == t130 && (s0_3 == t131 && (s0_4 == t132 && (s0_5 == t133))))) (s0_6 == t134 && (s0_7 == t135 && (s0_8 == t136))) (s0_9 == t137 && (s0_10 == t138 && (s0_11 == t139 && (s0_12 == t140 && (s0_13 == t141 && (s0_14 == t142 && (s0_15 == t143))))))) s0_0 (s0_0 == 3) s0_0 s0_1 s0_2 s0_3 s0_4 s0_5 s0_6 s0_7 s0_8 s0_9 s0_10 s0_11 s0_12 s0_13 s0_14 s0_15) else (spec_l27Step.j1 kj2 (s0_1 == t129 && (s0_2 == t130 && (s0_3 == t131 && (s0_4 == t132 && (s0_5 == t133))))) (s0_6 == t134 && (s0_7 == t135 && (s0_8 == t136))) (s0_9 == t137 && (s0_10 == t138 && (s0_11 == t139 && (s0_12 == t140 && (s0_13 == t141 && (s0_14 == t142 && (s0_15 == t143))))))) s0_0 (s0_0 == 4) s0_0 s0_1 s0_2 s0_3 s0_4 s0_5 s0_6 s0_7 s0_8 s0_9 s0_10 s0_11 s0_12 s0_13 s0_14 s0_15)) = some r := by rw [if_neg (show ¬ (false = true) by decide)] at H; exact H
    clear H
    have H := H1
    clear H1
    have HC19 := Aside0.mk H
    clear H
    go_upto_if 47 with (fail)
    repeat (go_quiet (fail); go_upto_if 47 with (fail))
    go_cut [47] (fun v47 wc => ∃ (kq : Nat) (x47_18 : Bool), v47 = .bool x47_18 ∧ Aside0 (spec_l27Step.j1 kq (s0_1 == t129 && (s0_2 == t130 && (s0_3 == t131 && (s0_4 == t132 && (s0_5 == t133))))) (s0_6 == t134 && (s0_7 == t135 && (s0_8 == t136))) (s0_9 == t137 && (s0_10 == t138 && (s0_11 == t139 && (s0_12 == t140 && (s0_13 == t141 && (s0_14 == t142 && (s0_15 == t143))))))) s0_0 x47_18 s0_0 s0_1 s0_2 s0_3 s0_4 s0_5 s0_6 s0_7 s0_8 s0_9 s0_10 s0_11 s0_12 s0_13 s0_14 s0_15 = some r) ∧ Aside0 (kq ≤ kj2) ∧ Aside0 (wc.heap[gb144]? = some (.cells #[.int .i64 t128, .int .i64 t129, .int .i64 t130, .int .i64 t131, .int .i64 t132, .int .i64 t133, .int .i64 t134, .int .i64 t135, .int .i64 t136, .int .i64 t137, .int .i64 t138, .int .i64 t139, .int .i64 t140, .int .i64 t141, .int .i64 t142, .int .i64 t143] 60 (0, 0))) ∧ Aside0 (Below w.heap.size w wc))
    case first =>
     have H := HC19.out
     clear HC19
     by_cases c20 : s0_0 = 3
     ·rw [if_pos c20] at H
      have c20b0 : (s0_0 == 3) = true := beq_iff_eq.mpr c20
      have c20b1 : (s0_0 != 3) = false := bne_eq_false_iff_eq.mpr c20
      clear c20
      (first | rw [c20b0] | (simp only [i64_w, i32_w]; rw [c20b0]) | skip)
      as_aux_lemma =>
       have H' := Aside0.mk H
       clear H
       go_wp2
       repeat (go_quiet (fail); try go_wp2)
       go_meet
       case rel => exact ⟨_, ((s0_0 == 3)), (by first | rfl | (simp; done) | (simp; decide +kernel) | (simp [*]; done)), H', ⟨by have := HJ2.out; first | omega | exact Nat.le_refl _⟩, ⟨by (with_reducible repeat (first | refine blk_drewN ?_ _ | refine blk_drew ?_ | refine blk_alloc ?_ _)); exact BK144.out⟩, ⟨by repeat (first | (with_reducible first | exact HB.out | apply below_alloc | apply pw_below_drewN | apply below_drew1 | refine below_set ?_ GE144.out) | exact HB.out)⟩⟩
     ·rw [if_neg c20] at H
      have c20b0 : (s0_0 == 3) = false := beq_eq_false_iff_ne.mpr c20
      have c20b1 : (s0_0 != 3) = true := bne_iff_ne.mpr c20
      (first | rw [c20b0] | (simp only [i64_w, i32_w]; rw [c20b0]) | skip)
      as_aux_lemma =>
       have H' := Aside0.mk H
       clear H
       go_wp2
       repeat (go_quiet (fail); try go_wp2)
       go_meet
       case rel => exact ⟨_, ((s0_0 == 4)), (by first | rfl | (simp; done) | (simp; decide +kernel) | (simp [*]; done)), H', ⟨by have := HJ2.out; first | omega | exact Nat.le_refl _⟩, ⟨by (with_reducible repeat (first | refine blk_drewN ?_ _ | refine blk_drew ?_ | refine blk_alloc ?_ _)); exact BK144.out⟩, ⟨by repeat (first | (with_reducible first | exact HB.out | apply below_alloc | apply pw_below_drewN | apply below_drew1 | refine below_set ?_ GE144.out) | exact HB.out)⟩⟩
    case rest =>
     clear HC19
     try clear c1
     try clear c2
     try clear p2
     try clear c6
     try clear c8
     try clear c8b0
     try clear c8b1
     try clear c9
     try clear c11
     try clear c12
     try clear c12b0
     try clear c12b1
     try clear c12b2
     try clear c20
     try clear c20b0
     try clear c20b1
     try clear hcz13_0
     try clear hcz13_1
     try clear hcz13_10
     try clear hcz13_11
     try clear hcz13_12
     try clear hcz13_13
     try clear hcz13_14
     try clear hcz13_15
     try clear hcz13_2
     try clear hcz13_3
     try clear hcz13_4
     try clear hcz13_5
     try clear hcz13_6
     try clear hcz13_7
     try clear hcz13_8
     try clear hcz13_9
     try clear hcz15_0
     try clear hcz15_1
     try clear hcz15_10
     try clear hcz15_11
     try clear hcz15_12
     try clear hcz15_13
     try clear hcz15_14
     try clear hcz15_15
     try clear hcz15_2
     try clear hcz15_3
     try clear hcz15_4
     try clear hcz15_5
     try clear hcz15_6
     try clear hcz15_7
     try clear hcz15_8
     try clear hcz15_9
     try clear hcz17_0
     try clear hcz17_1
     try clear hcz17_10
     try clear hcz17_11
     try clear hcz17_12
     try clear hcz17_13
     try clear hcz17_14
     try clear hcz17_15
     try clear hcz17_2
     try clear hcz17_3
     try clear hcz17_4
     try clear hcz17_5
     try clear hcz17_6
     try clear hcz17_7
     try clear hcz17_8
     try clear hcz17_9
     try clear hcz6_0
     try clear hcz6_1
     try clear hcz6_10
     try clear hcz6_11
     try clear hcz6_12
     try clear hcz6_13
     try clear hcz6_14
     try clear hcz6_15
     try clear hcz6_2
     try clear hcz6_3
     try clear hcz6_4
     try clear hcz6_5
     try clear hcz6_6
     try clear hcz6_7
     try clear hcz6_8
     try clear hcz6_9
     try clear hcz7_0
     try clear hcz7_1
     try clear hcz7_10
     try clear hcz7_11
     try clear hcz7_12
     try clear hcz7_13
     try clear hcz7_14
     try clear hcz7_15
     try clear hcz7_2
     try clear hcz7_3
     try clear hcz7_4
     try clear hcz7_5
     try clear hcz7_6
     try clear hcz7_7
     try clear hcz7_8
     try clear hcz7_9
     try clear hfz6_0
     try clear hfz6_1
     try clear hfz6_10
     try clear hfz6_11
     try clear hfz6_12
     try clear hfz6_13
     try clear hfz6_14
     try clear hfz6_15
     try clear hfz6_2
     try clear hfz6_3
     try clear hfz6_4
     try clear hfz6_5
     try clear hfz6_6
     try clear hfz6_7
     try clear hfz6_8
     try clear hfz6_9
     try clear p2
     obtain ⟨kq, x47_18, rfl, HA, HJ18, BK144, HB⟩ := hcut
     cases kq with
     | zero => exact absurd HA.out (by simp [spec_l27Step.j1])
     | succ kj18 =>
      have H := HA.out
      clear HA
      simp only [spec_l27Step.j1] at H
      by_cases c21 : x47_18 = true
      ·subst c21
       have H1 : (if (s0_1 == t129 && (s0_2 == t130 && (s0_3 == t131 && (s0_4 == t132 && (s0_5 == t133))))) = true then ((spec_ValidEllipsoid.f s0_6 s0_7 s0_8).bind fun t146 => (if t146 = true then (some (s0_9 == t137 && (s0_10 == t138 && (s0_11 == t139 && (s0_12 == t140 && (s0_13 == t141 && (s0_14 == t142 && (s0_15 == t143)))))))) else (some false))) else (some false)) = some r := by rw [if_pos rfl] at H; exact H
       clear H
       have H := H1
       clear H1
       by_cases c22 : (s0_1 == t129 && (s0_2 == t130 && (s0_3 == t131 && (s0_4 == t132 && (s0_5 == t133))))) = true
       ·rw [if_pos c22] at H
        have c22b0 : (s0_1 == t129 && (s0_2 == t130 && (s0_3 == t131 && (s0_4 == t132 && (s0_5 == t133))))) = true := c22
        (try (have c22b1 : decide (s0_1 = t129 && (s0_2 == t130 && (s0_3 == t131 && (s0_4 == t132 && (s0_5 == t133))))) = true := by simpa using c22))
        (try (have c22b2 : (s0_1 == t129 && (s0_2 == t130 && (s0_3 == t131 && (s0_4 == t132 && (s0_5 == t133))))) = true := by simpa using c22))
        clear c22
        replace H := Option.bind_eq_some_iff.mp H
        obtain ⟨t146, A230, H⟩ := H
        replace H : (if t146 = true then (some (s0_9 == t137 && (s0_10 == t138 && (s0_11 == t139 && (s0_12 == t140 && (s0_13 == t141 && (s0_14 == t142 && (s0_15 == t143)))))))) else (some false)) = some r := H
        have A23 := Aside0.mk A230
        clear A230
        by_cases c24 : t146 = true
        ·subst c24
         have H1 : (some (s0_9 == t137 && (s0_10 == t138 && (s0_11 == t139 && (s0_12 == t140 && (s0_13 == t141 && (s0_14 == t142 && (s0_15 == t143)))))))) = some r := by rw [if_pos rfl] at H; exact H
         clear H
         have H := H1
         clear H1
         as_aux_lemma =>
          obtain rfl := Option.some.inj H
          have hcz25_0 : wc.cell? ⟨g0_, o0_, x0_⟩ = some (.int .i64 s0_0) := pw_cell_below HB.out HP0_0.out
          have hcz25_1 : wc.cell? ⟨g0_, o0_ + 1, none⟩ = some (.int .i64 s0_1) := pw_cell_below HB.out HP0_1.out
          have hcz25_2 : wc.cell? ⟨g0_, o0_ + 2, none⟩ = some (.int .i64 s0_2) := pw_cell_below HB.out HP0_2.out
          have hcz25_3 : wc.cell? ⟨g0_, o0_ + 3, none⟩ = some (.int .i64 s0_3) := pw_cell_below HB.out HP0_3.out
          have hcz25_4 : wc.cell? ⟨g0_, o0_ + 4, none⟩ = some (.int .i64 s0_4) := pw_cell_below HB.out HP0_4.out
          have hcz25_5 : wc.cell? ⟨g0_, o0_ + 5, none⟩ = some (.int .i64 s0_5) := pw_cell_below HB.out HP0_5.out
          have hcz25_6 : wc.cell? ⟨g0_, o0_ + 6, none⟩ = some (.int .i64 s0_6) := pw_cell_below HB.out HP0_6.out
          have hcz25_7 : wc.cell? ⟨g0_, o0_ + 7, none⟩ = some (.int .i64 s0_7) := pw_cell_below HB.out HP0_7.out
          have hcz25_8 : wc.cell? ⟨g0_, o0_ + 8, none⟩ = some (.int .i64 s0_8) := pw_cell_below HB.out HP0_8.out
          have hcz25_9 : wc.cell? ⟨g0_, o0_ + 9, none⟩ = some (.int .i64 s0_9) := pw_cell_below HB.out HP0_9.out
          have hcz25_10 : wc.cell? ⟨g0_, o0_ + 10, none⟩ = some (.int .i64 s0_10) := pw_cell_below HB.out HP0_10.out
          have hcz25_11 : wc.cell? ⟨g0_, o0_ + 11, none⟩ = some (.int .i64 s0_11) := pw_cell_below HB.out HP0_11.out
          have hcz25_12 : wc.cell? ⟨g0_, o0_ + 12, none⟩ = some (.int .i64 s0_12) := pw_cell_below HB.out HP0_12.out
          have hcz25_13 : wc.cell? ⟨g0_, o0_ + 13, none⟩ = some (.int .i64 s0_13) := pw_cell_below HB.out HP0_13.out
          have hcz25_14 : wc.cell? ⟨g0_, o0_ + 14, none⟩ = some (.int .i64 s0_14) := pw_cell_below HB.out HP0_14.out
          have hcz25_15 : wc.cell? ⟨g0_, o0_ + 15, none⟩ = some (.int .i64 s0_15) := pw_cell_below HB.out HP0_15.out
          have hnrz25_144 : g0_ ≠ gb144 := Nat.ne_of_lt (Nat.lt_of_lt_of_le (World.block_lt_of_cell? _ _ HP0_0.out) GW144.out)
          have hnsz25_144 := hnrz25_144.symm
          go_wp2_with (first | (go_at_call 100; (with_reducible refine (spec_ValidEllipsoid.calls s0_6 s0_7 s0_8 true _ A23.out).mono ?_); rintro e w26 ⟨rfl, hb⟩; have n0_ := Aside0.mk (blk_below (g := gb144) (o := .cells #[.int .i64 t128, .int .i64 t129, .int .i64 t130, .int .i64 t131, .int .i64 t132, .int .i64 t133, .int .i64 t134, .int .i64 t135, .int .i64 t136, .int .i64 t137, .int .i64 t138, .int .i64 t139, .int .i64 t140, .int .i64 t141, .int .i64 t142, .int .i64 t143] 60 (0, 0)) (by (with_reducible repeat (first | refine blk_drewN ?_ _ | refine blk_drew ?_ | refine blk_alloc ?_ _)); exact BK144.out) hb); have n1_ := Aside0.mk (below_step (by repeat (first | (with_reducible first | exact HB.out | apply below_alloc | apply pw_below_drewN | apply below_drew1 | refine below_set ?_ GE144.out) | exact HB.out)) hb); clear BK144; clear HB; have BK144 := n0_; have HB := n1_; clear n0_ n1_; (try clear hb); (try clear hb2); (try clear hk); (try clear hi); (try dsimp only)))
          repeat (go_quiet (first | (go_at_call 100; (with_reducible refine (spec_ValidEllipsoid.calls s0_6 s0_7 s0_8 true _ A23.out).mono ?_); rintro e w26 ⟨rfl, hb⟩; have n0_ := Aside0.mk (blk_below (g := gb144) (o := .cells #[.int .i64 t128, .int .i64 t129, .int .i64 t130, .int .i64 t131, .int .i64 t132, .int .i64 t133, .int .i64 t134, .int .i64 t135, .int .i64 t136, .int .i64 t137, .int .i64 t138, .int .i64 t139, .int .i64 t140, .int .i64 t141, .int .i64 t142, .int .i64 t143] 60 (0, 0)) (by (with_reducible repeat (first | refine blk_drewN ?_ _ | refine blk_drew ?_ | refine blk_alloc ?_ _)); exact BK144.out) hb); have n1_ := Aside0.mk (below_step (by repeat (first | (with_reducible first | exact HB.out | apply below_alloc | apply pw_below_drewN | apply below_drew1 | refine below_set ?_ GE144.out) | exact HB.out)) hb); clear BK144; clear HB; have BK144 := n0_; have HB := n1_; clear n0_ n1_; (try clear hb); (try clear hb2); (try clear hk); (try clear hi); (try dsimp only))); try go_wp2_with (first | (go_at_call 100; (with_reducible refine (spec_ValidEllipsoid.calls s0_6 s0_7 s0_8 true _ A23.out).mono ?_); rintro e w26 ⟨rfl, hb⟩; have n0_ := Aside0.mk (blk_below (g := gb144) (o := .cells #[.int .i64 t128, .int .i64 t129, .int .i64 t130, .int .i64 t131, .int .i64 t132, .int .i64 t133, .int .i64 t134, .int .i64 t135, .int .i64 t136, .int .i64 t137, .int .i64 t138, .int .i64 t139, .int .i64 t140, .int .i64 t141, .int .i64 t142, .int .i64 t143] 60 (0, 0)) (by (with_reducible repeat (first | refine blk_drewN ?_ _ | refine blk_drew ?_ | refine blk_alloc ?_ _)); exact BK144.out) hb); have n1_ := Aside0.mk (below_step (by repeat (first | (with_reducible first | exact HB.out | apply below_alloc | apply pw_below_drewN | apply below_drew1 | refine below_set ?_ GE144.out) | exact HB.out)) hb); clear BK144; clear HB; have BK144 := n0_; have HB := n1_; clear n0_ n1_; (try clear hb); (try clear hb2); (try clear hk); (try clear hi); (try dsimp only))))
          go_ret
          exact ⟨by first | rfl | (simp <;> rfl) | (simp; decide +kernel) | (simp [*] <;> rfl), by repeat (first | (with_reducible first | exact HB.out | apply below_alloc | apply pw_below_drewN | apply below_drew1 | refine below_set ?_ GE144.out) | exact HB.out)⟩
        ·replace c24 := Bool.eq_false_iff.mpr c24
         subst c24
         have H1 : (some false) = some r := by rw [if_neg (show ¬ (false = true) by decide)] at H; exact H
         clear H
         have H := H1
         clear H1
         as_aux_lemma =>
          obtain rfl := Option.some.inj H
          have hcz27_0 : wc.cell? ⟨g0_, o0_, x0_⟩ = some (.int .i64 s0_0) := pw_cell_below HB.out HP0_0.out
          have hcz27_1 : wc.cell? ⟨g0_, o0_ + 1, none⟩ = some (.int .i64 s0_1) := pw_cell_below HB.out HP0_1.out
          have hcz27_2 : wc.cell? ⟨g0_, o0_ + 2, none⟩ = some (.int .i64 s0_2) := pw_cell_below HB.out HP0_2.out
          have hcz27_3 : wc.cell? ⟨g0_, o0_ + 3, none⟩ = some (.int .i64 s0_3) := pw_cell_below HB.out HP0_3.out
          have hcz27_4 : wc.cell? ⟨g0_, o0_ + 4, none⟩ = some (.int .i64 s0_4) := pw_cell_below HB.out HP0_4.out
          have hcz27_5 : wc.cell? ⟨g0_, o0_ + 5, none⟩ = some (.int .i64 s0_5) := pw_cell_below HB.out HP0_5.out
          have hcz27_6 : wc.cell? ⟨g0_, o0_ + 6, none⟩ = some (.int .i64 s0_6) := pw_cell_below HB.out HP0_6.out
          have hcz27_7 : wc.cell? ⟨g0_, o0_ + 7, none⟩ = some (.int .i64 s0_7) := pw_cell_below HB.out HP0_7.out
          have hcz27_8 : wc.cell? ⟨g0_, o0_ + 8, none⟩ = some (.int .i64 s0_8) := pw_cell_below HB.out HP0_8.out
          have hcz27_9 : wc.cell? ⟨g0_, o0_ + 9, none⟩ = some (.int .i64 s0_9) := pw_cell_below HB.out HP0_9.out
          have hcz27_10 : wc.cell? ⟨g0_, o0_ + 10, none⟩ = some (.int .i64 s0_10) := pw_cell_below HB.out HP0_10.out
          have hcz27_11 : wc.cell? ⟨g0_, o0_ + 11, none⟩ = some (.int .i64 s0_11) := pw_cell_below HB.out HP0_11.out
          have hcz27_12 : wc.cell? ⟨g0_, o0_ + 12, none⟩ = some (.int .i64 s0_12) := pw_cell_below HB.out HP0_12.out
          have hcz27_13 : wc.cell? ⟨g0_, o0_ + 13, none⟩ = some (.int .i64 s0_13) := pw_cell_below HB.out HP0_13.out
          have hcz27_14 : wc.cell? ⟨g0_, o0_ + 14, none⟩ = some (.int .i64 s0_14) := pw_cell_below HB.out HP0_14.out
          have hcz27_15 : wc.cell? ⟨g0_, o0_ + 15, none⟩ = some (.int .i64 s0_15) := pw_cell_below HB.out HP0_15.out
          have hnrz27_144 : g0_ ≠ gb144 := Nat.ne_of_lt (Nat.lt_of_lt_of_le (World.block_lt_of_cell? _ _ HP0_0.out) GW144.out)
          have hnsz27_144 := hnrz27_144.symm
          go_wp2_with (first | (go_at_call 100; (with_reducible refine (spec_ValidEllipsoid.calls s0_6 s0_7 s0_8 false _ A23.out).mono ?_); rintro e w28 ⟨rfl, hb⟩; have n0_ := Aside0.mk (blk_below (g := gb144) (o := .cells #[.int .i64 t128, .int .i64 t129, .int .i64 t130, .int .i64 t131, .int .i64 t132, .int .i64 t133, .int .i64 t134, .int .i64 t135, .int .i64 t136, .int .i64 t137, .int .i64 t138, .int .i64 t139, .int .i64 t140, .int .i64 t141, .int .i64 t142, .int .i64 t143] 60 (0, 0)) (by (with_reducible repeat (first | refine blk_drewN ?_ _ | refine blk_drew ?_ | refine blk_alloc ?_ _)); exact BK144.out) hb); have n1_ := Aside0.mk (below_step (by repeat (first | (with_reducible first | exact HB.out | apply below_alloc | apply pw_below_drewN | apply below_drew1 | refine below_set ?_ GE144.out) | exact HB.out)) hb); clear BK144; clear HB; have BK144 := n0_; have HB := n1_; clear n0_ n1_; (try clear hb); (try clear hb2); (try clear hk); (try clear hi); (try dsimp only)))
          repeat (go_quiet (first | (go_at_call 100; (with_reducible refine (spec_ValidEllipsoid.calls s0_6 s0_7 s0_8 false _ A23.out).mono ?_); rintro e w28 ⟨rfl, hb⟩; have n0_ := Aside0.mk (blk_below (g := gb144) (o := .cells #[.int .i64 t128, .int .i64 t129, .int .i64 t130, .int .i64 t131, .int .i64 t132, .int .i64 t133, .int .i64 t134, .int .i64 t135, .int .i64 t136, .int .i64 t137, .int .i64 t138, .int .i64 t139, .int .i64 t140, .int .i64 t141, .int .i64 t142, .int .i64 t143] 60 (0, 0)) (by (with_reducible repeat (first | refine blk_drewN ?_ _ | refine blk_drew ?_ | refine blk_alloc ?_ _)); exact BK144.out) hb); have n1_ := Aside0.mk (below_step (by repeat (first | (with_reducible first | exact HB.out | apply below_alloc | apply pw_below_drewN | apply below_drew1 | refine below_set ?_ GE144.out) | exact HB.out)) hb); clear BK144; clear HB; have BK144 := n0_; have HB := n1_; clear n0_ n1_; (try clear hb); (try clear hb2); (try clear hk); (try clear hi); (try dsimp only))); try go_wp2_with (first | (go_at_call 100; (with_reducible refine (spec_ValidEllipsoid.calls s0_6 s0_7 s0_8 false _ A23.out).mono ?_); rintro e w28 ⟨rfl, hb⟩; have n0_ := Aside0.mk (blk_below (g := gb144) (o := .cells #[.int .i64 t128, .int .i64 t129, .int .i64 t130, .int .i64 t131, .int .i64 t132, .int .i64 t133, .int .i64 t134, .int .i64 t135, .int .i64 t136, .int .i64 t137, .int .i64 t138, .int .i64 t139, .int .i64 t140, .int .i64 t141, .int .i64 t142, .int .i64 t143] 60 (0, 0)) (by (with_reducible repeat (first | refine blk_drewN ?_ _ | refine blk_drew ?_ | refine blk_alloc ?_ _)); exact BK144.out) hb); have n1_ := Aside0.mk (below_step (by repeat (first | (with_reducible first | exact HB.out | apply below_alloc | apply pw_below_drewN | apply below_drew1 | refine below_set ?_ GE144.out) | exact HB.out)) hb); clear BK144; clear HB; have BK144 := n0_; have HB := n1_; clear n0_ n1_; (try clear hb); (try clear hb2); (try clear hk); (try clear hi); (try dsimp only))))
          go_ret
          exact ⟨by first | rfl | (simp <;> rfl) | (simp; decide +kernel) | (simp [*] <;> rfl), by repeat (first | (with_reducible first | exact HB.out | apply below_alloc | apply pw_below_drewN | apply below_drew1 | refine below_set ?_ GE144.out) | exact HB.out)⟩
       ·rw [if_neg c22] at H
        have c22b0 : (s0_1 == t129 && (s0_2 == t130 && (s0_3 == t131 && (s0_4 == t132 && (s0_5 == t133))))) = false := by simpa using c22
        (try (have c22b1 : decide (s0_1 = t129 && (s0_2 == t130 && (s0_3 == t131 && (s0_4 == t132 && (s0_5 == t133))))) = false := by simpa using c22))
        (try (have c22b2 : (s0_1 == t129 && (s0_2 == t130 && (s0_3 == t131 && (s0_4 == t132 && (s0_5 == t133))))) = false := by simpa using c22))
        (try (have c22b3 : ¬ (s0_1 = t129 && (s0_2 == t130 && (s0_3 == t131 && (s0_4 == t132 && (s0_5 == t133))))) := by simpa using c22))
        clear c22
        as_aux_lemma =>
         obtain rfl := Option.some.inj H
         go_wp2
         repeat (go_quiet (fail); try go_wp2)
         go_ret
         exact ⟨by first | rfl | (simp <;> rfl) | (simp; decide +kernel) | (simp [*] <;> rfl), by repeat (first | (with_reducible first | exact HB.out | apply below_alloc | apply pw_below_drewN | apply below_drew1 | refine below_set ?_ GE144.out) | exact HB.out)⟩
      ·replace c21 := Bool.eq_false_iff.mpr c21
       subst c21
       have H1 : (if s0_0 = 5 then (spec_l27Step.j2 kj18 (s0_1 == t129 && (s0_2 == t130 && (s0_3 == t131 && (s0_4 == t132 && (s0_5 == t133))))) (s0_6 == t134 && (s0_7 == t135 && (s0_8 == t136))) (s0_9 == t137 && (s0_10 == t138 && (s0_11 == t139 && (s0_12 == t140 && (s0_13 == t141 && (s0_14 == t142 && (s0_15 == t143))))))) s0_0 (s0_0 == 5) s0_0 s0_1 s0_2 s0_3 s0_4 s0_5 s0_6 s0_7 s0_8 s0_9 s0_10 s0_11 s0_12 s0_13 s0_14 s0_15) else (spec_l27Step.j2 kj18 (s0_1 == t129 && (s0_2 == t130 && (s0_3 == t131 && (s0_4 == t132 && (s0_5 == t133))))) (s0_6 == t134 && (s0_7 == t135 && (s0_8 == t136))) (s0_9 == t137 && (s0_10 == t138 && (s0_11 == t139 && (s0_12 == t140 && (s0_13 == t141 && (s0_14 == t142 && (s0_15 == t143))))))) s0_0 (s0_0 == 6) s0_0 s0_1 s0_2 s0_3 s0_4 s0_5 s0_6 s0_7 s0_8 s0_9 s0_10 s0_11 s0_12 s0_13 s0_14 s0_15)) = some r := by rw [if_neg (show ¬ (false = true) by decide)] at H; exact H
       clear H
       have H := H1
       clear H1
       have HC29 := Aside0.mk H
       clear H
       go_upto_if 61 with (fail)
       repeat (go_quiet (fail); go_upto_if 61 with (fail))
       go_cut [61] (fun v61 wc => ∃ (kq : Nat) (x61_28 : Bool), v61 = .bool x61_28 ∧ Aside0 (spec_l27Step.j2 kq (s0_1 == t129 && (s0_2 == t130 && (s0_3 == t131 && (s0_4 == t132 && (s0_5 == t133))))) (s0_6 == t134 && (s0_7 == t135 && (s0_8 == t136))) (s0_9 == t137 && (s0_10 == t138 && (s0_11 == t139 && (s0_12 == t140 && (s0_13 == t141 && (s0_14 == t142 && (s0_15 == t143))))))) s0_0 x61_28 s0_0 s0_1 s0_2 s0_3 s0_4 s0_5 s0_6 s0_7 s0_8 s0_9 s0_10 s0_11 s0_12 s0_13 s0_14 s0_15 = some r) ∧ Aside0 (kq ≤ kj18) ∧ Aside0 (wc.heap[gb144]? = some (.cells #[.int .i64 t128, .int .i64 t129, .int .i64 t130, .int .i64 t131, .int .i64 t132, .int .i64 t133, .int .i64 t134, .int .i64 t135, .int .i64 t136, .int .i64 t137, .int .i64 t138, .int .i64 t139, .int .i64 t140, .int .i64 t141, .int .i64 t142, .int .i64 t143] 60 (0, 0))) ∧ Aside0 (Below w.heap.size w wc))
       case first =>
        have H := HC29.out
        clear HC29
        by_cases c30 : s0_0 = 5
        ·rw [if_pos c30] at H
         have c30b0 : (s0_0 == 5) = true := beq_iff_eq.mpr c30
         have c30b1 : (s0_0 != 5) = false := bne_eq_false_iff_eq.mpr c30
         clear c30
         (first | rw [c30b0] | (simp only [i64_w, i32_w]; rw [c30b0]) | skip)
         as_aux_lemma =>
          have H' := Aside0.mk H
          clear H
          go_wp2
          repeat (go_quiet (fail); try go_wp2)
          go_meet
          case rel => exact ⟨_, ((s0_0 == 5)), (by first | rfl | (simp; done) | (simp; decide +kernel) | (simp [*]; done)), H', ⟨by have := HJ2.out; have := HJ18.out; first | omega | exact Nat.le_refl _⟩, ⟨by (with_reducible repeat (first | refine blk_drewN ?_ _ | refine blk_drew ?_ | refine blk_alloc ?_ _)); exact BK144.out⟩, ⟨by repeat (first | (with_reducible first | exact HB.out | apply below_alloc | apply pw_below_drewN | apply below_drew1 | refine below_set ?_ GE144.out) | exact HB.out)⟩⟩
        ·rw [if_neg c30] at H
         have c30b0 : (s0_0 == 5) = false := beq_eq_false_iff_ne.mpr c30
         have c30b1 : (s0_0 != 5) = true := bne_iff_ne.mpr c30
         (first | rw [c30b0] | (simp only [i64_w, i32_w]; rw [c30b0]) | skip)
         as_aux_lemma =>
          have H' := Aside0.mk H
          clear H
          go_wp2
          repeat (go_quiet (fail); try go_wp2)
          go_meet
          case rel => exact ⟨_, ((s0_0 == 6)), (by first | rfl | (simp; done) | (simp; decide +kernel) | (simp [*]; done)), H', ⟨by have := HJ2.out; have := HJ18.out; first | omega | exact Nat.le_refl _⟩, ⟨by (with_reducible repeat (first | refine blk_drewN ?_ _ | refine blk_drew ?_ | refine blk_alloc ?_ _)); exact BK144.out⟩, ⟨by repeat (first | (with_reducible first | exact HB.out | apply below_alloc | apply pw_below_drewN | apply below_drew1 | refine below_set ?_ GE144.out) | exact HB.out)⟩⟩
       case rest =>
        clear HC29
        try clear c1
        try clear c2
        try clear p2
        try clear c3
        try clear c6
        try clear c8
        try clear c8b0
        try clear c8b1
        try clear c9
        try clear c11
        try clear c12
        try clear c12b0
        try clear c12b1
        try clear c12b2
        try clear c20
        try clear c20b0
        try clear c20b1
        try clear c21
        try clear c22
        try clear c22b0
        try clear c22b1
        try clear c22b2
        try clear c24
        try clear c30
        try clear c30b0
        try clear c30b1
        try clear hcz13_0
        try clear hcz13_1
        try clear hcz13_10
        try clear hcz13_11
        try clear hcz13_12
        try clear hcz13_13
        try clear hcz13_14
        try clear hcz13_15
        try clear hcz13_2
        try clear hcz13_3
        try clear hcz13_4
        try clear hcz13_5
        try clear hcz13_6
        try clear hcz13_7
        try clear hcz13_8
        try clear hcz13_9
        try clear hcz15_0
        try clear hcz15_1
        try clear hcz15_10
        try clear hcz15_11
        try clear hcz15_12
        try clear hcz15_13
        try clear hcz15_14
        try clear hcz15_15
        try clear hcz15_2
        try clear hcz15_3
        try clear hcz15_4
        try clear hcz15_5
        try clear hcz15_6
        try clear hcz15_7
        try clear hcz15_8
        try clear hcz15_9
        try clear hcz17_0
        try clear hcz17_1
        try clear hcz17_10
        try clear hcz17_11
        try clear hcz17_12
        try clear hcz17_13
        try clear hcz17_14
        try clear hcz17_15
        try clear hcz17_2
        try clear hcz17_3
        try clear hcz17_4
        try clear hcz17_5
        try clear hcz17_6
        try clear hcz17_7
        try clear hcz17_8
        try clear hcz17_9
        try clear hcz25_0
        try clear hcz25_1
        try clear hcz25_10
        try clear hcz25_11
        try clear hcz25_12
        try clear hcz25_13
        try clear hcz25_14
        try clear hcz25_15
        try clear hcz25_2
        try clear hcz25_3
        try clear hcz25_4
        try clear hcz25_5
        try clear hcz25_6
        try clear hcz25_7
        try clear hcz25_8
        try clear hcz25_9
        try clear hcz27_0
        try clear hcz27_1
        try clear hcz27_10
        try clear hcz27_11
        try clear hcz27_12
        try clear hcz27_13
        try clear hcz27_14
        try clear hcz27_15
        try clear hcz27_2
        try clear hcz27_3
        try clear hcz27_4
        try clear hcz27_5
        try clear hcz27_6
        try clear hcz27_7
        try clear hcz27_8
        try clear hcz27_9
        try clear hcz6_0
        try clear hcz6_1
        try clear hcz6_10
        try clear hcz6_11
        try clear hcz6_12
        try clear hcz6_13
        try clear hcz6_14
        try clear hcz6_15
        try clear hcz6_2
        try clear hcz6_3
        try clear hcz6_4
        try clear hcz6_5
        try clear hcz6_6
        try clear hcz6_7
        try clear hcz6_8
        try clear hcz6_9
        try clear hcz7_0
        try clear hcz7_1
        try clear hcz7_10
        try clear hcz7_11
        try clear hcz7_12
        try clear hcz7_13
        try clear hcz7_14
        try clear hcz7_15
        try clear hcz7_2
        try clear hcz7_3
        try clear hcz7_4
        try clear hcz7_5
        try clear hcz7_6
        try clear hcz7_7
        try clear hcz7_8
        try clear hcz7_9
        try clear hfz6_0
        try clear hfz6_1
        try clear hfz6_10
        try clear hfz6_11
        try clear hfz6_12
        try clear hfz6_13
        try clear hfz6_14
        try clear hfz6_15
        try clear hfz6_2
        try clear hfz6_3
        try clear hfz6_4
        try clear hfz6_5
        try clear hfz6_6
        try clear hfz6_7
        try clear hfz6_8
        try clear hfz6_9
        try clear p2
        obtain ⟨kq, x61_28, rfl, HA, HJ28, BK144, HB⟩ := hcut
        cases kq with
        | zero => exact absurd HA.out (by simp [spec_l27Step.j2])
        | succ kj28 =>
         have H := HA.out
         clear HA
         simp only [spec_l27Step.j2] at H
         by_cases c31 : x61_28 = true
         ·subst c31
          have H1 : (if (s0_1 == t129 && (s0_2 == t130 && (s0_3 == t131 && (s0_4 == t132 && (s0_5 == t133))))) = true then (if (s0_6 == t134 && (s0_7 == t135 && (s0_8 == t136))) = true then ((spec_l23Ok.f kj28 s0_9 s0_10 s0_11 s0_12 s0_13 s0_14 s0_15).bind fun t147 => (some t147)) else (some false)) else (some false)) = some r := by rw [if_pos rfl] at H; exact H
          clear H
          have H := H1
          clear H1
          by_cases c32 : (s0_1 == t129 && (s0_2 == t130 && (s0_3 == t131 && (s0_4 == t132 && (s0_5 == t133))))) = true
          ·rw [if_pos c32] at H
           have c32b0 : (s0_1 == t129 && (s0_2 == t130 && (s0_3 == t131 && (s0_4 == t132 && (s0_5 == t133))))) = true := c32
           (try (have c32b1 : decide (s0_1 = t129 && (s0_2 == t130 && (s0_3 == t131 && (s0_4 == t132 && (s0_5 == t133))))) = true := by simpa using c32))
           (try (have c32b2 : (s0_1 == t129 && (s0_2 == t130 && (s0_3 == t131 && (s0_4 == t132 && (s0_5 == t133))))) = true := by simpa using c32))
           clear c32
           by_cases c33 : (s0_6 == t134 && (s0_7 == t135 && (s0_8 == t136))) = true
           ·rw [if_pos c33] at H
            have c33b0 : (s0_6 == t134 && (s0_7 == t135 && (s0_8 == t136))) = true := c33
            (try (have c33b1 : decide (s0_6 = t134 && (s0_7 == t135 && (s0_8 == t136))) = true := by simpa using c33))
            (try (have c33b2 : (s0_6 == t134 && (s0_7 == t135 && (s0_8 == t136))) = true := by simpa using c33))
            clear c33
            replace H := Option.bind_eq_some_iff.mp H
            obtain ⟨t147, A340, H⟩ := H
            replace H : (some t147) = some r := H
            have A34 := Aside0.mk A340
            clear A340
            as_aux_lemma =>
             obtain rfl := Option.some.inj H
             go_wp2_with (first | (go_at_call 101; (with_reducible refine (spec_l23Ok.calls kj28 ⟨g0_, o0_ + 9, none⟩ s0_9 s0_10 s0_11 s0_12 s0_13 s0_14 s0_15 t147 _ ?side1 ?side2 ?side3 ?side4 ?side5 ?side6 ?side7 A34.out).mono ?_); (case side1 => exact pw_cell_below (by repeat (first | (with_reducible first | exact HB.out | apply below_alloc | apply pw_below_drewN | apply below_drew1 | refine below_set ?_ GE144.out) | exact HB.out)) HP0_9.out); (case side2 => exact pw_cell_below (by repeat (first | (with_reducible first | exact HB.out | apply below_alloc | apply pw_below_drewN | apply below_drew1 | refine below_set ?_ GE144.out) | exact HB.out)) HP0_10.out); (case side3 => exact pw_cell_below (by repeat (first | (with_reducible first | exact HB.out | apply below_alloc | apply pw_below_drewN | apply below_drew1 | refine below_set ?_ GE144.out) | exact HB.out)) HP0_11.out); (case side4 => exact pw_cell_below (by repeat (first | (with_reducible first | exact HB.out | apply below_alloc | apply pw_below_drewN | apply below_drew1 | refine below_set ?_ GE144.out) | exact HB.out)) HP0_12.out); (case side5 => exact pw_cell_below (by repeat (first | (with_reducible first | exact HB.out | apply below_alloc | apply pw_below_drewN | apply below_drew1 | refine below_set ?_ GE144.out) | exact HB.out)) HP0_13.out); (case side6 => exact pw_cell_below (by repeat (first | (with_reducible first | exact HB.out | apply below_alloc | apply pw_below_drewN | apply below_drew1 | refine below_set ?_ GE144.out) | exact HB.out)) HP0_14.out); (case side7 => exact pw_cell_below (by repeat (first | (with_reducible first | exact HB.out | apply below_alloc | apply pw_below_drewN | apply below_drew1 | refine below_set ?_ GE144.out) | exact HB.out)) HP0_15.out); rintro e w35 ⟨rfl, hb⟩; have n0_ := Aside0.mk (blk_below (g := gb144) (o := .cells #[.int .i64 t128, .int .i64 t129, .int .i64 t130, .int .i64 t131, .int .i64 t132, .int .i64 t133, .int .i64 t134, .int .i64 t135, .int .i64 t136, .int .i64 t137, .int .i64 t138, .int .i64 t139, .int .i64 t140, .int .i64 t141, .int .i64 t142, .int .i64 t143] 60 (0, 0)) (by (with_reducible repeat (first | refine blk_drewN ?_ _ | refine blk_drew ?_ | refine blk_alloc ?_ _)); exact BK144.out) hb); have n1_ := Aside0.mk (below_step (by repeat (first | (with_reducible first | exact HB.out | apply below_alloc | apply pw_below_drewN | apply below_drew1 | refine below_set ?_ GE144.out) | exact HB.out)) hb); clear BK144; clear HB; have BK144 := n0_; have HB := n1_; clear n0_ n1_; (try clear hb); (try clear hb2); (try clear hk); (try clear hi); (try dsimp only)))
             repeat (go_quiet (first | (go_at_call 101; (with_reducible refine (spec_l23Ok.calls kj28 ⟨g0_, o0_ + 9, none⟩ s0_9 s0_10 s0_11 s0_12 s0_13 s0_14 s0_15 t147 _ ?side1 ?side2 ?side3 ?side4 ?side5 ?side6 ?side7 A34.out).mono ?_); (case side1 => exact pw_cell_below (by repeat (first | (with_reducible first | exact HB.out | apply below_alloc | apply pw_below_drewN | apply below_drew1 | refine below_set ?_ GE144.out) | exact HB.out)) HP0_9.out); (case side2 => exact pw_cell_below (by repeat (first | (with_reducible first | exact HB.out | apply below_alloc | apply pw_below_drewN | apply below_drew1 | refine below_set ?_ GE144.out) | exact HB.out)) HP0_10.out); (case side3 => exact pw_cell_below (by repeat (first | (with_reducible first | exact HB.out | apply below_alloc | apply pw_below_drewN | apply below_drew1 | refine below_set ?_ GE144.out) | exact HB.out)) HP0_11.out); (case side4 => exact pw_cell_below (by repeat (first | (with_reducible first | exact HB.out | apply below_alloc | apply pw_below_drewN | apply below_drew1 | refine below_set ?_ GE144.out) | exact HB.out)) HP0_12.out); (case side5 => exact pw_cell_below (by repeat (first | (with_reducible first | exact HB.out | apply below_alloc | apply pw_below_drewN | apply below_drew1 | refine below_set ?_ GE144.out) | exact HB.out)) HP0_13.out); (case side6 => exact pw_cell_below (by repeat (first | (with_reducible first | exact HB.out | apply below_alloc | apply pw_below_drewN | apply below_drew1 | refine below_set ?_ GE144.out) | exact HB.out)) HP0_14.out); (case side7 => exact pw_cell_below (by repeat (first | (with_reducible first | exact HB.out | apply below_alloc | apply pw_below_drewN | apply below_drew1 | refine below_set ?_ GE144.out) | exact HB.out)) HP0_15.out); rintro e w35 ⟨rfl, hb⟩; have n0_ := Aside0.mk (blk_below (g := gb144) (o := .cells #[.int .i64 t128, .int .i64 t129, .int .i64 t130, .int .i64 t131, .int .i64 t132, .int .i64 t133, .int .i64 t134, .int .i64 t135, .int .i64 t136, .int .i64 t137, .int .i64 t138, .int .i64 t139, .int .i64 t140, .int .i64 t141, .int .i64 t142, .int .i64 t143] 60 (0, 0)) (by (with_reducible repeat (first | refine blk_drewN ?_ _ | refine blk_drew ?_ | refine blk_alloc ?_ _)); exact BK144.out) hb); have n1_ := Aside0.mk (below_step (by repeat (first | (with_reducible first | exact HB.out | apply below_alloc | apply pw_below_drewN | apply below_drew1 | refine below_set ?_ GE144.out) | exact HB.out)) hb); clear BK144; clear HB; have BK144 := n0_; have HB := n1_; clear n0_ n1_; (try clear hb); (try clear hb2); (try clear hk); (try clear hi); (try dsimp only))); try go_wp2_with (first | (go_at_call 101; (with_reducible refine (spec_l23Ok.calls kj28 ⟨g0_, o0_ + 9, none⟩ s0_9 s0_10 s0_11 s0_12 s0_13 s0_14 s0_15 t147 _ ?side1 ?side2 ?side3 ?side4 ?side5 ?side6 ?side7 A34.out).mono ?_); (case side1 => exact pw_cell_below (by repeat (first | (with_reducible first | exact HB.out | apply below_alloc | apply pw_below_drewN | apply below_drew1 | refine below_set ?_ GE144.out) | exact HB.out)) HP0_9.out); (case side2 => exact pw_cell_below (by repeat (first | (with_reducible first | exact HB.out | apply below_alloc | apply pw_below_drewN | apply below_drew1 | refine below_set ?_ GE144.out) | exact HB.out)) HP0_10.out); (case side3 => exact pw_cell_below (by repeat (first | (with_reducible first | exact HB.out | apply below_alloc | apply pw_below_drewN | apply below_drew1 | refine below_set ?_ GE144.out) | exact HB.out)) HP0_11.out); (case side4 => exact pw_cell_below (by repeat (first | (with_reducible first | exact HB.out | apply below_alloc | apply pw_below_drewN | apply below_drew1 | refine below_set ?_ GE144.out) | exact HB.out)) HP0_12.out); (case side5 => exact pw_cell_below (by repeat (first | (with_reducible first | exact HB.out | apply below_alloc | apply pw_below_drewN | apply below_drew1 | refine below_set ?_ GE144.out) | exact HB.out)) HP0_13.out); (case side6 => exact pw_cell_below (by repeat (first | (with_reducible first | exact HB.out | apply below_alloc | apply pw_below_drewN | apply below_drew1 | refine below_set ?_ GE144.out) | exact HB.out)) HP0_14.out); (case side7 => exact pw_cell_below (by repeat (first | (with_reducible first | exact HB.out | apply below_alloc | apply pw_below_drewN | apply below_drew1 | refine below_set ?_ GE144.out) | exact HB.out)) HP0_15.out); rintro e w35 ⟨rfl, hb⟩; have n0_ := Aside0.mk (blk_below (g := gb144) (o := .cells #[.int .i64 t128, .int .i64 t129, .int .i64 t130, .int .i64 t131, .int .i64 t132, .int .i64 t133, .int .i64 t134, .int .i64 t135, .int .i64 t136, .int .i64 t137, .int .i64 t138, .int .i64 t139, .int .i64 t140, .int .i64 t141, .int .i64 t142, .int .i64 t143] 60 (0, 0)) (by (with_reducible repeat (first | refine blk_drewN ?_ _ | refine blk_drew ?_ | refine blk_alloc ?_ _)); exact BK144.out) hb); have n1_ := Aside0.mk (below_step (by repeat (first | (with_reducible first | exact HB.out | apply below_alloc | apply pw_below_drewN | apply below_drew1 | refine below_set ?_ GE144.out) | exact HB.out)) hb); clear BK144; clear HB; have BK144 := n0_; have HB := n1_; clear n0_ n1_; (try clear hb); (try clear hb2); (try clear hk); (try clear hi); (try dsimp only))))
             go_ret
             exact ⟨by first | rfl | (simp <;> rfl) | (simp; decide +kernel) | (simp [*] <;> rfl), by repeat (first | (with_reducible first | exact HB.out | apply below_alloc | apply pw_below_drewN | apply below_drew1 | refine below_set ?_ GE144.out) | exact HB.out)⟩
           ·rw [if_neg c33] at H
            have c33b0 : (s0_6 == t134 && (s0_7 == t135 && (s0_8 == t136))) = false := by simpa using c33
            (try (have c33b1 : decide (s0_6 = t134 && (s0_7 == t135 && (s0_8 == t136))) = false := by simpa using c33))
            (try (have c33b2 : (s0_6 == t134 && (s0_7 == t135 && (s0_8 == t136))) = false := by simpa using c33))
            (try (have c33b3 : ¬ (s0_6 = t134 && (s0_7 == t135 && (s0_8 == t136))) := by simpa using c33))
            clear c33
            as_aux_lemma =>
             obtain rfl := Option.some.inj H
             go_wp2
             repeat (go_quiet (fail); try go_wp2)
             go_ret
             exact ⟨by first | rfl | (simp <;> rfl) | (simp; decide +kernel) | (simp [*] <;> rfl), by repeat (first | (with_reducible first | exact HB.out | apply below_alloc | apply pw_below_drewN | apply below_drew1 | refine below_set ?_ GE144.out) | exact HB.out)⟩
          ·rw [if_neg c32] at H
           have c32b0 : (s0_1 == t129 && (s0_2 == t130 && (s0_3 == t131 && (s0_4 == t132 && (s0_5 == t133))))) = false := by simpa using c32
           (try (have c32b1 : decide (s0_1 = t129 && (s0_2 == t130 && (s0_3 == t131 && (s0_4 == t132 && (s0_5 == t133))))) = false := by simpa using c32))
           (try (have c32b2 : (s0_1 == t129 && (s0_2 == t130 && (s0_3 == t131 && (s0_4 == t132 && (s0_5 == t133))))) = false := by simpa using c32))
           (try (have c32b3 : ¬ (s0_1 = t129 && (s0_2 == t130 && (s0_3 == t131 && (s0_4 == t132 && (s0_5 == t133))))) := by simpa using c32))
           clear c32
           as_aux_lemma =>
            obtain rfl := Option.some.inj H
            go_wp2
            repeat (go_quiet (fail); try go_wp2)
            go_ret
            exact ⟨by first | rfl | (simp <;> rfl) | (simp; decide +kernel) | (simp [*] <;> rfl), by repeat (first | (with_reducible first | exact HB.out | apply below_alloc | apply pw_below_drewN | apply below_drew1 | refine below_set ?_ GE144.out) | exact HB.out)⟩
         ·replace c31 := Bool.eq_false_iff.mpr c31
          subst c31
          have H1 : (if s0_0 = 7 then (if (s0_1 == t129 && (s0_2 == t130 && (s0_3 == t131 && (s0_4 == t132 && (s0_5 == t133))))) = true then (if (s0_6 == t134 && (s0_7 == t135 && (s0_8 == t136))) = true then (some (s0_9 == t137 && (s0_10 == t138 && (s0_11 == t139 && (s0_12 == t140 && (s0_13 == t141 && (s0_14 == t142 && (s0_15 == t143)))))))) else (some false)) else (some false)) else (some false)) = some r := by rw [if_neg (show ¬ (false = true) by decide)] at H; exact H
          clear H
          have H := H1
          clear H1
          by_cases c36 : s0_0 = 7
          ·rw [if_pos c36] at H
           have c36b0 : (s0_0 == 7) = true := beq_iff_eq.mpr c36
           have c36b1 : (s0_0 != 7) = false := bne_eq_false_iff_eq.mpr c36
           clear c36
           by_cases c37 : (s0_1 == t129 && (s0_2 == t130 && (s0_3 == t131 && (s0_4 == t132 && (s0_5 == t133))))) = true
           ·rw [if_pos c37] at H
            have c37b0 : (s0_1 == t129 && (s0_2 == t130 && (s0_3 == t131 && (s0_4 == t132 && (s0_5 == t133))))) = true := c37
            (try (have c37b1 : decide (s0_1 = t129 && (s0_2 == t130 && (s0_3 == t131 && (s0_4 == t132 && (s0_5 == t133))))) = true := by simpa using c37))
            (try (have c37b2 : (s0_1 == t129 && (s0_2 == t130 && (s0_3 == t131 && (s0_4 == t132 && (s0_5 == t133))))) = true := by simpa using c37))
            clear c37
            by_cases c38 : (s0_6 == t134 && (s0_7 == t135 && (s0_8 == t136))) = true
            ·rw [if_pos c38] at H
             have c38b0 : (s0_6 == t134 && (s0_7 == t135 && (s0_8 == t136))) = true := c38
             (try (have c38b1 : decide (s0_6 = t134 && (s0_7 == t135 && (s0_8 == t136))) = true := by simpa using c38))
             (try (have c38b2 : (s0_6 == t134 && (s0_7 == t135 && (s0_8 == t136))) = true := by simpa using c38))
             clear c38
             as_aux_lemma =>
              obtain rfl := Option.some.inj H
              go_wp2
              repeat (go_quiet (fail); try go_wp2)
              go_ret
              exact ⟨by first | rfl | (simp <;> rfl) | (simp; decide +kernel) | (simp [*] <;> rfl), by repeat (first | (with_reducible first | exact HB.out | apply below_alloc | apply pw_below_drewN | apply below_drew1 | refine below_set ?_ GE144.out) | exact HB.out)⟩
            ·rw [if_neg c38] at H
             have c38b0 : (s0_6 == t134 && (s0_7 == t135 && (s0_8 == t136))) = false := by simpa using c38
             (try (have c38b1 : decide (s0_6 = t134 && (s0_7 == t135 && (s0_8 == t136))) = false := by simpa using c38))
             (try (have c38b2 : (s0_6 == t134 && (s0_7 == t135 && (s0_8 == t136))) = false := by simpa using c38))
             (try (have c38b3 : ¬ (s0_6 = t134 && (s0_7 == t135 && (s0_8 == t136))) := by simpa using c38))
             clear c38
             as_aux_lemma =>
              obtain rfl := Option.some.inj H
              go_wp2
              repeat (go_quiet (fail); try go_wp2)
              go_ret
              exact ⟨by first | rfl | (simp <;> rfl) | (simp; decide +kernel) | (simp [*] <;> rfl), by repeat (first | (with_reducible first | exact HB.out | apply below_alloc | apply pw_below_drewN | apply below_drew1 | refine below_set ?_ GE144.out) | exact HB.out)⟩
           ·rw [if_neg c37] at H
            have c37b0 : (s0_1 == t129 && (s0_2 == t130 && (s0_3 == t131 && (s0_4 == t132 && (s0_5 == t133))))) = false := by simpa using c37
            (try (have c37b1 : decide (s0_1 = t129 && (s0_2 == t130 && (s0_3 == t131 && (s0_4 == t132 && (s0_5 == t133))))) = false := by simpa using c37))
            (try (have c37b2 : (s0_1 == t129 && (s0_2 == t130 && (s0_3 == t131 && (s0_4 == t132 && (s0_5 == t133))))) = false := by simpa using c37))
            (try (have c37b3 : ¬ (s0_1 = t129 && (s0_2 == t130 && (s0_3 == t131 && (s0_4 == t132 && (s0_5 == t133))))) := by simpa using c37))
            clear c37
            as_aux_lemma =>
             obtain rfl := Option.some.inj H
             go_wp2
             repeat (go_quiet (fail); try go_wp2)
             go_ret
             exact ⟨by first | rfl | (simp <;> rfl) | (simp; decide +kernel) | (simp [*] <;> rfl), by repeat (first | (with_reducible first | exact HB.out | apply below_alloc | apply pw_below_drewN | apply below_drew1 | refine below_set ?_ GE144.out) | exact HB.out)⟩
          ·rw [if_neg c36] at H
           have c36b0 : (s0_0 == 7) = false := beq_eq_false_iff_ne.mpr c36
           have c36b1 : (s0_0 != 7) = true := bne_iff_ne.mpr c36
           as_aux_lemma =>
            obtain rfl := Option.some.inj H
            go_wp2
            repeat (go_quiet (fail); try go_wp2)
            go_ret
            exact ⟨by first | rfl | (simp <;> rfl) | (simp; decide +kernel) | (simp [*] <;> rfl), by repeat (first | (with_reducible first | exact HB.out | apply below_alloc | apply pw_below_drewN | apply below_drew1 | refine below_set ?_ GE144.out) | exact HB.out)⟩

end Go.Proofs.Ytillihiadpgalaa.P
