/- The row of the law FnExactRunStep: written by mkrow.py out of the pure statement and the contract. No condition. -/
import Derived.Test.YtaimjfippclbcaaGreatRows
import Derived.Test.YtaimjfippclbcaaGreatFnExactRunStepJ
import Derived.Test.YtaimjfippclbcaaGreatPRun
import Derived.Test.YtaimjfippclbcaaGreatEvRow
import Derived.WalkKit
import Derived.ProofKit
import Derived.OpenShut
import Derived.ShutString
import Derived.ChangeOld
import Derived.Below
import Derived.Carry
import Derived.SizedLaws
namespace Go.Proofs.YtaimjfippclbcaaGreat.fnExactRunStep
open Go.ChangeShapes Go.WideShapes Go.ChangeAt Go.RowKit
open Go.ChangeMaps (open_string shut_string)
open Go.Proofs.YtaimjfippclbcaaGreat Go.Proofs.YtaimjfippclbcaaGreat.Ev
set_option linter.unusedVariables false
theorem own : ownKnob Tryz.prog.godebug = none := by kernel_rfl
theorem laidOut : laidOutB Tryz.prog = true := by kernel_rfl
open Go.Proofs.YtaimjfippclbcaaGreat.Ev in
theorem call (k : Nat) (W : World) (hgl : GlobsAt gl_ W fun _ => False) (a0_0 a0_1 a0_2 a0_3 a0_4 a0_5 a0_6 a0_7 a0_8 a0_9 a0_10 a0_11 a0_12 a0_13 a0_14 a0_15 : Int) (a1_0 a1_1 a1_2 a1_3 a1_4 a1_5 a1_6 a1_7 a1_8 a1_9 a1_10 a1_11 a1_12 a1_13 a1_14 a1_15 a1_16 a1_17 a1_18 a1_19 a1_20 : Int) (hp : Go.Proofs.YtaimjfippclbcaaGreat.Ev.laws_FnExactRunStep k (a0_0) (a0_1) (a0_2) (a0_3) (a0_4) (a0_5) (a0_6) (a0_7) (a0_8) (a0_9) (a0_10) (a0_11) (a0_12) (a0_13) (a0_14) (a0_15) (a1_0) (a1_1) (a1_2) (a1_3) (a1_4) (a1_5) (a1_6) (a1_7) (a1_8) (a1_9) (a1_10) (a1_11) (a1_12) (a1_13) (a1_14) (a1_15) (a1_16) (a1_17) (a1_18) (a1_19) (a1_20) = some [.b true]) : Calls Tryz.prog 3 #[.agg ([a0_0, a0_1, a0_2, a0_3, a0_4, a0_5, a0_6, a0_7, a0_8, a0_9, a0_10, a0_11, a0_12, a0_13, a0_14, a0_15].map (Value.int .i64)).toArray, .agg ([a1_0, a1_1, a1_2, a1_3, a1_4, a1_5, a1_6, a1_7, a1_8, a1_9, a1_10, a1_11, a1_12, a1_13, a1_14, a1_15, a1_16, a1_17, a1_18, a1_19, a1_20].map (Value.int .i64)).toArray] W fun e w' => e = .returned (.bool true) ∧ Below W.heap.size W w' := by
  have h1 : isMut (Go.Proofs.YtaimjfippclbcaaGreat.Ev.laws_FnExactRunStep.sp k) = false := by kernel_rfl
  have h2 : (Go.Proofs.YtaimjfippclbcaaGreat.Ev.laws_FnExactRunStep.sp k).rt = [(false, [(.bool, 0)])] := rfl
  have h3 : (Go.Proofs.YtaimjfippclbcaaGreat.Ev.laws_FnExactRunStep.sp k).G [.i a0_0, .i a0_1, .i a0_2, .i a0_3, .i a0_4, .i a0_5, .i a0_6, .i a0_7, .i a0_8, .i a0_9, .i a0_10, .i a0_11, .i a0_12, .i a0_13, .i a0_14, .i a0_15, .i a1_0, .i a1_1, .i a1_2, .i a1_3, .i a1_4, .i a1_5, .i a1_6, .i a1_7, .i a1_8, .i a1_9, .i a1_10, .i a1_11, .i a1_12, .i a1_13, .i a1_14, .i a1_15, .i a1_16, .i a1_17, .i a1_18, .i a1_19, .i a1_20] = some [.b true] := hp
  have h4 : ∀ F : Nat → Prop, (∀ b, ¬ F b) → ArgsRep Tryz.prog W F (Go.Proofs.YtaimjfippclbcaaGreat.Ev.laws_FnExactRunStep.sp k).pt [.i a0_0, .i a0_1, .i a0_2, .i a0_3, .i a0_4, .i a0_5, .i a0_6, .i a0_7, .i a0_8, .i a0_9, .i a0_10, .i a0_11, .i a0_12, .i a0_13, .i a0_14, .i a0_15, .i a1_0, .i a1_1, .i a1_2, .i a1_3, .i a1_4, .i a1_5, .i a1_6, .i a1_7, .i a1_8, .i a1_9, .i a1_10, .i a1_11, .i a1_12, .i a1_13, .i a1_14, .i a1_15, .i a1_16, .i a1_17, .i a1_18, .i a1_19, .i a1_20] [.agg ([a0_0, a0_1, a0_2, a0_3, a0_4, a0_5, a0_6, a0_7, a0_8, a0_9, a0_10, a0_11, a0_12, a0_13, a0_14, a0_15].map (Value.int .i64)).toArray, .agg ([a1_0, a1_1, a1_2, a1_3, a1_4, a1_5, a1_6, a1_7, a1_8, a1_9, a1_10, a1_11, a1_12, a1_13, a1_14, a1_15, a1_16, a1_17, a1_18, a1_19, a1_20].map (Value.int .i64)).toArray] := fun F hF => ⟨⟨_, rfl, .cons (.int .i64 (.i _)) (.cons (.int .i64 (.i _)) (.cons (.int .i64 (.i _)) (.cons (.int .i64 (.i _)) (.cons (.int .i64 (.i _)) (.cons (.int .i64 (.i _)) (.cons (.int .i64 (.i _)) (.cons (.int .i64 (.i _)) (.cons (.int .i64 (.i _)) (.cons (.int .i64 (.i _)) (.cons (.int .i64 (.i _)) (.cons (.int .i64 (.i _)) (.cons (.int .i64 (.i _)) (.cons (.int .i64 (.i _)) (.cons (.int .i64 (.i _)) (.cons (.int .i64 (.i _)) (.nil))))))))))))))))⟩, ⟨_, rfl, .cons (.int .i64 (.i _)) (.cons (.int .i64 (.i _)) (.cons (.int .i64 (.i _)) (.cons (.int .i64 (.i _)) (.cons (.int .i64 (.i _)) (.cons (.int .i64 (.i _)) (.cons (.int .i64 (.i _)) (.cons (.int .i64 (.i _)) (.cons (.int .i64 (.i _)) (.cons (.int .i64 (.i _)) (.cons (.int .i64 (.i _)) (.cons (.int .i64 (.i _)) (.cons (.int .i64 (.i _)) (.cons (.int .i64 (.i _)) (.cons (.int .i64 (.i _)) (.cons (.int .i64 (.i _)) (.cons (.int .i64 (.i _)) (.cons (.int .i64 (.i _)) (.cons (.int .i64 (.i _)) (.cons (.int .i64 (.i _)) (.cons (.int .i64 (.i _)) (.nil)))))))))))))))))))))⟩, trivial⟩
  exact ev_calls (Go.Proofs.YtaimjfippclbcaaGreat.Ev.laws_FnExactRunStep.spec k) (fn := Tryz.f3) (by kernel_rfl) (by kernel_rfl) h1 h2 hgl h4 h3
set_option maxRecDepth 100000 in
theorem lifted (os : Os) (started : os.Started) (H : Type) (enc : TypeId × Value → H) :
    ReturnsInHanded {} Tryz.checked os 3 .any (Rows.fnExactRunStepSpec.pre6 enc Tryz.prog Tryz.f3 Rows.fnExactRunStepRow.domain false) (Rows.fnExactRunStepSpec.post enc Tryz.prog Tryz.f3 false true false false) := by
  refine returnsInHanded_of_change_sized (C := Tryz.checked) own started (by kernel_rfl) Tryz.func3
    (ChangeSpec.witness6 (enc := enc) (C := Tryz.checked) false ⟨#[], #[.agg #[.int .i64 0, .int .i64 0, .int .i64 0, .int .i64 0, .int .i64 0, .int .i64 0, .int .i64 0, .int .i64 0, .int .i64 0, .int .i64 0, .int .i64 0, .int .i64 0, .int .i64 0, .int .i64 0, .int .i64 0, .int .i64 0], .agg #[.int .i64 0, .int .i64 0, .int .i64 0, .int .i64 0, .int .i64 0, .int .i64 0, .int .i64 0, .int .i64 0, .int .i64 0, .int .i64 0, .int .i64 0, .int .i64 0, .int .i64 0, .int .i64 0, .int .i64 0, .int .i64 0, .int .i64 0, .int .i64 0, .int .i64 0, .int .i64 0, .int .i64 0]], []⟩ 8 (by kernel_rfl) (by kernel_rfl) (by kernel_rfl) (by kernel_rfl)) ?_
  intro W base args ds gs before hval0 hW hcnd hsz0 _
  have hsz : (DataW.weightsEach Tryz.prog (Tryz.f3.params.toList ++ Rows.fnExactRunStepSpec.plain.varTypes Tryz.prog) (ds ++ gs)).all (· ≤ reachBytes) = true := hsz0
  have hval : ∀ (j : Nat) t v, Tryz.f3.params[j]? = some t → args[j]? = some v → Value.okWide Tryz.prog W .any base t v := hval0
  have hW' := hW
  obtain ⟨p, q, hA0, hV, rfl, hfz, hnd⟩ := hW
  have hA : DataW.TrodAll enc Tryz.prog W 0 (fun _ => true) true Tryz.f3.params.toList args.toList ds p := hA0
  rw [Tryz.params3] at hA hval hsz
  obtain ⟨v0, vs0, d0, ds0, p0, q0, hargs, rfl, rfl, h0, r0⟩ := trodAll_cons hA
  obtain ⟨v1, vs1, d1, ds1, p1, q1, rfl, rfl, rfl, h1, r1⟩ := trodAll_cons r0
  obtain ⟨rfl, rfl, rfl⟩ := trodAll_nil r1
  obtain rfl : args = #[v0, v1] := by cases args; simp_all
  obtain ⟨rfl, rfl⟩ := trodVars_none hV
  have k0 := h0
  have lt0 : ∀ x ∈ p0, x.block < W.heap.size := by obtain ⟨m, hm⟩ := k0; exact DataW.trod_lt m _ _ _ hm
  obtain ⟨l0, le0, rfl, wf0⟩ := Open.open_cells (k := .i64) 16 Tryz.underlying29 (by kernel_rfl) (by kernel_rfl) Tryz.underlying2 (hval 0 29 v0 rfl rfl)
  obtain ⟨a0_0, a0_1, a0_2, a0_3, a0_4, a0_5, a0_6, a0_7, a0_8, a0_9, a0_10, a0_11, a0_12, a0_13, a0_14, a0_15, rfl⟩ := Open.list16 le0
  have w0_0 := wf0 a0_0 (by simp)
  have w0_1 := wf0 a0_1 (by simp)
  have w0_2 := wf0 a0_2 (by simp)
  have w0_3 := wf0 a0_3 (by simp)
  have w0_4 := wf0 a0_4 (by simp)
  have w0_5 := wf0 a0_5 (by simp)
  have w0_6 := wf0 a0_6 (by simp)
  have w0_7 := wf0 a0_7 (by simp)
  have w0_8 := wf0 a0_8 (by simp)
  have w0_9 := wf0 a0_9 (by simp)
  have w0_10 := wf0 a0_10 (by simp)
  have w0_11 := wf0 a0_11 (by simp)
  have w0_12 := wf0 a0_12 (by simp)
  have w0_13 := wf0 a0_13 (by simp)
  have w0_14 := wf0 a0_14 (by simp)
  have w0_15 := wf0 a0_15 (by simp)
  have k1 := h1
  have lt1 : ∀ x ∈ p1, x.block < W.heap.size := by obtain ⟨m, hm⟩ := k1; exact DataW.trod_lt m _ _ _ hm
  obtain ⟨l1, le1, rfl, wf1⟩ := Open.open_cells (k := .i64) 21 Tryz.underlying41 (by kernel_rfl) (by kernel_rfl) Tryz.underlying2 (hval 1 41 v1 rfl rfl)
  obtain ⟨a1_0, a1_1, a1_2, a1_3, a1_4, a1_5, a1_6, a1_7, a1_8, a1_9, a1_10, a1_11, a1_12, a1_13, a1_14, a1_15, a1_16, a1_17, a1_18, a1_19, a1_20, rfl⟩ := Open.list21 le1
  have w1_0 := wf1 a1_0 (by simp)
  have w1_1 := wf1 a1_1 (by simp)
  have w1_2 := wf1 a1_2 (by simp)
  have w1_3 := wf1 a1_3 (by simp)
  have w1_4 := wf1 a1_4 (by simp)
  have w1_5 := wf1 a1_5 (by simp)
  have w1_6 := wf1 a1_6 (by simp)
  have w1_7 := wf1 a1_7 (by simp)
  have w1_8 := wf1 a1_8 (by simp)
  have w1_9 := wf1 a1_9 (by simp)
  have w1_10 := wf1 a1_10 (by simp)
  have w1_11 := wf1 a1_11 (by simp)
  have w1_12 := wf1 a1_12 (by simp)
  have w1_13 := wf1 a1_13 (by simp)
  have w1_14 := wf1 a1_14 (by simp)
  have w1_15 := wf1 a1_15 (by simp)
  have w1_16 := wf1 a1_16 (by simp)
  have w1_17 := wf1 a1_17 (by simp)
  have w1_18 := wf1 a1_18 (by simp)
  have w1_19 := wf1 a1_19 (by simp)
  have w1_20 := wf1 a1_20 (by simp)
  clear hA0 hval0 hsz0 hsz
  obtain ⟨k, hp⟩ := Go.Proofs.YtaimjfippclbcaaGreat.Ev.FnExactRunStep_pure a0_0 a0_1 a0_2 a0_3 a0_4 a0_5 a0_6 a0_7 a0_8 a0_9 a0_10 a0_11 a0_12 a0_13 a0_14 a0_15 a1_0 a1_1 a1_2 a1_3 a1_4 a1_5 a1_6 a1_7 a1_8 a1_9 a1_10 a1_11 a1_12 a1_13 a1_14 a1_15 a1_16 a1_17 a1_18 a1_19 a1_20 w0_0 w0_1 w0_2 w0_3 w0_4 w0_5 w0_6 w0_7 w0_8 w0_9 w0_10 w0_11 w0_12 w0_13 w0_14 w0_15 w1_0 w1_1 w1_2 w1_3 w1_4 w1_5 w1_6 w1_7 w1_8 w1_9 w1_10 w1_11 w1_12 w1_13 w1_14 w1_15 w1_16 w1_17 w1_18 w1_19 w1_20
  refine (call k W GlobsAt.none a0_0 a0_1 a0_2 a0_3 a0_4 a0_5 a0_6 a0_7 a0_8 a0_9 a0_10 a0_11 a0_12 a0_13 a0_14 a0_15 a1_0 a1_1 a1_2 a1_3 a1_4 a1_5 a1_6 a1_7 a1_8 a1_9 a1_10 a1_11 a1_12 a1_13 a1_14 a1_15 a1_16 a1_17 a1_18 a1_19 a1_20 hp).mono fun e W' ⟨he, bel⟩ => ?_
  subst he
  exact ⟨_, rfl, _, _, _, [], _, [], hW', trodAll_mk1 (shut_bool Tryz.underlying4 _), (trodAll_cons_mk (Below.trod laidOut (by kernel_rfl) (of_decide_eq_true (by kernel_rfl)) k0 bel lt0) (trodAll_cons_mk (Below.trod laidOut (by kernel_rfl) (of_decide_eq_true (by kernel_rfl)) k1 bel lt1) trodAll_mk0)), rfl, bel.frame _, fun h => by cases h⟩
theorem over : Rows.fnExactRunStepRow.holds Tryz.pinned (OpenSpec.ofChange Rows.fnExactRunStepSpec) :=
  OpenClaim.holds_of_wide 3 Tryz.f3 rfl rfl rfl rfl rfl rfl rfl ⟨rfl, rfl, rfl, rfl, rfl⟩ rfl rfl rfl rfl rfl named Tryz.func3 joined
    (of_decide_eq_true (by kernel_rfl)) (by unfold Func.isWrapper; first | (rw [if_pos (by decide +kernel)]; kernel_rfl) | (rw [if_neg (by decide +kernel)]; exact ⟨rfl, rfl⟩))
    (fun os started H enc _ => lifted os started H enc)
theorem proved : Rows.FnExactRunStepSaid := over
end Go.Proofs.YtaimjfippclbcaaGreat.fnExactRunStep
namespace Go.Proofs.YtaimjfippclbcaaGreat
/-- The row, under a short name, for the claim. -/
theorem fnExactRunStep_holds : Rows.FnExactRunStepSaid := fnExactRunStep.proved
end Go.Proofs.YtaimjfippclbcaaGreat
