/- The row of the law FnExactEdgeArea: written by mkrow.py out of the pure statement and the contract. No condition. -/
import Derived.Test.YtbbgdeknaecljaaGreatRows
import Derived.Test.YtbbgdeknaecljaaGreatPRingLaw
import Derived.Test.YtbbgdeknaecljaaGreatEvRow
import Derived.WalkKit
import Derived.ProofKit
import Derived.OpenShut
import Derived.ShutString
import Derived.ChangeOld
import Derived.Below
import Derived.Carry
import Derived.SizedLaws
namespace Go.Proofs.YtbbgdeknaecljaaGreat.fnExactEdgeArea
open Go.ChangeShapes Go.WideShapes Go.ChangeAt Go.RowKit
open Go.ChangeMaps (open_string shut_string)
open Go.Proofs.YtbbgdeknaecljaaGreat Go.Proofs.YtbbgdeknaecljaaGreat.Ev
set_option linter.unusedVariables false
theorem own : ownKnob Tryz.prog.godebug = none := by kernel_rfl
theorem laidOut : laidOutB Tryz.prog = true := by kernel_rfl
open Go.Proofs.YtbbgdeknaecljaaGreat.Ev in
theorem call (k : Nat) (W : World) (hgl : GlobsAt gl_ W fun _ => False) (a0_0 a0_1 : Int) (a1_0 a1_1 : Int) (hp : Go.Proofs.YtbbgdeknaecljaaGreat.Ev.laws_FnExactEdgeArea k (a0_0) (a0_1) (a1_0) (a1_1) = some [.b true]) : Calls Tryz.prog 4 #[.agg ([a0_0, a0_1].map (Value.int .i64)).toArray, .agg ([a1_0, a1_1].map (Value.int .i64)).toArray] W fun e w' => e = .returned (.bool true) ∧ Below W.heap.size W w' := by
  have h1 : isMut (Go.Proofs.YtbbgdeknaecljaaGreat.Ev.laws_FnExactEdgeArea.sp k) = false := by kernel_rfl
  have h2 : (Go.Proofs.YtbbgdeknaecljaaGreat.Ev.laws_FnExactEdgeArea.sp k).rt = [(false, [(.bool, 0)])] := rfl
  have h3 : (Go.Proofs.YtbbgdeknaecljaaGreat.Ev.laws_FnExactEdgeArea.sp k).G [.i a0_0, .i a0_1, .i a1_0, .i a1_1] = some [.b true] := hp
  have h4 : ∀ F : Nat → Prop, (∀ b, ¬ F b) → ArgsRep Tryz.prog W F (Go.Proofs.YtbbgdeknaecljaaGreat.Ev.laws_FnExactEdgeArea.sp k).pt [.i a0_0, .i a0_1, .i a1_0, .i a1_1] [.agg ([a0_0, a0_1].map (Value.int .i64)).toArray, .agg ([a1_0, a1_1].map (Value.int .i64)).toArray] := fun F hF => ⟨⟨_, rfl, .cons (.int .i64 (.i _)) (.cons (.int .i64 (.i _)) (.nil))⟩, ⟨_, rfl, .cons (.int .i64 (.i _)) (.cons (.int .i64 (.i _)) (.nil))⟩, trivial⟩
  exact ev_calls (Go.Proofs.YtbbgdeknaecljaaGreat.Ev.laws_FnExactEdgeArea.spec k) (fn := Tryz.f4) (by kernel_rfl) (by kernel_rfl) h1 h2 hgl h4 h3
set_option maxRecDepth 100000 in
theorem lifted (os : Os) (started : os.Started) (H : Type) (enc : TypeId × Value → H) :
    ReturnsInHanded {} Tryz.checked os 4 .any (Rows.fnExactEdgeAreaSpec.pre6 enc Tryz.prog Tryz.f4 Rows.fnExactEdgeAreaRow.domain false) (Rows.fnExactEdgeAreaSpec.post enc Tryz.prog Tryz.f4 false true false false) := by
  refine returnsInHanded_of_change_sized (C := Tryz.checked) own started (by kernel_rfl) Tryz.func4
    (ChangeSpec.witness6 (enc := enc) (C := Tryz.checked) false ⟨#[], #[.agg #[.int .i64 0, .int .i64 0], .agg #[.int .i64 0, .int .i64 0]], []⟩ 8 (by kernel_rfl) (by kernel_rfl) (by kernel_rfl) (by kernel_rfl)) ?_
  intro W base args ds gs before hval0 hW hcnd hsz0 _
  have hsz : (DataW.weightsEach Tryz.prog (Tryz.f4.params.toList ++ Rows.fnExactEdgeAreaSpec.plain.varTypes Tryz.prog) (ds ++ gs)).all (· ≤ reachBytes) = true := hsz0
  have hval : ∀ (j : Nat) t v, Tryz.f4.params[j]? = some t → args[j]? = some v → Value.okWide Tryz.prog W .any base t v := hval0
  have hW' := hW
  obtain ⟨p, q, hA0, hV, rfl, hfz, hnd⟩ := hW
  have hA : DataW.TrodAll enc Tryz.prog W 0 (fun _ => true) true Tryz.f4.params.toList args.toList ds p := hA0
  rw [Tryz.params4] at hA hval hsz
  obtain ⟨v0, vs0, d0, ds0, p0, q0, hargs, rfl, rfl, h0, r0⟩ := trodAll_cons hA
  obtain ⟨v1, vs1, d1, ds1, p1, q1, rfl, rfl, rfl, h1, r1⟩ := trodAll_cons r0
  obtain ⟨rfl, rfl, rfl⟩ := trodAll_nil r1
  obtain rfl : args = #[v0, v1] := by cases args; simp_all
  obtain ⟨rfl, rfl⟩ := trodVars_none hV
  have k0 := h0
  have lt0 : ∀ x ∈ p0, x.block < W.heap.size := by obtain ⟨m, hm⟩ := k0; exact DataW.trod_lt m _ _ _ hm
  obtain ⟨l0, le0, rfl, wf0⟩ := Open.open_cells (k := .i64) 2 Tryz.underlying23 (by kernel_rfl) (by kernel_rfl) Tryz.underlying2 (hval 0 23 v0 rfl rfl)
  obtain ⟨a0_0, a0_1, rfl⟩ := Open.list2 le0
  have w0_0 := wf0 a0_0 (by simp)
  have w0_1 := wf0 a0_1 (by simp)
  have k1 := h1
  have lt1 : ∀ x ∈ p1, x.block < W.heap.size := by obtain ⟨m, hm⟩ := k1; exact DataW.trod_lt m _ _ _ hm
  obtain ⟨l1, le1, rfl, wf1⟩ := Open.open_cells (k := .i64) 2 Tryz.underlying23 (by kernel_rfl) (by kernel_rfl) Tryz.underlying2 (hval 1 23 v1 rfl rfl)
  obtain ⟨a1_0, a1_1, rfl⟩ := Open.list2 le1
  have w1_0 := wf1 a1_0 (by simp)
  have w1_1 := wf1 a1_1 (by simp)
  clear hA0 hval0 hsz0 hsz
  obtain ⟨k, hp⟩ := Go.Proofs.YtbbgdeknaecljaaGreat.Ev.FnExactEdgeArea_pure a0_0 a0_1 a1_0 a1_1 w0_0 w0_1 w1_0 w1_1
  refine (call k W GlobsAt.none a0_0 a0_1 a1_0 a1_1 hp).mono fun e W' ⟨he, bel⟩ => ?_
  subst he
  exact ⟨_, rfl, _, _, _, [], _, [], hW', trodAll_mk1 (shut_bool Tryz.underlying4 _), (trodAll_cons_mk (Below.trod laidOut (by kernel_rfl) (of_decide_eq_true (by kernel_rfl)) k0 bel lt0) (trodAll_cons_mk (Below.trod laidOut (by kernel_rfl) (of_decide_eq_true (by kernel_rfl)) k1 bel lt1) trodAll_mk0)), rfl, bel.frame _, fun h => by cases h⟩
theorem over : Rows.fnExactEdgeAreaRow.holds Tryz.pinned (OpenSpec.ofChange Rows.fnExactEdgeAreaSpec) :=
  OpenClaim.holds_of_wide 4 Tryz.f4 rfl rfl rfl rfl rfl rfl rfl ⟨rfl, rfl, rfl, rfl, rfl⟩ rfl rfl rfl rfl rfl (by kernel_rfl) Tryz.func4 (by kernel_rfl)
    (of_decide_eq_true (by kernel_rfl)) (by unfold Func.isWrapper; first | (rw [if_pos (by decide +kernel)]; kernel_rfl) | (rw [if_neg (by decide +kernel)]; exact ⟨rfl, rfl⟩))
    (fun os started H enc _ => lifted os started H enc)
theorem proved : Rows.FnExactEdgeAreaSaid := over
end Go.Proofs.YtbbgdeknaecljaaGreat.fnExactEdgeArea
namespace Go.Proofs.YtbbgdeknaecljaaGreat
/-- The row, under a short name, for the claim. -/
theorem fnExactEdgeArea_holds : Rows.FnExactEdgeAreaSaid := fnExactEdgeArea.proved
end Go.Proofs.YtbbgdeknaecljaaGreat
