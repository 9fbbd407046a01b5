/- The row of the law FnExactWestOf: written by mkrow.py out of the pure statement and the contract. No condition. -/
import Derived.Test.YtmklbngeenjceaaRows
import Derived.Test.YtmklbngeenjceaaPWestOf
import Derived.Test.YtmklbngeenjceaaEvRow
import Derived.WalkKit
import Derived.ProofKit
import Derived.OpenShut
import Derived.ShutString
import Derived.ChangeOld
import Derived.Below
import Derived.Carry
import Derived.SizedLaws
namespace Go.Proofs.Ytmklbngeenjceaa.fnExactWestOf
open Go.ChangeShapes Go.WideShapes Go.ChangeAt Go.RowKit
open Go.ChangeMaps (open_string shut_string)
open Go.Proofs.Ytmklbngeenjceaa Go.Proofs.Ytmklbngeenjceaa.Ev
set_option linter.unusedVariables false
theorem own : ownKnob Try.prog.godebug = none := by kernel_rfl
theorem laidOut : laidOutB Try.prog = true := by kernel_rfl
open Go.Proofs.Ytmklbngeenjceaa.Ev in
theorem call (k : Nat) (W : World) (hgl : GlobsAt gl_ W fun _ => False) (a0_0 a0_1 a0_2 : Int) (hp : Go.Proofs.Ytmklbngeenjceaa.Ev.laws_FnExactWestOf k (a0_0) (a0_1) (a0_2) = some [.b true]) : Calls Try.prog 3 #[.agg ([a0_0, a0_1, a0_2].map (Value.int .i64)).toArray] W fun e w' => e = .returned (.bool true) ∧ Below W.heap.size W w' := by
  have h1 : isMut (Go.Proofs.Ytmklbngeenjceaa.Ev.laws_FnExactWestOf.sp k) = false := by kernel_rfl
  have h2 : (Go.Proofs.Ytmklbngeenjceaa.Ev.laws_FnExactWestOf.sp k).rt = [(false, [(.bool, 0)])] := rfl
  have h3 : (Go.Proofs.Ytmklbngeenjceaa.Ev.laws_FnExactWestOf.sp k).G [.i a0_0, .i a0_1, .i a0_2] = some [.b true] := hp
  have h4 : ∀ F : Nat → Prop, (∀ b, ¬ F b) → ArgsRep Try.prog W F (Go.Proofs.Ytmklbngeenjceaa.Ev.laws_FnExactWestOf.sp k).pt [.i a0_0, .i a0_1, .i a0_2] [.agg ([a0_0, a0_1, a0_2].map (Value.int .i64)).toArray] := fun F hF => ⟨⟨_, rfl, .cons (.int .i64 (.i _)) (.cons (.int .i64 (.i _)) (.cons (.int .i64 (.i _)) (.nil)))⟩, trivial⟩
  exact ev_calls (Go.Proofs.Ytmklbngeenjceaa.Ev.laws_FnExactWestOf.spec k) (fn := Try.f3) (by kernel_rfl) (by kernel_rfl) h1 h2 hgl h4 h3
set_option maxRecDepth 100000 in
theorem lifted (os : Os) (started : os.Started) (H : Type) (enc : TypeId × Value → H) :
    ReturnsInHanded {} Try.checked os 3 .any (Rows.fnExactWestOfSpec.pre6 enc Try.prog Try.f3 Rows.fnExactWestOfRow.domain false) (Rows.fnExactWestOfSpec.post enc Try.prog Try.f3 false true false false) := by
  refine returnsInHanded_of_change_sized (C := Try.checked) own started (by kernel_rfl) Try.func3
    (ChangeSpec.witness6 (enc := enc) (C := Try.checked) false ⟨#[], #[.agg #[.int .i64 0, .int .i64 0, .int .i64 0]], []⟩ 8 (by kernel_rfl) (by kernel_rfl) (by kernel_rfl) (by kernel_rfl)) ?_
  intro W base args ds gs before hval0 hW hcnd hsz0 _
  have hsz : (DataW.weightsEach Try.prog (Try.f3.params.toList ++ Rows.fnExactWestOfSpec.plain.varTypes Try.prog) (ds ++ gs)).all (· ≤ reachBytes) = true := hsz0
  have hval : ∀ (j : Nat) t v, Try.f3.params[j]? = some t → args[j]? = some v → Value.okWide Try.prog W .any base t v := hval0
  have hW' := hW
  obtain ⟨p, q, hA0, hV, rfl, hfz, hnd⟩ := hW
  have hA : DataW.TrodAll enc Try.prog W 0 (fun _ => true) true Try.f3.params.toList args.toList ds p := hA0
  rw [Try.params3] at hA hval hsz
  obtain ⟨v0, vs0, d0, ds0, p0, q0, hargs, rfl, rfl, h0, r0⟩ := trodAll_cons hA
  obtain ⟨rfl, rfl, rfl⟩ := trodAll_nil r0
  obtain rfl : args = #[v0] := by cases args; simp_all
  obtain ⟨rfl, rfl⟩ := trodVars_none hV
  have k0 := h0
  have lt0 : ∀ x ∈ p0, x.block < W.heap.size := by obtain ⟨m, hm⟩ := k0; exact DataW.trod_lt m _ _ _ hm
  obtain ⟨l0, le0, rfl, wf0⟩ := Open.open_cells (k := .i64) 3 Try.underlying23 (by kernel_rfl) (by kernel_rfl) Try.underlying2 (hval 0 23 v0 rfl rfl)
  obtain ⟨a0_0, a0_1, a0_2, rfl⟩ := Open.list3 le0
  have w0_0 := wf0 a0_0 (by simp)
  have w0_1 := wf0 a0_1 (by simp)
  have w0_2 := wf0 a0_2 (by simp)
  clear hA0 hval0 hsz0 hsz
  obtain ⟨k, hp⟩ := Go.Proofs.Ytmklbngeenjceaa.Ev.FnExactWestOf_pure a0_0 a0_1 a0_2 w0_0 w0_1 w0_2
  refine (call k W GlobsAt.none a0_0 a0_1 a0_2 hp).mono fun e W' ⟨he, bel⟩ => ?_
  subst he
  exact ⟨_, rfl, _, _, _, [], _, [], hW', trodAll_mk1 (shut_bool Try.underlying4 _), (trodAll_cons_mk (Below.trod laidOut (by kernel_rfl) (of_decide_eq_true (by kernel_rfl)) k0 bel lt0) trodAll_mk0), rfl, bel.frame _, fun h => by cases h⟩
theorem over : Rows.fnExactWestOfRow.holds Try.pinned (OpenSpec.ofChange Rows.fnExactWestOfSpec) :=
  OpenClaim.holds_of_wide 3 Try.f3 rfl rfl rfl rfl rfl rfl rfl ⟨rfl, rfl, rfl, rfl, rfl⟩ rfl rfl rfl rfl rfl (by kernel_rfl) Try.func3 (by kernel_rfl)
    (of_decide_eq_true (by kernel_rfl)) (by unfold Func.isWrapper; first | (rw [if_pos (by decide +kernel)]; kernel_rfl) | (rw [if_neg (by decide +kernel)]; exact ⟨rfl, rfl⟩))
    (fun os started H enc _ => lifted os started H enc)
theorem proved : Rows.FnExactWestOfSaid := over
end Go.Proofs.Ytmklbngeenjceaa.fnExactWestOf
namespace Go.Proofs.Ytmklbngeenjceaa
/-- The row, under a short name, for the claim. -/
theorem fnExactWestOf_holds : Rows.FnExactWestOfSaid := fnExactWestOf.proved
end Go.Proofs.Ytmklbngeenjceaa
