/- The row of the law FnExactRowOf: written by mkrow.py out of the pure statement and the contract. No condition. -/
import Derived.Test.YtpggnjmmpkdkjaaGreatRows
import Derived.Test.YtpggnjmmpkdkjaaGreatPRow
import Derived.Test.YtpggnjmmpkdkjaaGreatEvRow
import Derived.WalkKit
import Derived.ProofKit
import Derived.OpenShut
import Derived.ShutString
import Derived.ChangeOld
import Derived.Below
import Derived.Carry
import Derived.SizedLaws
namespace Go.Proofs.YtpggnjmmpkdkjaaGreat.fnExactRowOf
open Go.ChangeShapes Go.WideShapes Go.ChangeAt Go.RowKit
open Go.ChangeMaps (open_string shut_string)
open Go.Proofs.YtpggnjmmpkdkjaaGreat Go.Proofs.YtpggnjmmpkdkjaaGreat.Ev
set_option linter.unusedVariables false
theorem own : ownKnob Tryz.prog.godebug = none := by kernel_rfl
open Go.Proofs.YtpggnjmmpkdkjaaGreat.Ev in
theorem call (k : Nat) (W : World) (hgl : GlobsAt gl_ W fun _ => False) (a0 : Int) (a1 : Int) (hp : Go.Proofs.YtpggnjmmpkdkjaaGreat.Ev.laws_FnExactRowOf k (a0) (a1) = some [.b true]) : Calls Tryz.prog 3 #[.int .i64 a0, .int .i64 a1] W fun e w' => e = .returned (.bool true) ∧ Below W.heap.size W w' := by
  have h1 : isMut (Go.Proofs.YtpggnjmmpkdkjaaGreat.Ev.laws_FnExactRowOf.sp k) = false := by kernel_rfl
  have h2 : (Go.Proofs.YtpggnjmmpkdkjaaGreat.Ev.laws_FnExactRowOf.sp k).rt = [(false, [(.bool, 0)])] := rfl
  have h3 : (Go.Proofs.YtpggnjmmpkdkjaaGreat.Ev.laws_FnExactRowOf.sp k).G [.i a0, .i a1] = some [.b true] := hp
  have h4 : ∀ F : Nat → Prop, (∀ b, ¬ F b) → ArgsRep Tryz.prog W F (Go.Proofs.YtpggnjmmpkdkjaaGreat.Ev.laws_FnExactRowOf.sp k).pt [.i a0, .i a1] [.int .i64 a0, .int .i64 a1] := fun F hF => ⟨.cons (.int .i64 (.i _)) (.nil), .cons (.int .i64 (.i _)) (.nil), trivial⟩
  exact ev_calls (Go.Proofs.YtpggnjmmpkdkjaaGreat.Ev.laws_FnExactRowOf.spec k) (fn := Tryz.f3) (by kernel_rfl) (by kernel_rfl) h1 h2 hgl h4 h3
set_option maxRecDepth 100000 in
theorem lifted (os : Os) (started : os.Started) (H : Type) (enc : TypeId × Value → H) :
    ReturnsInHanded {} Tryz.checked os 3 .any (Rows.fnExactRowOfSpec.pre6 enc Tryz.prog Tryz.f3 Rows.fnExactRowOfRow.domain false) (Rows.fnExactRowOfSpec.post enc Tryz.prog Tryz.f3 false true false false) := by
  refine returnsInHanded_of_change_sized (C := Tryz.checked) own started (by kernel_rfl) Tryz.func3
    (ChangeSpec.witness6 (enc := enc) (C := Tryz.checked) false ⟨#[], #[.int .i64 0, .int .i64 0], []⟩ 8 (by kernel_rfl) (by kernel_rfl) (by kernel_rfl) (by kernel_rfl)) ?_
  intro W base args ds gs before hval0 hW hcnd hsz0 _
  have hsz : (DataW.weightsEach Tryz.prog (Tryz.f3.params.toList ++ Rows.fnExactRowOfSpec.plain.varTypes Tryz.prog) (ds ++ gs)).all (· ≤ reachBytes) = true := hsz0
  have hval : ∀ (j : Nat) t v, Tryz.f3.params[j]? = some t → args[j]? = some v → Value.okWide Tryz.prog W .any base t v := hval0
  have hW' := hW
  obtain ⟨p, q, hA0, hV, rfl, hfz, hnd⟩ := hW
  have hA : DataW.TrodAll enc Tryz.prog W 0 (fun _ => true) true Tryz.f3.params.toList args.toList ds p := hA0
  rw [Tryz.params3] at hA hval hsz
  obtain ⟨v0, vs0, d0, ds0, p0, q0, hargs, rfl, rfl, h0, r0⟩ := trodAll_cons hA
  obtain ⟨v1, vs1, d1, ds1, p1, q1, rfl, rfl, rfl, h1, r1⟩ := trodAll_cons r0
  obtain ⟨rfl, rfl, rfl⟩ := trodAll_nil r1
  obtain rfl : args = #[v0, v1] := by cases args; simp_all
  obtain ⟨rfl, rfl⟩ := trodVars_none hV
  obtain ⟨a0, rfl, rfl, rfl, w0⟩ := open_int Tryz.underlying2 (hval 0 2 v0 rfl rfl) h0
  obtain ⟨a1, rfl, rfl, rfl, w1⟩ := open_int Tryz.underlying2 (hval 1 2 v1 rfl rfl) h1
  clear hA0 hval0 hsz0 hsz
  obtain ⟨k, hp⟩ := Go.Proofs.YtpggnjmmpkdkjaaGreat.Ev.FnExactRowOf_pure a0 a1 w0 w1
  refine (call k W GlobsAt.none a0 a1 hp).mono fun e W' ⟨he, bel⟩ => ?_
  subst he
  exact ⟨_, rfl, _, _, _, [], _, [], hW', trodAll_mk1 (shut_bool Tryz.underlying4 _), (trodAll_cons_mk (shut_int Tryz.underlying2 w0) (trodAll_cons_mk (shut_int Tryz.underlying2 w1) trodAll_mk0)), rfl, bel.frame _, fun h => by cases h⟩
theorem over : Rows.fnExactRowOfRow.holds Tryz.pinned (OpenSpec.ofChange Rows.fnExactRowOfSpec) :=
  OpenClaim.holds_of_wide 3 Tryz.f3 rfl rfl rfl rfl rfl rfl rfl ⟨rfl, rfl, rfl, rfl, rfl⟩ rfl rfl rfl rfl rfl (by kernel_rfl) Tryz.func3 (by kernel_rfl)
    (of_decide_eq_true (by kernel_rfl)) (by unfold Func.isWrapper; first | (rw [if_pos (by decide +kernel)]; kernel_rfl) | (rw [if_neg (by decide +kernel)]; exact ⟨rfl, rfl⟩))
    (fun os started H enc _ => lifted os started H enc)
theorem proved : Rows.FnExactRowOfSaid := over
end Go.Proofs.YtpggnjmmpkdkjaaGreat.fnExactRowOf
namespace Go.Proofs.YtpggnjmmpkdkjaaGreat
/-- The row, under a short name, for the claim. -/
theorem fnExactRowOf_holds : Rows.FnExactRowOfSaid := fnExactRowOf.proved
end Go.Proofs.YtpggnjmmpkdkjaaGreat
