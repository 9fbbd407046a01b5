/- The row of the law FnExactTileOf: written by mkrow.py out of the pure statement and the contract. No condition. -/
import Derived.Test.YtpggnjmmpkdkjaaGreatRows
import Derived.Test.YtpggnjmmpkdkjaaGreatPTile
import Derived.Test.YtpggnjmmpkdkjaaGreatEvRow
import Derived.WalkKit
import Derived.ProofKit
import Derived.OpenShut
import Derived.ShutString
import Derived.ChangeOld
import Derived.Below
import Derived.Carry
import Derived.SizedLaws
namespace Go.Proofs.YtpggnjmmpkdkjaaGreat.fnExactTileOf
open Go.ChangeShapes Go.WideShapes Go.ChangeAt Go.RowKit
open Go.ChangeMaps (open_string shut_string)
open Go.Proofs.YtpggnjmmpkdkjaaGreat Go.Proofs.YtpggnjmmpkdkjaaGreat.Ev
set_option linter.unusedVariables false
theorem own : ownKnob Tryz.prog.godebug = none := by kernel_rfl
theorem laidOut : laidOutB Tryz.prog = true := by kernel_rfl
open Go.Proofs.YtpggnjmmpkdkjaaGreat.Ev in
theorem call (k : Nat) (W : World) (hgl : GlobsAt gl_ W fun _ => False) (a0_0 a0_1 : Int) (a1 : Int) (hp : Go.Proofs.YtpggnjmmpkdkjaaGreat.Ev.laws_FnExactTileOf k (a0_0) (a0_1) (a1) = some [.b true]) : Calls Tryz.prog 5 #[.agg ([a0_0, a0_1].map (Value.int .i64)).toArray, .int .i64 a1] W fun e w' => e = .returned (.bool true) ∧ Below W.heap.size W w' := by
  have h1 : isMut (Go.Proofs.YtpggnjmmpkdkjaaGreat.Ev.laws_FnExactTileOf.sp k) = false := by kernel_rfl
  have h2 : (Go.Proofs.YtpggnjmmpkdkjaaGreat.Ev.laws_FnExactTileOf.sp k).rt = [(false, [(.bool, 0)])] := rfl
  have h3 : (Go.Proofs.YtpggnjmmpkdkjaaGreat.Ev.laws_FnExactTileOf.sp k).G [.i a0_0, .i a0_1, .i a1] = some [.b true] := hp
  have h4 : ∀ F : Nat → Prop, (∀ b, ¬ F b) → ArgsRep Tryz.prog W F (Go.Proofs.YtpggnjmmpkdkjaaGreat.Ev.laws_FnExactTileOf.sp k).pt [.i a0_0, .i a0_1, .i a1] [.agg ([a0_0, a0_1].map (Value.int .i64)).toArray, .int .i64 a1] := fun F hF => ⟨⟨_, rfl, .cons (.int .i64 (.i _)) (.cons (.int .i64 (.i _)) (.nil))⟩, .cons (.int .i64 (.i _)) (.nil), trivial⟩
  exact ev_calls (Go.Proofs.YtpggnjmmpkdkjaaGreat.Ev.laws_FnExactTileOf.spec k) (fn := Tryz.f5) (by kernel_rfl) (by kernel_rfl) h1 h2 hgl h4 h3
set_option maxRecDepth 100000 in
theorem lifted (os : Os) (started : os.Started) (H : Type) (enc : TypeId × Value → H) :
    ReturnsInHanded {} Tryz.checked os 5 .any (Rows.fnExactTileOfSpec.pre6 enc Tryz.prog Tryz.f5 Rows.fnExactTileOfRow.domain false) (Rows.fnExactTileOfSpec.post enc Tryz.prog Tryz.f5 false true false false) := by
  refine returnsInHanded_of_change_sized (C := Tryz.checked) own started (by kernel_rfl) Tryz.func5
    (ChangeSpec.witness6 (enc := enc) (C := Tryz.checked) false ⟨#[], #[.agg #[.int .i64 0, .int .i64 0], .int .i64 0], []⟩ 8 (by kernel_rfl) (by kernel_rfl) (by kernel_rfl) (by kernel_rfl)) ?_
  intro W base args ds gs before hval0 hW hcnd hsz0 _
  have hsz : (DataW.weightsEach Tryz.prog (Tryz.f5.params.toList ++ Rows.fnExactTileOfSpec.plain.varTypes Tryz.prog) (ds ++ gs)).all (· ≤ reachBytes) = true := hsz0
  have hval : ∀ (j : Nat) t v, Tryz.f5.params[j]? = some t → args[j]? = some v → Value.okWide Tryz.prog W .any base t v := hval0
  have hW' := hW
  obtain ⟨p, q, hA0, hV, rfl, hfz, hnd⟩ := hW
  have hA : DataW.TrodAll enc Tryz.prog W 0 (fun _ => true) true Tryz.f5.params.toList args.toList ds p := hA0
  rw [Tryz.params5] at hA hval hsz
  obtain ⟨v0, vs0, d0, ds0, p0, q0, hargs, rfl, rfl, h0, r0⟩ := trodAll_cons hA
  obtain ⟨v1, vs1, d1, ds1, p1, q1, rfl, rfl, rfl, h1, r1⟩ := trodAll_cons r0
  obtain ⟨rfl, rfl, rfl⟩ := trodAll_nil r1
  obtain rfl : args = #[v0, v1] := by cases args; simp_all
  obtain ⟨rfl, rfl⟩ := trodVars_none hV
  have k0 := h0
  have lt0 : ∀ x ∈ p0, x.block < W.heap.size := by obtain ⟨m, hm⟩ := k0; exact DataW.trod_lt m _ _ _ hm
  obtain ⟨l0, le0, rfl, wf0⟩ := Open.open_cells (k := .i64) 2 Tryz.underlying35 (by kernel_rfl) (by kernel_rfl) Tryz.underlying2 (hval 0 35 v0 rfl rfl)
  obtain ⟨a0_0, a0_1, rfl⟩ := Open.list2 le0
  have w0_0 := wf0 a0_0 (by simp)
  have w0_1 := wf0 a0_1 (by simp)
  obtain ⟨a1, rfl, rfl, rfl, w1⟩ := open_int Tryz.underlying2 (hval 1 2 v1 rfl rfl) h1
  clear hA0 hval0 hsz0 hsz
  obtain ⟨k, hp⟩ := Go.Proofs.YtpggnjmmpkdkjaaGreat.Ev.FnExactTileOf_pure a0_0 a0_1 a1 w0_0 w0_1 w1
  refine (call k W GlobsAt.none a0_0 a0_1 a1 hp).mono fun e W' ⟨he, bel⟩ => ?_
  subst he
  exact ⟨_, rfl, _, _, _, [], _, [], hW', trodAll_mk1 (shut_bool Tryz.underlying4 _), (trodAll_cons_mk (Below.trod laidOut (by kernel_rfl) (of_decide_eq_true (by kernel_rfl)) k0 bel lt0) (trodAll_cons_mk (shut_int Tryz.underlying2 w1) trodAll_mk0)), rfl, bel.frame _, fun h => by cases h⟩
theorem over : Rows.fnExactTileOfRow.holds Tryz.pinned (OpenSpec.ofChange Rows.fnExactTileOfSpec) :=
  OpenClaim.holds_of_wide 5 Tryz.f5 rfl rfl rfl rfl rfl rfl rfl ⟨rfl, rfl, rfl, rfl, rfl⟩ rfl rfl rfl rfl rfl (by kernel_rfl) Tryz.func5 (by kernel_rfl)
    (of_decide_eq_true (by kernel_rfl)) (by unfold Func.isWrapper; first | (rw [if_pos (by decide +kernel)]; kernel_rfl) | (rw [if_neg (by decide +kernel)]; exact ⟨rfl, rfl⟩))
    (fun os started H enc _ => lifted os started H enc)
theorem proved : Rows.FnExactTileOfSaid := over
end Go.Proofs.YtpggnjmmpkdkjaaGreat.fnExactTileOf
namespace Go.Proofs.YtpggnjmmpkdkjaaGreat
/-- The row, under a short name, for the claim. -/
theorem fnExactTileOf_holds : Rows.FnExactTileOfSaid := fnExactTileOf.proved
end Go.Proofs.YtpggnjmmpkdkjaaGreat
