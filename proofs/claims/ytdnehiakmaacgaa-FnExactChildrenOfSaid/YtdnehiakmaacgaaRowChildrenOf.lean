/- The row of the law FnExactChildrenOf: written by mkrow.py out of the pure statement and the contract. No condition. -/
import Derived.Test.YtdnehiakmaacgaaRows
import Derived.Test.YtdnehiakmaacgaaChildrenOf
import Derived.WalkKit
import Derived.ProofKit
import Derived.OpenShut
import Derived.ShutString
import Derived.ChangeOld
import Derived.Below
import Derived.Carry
import Derived.SizedLaws
import Derived.Test.YtdnehiakmaacgaaOpen
namespace Go.Proofs.Ytdnehiakmaacgaa.fnExactChildrenOf
open Go.ChangeShapes Go.WideShapes Go.ChangeAt Go.RowKit
open Go.ChangeMaps (open_string shut_string)
set_option linter.unusedVariables false
theorem own : ownKnob Try.prog.godebug = none := by kernel_rfl
theorem laidOut : laidOutB Try.prog = true := by kernel_rfl
set_option maxRecDepth 100000 in
theorem lifted (os : Os) (started : os.Started) (H : Type) (enc : TypeId × Value → H) :
    ReturnsInHanded {} Try.checked os 11 .any (Rows.fnExactChildrenOfSpec.pre6 enc Try.prog Try.f11 Rows.fnExactChildrenOfRow.domain false) (Rows.fnExactChildrenOfSpec.post enc Try.prog Try.f11 false true false false) := by
  refine returnsInHanded_of_change_sized (C := Try.checked) own started (by kernel_rfl) Try.func11
    (ChangeSpec.witness6 (enc := enc) (C := Try.checked) false ⟨#[], #[.agg #[.int .i64 0, .int .i64 0, .int .i64 0]], []⟩ 8 (by kernel_rfl) (by kernel_rfl) (by kernel_rfl) (by kernel_rfl)) ?_
  intro W base args ds gs before hval0 hW hcnd hsz0 _
  have hsz : (DataW.weightsEach Try.prog (Try.f11.params.toList ++ Rows.fnExactChildrenOfSpec.plain.varTypes Try.prog) (ds ++ gs)).all (· ≤ reachBytes) = true := hsz0
  have hval : ∀ (j : Nat) t v, Try.f11.params[j]? = some t → args[j]? = some v → Value.okWide Try.prog W .any base t v := hval0
  have hW' := hW
  obtain ⟨p, q, hA0, hV, rfl, hfz, hnd⟩ := hW
  have hA : DataW.TrodAll enc Try.prog W 0 (fun _ => true) true Try.f11.params.toList args.toList ds p := hA0
  rw [Try.params11] at hA hval hsz
  obtain ⟨v0, vs0, d0, ds0, p0, q0, hargs, rfl, rfl, h0, r0⟩ := trodAll_cons hA
  obtain ⟨rfl, rfl, rfl⟩ := trodAll_nil r0
  obtain rfl : args = #[v0] := by cases args; simp_all
  obtain ⟨rfl, rfl⟩ := trodVars_none hV
  have k0 := h0
  have lt0 : ∀ x ∈ p0, x.block < W.heap.size := by obtain ⟨m, hm⟩ := k0; exact DataW.trod_lt m _ _ _ hm
  obtain ⟨l0, le0, rfl, wf0⟩ := Open.open_cells (k := .i64) 3 Try.underlying23 (by kernel_rfl) (by kernel_rfl) Try.underlying2 (hval 0 23 v0 rfl rfl)
  obtain ⟨a0_0, a0_1, a0_2, rfl⟩ := Open.list3 le0
  have w0_0 := wf0 a0_0 (by simp)
  have w0_1 := wf0 a0_1 (by simp)
  have w0_2 := wf0 a0_2 (by simp)
  clear hA0 hval0 hsz0 hsz
  obtain ⟨k, hp⟩ := Go.Proofs.Ytdnehiakmaacgaa.Pure.FnExactChildrenOf a0_0 a0_1 a0_2 w0_0 w0_1 w0_2
  refine (Go.Proofs.Ytdnehiakmaacgaa.P.laws_FnExactChildrenOf.calls k a0_0 a0_1 a0_2 W hp).mono fun e W' ⟨he, bel0⟩ => ?_
  have bel : Below W.heap.size W W' := bel0
  subst he
  exact ⟨_, rfl, _, _, _, [], _, [], hW', trodAll_mk1 (shut_bool Try.underlying4 _), (trodAll_cons_mk (Below.trod laidOut (by kernel_rfl) (of_decide_eq_true (by kernel_rfl)) k0 bel lt0) trodAll_mk0), rfl, bel.frame _, fun h => by cases h⟩
theorem over : Rows.fnExactChildrenOfRow.holds Try.pinned (OpenSpec.ofChange Rows.fnExactChildrenOfSpec) :=
  OpenClaim.holds_of_wide 11 Try.f11 rfl rfl rfl rfl rfl rfl rfl ⟨rfl, rfl, rfl, rfl, rfl⟩ rfl rfl rfl rfl rfl (by kernel_rfl) Try.func11 (by kernel_rfl)
    (of_decide_eq_true (by kernel_rfl)) (by unfold Func.isWrapper; first | (rw [if_pos (by decide +kernel)]; kernel_rfl) | (rw [if_neg (by decide +kernel)]; exact ⟨rfl, rfl⟩))
    (fun os started H enc _ => lifted os started H enc)
theorem proved : Rows.FnExactChildrenOfSaid := over
end Go.Proofs.Ytdnehiakmaacgaa.fnExactChildrenOf
namespace Go.Proofs.Ytdnehiakmaacgaa
/-- The row, under a short name, for the claim. -/
theorem fnExactChildrenOf_holds : Rows.FnExactChildrenOfSaid := fnExactChildrenOf.proved
end Go.Proofs.Ytdnehiakmaacgaa
