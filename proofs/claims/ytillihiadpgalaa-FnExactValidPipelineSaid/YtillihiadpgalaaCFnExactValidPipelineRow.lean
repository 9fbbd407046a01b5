/- The row of the law FnExactValidPipeline: written by mkrow.py out of the pure statement and the contract. No condition. -/
import Derived.Test.YtillihiadpgalaaRows
import Derived.Test.YtillihiadpgalaaCFnExactValidPipelineValidPipeline
import Derived.WalkKit
import Derived.ProofKit
import Derived.OpenShut
import Derived.ShutString
import Derived.ChangeOld
import Derived.Below
import Derived.Carry
import Derived.SizedLaws
import Derived.Test.YtillihiadpgalaaCFnExactValidPipelineOpen
import Derived.Test.YtillihiadpgalaaCFnExactValidPipelineOpenSl
import Derived.Test.YtillihiadpgalaaCFnExactValidPipelineOpenNs
namespace Go.Proofs.Ytillihiadpgalaa.fnExactValidPipeline
open Go.ChangeShapes Go.WideShapes Go.ChangeAt Go.RowKit
open Go.ChangeMaps (open_string shut_string)
set_option linter.unusedVariables false
theorem own : ownKnob Try.prog.godebug = none := by kernel_rfl
theorem laidOut : laidOutB Try.prog = true := by kernel_rfl
set_option maxRecDepth 100000 in
theorem lifted (os : Os) (started : os.Started) (H : Type) (enc : TypeId × Value → H) :
    ReturnsInHanded {} Try.checked os 11 .any (Rows.fnExactValidPipelineSpec.pre6 enc Try.prog Try.f11 Rows.fnExactValidPipelineRow.domain false) (Rows.fnExactValidPipelineSpec.post enc Try.prog Try.f11 false true false false) := by
  refine returnsInHanded_of_change_sized (C := Try.checked) own started (by kernel_rfl) Try.func11
    (ChangeSpec.witness6 (enc := enc) (C := Try.checked) false ⟨#[], #[.slice none 0 0], []⟩ 8 (by kernel_rfl) (by kernel_rfl) (by kernel_rfl) (by kernel_rfl)) ?_
  intro W base args ds gs before hval0 hW hcnd hsz0 _
  have hsz : (DataW.weightsEach Try.prog (Try.f11.params.toList ++ Rows.fnExactValidPipelineSpec.plain.varTypes Try.prog) (ds ++ gs)).all (· ≤ reachBytes) = true := hsz0
  have hval : ∀ (j : Nat) t v, Try.f11.params[j]? = some t → args[j]? = some v → Value.okWide Try.prog W .any base t v := hval0
  have hW' := hW
  obtain ⟨p, q, hA0, hV, rfl, hfz, hnd⟩ := hW
  have hA : DataW.TrodAll enc Try.prog W 0 (fun _ => true) true Try.f11.params.toList args.toList ds p := hA0
  rw [Try.params11] at hA hval hsz
  obtain ⟨v0, vs0, d0, ds0, p0, q0, hargs, rfl, rfl, h0, r0⟩ := trodAll_cons hA
  obtain ⟨rfl, rfl, rfl⟩ := trodAll_nil r0
  obtain rfl : args = #[v0] := by cases args; simp_all
  obtain ⟨rfl, rfl⟩ := trodVars_none hV
  obtain ⟨a0, len0, cap0, rfl⟩ := okWide_slice Try.underlying72 (hval 0 72 v0 rfl rfl)
  have k0 := h0
  have lt0 : ∀ x ∈ p0, x.block < W.heap.size := by obtain ⟨m, hm⟩ := k0; exact DataW.trod_lt m _ _ _ hm
  obtain ⟨fuel0, hf0⟩ := h0
  obtain ⟨A0, n0, c0, zs0, hcs0, hl0, hm0, hz0, hzw0, hza0⟩ := Open.open_slice_cells (P := Try.prog) 5 16 Try.underlying72 (by kernel_rfl) (by kernel_rfl) hf0
  simp only [Value.cells, List.cons.injEq, Value.slice.injEq, and_true] at hcs0
  obtain ⟨rfl, rfl, rfl⟩ := hcs0
  obtain ⟨l0, e0⟩ : ∃ l : List Go.Proofs.Ytillihiadpgalaa.P.S56, l = zs0.map fun z => ⟨z.getD 0 0, ⟨z.getD 1 0, z.getD 2 0, z.getD 3 0, z.getD 4 0, z.getD 5 0⟩, ⟨z.getD 6 0, z.getD 7 0, z.getD 8 0⟩, ⟨z.getD 9 0, z.getD 10 0, z.getD 11 0, z.getD 12 0, z.getD 13 0, z.getD 14 0, z.getD 15 0⟩⟩ := ⟨_, rfl⟩
  have hln0 : l0.length = len0 := by rw [e0, List.length_map, hz0]
  have hr0 : Go.Proofs.YtillihiadpgalaaW.PrintWords.Kd.C Go.Proofs.Ytillihiadpgalaa.P.k56 W a0 l0.length l0 := by
    refine ⟨rfl, by unfold maxLen at hm0; omega, fun hpos => ?_⟩
    obtain ⟨ad, had, hcell⟩ := hza0 (by omega)
    refine ⟨ad, had, fun j p hp => ?_⟩
    rw [e0, List.getElem?_map] at hp
    obtain ⟨z, hzj, rfl⟩ := Option.map_eq_some_iff.1 hp
    have hzl := (hzw0 z (List.mem_iff_getElem?.2 ⟨j, hzj⟩)).1
    obtain ⟨z0, z1, z2, z3, z4, z5, z6, z7, z8, z9, z10, z11, z12, z13, z14, z15, rfl⟩ := Open.list16 (hzl.trans (show _ = 16 from rfl))
    refine ⟨[.int .i64 z0, .int .i64 z1, .int .i64 z2, .int .i64 z3, .int .i64 z4, .int .i64 z5, .int .i64 z6, .int .i64 z7, .int .i64 z8, .int .i64 z9, .int .i64 z10, .int .i64 z11, .int .i64 z12, .int .i64 z13, .int .i64 z14, .int .i64 z15], rfl, Go.Proofs.Ytillihiadpgalaa.P.k56_mk W ⟨z0, ⟨z1, z2, z3, z4, z5⟩, ⟨z6, z7, z8⟩, ⟨z9, z10, z11, z12, z13, z14, z15⟩⟩, fun q u hu => ?_⟩
    match q, hu with
    | 0, hu => (obtain rfl := Option.some.inj hu; exact hcell j _ hzj 0 _ rfl)
    | 1, hu => (obtain rfl := Option.some.inj hu; exact hcell j _ hzj 1 _ rfl)
    | 2, hu => (obtain rfl := Option.some.inj hu; exact hcell j _ hzj 2 _ rfl)
    | 3, hu => (obtain rfl := Option.some.inj hu; exact hcell j _ hzj 3 _ rfl)
    | 4, hu => (obtain rfl := Option.some.inj hu; exact hcell j _ hzj 4 _ rfl)
    | 5, hu => (obtain rfl := Option.some.inj hu; exact hcell j _ hzj 5 _ rfl)
    | 6, hu => (obtain rfl := Option.some.inj hu; exact hcell j _ hzj 6 _ rfl)
    | 7, hu => (obtain rfl := Option.some.inj hu; exact hcell j _ hzj 7 _ rfl)
    | 8, hu => (obtain rfl := Option.some.inj hu; exact hcell j _ hzj 8 _ rfl)
    | 9, hu => (obtain rfl := Option.some.inj hu; exact hcell j _ hzj 9 _ rfl)
    | 10, hu => (obtain rfl := Option.some.inj hu; exact hcell j _ hzj 10 _ rfl)
    | 11, hu => (obtain rfl := Option.some.inj hu; exact hcell j _ hzj 11 _ rfl)
    | 12, hu => (obtain rfl := Option.some.inj hu; exact hcell j _ hzj 12 _ rfl)
    | 13, hu => (obtain rfl := Option.some.inj hu; exact hcell j _ hzj 13 _ rfl)
    | 14, hu => (obtain rfl := Option.some.inj hu; exact hcell j _ hzj 14 _ rfl)
    | 15, hu => (obtain rfl := Option.some.inj hu; exact hcell j _ hzj 15 _ rfl)
    | q + 16, hu => simp at hu
  have hlc0 : l0.length ≤ cap0 := by omega
  have hw0 : l0.length ≤ 9223372036854775807 := by unfold maxLen at hm0; omega
  obtain rfl := hln0
  clear hA0 hval0 hsz0 hsz
  obtain ⟨k, hp⟩ := Go.Proofs.Ytillihiadpgalaa.Pure.FnExactValidPipeline l0 hw0
  refine (Go.Proofs.Ytillihiadpgalaa.P.laws_FnExactValidPipeline.calls k a0 cap0 l0 W hr0 hlc0 hp).mono fun e W' ⟨he, bel0⟩ => ?_
  have bel : Below W.heap.size W W' := bel0
  subst he
  exact ⟨_, rfl, _, _, _, [], _, [], hW', trodAll_mk1 (shut_bool Try.underlying4 _), (trodAll_cons_mk (Below.trod laidOut (by kernel_rfl) (of_decide_eq_true (by kernel_rfl)) k0 bel lt0) trodAll_mk0), rfl, bel.frame _, fun h => by cases h⟩
theorem over : Rows.fnExactValidPipelineRow.holds Try.pinned (OpenSpec.ofChange Rows.fnExactValidPipelineSpec) :=
  OpenClaim.holds_of_wide 11 Try.f11 rfl rfl rfl rfl rfl rfl rfl ⟨rfl, rfl, rfl, rfl, rfl⟩ rfl rfl rfl rfl rfl (by kernel_rfl) Try.func11 (by kernel_rfl)
    (of_decide_eq_true (by kernel_rfl)) (by unfold Func.isWrapper; first | (rw [if_pos (by decide +kernel)]; kernel_rfl) | (rw [if_neg (by decide +kernel)]; exact ⟨rfl, rfl⟩))
    (fun os started H enc _ => lifted os started H enc)
theorem proved : Rows.FnExactValidPipelineSaid := over
end Go.Proofs.Ytillihiadpgalaa.fnExactValidPipeline
namespace Go.Proofs.Ytillihiadpgalaa
/-- The row, under a short name, for the claim. -/
theorem fnExactValidPipeline_holds : Rows.FnExactValidPipelineSaid := fnExactValidPipeline.proved
end Go.Proofs.Ytillihiadpgalaa
