/- The row of the law FnExactReverseRing: written by mkrow.py out of the pure statement and the contract. No condition. -/
import Derived.Test.YtillihiadpgalaaRows
import Derived.Test.YtillihiadpgalaaCFnExactReverseRingReverseRing
import Derived.WalkKit
import Derived.ProofKit
import Derived.OpenShut
import Derived.ShutString
import Derived.ChangeOld
import Derived.Below
import Derived.Carry
import Derived.SizedLaws
import Derived.Test.YtillihiadpgalaaCFnExactReverseRingOpen
import Derived.Test.YtillihiadpgalaaCFnExactReverseRingOpenSl
import Derived.Test.YtillihiadpgalaaCFnExactReverseRingOpenNs
namespace Go.Proofs.Ytillihiadpgalaa.fnExactReverseRing
open Go.ChangeShapes Go.WideShapes Go.ChangeAt Go.RowKit
open Go.ChangeMaps (open_string shut_string)
set_option linter.unusedVariables false
theorem own : ownKnob Try.prog.godebug = none := by kernel_rfl
theorem laidOut : laidOutB Try.prog = true := by kernel_rfl
set_option maxRecDepth 100000 in
theorem lifted (os : Os) (started : os.Started) (H : Type) (enc : TypeId × Value → H) :
    ReturnsInHanded {} Try.checked os 9 .any (Rows.fnExactReverseRingSpec.pre6 enc Try.prog Try.f9 Rows.fnExactReverseRingRow.domain false) (Rows.fnExactReverseRingSpec.post enc Try.prog Try.f9 false true false false) := by
  refine returnsInHanded_of_change_sized (C := Try.checked) own started (by kernel_rfl) Try.func9
    (ChangeSpec.witness6 (enc := enc) (C := Try.checked) false ⟨#[], #[.slice none 0 0], []⟩ 8 (by kernel_rfl) (by kernel_rfl) (by kernel_rfl) (by kernel_rfl)) ?_
  intro W base args ds gs before hval0 hW hcnd hsz0 _
  have hsz : (DataW.weightsEach Try.prog (Try.f9.params.toList ++ Rows.fnExactReverseRingSpec.plain.varTypes Try.prog) (ds ++ gs)).all (· ≤ reachBytes) = true := hsz0
  have hval : ∀ (j : Nat) t v, Try.f9.params[j]? = some t → args[j]? = some v → Value.okWide Try.prog W .any base t v := hval0
  have hW' := hW
  obtain ⟨p, q, hA0, hV, rfl, hfz, hnd⟩ := hW
  have hA : DataW.TrodAll enc Try.prog W 0 (fun _ => true) true Try.f9.params.toList args.toList ds p := hA0
  rw [Try.params9] at hA hval hsz
  obtain ⟨v0, vs0, d0, ds0, p0, q0, hargs, rfl, rfl, h0, r0⟩ := trodAll_cons hA
  obtain ⟨rfl, rfl, rfl⟩ := trodAll_nil r0
  obtain rfl : args = #[v0] := by cases args; simp_all
  obtain ⟨rfl, rfl⟩ := trodVars_none hV
  obtain ⟨a0, len0, cap0, rfl⟩ := okWide_slice Try.underlying31 (hval 0 31 v0 rfl rfl)
  have k0 := h0
  have lt0 : ∀ x ∈ p0, x.block < W.heap.size := by obtain ⟨m, hm⟩ := k0; exact DataW.trod_lt m _ _ _ hm
  obtain ⟨fuel0, hf0⟩ := h0
  obtain ⟨A0, n0, c0, zs0, hcs0, hl0, hm0, hz0, hzw0, hza0⟩ := Open.open_slice_ints (P := Try.prog) Try.underlying31 Try.underlying23 (by kernel_rfl) (by kernel_rfl) (by intro j f hj; match j, hj with | 0, hj => (obtain rfl := Option.some.inj hj; exact Try.underlying2) | 1, hj => (obtain rfl := Option.some.inj hj; exact Try.underlying2) | j + 2, hj => simp at hj) hf0
  simp only [Value.cells, List.cons.injEq, Value.slice.injEq, and_true] at hcs0
  obtain ⟨rfl, rfl, rfl⟩ := hcs0
  obtain ⟨l0, e0⟩ : ∃ l : List Go.Proofs.Ytillihiadpgalaa.P.S23, l = zs0.map fun z => ⟨z.getD 0 0, z.getD 1 0⟩ := ⟨_, rfl⟩
  have hln0 : l0.length = len0 := by rw [e0, List.length_map, hz0]
  have hr0 : Go.Proofs.YtillihiadpgalaaW.PrintWords.Kd.C Go.Proofs.Ytillihiadpgalaa.P.k23 W a0 l0.length l0 := by
    refine ⟨rfl, by unfold maxLen at hm0; omega, fun hpos => ?_⟩
    obtain ⟨ad, had, hcell⟩ := hza0 (by omega)
    refine ⟨ad, had, fun j p hp => ?_⟩
    rw [e0, List.getElem?_map] at hp
    obtain ⟨z, hzj, rfl⟩ := Option.map_eq_some_iff.1 hp
    have hzl := (hzw0 z (List.mem_iff_getElem?.2 ⟨j, hzj⟩)).1
    obtain ⟨z0, z1, rfl⟩ := Open.list2 (hzl.trans (show _ = 2 from rfl))
    refine ⟨[.int .i64 z0, .int .i64 z1], rfl, Go.Proofs.Ytillihiadpgalaa.P.k23_mk W ⟨z0, z1⟩, fun q u hu => ?_⟩
    match q, hu with
    | 0, hu => (obtain rfl := Option.some.inj hu; exact hcell j _ hzj 0 _ rfl)
    | 1, hu => (obtain rfl := Option.some.inj hu; exact hcell j _ hzj 1 _ rfl)
    | q + 2, hu => simp at hu
  have hlc0 : l0.length ≤ cap0 := by omega
  have hw0 : l0.length ≤ 9223372036854775807 := by unfold maxLen at hm0; omega
  obtain rfl := hln0
  clear hA0 hval0 hsz0 hsz
  obtain ⟨k, hp⟩ := Go.Proofs.Ytillihiadpgalaa.Pure.FnExactReverseRing l0 hw0
  refine (Go.Proofs.Ytillihiadpgalaa.P.laws_FnExactReverseRing.calls k a0 cap0 l0 W hr0 hlc0 hp).mono fun e W' ⟨he, bel0⟩ => ?_
  have bel : Below W.heap.size W W' := bel0
  subst he
  exact ⟨_, rfl, _, _, _, [], _, [], hW', trodAll_mk1 (shut_bool Try.underlying4 _), (trodAll_cons_mk (Below.trod laidOut (by kernel_rfl) (of_decide_eq_true (by kernel_rfl)) k0 bel lt0) trodAll_mk0), rfl, bel.frame _, fun h => by cases h⟩
theorem over : Rows.fnExactReverseRingRow.holds Try.pinned (OpenSpec.ofChange Rows.fnExactReverseRingSpec) :=
  OpenClaim.holds_of_wide 9 Try.f9 rfl rfl rfl rfl rfl rfl rfl ⟨rfl, rfl, rfl, rfl, rfl⟩ rfl rfl rfl rfl rfl (by kernel_rfl) Try.func9 (by kernel_rfl)
    (of_decide_eq_true (by kernel_rfl)) (by unfold Func.isWrapper; first | (rw [if_pos (by decide +kernel)]; kernel_rfl) | (rw [if_neg (by decide +kernel)]; exact ⟨rfl, rfl⟩))
    (fun os started H enc _ => lifted os started H enc)
theorem proved : Rows.FnExactReverseRingSaid := over
end Go.Proofs.Ytillihiadpgalaa.fnExactReverseRing
namespace Go.Proofs.Ytillihiadpgalaa
/-- The row, under a short name, for the claim. -/
theorem fnExactReverseRing_holds : Rows.FnExactReverseRingSaid := fnExactReverseRing.proved
end Go.Proofs.Ytillihiadpgalaa
