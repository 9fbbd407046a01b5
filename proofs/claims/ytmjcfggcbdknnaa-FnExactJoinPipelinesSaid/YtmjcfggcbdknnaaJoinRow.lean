/- The row of the law FnExactJoinPipelines: written by mkrow.py out of the pure statement and the contract. No condition. -/
import Derived.Test.YtmjcfggcbdknnaaRows
import Derived.Test.YtmjcfggcbdknnaaPJoin
import Derived.Test.YtmjcfggcbdknnaaEvRow
import Derived.WalkKit
import Derived.ProofKit
import Derived.OpenShut
import Derived.ShutString
import Derived.ChangeOld
import Derived.Below
import Derived.Carry
import Derived.SizedLaws
namespace Go.Proofs.Ytmjcfggcbdknnaa.fnExactJoinPipelines
open Go.ChangeShapes Go.WideShapes Go.ChangeAt Go.RowKit
open Go.ChangeMaps (open_string shut_string)
open Go.Proofs.Ytmjcfggcbdknnaa Go.Proofs.Ytmjcfggcbdknnaa.Ev
set_option linter.unusedVariables false
theorem own : ownKnob Try.prog.godebug = none := by kernel_rfl
theorem laidOut : laidOutB Try.prog = true := by kernel_rfl
open Go.Proofs.Ytmjcfggcbdknnaa.Ev in
theorem call (k : Nat) (W : World) (a0 : Option Addr) (len0 cap0 : Nat) (zs0 : List (List Int)) (hz0 : zs0.length = len0) (hzw0 : ∀ z ∈ zs0, z.length = 16) (hza0 : 0 < len0 → ∃ b, a0 = some b ∧ ∀ (i : Nat) z, zs0[i]? = some z → ∀ (j : Nat) n, z[j]? = some n → W.cell? (b.add (i * 16 + j)) = some (.int .i64 n)) (a1 : Option Addr) (len1 cap1 : Nat) (zs1 : List (List Int)) (hz1 : zs1.length = len1) (hzw1 : ∀ z ∈ zs1, z.length = 16) (hza1 : 0 < len1 → ∃ b, a1 = some b ∧ ∀ (i : Nat) z, zs1[i]? = some z → ∀ (j : Nat) n, z[j]? = some n → W.cell? (b.add (i * 16 + j)) = some (.int .i64 n)) (hp : Go.Proofs.Ytmjcfggcbdknnaa.Ev.laws_FnExactJoinPipelines k ((zs0.map fun z => z.map D.i)) ((zs1.map fun z => z.map D.i)) = some [.b true]) : Calls Try.prog 4 #[.slice a0 len0 cap0, .slice a1 len1 cap1] W fun e w' => e = .returned (.bool true) ∧ Below W.heap.size W w' := by
  have h1 : isMut (Go.Proofs.Ytmjcfggcbdknnaa.Ev.laws_FnExactJoinPipelines.sp k) = false := by kernel_rfl
  have h2 : (Go.Proofs.Ytmjcfggcbdknnaa.Ev.laws_FnExactJoinPipelines.sp k).rt = [(false, [(.bool, 0)])] := rfl
  have h3 : (Go.Proofs.Ytmjcfggcbdknnaa.Ev.laws_FnExactJoinPipelines.sp k).G [.l (zs0.map fun z => z.map D.i), .l (zs1.map fun z => z.map D.i)] = some [.b true] := hp
  have h4 : ∀ F : Nat → Prop, (∀ b, ¬ F b) → ArgsRep Try.prog W F (Go.Proofs.Ytmjcfggcbdknnaa.Ev.laws_FnExactJoinPipelines.sp k).pt [.l (zs0.map fun z => z.map D.i), .l (zs1.map fun z => z.map D.i)] [.slice a0 len0 cap0, .slice a1 len1 cap1] := fun F hF => ⟨.cons (rep_slice hF (by kernel_rfl) (by decide) hz0 hzw0 hza0) (.nil), .cons (rep_slice hF (by kernel_rfl) (by decide) hz1 hzw1 hza1) (.nil), trivial⟩
  exact ev_calls (Go.Proofs.Ytmjcfggcbdknnaa.Ev.laws_FnExactJoinPipelines.spec k) h1 h2 h4 h3
set_option maxRecDepth 100000 in
theorem lifted (os : Os) (started : os.Started) (H : Type) (enc : TypeId × Value → H) :
    ReturnsInHanded {} Try.checked os 4 .any (Rows.fnExactJoinPipelinesSpec.pre6 enc Try.prog Try.f4 Rows.fnExactJoinPipelinesRow.domain false) (Rows.fnExactJoinPipelinesSpec.post enc Try.prog Try.f4 false true false false) := by
  refine returnsInHanded_of_change_sized (C := Try.checked) own started (by kernel_rfl) Try.func4
    (ChangeSpec.witness6 (enc := enc) (C := Try.checked) false ⟨#[], #[.slice none 0 0, .slice none 0 0], []⟩ 8 (by kernel_rfl) (by kernel_rfl) (by kernel_rfl) (by kernel_rfl)) ?_
  intro W base args ds gs before hval0 hW hcnd hsz0 _
  have hsz : (DataW.weightsEach Try.prog (Try.f4.params.toList ++ Rows.fnExactJoinPipelinesSpec.plain.varTypes Try.prog) (ds ++ gs)).all (· ≤ reachBytes) = true := hsz0
  have hval : ∀ (j : Nat) t v, Try.f4.params[j]? = some t → args[j]? = some v → Value.okWide Try.prog W .any base t v := hval0
  have hW' := hW
  obtain ⟨p, q, hA0, hV, rfl, hfz, hnd⟩ := hW
  have hA : DataW.TrodAll enc Try.prog W 0 (fun _ => true) true Try.f4.params.toList args.toList ds p := hA0
  rw [Try.params4] at hA hval hsz
  obtain ⟨v0, vs0, d0, ds0, p0, q0, hargs, rfl, rfl, h0, r0⟩ := trodAll_cons hA
  obtain ⟨v1, vs1, d1, ds1, p1, q1, rfl, rfl, rfl, h1, r1⟩ := trodAll_cons r0
  obtain ⟨rfl, rfl, rfl⟩ := trodAll_nil r1
  obtain rfl : args = #[v0, v1] := by cases args; simp_all
  obtain ⟨rfl, rfl⟩ := trodVars_none hV
  obtain ⟨a0, len0, cap0, rfl⟩ := okWide_slice Try.underlying22 (hval 0 22 v0 rfl rfl)
  have k0 := h0
  have lt0 : ∀ x ∈ p0, x.block < W.heap.size := by obtain ⟨m, hm⟩ := k0; exact DataW.trod_lt m _ _ _ hm
  obtain ⟨fuel0, hf0⟩ := h0
  obtain ⟨A0, n0, c0, zs0, hcs0, hl0, hm0, hz0, hzw0, hza0⟩ := Open.open_slice_cells (P := Try.prog) 5 16 Try.underlying22 (by kernel_rfl) (by kernel_rfl) hf0
  simp only [Value.cells, List.cons.injEq, Value.slice.injEq, and_true] at hcs0
  obtain ⟨rfl, rfl, rfl⟩ := hcs0
  have hn0 : zs0.length ≤ 9223372036854775807 := by unfold maxLen at hm0; omega
  obtain ⟨a1, len1, cap1, rfl⟩ := okWide_slice Try.underlying22 (hval 1 22 v1 rfl rfl)
  have k1 := h1
  have lt1 : ∀ x ∈ p1, x.block < W.heap.size := by obtain ⟨m, hm⟩ := k1; exact DataW.trod_lt m _ _ _ hm
  obtain ⟨fuel1, hf1⟩ := h1
  obtain ⟨A1, n1, c1, zs1, hcs1, hl1, hm1, hz1, hzw1, hza1⟩ := Open.open_slice_cells (P := Try.prog) 5 16 Try.underlying22 (by kernel_rfl) (by kernel_rfl) hf1
  simp only [Value.cells, List.cons.injEq, Value.slice.injEq, and_true] at hcs1
  obtain ⟨rfl, rfl, rfl⟩ := hcs1
  have hn1 : zs1.length ≤ 9223372036854775807 := by unfold maxLen at hm1; omega
  clear hA0 hval0 hsz0 hsz
  obtain ⟨k, hp⟩ := Go.Proofs.Ytmjcfggcbdknnaa.Ev.FnExactJoinPipelines_pure zs0 zs1 (fun z hz => (hzw0 z hz).1) (fun z hz => (hzw0 z hz).2) hn0 (fun z hz => (hzw1 z hz).1) (fun z hz => (hzw1 z hz).2) hn1
  refine (call k W a0 len0 cap0 zs0 hz0 (fun z hz => (hzw0 z hz).1) hza0 a1 len1 cap1 zs1 hz1 (fun z hz => (hzw1 z hz).1) hza1 hp).mono fun e W' ⟨he, bel⟩ => ?_
  subst he
  exact ⟨_, rfl, _, _, _, [], _, [], hW', trodAll_mk1 (shut_bool Try.underlying4 _), (trodAll_cons_mk (Below.trod laidOut (by kernel_rfl) (of_decide_eq_true (by kernel_rfl)) k0 bel lt0) (trodAll_cons_mk (Below.trod laidOut (by kernel_rfl) (of_decide_eq_true (by kernel_rfl)) k1 bel lt1) trodAll_mk0)), rfl, bel.frame _, fun h => by cases h⟩
theorem over : Rows.fnExactJoinPipelinesRow.holds Try.pinned (OpenSpec.ofChange Rows.fnExactJoinPipelinesSpec) :=
  OpenClaim.holds_of_wide 4 Try.f4 rfl rfl rfl rfl rfl rfl rfl ⟨rfl, rfl, rfl, rfl, rfl⟩ rfl rfl rfl rfl rfl (by kernel_rfl) Try.func4 (by kernel_rfl)
    (of_decide_eq_true (by kernel_rfl)) (by unfold Func.isWrapper; first | (rw [if_pos (by decide +kernel)]; kernel_rfl) | (rw [if_neg (by decide +kernel)]; exact ⟨rfl, rfl⟩))
    (fun os started H enc _ => lifted os started H enc)
theorem proved : Rows.FnExactJoinPipelinesSaid := over
end Go.Proofs.Ytmjcfggcbdknnaa.fnExactJoinPipelines
namespace Go.Proofs.Ytmjcfggcbdknnaa
/-- The row, under a short name, for the claim. -/
theorem fnExactJoinPipelines_holds : Rows.FnExactJoinPipelinesSaid := fnExactJoinPipelines.proved
end Go.Proofs.Ytmjcfggcbdknnaa
