/- The row of the law FnExactRingPerimeter: written by mkrow.py out of the pure statement and the contract. No condition. -/
import Derived.Test.YtbbgdeknaecljaaGreatRows
import Derived.Test.YtbbgdeknaecljaaGreatPNorm
import Derived.Test.YtbbgdeknaecljaaGreatEvRow
import Derived.WalkKit
import Derived.ProofKit
import Derived.OpenShut
import Derived.ShutString
import Derived.ChangeOld
import Derived.Below
import Derived.Carry
import Derived.SizedLaws
namespace Go.Proofs.YtbbgdeknaecljaaGreat.fnExactRingPerimeter
open Go.ChangeShapes Go.WideShapes Go.ChangeAt Go.RowKit
open Go.ChangeMaps (open_string shut_string)
open Go.Proofs.YtbbgdeknaecljaaGreat Go.Proofs.YtbbgdeknaecljaaGreat.Ev
set_option linter.unusedVariables false
theorem own : ownKnob Tryz.prog.godebug = none := by kernel_rfl
theorem laidOut : laidOutB Tryz.prog = true := by kernel_rfl
open Go.Proofs.YtbbgdeknaecljaaGreat.Ev in
theorem call (k : Nat) (W : World) (hgl : GlobsAt gl_ W fun _ => False) (a0 : Option Addr) (len0 cap0 : Nat) (zs0 : List (List Int)) (hl0 : len0 ≤ cap0) (hz0 : zs0.length = len0) (hzw0 : ∀ z ∈ zs0, z.length = 2) (hza0 : 0 < len0 → ∃ b, a0 = some b ∧ ∀ (i : Nat) z, zs0[i]? = some z → ∀ (j : Nat) n, z[j]? = some n → W.cell? (b.add (i * 2 + j)) = some (.int .i64 n)) (hp : Go.Proofs.YtbbgdeknaecljaaGreat.Ev.laws_FnExactRingPerimeter k ((zs0.map fun z => z.map D.i)) = some [.b true]) : Calls Tryz.prog 7 #[.slice a0 len0 cap0] W fun e w' => e = .returned (.bool true) ∧ Below W.heap.size W w' := by
  have h1 : isMut (Go.Proofs.YtbbgdeknaecljaaGreat.Ev.laws_FnExactRingPerimeter.sp k) = false := by kernel_rfl
  have h2 : (Go.Proofs.YtbbgdeknaecljaaGreat.Ev.laws_FnExactRingPerimeter.sp k).rt = [(false, [(.bool, 0)])] := rfl
  have h3 : (Go.Proofs.YtbbgdeknaecljaaGreat.Ev.laws_FnExactRingPerimeter.sp k).G [.l (zs0.map fun z => z.map D.i)] = some [.b true] := hp
  have h4 : ∀ F : Nat → Prop, (∀ b, ¬ F b) → ArgsRep Tryz.prog W F (Go.Proofs.YtbbgdeknaecljaaGreat.Ev.laws_FnExactRingPerimeter.sp k).pt [.l (zs0.map fun z => z.map D.i)] [.slice a0 len0 cap0] := fun F hF => ⟨.cons (rep_slice hF (by kernel_rfl) (by decide) hl0 hz0 hzw0 hza0) (.nil), trivial⟩
  exact ev_calls (Go.Proofs.YtbbgdeknaecljaaGreat.Ev.laws_FnExactRingPerimeter.spec k) (fn := Tryz.f7) (by kernel_rfl) (by kernel_rfl) h1 h2 hgl h4 h3
set_option maxRecDepth 100000 in
theorem lifted (os : Os) (started : os.Started) (H : Type) (enc : TypeId × Value → H) :
    ReturnsInHanded {} Tryz.checked os 7 .any (Rows.fnExactRingPerimeterSpec.pre6 enc Tryz.prog Tryz.f7 Rows.fnExactRingPerimeterRow.domain false) (Rows.fnExactRingPerimeterSpec.post enc Tryz.prog Tryz.f7 false true false false) := by
  refine returnsInHanded_of_change_sized (C := Tryz.checked) own started (by kernel_rfl) Tryz.func7
    (ChangeSpec.witness6 (enc := enc) (C := Tryz.checked) false ⟨#[], #[.slice none 0 0], []⟩ 8 (by kernel_rfl) (by kernel_rfl) (by kernel_rfl) (by kernel_rfl)) ?_
  intro W base args ds gs before hval0 hW hcnd hsz0 _
  have hsz : (DataW.weightsEach Tryz.prog (Tryz.f7.params.toList ++ Rows.fnExactRingPerimeterSpec.plain.varTypes Tryz.prog) (ds ++ gs)).all (· ≤ reachBytes) = true := hsz0
  have hval : ∀ (j : Nat) t v, Tryz.f7.params[j]? = some t → args[j]? = some v → Value.okWide Tryz.prog W .any base t v := hval0
  have hW' := hW
  obtain ⟨p, q, hA0, hV, rfl, hfz, hnd⟩ := hW
  have hA : DataW.TrodAll enc Tryz.prog W 0 (fun _ => true) true Tryz.f7.params.toList args.toList ds p := hA0
  rw [Tryz.params7] at hA hval hsz
  obtain ⟨v0, vs0, d0, ds0, p0, q0, hargs, rfl, rfl, h0, r0⟩ := trodAll_cons hA
  obtain ⟨rfl, rfl, rfl⟩ := trodAll_nil r0
  obtain rfl : args = #[v0] := by cases args; simp_all
  obtain ⟨rfl, rfl⟩ := trodVars_none hV
  obtain ⟨a0, len0, cap0, rfl⟩ := okWide_slice Tryz.underlying34 (hval 0 34 v0 rfl rfl)
  have k0 := h0
  have lt0 : ∀ x ∈ p0, x.block < W.heap.size := by obtain ⟨m, hm⟩ := k0; exact DataW.trod_lt m _ _ _ hm
  obtain ⟨fuel0, hf0⟩ := h0
  obtain ⟨A0, n0, c0, zs0, hcs0, hl0, hm0, hz0, hzw0, hza0⟩ := Open.open_slice_cells (P := Tryz.prog) 5 2 Tryz.underlying34 (by kernel_rfl) (by kernel_rfl) hf0
  simp only [Value.cells, List.cons.injEq, Value.slice.injEq, and_true] at hcs0
  obtain ⟨rfl, rfl, rfl⟩ := hcs0
  have hn0 : zs0.length ≤ 9223372036854775807 := by unfold maxLen at hm0; omega
  clear hA0 hval0 hsz0 hsz
  obtain ⟨k, hp⟩ := Go.Proofs.YtbbgdeknaecljaaGreat.Ev.FnExactRingPerimeter_pure zs0 (fun z hz => (hzw0 z hz).1) (fun z hz => (hzw0 z hz).2) hn0
  refine (call k W GlobsAt.none a0 len0 cap0 zs0 hl0 hz0 (fun z hz => (hzw0 z hz).1) hza0 hp).mono fun e W' ⟨he, bel⟩ => ?_
  subst he
  exact ⟨_, rfl, _, _, _, [], _, [], hW', trodAll_mk1 (shut_bool Tryz.underlying4 _), (trodAll_cons_mk (Below.trod laidOut (by kernel_rfl) (of_decide_eq_true (by kernel_rfl)) k0 bel lt0) trodAll_mk0), rfl, bel.frame _, fun h => by cases h⟩
theorem over : Rows.fnExactRingPerimeterRow.holds Tryz.pinned (OpenSpec.ofChange Rows.fnExactRingPerimeterSpec) :=
  OpenClaim.holds_of_wide 7 Tryz.f7 rfl rfl rfl rfl rfl rfl rfl ⟨rfl, rfl, rfl, rfl, rfl⟩ rfl rfl rfl rfl rfl (by kernel_rfl) Tryz.func7 (by kernel_rfl)
    (of_decide_eq_true (by kernel_rfl)) (by unfold Func.isWrapper; first | (rw [if_pos (by decide +kernel)]; kernel_rfl) | (rw [if_neg (by decide +kernel)]; exact ⟨rfl, rfl⟩))
    (fun os started H enc _ => lifted os started H enc)
theorem proved : Rows.FnExactRingPerimeterSaid := over
end Go.Proofs.YtbbgdeknaecljaaGreat.fnExactRingPerimeter
namespace Go.Proofs.YtbbgdeknaecljaaGreat
/-- The row, under a short name, for the claim. -/
theorem fnExactRingPerimeter_holds : Rows.FnExactRingPerimeterSaid := fnExactRingPerimeter.proved
end Go.Proofs.YtbbgdeknaecljaaGreat
