/- The row of the law FnExactRingText: written by mkrow.py out of the pure statement and the contract. No condition. -/
import Derived.Test.YtelajgllidngiaaDoorCards
import Derived.Test.YtelajgllidngiaaDoorTie
import Derived.Test.YtelajgllidngiaaDoorCFnExactRingTextRingText
import Derived.Deep.DeepHandedRow
import GoSem.PinnedTables
import Derived.Lib.LaidTab
import Derived.WalkKit
import Derived.ProofKit
import Derived.OpenShut
import Derived.ShutString
import Derived.ChangeOld
import Derived.Below
import Derived.Carry
import Derived.SizedLaws
import Derived.Test.YtelajgllidngiaaDoorCFnExactRingTextOpen
import Derived.Test.YtelajgllidngiaaDoorCFnExactRingTextOpenSl
import Derived.Test.YtelajgllidngiaaDoorCFnExactRingTextOpenNs
namespace Go.Proofs.YtelajgllidngiaaDoor.fnExactRingText
open Go.ChangeShapes Go.WideShapes Go.ChangeAt Go.RowKit
open Go.ChangeMaps (open_string shut_string)
set_option linter.unusedVariables false
theorem own : ownKnob Tryd.prog.godebug = none := by kernel_rfl
theorem laidOut : laidOutB Tryd.prog = true := by kernel_rfl
/-- A table's cells. -/
def flat0 : DataW Unit → List Value
  | .lit (.int k n) => [.int k n]
  | _ => []
def flat1 : DataW Unit → List Value
  | .agg l => l.flatMap flat0
  | d => flat0 d
def flat2 : DataW Unit → List Value
  | .agg l => l.flatMap flat1
  | d => flat0 d
def lay (d : DataW Unit) : Obj → Obj
  | .cells _ t fr => .cells (flat2 d).toArray t fr
  | o => o
/-- A world for the witness: the settled one, with the listed tables laid. -/
noncomputable def laidWorld (os : Os) : World :=
  { World.holding Tryd.prog os ⟨#[], #[], []⟩ with heap := (((World.holding Tryd.prog os ⟨#[], #[], []⟩).heap.modify 5 (lay Rows.laid_math_bits_deBruijn32tab)).modify 6 (lay Rows.laid_math_bits_deBruijn64tab)).modify 2 (lay Rows.laid_internal_strconv_uint64pow10) }
/-- What the row's list gives: the table of powers of ten. -/
theorem tab {W : World} (h : laidMetH Tryd.prog Rows.fnExactRingTextRow.laid W) : Go.Proofs.YtelajgllidngiaaDoor.P.Tab_ W := by
  obtain ⟨ps, ⟨_, _, _, _, _, _, _, _, _, _, ⟨_, _, _, _, _, _, _, _, _, _, ⟨g', t', cs, fuel, p, q, hg', ht', hvar, hd, _, _⟩, _⟩, _⟩, _⟩ := (show laidMet Tryd.prog [("math/bits.deBruijn32tab", Rows.laid_math_bits_deBruijn32tab), ("math/bits.deBruijn64tab", Rows.laid_math_bits_deBruijn64tab), ("internal/strconv.uint64pow10", Rows.laid_internal_strconv_uint64pow10)] W from h)
  obtain rfl := Option.some.inj ((show Tryd.prog.globalNamed "internal/strconv.uint64pow10" = some 2 by kernel_rfl).symm.trans hg')
  obtain rfl := Option.some.inj ((show (Tryd.prog.globals[2]?).map (·.type) = some 167 by kernel_rfl).symm.trans ht')
  rw [show (Rows.laid_internal_strconv_uint64pow10 : DataW Unit) = Lib.tabData .u64 Lib.pow10Tab by kernel_rfl] at hd
  unfold Go.Proofs.YtelajgllidngiaaDoor.P.Tab_ Lib.TabIs
  rw [hvar, ← Lib.cells_of_tab Tryd.underlying167 Tryd.underlying126 (by kernel_rfl) (by kernel_rfl) hd]
theorem laid_met (os : Os) : laidMet Tryd.prog Rows.fnExactRingTextRow.laid ((laidWorld os).forCall (fun _ _ => 0) ⟨#[], #[.slice none 0 0], []⟩).memory :=
  laidMet_of_run' 8 (by kernel_rfl) (by kernel_rfl)
theorem reads (os : Os) {H : Type} (enc : TypeId × Value → H) : ∃ places, DataW.whole enc Tryd.prog ((laidWorld os).forCall (fun _ _ => 0) ⟨#[], #[.slice none 0 0], []⟩).memory Tryd.f5.params.toList Rows.fnExactRingTextSpec.vars false (#[.slice none 0 0] : Array Value).toList 8 = some ([.nil], [], places) :=
  ⟨[], by kernel_rfl⟩
set_option maxRecDepth 100000 in
theorem lifted (os : Os) (started : os.Started) (H : Type) (enc : TypeId × Value → H) (F : Stop.Interp) :
    ReturnsInHanded {} Tryd.checked os 5 .any ((OpenSpec.ofChange Rows.fnExactRingTextSpec).preRow enc Tryd.prog Tryd.f5 Rows.fnExactRingTextRow.domain false Rows.fnExactRingTextRow.laid) (((OpenSpec.ofChange Rows.fnExactRingTextSpec).at F).post enc Tryd.prog Tryd.f5 false true false false) := by
  obtain ⟨places, hx⟩ := reads os enc
  refine returnsInHanded_of_row (C := Tryd.checked) (s := OpenSpec.ofChange Rows.fnExactRingTextSpec) own started (by kernel_rfl) Tryd.func5
    (witness_row_at (enc := enc) (C := Tryd.checked) false (laidWorld os) #[.slice none 0 0] rfl (by kernel_rfl) (by kernel_rfl) (by kernel_rfl)
      (OpenSpec.preRow_of_cond 8 hx (by kernel_rfl) (fun k hk => by cases hk) (by kernel_rfl) (laid_met os))) ?_
  intro W base args ds gs before hval0 hW _ _ hsz0 hL _ _
  have hsz : (DataW.weightsEach Tryd.prog (Tryd.f5.params.toList ++ Rows.fnExactRingTextSpec.plain.varTypes Tryd.prog) (ds ++ gs)).all (· ≤ reachBytes) = true := hsz0
  have hval : ∀ (j : Nat) t v, Tryd.f5.params[j]? = some t → args[j]? = some v → Value.okWide Tryd.prog W .any base t v := hval0
  have hW' := hW
  obtain ⟨p, q, hA0, hV, rfl, hfz, hnd⟩ := hW
  have hA : DataW.TrodAll enc Tryd.prog W 0 (fun _ => true) true Tryd.f5.params.toList args.toList ds p := hA0
  rw [Tryd.params5] at hA hval hsz
  obtain ⟨v0, vs0, d0, ds0, p0, q0, hargs, rfl, rfl, h0, r0⟩ := trodAll_cons hA
  obtain ⟨rfl, rfl, rfl⟩ := trodAll_nil r0
  obtain rfl : args = #[v0] := by cases args; simp_all
  obtain ⟨rfl, rfl⟩ := trodVars_none hV
  obtain ⟨a0, len0, cap0, rfl⟩ := okWide_slice Tryd.underlying33 (hval 0 33 v0 rfl rfl)
  have k0 := h0
  have lt0 : ∀ x ∈ p0, x.block < W.heap.size := by obtain ⟨m, hm⟩ := k0; exact DataW.trod_lt m _ _ _ hm
  obtain ⟨fuel0, hf0⟩ := h0
  obtain ⟨A0, n0, c0, zs0, hcs0, hl0, hm0, hz0, hzw0, hza0⟩ := Open.open_slice_ints (P := Tryd.prog) Tryd.underlying33 Tryd.underlying23 (by kernel_rfl) (by kernel_rfl) (by intro j f hj; match j, hj with | 0, hj => (obtain rfl := Option.some.inj hj; exact Tryd.underlying2) | 1, hj => (obtain rfl := Option.some.inj hj; exact Tryd.underlying2) | j + 2, hj => simp at hj) hf0
  simp only [Value.cells, List.cons.injEq, Value.slice.injEq, and_true] at hcs0
  obtain ⟨rfl, rfl, rfl⟩ := hcs0
  obtain ⟨l0, e0⟩ : ∃ l : List Go.Proofs.YtelajgllidngiaaDoor.P.S23, l = zs0.map fun z => ⟨z.getD 0 0, z.getD 1 0⟩ := ⟨_, rfl⟩
  have hln0 : l0.length = len0 := by rw [e0, List.length_map, hz0]
  have hr0 : Go.Proofs.YtelajgllidngiaaDoorW.PrintWords.Kd.C Go.Proofs.YtelajgllidngiaaDoor.P.k23 W a0 l0.length l0 := by
    refine ⟨rfl, by unfold maxLen at hm0; omega, fun hpos => ?_⟩
    obtain ⟨ad, had, hcell⟩ := hza0 (by omega)
    refine ⟨ad, had, fun j p hp => ?_⟩
    rw [e0, List.getElem?_map] at hp
    obtain ⟨z, hzj, rfl⟩ := Option.map_eq_some_iff.1 hp
    have hzl := (hzw0 z (List.mem_iff_getElem?.2 ⟨j, hzj⟩)).1
    obtain ⟨z0, z1, rfl⟩ := Open.list2 (hzl.trans (show _ = 2 from rfl))
    refine ⟨[.int .i64 z0, .int .i64 z1], rfl, Go.Proofs.YtelajgllidngiaaDoor.P.k23_mk W ⟨z0, z1⟩, fun q u hu => ?_⟩
    match q, hu with
    | 0, hu => (obtain rfl := Option.some.inj hu; exact hcell j _ hzj 0 _ rfl)
    | 1, hu => (obtain rfl := Option.some.inj hu; exact hcell j _ hzj 1 _ rfl)
    | q + 2, hu => simp at hu
  have hlc0 : l0.length ≤ cap0 := by omega
  have hw0 : l0.length ≤ 9223372036854775807 := by unfold maxLen at hm0; omega
  obtain rfl := hln0
  clear hA0 hval0 hsz0 hsz
  obtain ⟨k, hp⟩ := Go.Proofs.YtelajgllidngiaaDoor.Pure.FnExactRingText l0 hw0
  refine (Go.Proofs.YtelajgllidngiaaDoor.P.laws_FnExactRingText.calls k a0 cap0 l0 W (tab hL) hr0 hlc0 hp).mono fun e W' ⟨he, bel0⟩ => ?_
  have bel : Below W.heap.size W W' := bel0
  subst he
  exact ⟨_, rfl, _, _, _, [], _, [], hW', trodAll_mk1 (shut_bool Tryd.underlying4 _), (trodAll_cons_mk (Below.trod laidOut (by kernel_rfl) (of_decide_eq_true (by kernel_rfl)) k0 bel lt0) trodAll_mk0), rfl, bel.frame _, fun h => by cases h⟩
theorem said : Rows.FnExactRingTextSaid :=
  OpenClaim.holds_of_cond 5 Tryd.f5 rfl rfl rfl rfl rfl rfl rfl ⟨rfl, rfl, rfl, rfl, rfl⟩ rfl rfl rfl rfl rfl (by kernel_rfl) Tryd.func5 (by kernel_rfl)
    (of_decide_eq_true (by kernel_rfl)) (by unfold Func.isWrapper; first | (rw [if_pos (by decide +kernel)]; kernel_rfl) | (rw [if_neg (by decide +kernel)]; exact ⟨rfl, rfl⟩))
    (fun os started H enc _ F => by rw [OpenClaim.pre_eq_preRow]; exact lifted os started H enc F)
theorem plain (f : FuncId) (fn : Func) (hf : Tryd.pinned.checked.prog.funcNamed "loop.example/g00880/laws.FnExactRingText" = some f) (hfn : Tryd.pinned.checked.prog.funcs[f]? = some fn) :
    false = Tryd.pinned.checked.prog.looks [] ∧ ∀ (j : Nat) t, fn.params[j]? = some t → Tryd.pinned.checked.prog.wantsStandIn t = false := by
  obtain rfl : f = 5 := Option.some.inj ((show Tryd.prog.funcNamed "loop.example/g00880/laws.FnExactRingText" = some 5 by kernel_rfl).symm.trans hf) |>.symm
  obtain rfl : fn = Tryd.f5 := (Option.some.inj (Tryd.func5.symm.trans hfn)).symm
  refine ⟨by kernel_rfl, fun j t ht => ?_⟩
  rw [Tryd.params5] at ht
  have hm : t ∈ [33] := by simpa using Array.mem_of_getElem? ht
  have hall : ([33].all fun u => !Tryd.prog.wantsStandIn u) = true := by kernel_rfl
  exact (show Tryd.prog.wantsStandIn t = false by simpa using List.all_eq_true.1 hall t hm)
theorem card : Rows.FnExactRingTextCardSaid :=
  Claim7.holds_tied_plain_at .later [] _ _ _ _ said (fun _ h => by cases h) (by kernel_rfl) (fun _ h => by cases h) fnExactRingText_row_tie rfl ⟨rfl, rfl⟩ (by kernel_rfl) rfl plain (by kernel_rfl)
end Go.Proofs.YtelajgllidngiaaDoor.fnExactRingText
namespace Go.Proofs.YtelajgllidngiaaDoor
/-- The card, under a short name, for the claim. -/
theorem fnExactRingText_holds : Rows.FnExactRingTextCardSaid := fnExactRingText.card
end Go.Proofs.YtelajgllidngiaaDoor
