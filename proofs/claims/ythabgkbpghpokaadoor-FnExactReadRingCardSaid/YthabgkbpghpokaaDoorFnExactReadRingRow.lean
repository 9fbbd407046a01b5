/- The row of the law FnExactReadRing: written by mkrow.py out of the pure statement and the contract. No condition. -/
import Derived.Test.YthabgkbpghpokaaDoorCards
import Derived.Test.YthabgkbpghpokaaDoorTie
import Derived.Test.YthabgkbpghpokaaDoorPRdg
import Derived.Test.YthabgkbpghpokaaDoorEvRow
import Derived.Test.YthabgkbpghpokaaDoorEvSplit
import Derived.Deep.DeepHandedRow
import GoSem.PinnedTables
import Derived.Lib.LaidTab
import Derived.WalkKit
import Derived.ProofKit
import Derived.OpenShut
import Derived.ShutString
import Derived.ChangeOld
import Derived.Below
import Derived.Carry
import Derived.SizedLaws
namespace Go.Proofs.YthabgkbpghpokaaDoor.fnExactReadRing
open Go.ChangeShapes Go.WideShapes Go.ChangeAt Go.RowKit
open Go.ChangeMaps (open_string shut_string)
open Go.Proofs.YthabgkbpghpokaaDoor Go.Proofs.YthabgkbpghpokaaDoor.Ev
set_option linter.unusedVariables false
theorem own : ownKnob Tryd.prog.godebug = none := by kernel_rfl
/-- A table's cells. -/
def flat0 : DataW Unit → List Value
  | .lit (.int k n) => [.int k n]
  | .lit (.string b) => [.string ⟨b.toArray⟩]
  | _ => []
def flat1 : DataW Unit → List Value
  | .agg l => l.flatMap flat0
  | d => flat0 d
def flat2 : DataW Unit → List Value
  | .agg l => l.flatMap flat1
  | d => flat0 d
def lay (d : DataW Unit) : Obj → Obj
  | .cells _ t fr => .cells (flat2 d).toArray t fr
  | o => o
/-- A world for the witness: the settled one, with the listed tables laid. -/
noncomputable def laidWorld (os : Os) : World :=
  { World.holding Tryd.prog os ⟨#[], #[], []⟩ with heap := (((((World.holding Tryd.prog os ⟨#[], #[], []⟩).heap.modify 4 (lay Rows.laid_math_bits_deBruijn32tab)).modify 5 (lay Rows.laid_math_bits_deBruijn64tab)).modify 3 (lay Rows.laid_internal_strconv_uint64pow10)).modify 2 (lay Rows.laid_unicode_utf8_acceptRanges)).modify 1 (lay Rows.laid_unicode_utf8_first) }
/-- What the row's list gives: the table of powers of ten. -/
theorem tab {W : World} (h : laidMetH Tryd.prog Rows.fnExactReadRingRow.laid W) : Go.Proofs.YthabgkbpghpokaaDoor.P.Tab_ W := by
  obtain ⟨ps, ⟨_, _, _, _, _, _, _, _, _, _, ⟨_, _, _, _, _, _, _, _, _, _, ⟨g', t', cs, fuel, p, q, hg', ht', hvar, hd, _, _⟩, _⟩, _⟩, _⟩ := (show laidMet Tryd.prog [("math/bits.deBruijn32tab", Rows.laid_math_bits_deBruijn32tab), ("math/bits.deBruijn64tab", Rows.laid_math_bits_deBruijn64tab), ("internal/strconv.uint64pow10", Rows.laid_internal_strconv_uint64pow10), ("unicode/utf8.acceptRanges", Rows.laid_unicode_utf8_acceptRanges), ("unicode/utf8.first", Rows.laid_unicode_utf8_first)] W from h)
  obtain rfl := Option.some.inj ((show Tryd.prog.globalNamed "internal/strconv.uint64pow10" = some 3 by kernel_rfl).symm.trans hg')
  obtain rfl := Option.some.inj ((show (Tryd.prog.globals[3]?).map (·.type) = some 109 by kernel_rfl).symm.trans ht')
  rw [show (Rows.laid_internal_strconv_uint64pow10 : DataW Unit) = Lib.tabData .u64 Lib.pow10Tab by kernel_rfl] at hd
  unfold Go.Proofs.YthabgkbpghpokaaDoor.P.Tab_ Lib.TabIs
  rw [hvar, ← Lib.cells_of_tab Tryd.underlying109 Tryd.underlying94 (by kernel_rfl) (by kernel_rfl) hd]
theorem mxAt {W : World} (h : W.ShapedOpen Tryd.prog) : ∃ m, GlobAt W (fun _ => False) 0 [.int .i64 m] := mx_at (zero := #[.int .i64 0]) (t := 3) h (of_decide_eq_true (by kernel_rfl)) (by kernel_rfl) rfl (by kernel_rfl) (by kernel_rfl) Tryd.underlying3
theorem globs [Mx] {W : World} (h : laidMetH Tryd.prog Rows.fnExactReadRingRow.laid W) (hmx : GlobAt W (fun _ => False) 0 [.int .i64 Mx.mx]) : GlobsAt gl_ W fun _ => False := globsAt_cons (globAt_of_var (name := "internal/strconv.uint64pow10") (by kernel_rfl) (tab h) (by decide) (by kernel_rfl)) (globsAt_cons (hmx) (GlobsAt.none))
theorem laid_met (os : Os) : laidMet Tryd.prog Rows.fnExactReadRingRow.laid ((laidWorld os).forCall (fun _ _ => 0) ⟨#[], #[.string ByteArray.empty], []⟩).memory :=
  laidMet_of_run' 8 (by kernel_rfl) (by kernel_rfl)
theorem reads (os : Os) {H : Type} (enc : TypeId × Value → H) : ∃ places, DataW.whole enc Tryd.prog ((laidWorld os).forCall (fun _ _ => 0) ⟨#[], #[.string ByteArray.empty], []⟩).memory Tryd.f3.params.toList Rows.fnExactReadRingSpec.vars false (#[.string ByteArray.empty] : Array Value).toList 8 = some ([.lit (.string [])], [], places) :=
  ⟨[], by kernel_rfl⟩
open Go.Proofs.YthabgkbpghpokaaDoor.Ev in
theorem call [Mx] (k : Nat) (W : World) (hgl : GlobsAt gl_ W fun _ => False) (a0 : ByteArray) (hp : Go.Proofs.YthabgkbpghpokaaDoor.Ev.laws_FnExactReadRing k (a0) = some [.b true]) : Calls Tryd.prog 3 #[.string a0] W fun e w' => e = .returned (.bool true) ∧ Below W.heap.size W w' := by
  have h1 : isMut (Go.Proofs.YthabgkbpghpokaaDoor.Ev.laws_FnExactReadRing.sp k) = false := by kernel_rfl
  have h2 : (Go.Proofs.YthabgkbpghpokaaDoor.Ev.laws_FnExactReadRing.sp k).rt = [(false, [(.bool, 0)])] := rfl
  have h3 : (Go.Proofs.YthabgkbpghpokaaDoor.Ev.laws_FnExactReadRing.sp k).G [.s a0] = some [.b true] := hp
  have h4 : ∀ F : Nat → Prop, (∀ b, ¬ F b) → ArgsRep Tryd.prog W F (Go.Proofs.YthabgkbpghpokaaDoor.Ev.laws_FnExactReadRing.sp k).pt [.s a0] [.string a0] := fun F hF => ⟨.cons (.str (.s _)) (.nil), trivial⟩
  exact ev_calls (Go.Proofs.YthabgkbpghpokaaDoor.Ev.laws_FnExactReadRing.spec k) (fn := Tryd.f3) (by kernel_rfl) (by kernel_rfl) h1 h2 hgl h4 h3
set_option maxRecDepth 100000 in
theorem lifted (os : Os) (started : os.Started) (H : Type) (enc : TypeId × Value → H) (F : Stop.Interp) :
    ReturnsInHanded {} Tryd.checked os 3 .any ((OpenSpec.ofChange Rows.fnExactReadRingSpec).preRow enc Tryd.prog Tryd.f3 Rows.fnExactReadRingRow.domain false Rows.fnExactReadRingRow.laid) (((OpenSpec.ofChange Rows.fnExactReadRingSpec).at F).post enc Tryd.prog Tryd.f3 false true false false) := by
  obtain ⟨places, hx⟩ := reads os enc
  refine returnsInHanded_of_row (C := Tryd.checked) (s := OpenSpec.ofChange Rows.fnExactReadRingSpec) own started (by kernel_rfl) Tryd.func3
    (witness_row_at (enc := enc) (C := Tryd.checked) false (laidWorld os) #[.string ByteArray.empty] rfl (by kernel_rfl) (by kernel_rfl) (by kernel_rfl)
      (OpenSpec.preRow_of_cond 8 hx (by kernel_rfl) (fun k hk => by cases hk) (by kernel_rfl) (laid_met os))) ?_
  intro W base args ds gs before hval0 hW _ _ hsz0 hL hsho _
  obtain ⟨mx, hmx⟩ := mxAt hsho
  letI : Mx := ⟨mx⟩
  have hsz : (DataW.weightsEach Tryd.prog (Tryd.f3.params.toList ++ Rows.fnExactReadRingSpec.plain.varTypes Tryd.prog) (ds ++ gs)).all (· ≤ reachBytes) = true := hsz0
  have hval : ∀ (j : Nat) t v, Tryd.f3.params[j]? = some t → args[j]? = some v → Value.okWide Tryd.prog W .any base t v := hval0
  have hW' := hW
  obtain ⟨p, q, hA0, hV, rfl, hfz, hnd⟩ := hW
  have hA : DataW.TrodAll enc Tryd.prog W 0 (fun _ => true) true Tryd.f3.params.toList args.toList ds p := hA0
  rw [Tryd.params3] at hA hval hsz
  obtain ⟨v0, vs0, d0, ds0, p0, q0, hargs, rfl, rfl, h0, r0⟩ := trodAll_cons hA
  obtain ⟨rfl, rfl, rfl⟩ := trodAll_nil r0
  obtain rfl : args = #[v0] := by cases args; simp_all
  obtain ⟨rfl, rfl⟩ := trodVars_none hV
  obtain ⟨a0, rfl, rfl, rfl, y0⟩ := open_string Tryd.underlying9 (hval 0 9 v0 rfl rfl) h0
  have w0 : a0.size ≤ 140737488351232 := by
    have z := sized_string hsz (j := 0) (t := 9) rfl rfl
    rw [Array.length_toList] at z
    exact z
  clear hA0 hval0 hsz0 hsz
  obtain ⟨k, hp⟩ := Go.Proofs.YthabgkbpghpokaaDoor.Ev.FnExactReadRing_pure a0 w0
  refine (call k W (globs hL hmx) a0 hp).mono fun e W' ⟨he, bel⟩ => ?_
  subst he
  exact ⟨_, rfl, _, _, _, [], _, [], hW', trodAll_mk1 (shut_bool Tryd.underlying4 _), (trodAll_cons_mk (shut_string Tryd.underlying9 y0) trodAll_mk0), rfl, bel.frame _, fun h => by cases h⟩
theorem said : Rows.FnExactReadRingSaid :=
  OpenClaim.holds_of_cond 3 Tryd.f3 rfl rfl rfl rfl rfl rfl rfl ⟨rfl, rfl, rfl, rfl, rfl⟩ rfl rfl rfl rfl rfl (by kernel_rfl) Tryd.func3 (by kernel_rfl)
    (of_decide_eq_true (by kernel_rfl)) (by unfold Func.isWrapper; first | (rw [if_pos (by decide +kernel)]; kernel_rfl) | (rw [if_neg (by decide +kernel)]; exact ⟨rfl, rfl⟩))
    (fun os started H enc _ F => by rw [OpenClaim.pre_eq_preRow]; exact lifted os started H enc F)
theorem plain (f : FuncId) (fn : Func) (hf : Tryd.pinned.checked.prog.funcNamed "loop.example/g00880/laws.FnExactReadRing" = some f) (hfn : Tryd.pinned.checked.prog.funcs[f]? = some fn) :
    false = Tryd.pinned.checked.prog.looks [] ∧ ∀ (j : Nat) t, fn.params[j]? = some t → Tryd.pinned.checked.prog.wantsStandIn t = false := by
  obtain rfl : f = 3 := Option.some.inj ((show Tryd.prog.funcNamed "loop.example/g00880/laws.FnExactReadRing" = some 3 by kernel_rfl).symm.trans hf) |>.symm
  obtain rfl : fn = Tryd.f3 := (Option.some.inj (Tryd.func3.symm.trans hfn)).symm
  refine ⟨by kernel_rfl, fun j t ht => ?_⟩
  rw [Tryd.params3] at ht
  have hm : t ∈ [9] := by simpa using Array.mem_of_getElem? ht
  have hall : ([9].all fun u => !Tryd.prog.wantsStandIn u) = true := by kernel_rfl
  exact (show Tryd.prog.wantsStandIn t = false by simpa using List.all_eq_true.1 hall t hm)
theorem card : Rows.FnExactReadRingCardSaid :=
  Claim7.holds_tied_plain_at .later [] _ _ _ _ said (fun _ h => by cases h) (by kernel_rfl) (fun _ h => by cases h) fnExactReadRing_row_tie rfl ⟨rfl, rfl⟩ (by kernel_rfl) rfl plain (by kernel_rfl)
end Go.Proofs.YthabgkbpghpokaaDoor.fnExactReadRing
namespace Go.Proofs.YthabgkbpghpokaaDoor
/-- The card, under a short name, for the claim. -/
theorem fnExactReadRing_holds : Rows.FnExactReadRingCardSaid := fnExactReadRing.card
end Go.Proofs.YthabgkbpghpokaaDoor
