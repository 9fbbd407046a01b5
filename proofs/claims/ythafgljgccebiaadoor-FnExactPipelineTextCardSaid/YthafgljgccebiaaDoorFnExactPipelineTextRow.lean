/- The row of the law FnExactPipelineText: written by mkrow.py out of the pure statement and the contract. No condition. -/
import Derived.Test.YthafgljgccebiaaDoorCards
import Derived.Test.YthafgljgccebiaaDoorTie
import Derived.Test.YthafgljgccebiaaDoorPPipelineText
import Derived.Test.YthafgljgccebiaaDoorEvRow
import Derived.Test.YthafgljgccebiaaDoorEvTab
import Derived.Test.YthafgljgccebiaaDoorEvTab
import Derived.Deep.DeepHandedRow
import GoSem.PinnedTables
import Derived.Lib.LaidTab
import Derived.WalkKit
import Derived.ProofKit
import Derived.OpenShut
import Derived.ShutString
import Derived.ChangeOld
import Derived.Below
import Derived.Carry
import Derived.SizedLaws
namespace Go.Proofs.YthafgljgccebiaaDoor.fnExactPipelineText
open Go.ChangeShapes Go.WideShapes Go.ChangeAt Go.RowKit
open Go.ChangeMaps (open_string shut_string)
open Go.Proofs.YthafgljgccebiaaDoor Go.Proofs.YthafgljgccebiaaDoor.Ev
set_option linter.unusedVariables false
theorem own : ownKnob Tryd.prog.godebug = none := by kernel_rfl
theorem laidOut : laidOutB Tryd.prog = true := by kernel_rfl
/-- A table's cells. -/
def flat0 : DataW Unit → List Value
  | .lit (.int k n) => [.int k n]
  | .lit (.string b) => [.string ⟨b.toArray⟩]
  | _ => []
def flat1 : DataW Unit → List Value
  | .agg l => l.flatMap flat0
  | d => flat0 d
def flat2 : DataW Unit → List Value
  | .agg l => l.flatMap flat1
  | d => flat0 d
def lay (d : DataW Unit) : Obj → Obj
  | .cells _ t fr => .cells (flat2 d).toArray t fr
  | o => o
/-- A world for the witness: the settled one, with the listed tables laid. -/
noncomputable def laidWorld (os : Os) : World :=
  { World.holding Tryd.prog os ⟨#[], #[], []⟩ with heap := (((((World.holding Tryd.prog os ⟨#[], #[], []⟩).heap.modify 6 (lay Rows.laid_math_bits_deBruijn32tab)).modify 7 (lay Rows.laid_math_bits_deBruijn64tab)).modify 3 (lay Rows.laid_internal_strconv_uint64pow10)).modify 0 (lay Rows.laid_loop_example_g00880_impl_projectionNames)).modify 1 (lay Rows.laid_loop_example_g00880_impl_stepWords) }
/-- What the row's list gives: the table of powers of ten. -/
theorem tab {W : World} (h : laidMetH Tryd.prog Rows.fnExactPipelineTextRow.laid W) : Go.Proofs.YthafgljgccebiaaDoor.P.Tab_ W := by
  obtain ⟨ps, ⟨_, _, _, _, _, _, _, _, _, _, ⟨_, _, _, _, _, _, _, _, _, _, ⟨g', t', cs, fuel, p, q, hg', ht', hvar, hd, _, _⟩, _⟩, _⟩, _⟩ := (show laidMet Tryd.prog [("math/bits.deBruijn32tab", Rows.laid_math_bits_deBruijn32tab), ("math/bits.deBruijn64tab", Rows.laid_math_bits_deBruijn64tab), ("internal/strconv.uint64pow10", Rows.laid_internal_strconv_uint64pow10), ("loop.example/g00880/impl.projectionNames", Rows.laid_loop_example_g00880_impl_projectionNames), ("loop.example/g00880/impl.stepWords", Rows.laid_loop_example_g00880_impl_stepWords)] W from h)
  obtain rfl := Option.some.inj ((show Tryd.prog.globalNamed "internal/strconv.uint64pow10" = some 3 by kernel_rfl).symm.trans hg')
  obtain rfl := Option.some.inj ((show (Tryd.prog.globals[3]?).map (·.type) = some 165 by kernel_rfl).symm.trans ht')
  rw [show (Rows.laid_internal_strconv_uint64pow10 : DataW Unit) = Lib.tabData .u64 Lib.pow10Tab by kernel_rfl] at hd
  unfold Go.Proofs.YthafgljgccebiaaDoor.P.Tab_ Lib.TabIs
  rw [hvar, ← Lib.cells_of_tab Tryd.underlying165 Tryd.underlying145 (by kernel_rfl) (by kernel_rfl) hd]
theorem str0 {W : World} (h : laidMetH Tryd.prog Rows.fnExactPipelineTextRow.laid W) : W.var? Tryd.prog "loop.example/g00880/impl.projectionNames" = some ([(⟨#[]⟩ : ByteArray), (⟨#[112, 108, 97, 116, 101]⟩ : ByteArray), (⟨#[109, 101, 114, 99, 97, 116, 111, 114]⟩ : ByteArray), (⟨#[99, 121, 108, 105, 110, 100, 101, 114]⟩ : ByteArray), (⟨#[109, 105, 108, 108, 101, 114]⟩ : ByteArray), (⟨#[103, 110, 111, 109, 111, 110, 105, 99]⟩ : ByteArray), (⟨#[115, 116, 101, 114, 101, 111]⟩ : ByteArray), (⟨#[111, 114, 116, 104, 111]⟩ : ByteArray), (⟨#[97, 122, 105, 109, 117, 116, 104]⟩ : ByteArray), (⟨#[122, 101, 110, 105, 116, 104]⟩ : ByteArray), (⟨#[97, 108, 98, 101, 114, 115]⟩ : ByteArray), (⟨#[108, 97, 109, 98, 101, 114, 116]⟩ : ByteArray), (⟨#[99, 111, 110, 105, 99]⟩ : ByteArray), (⟨#[115, 105, 110, 117, 115]⟩ : ByteArray), (⟨#[109, 111, 108, 108, 119, 101, 105, 100, 101]⟩ : ByteArray), (⟨#[101, 99, 107, 101, 114, 116]⟩ : ByteArray), (⟨#[116, 114, 97, 110, 115, 118, 101, 114, 115, 101]⟩ : ByteArray)].map Value.string).toArray := by
  obtain ⟨ps, ⟨_, _, _, _, _, _, _, _, _, _, ⟨_, _, _, _, _, _, _, _, _, _, ⟨_, _, _, _, _, _, _, _, _, _, ⟨g', t', cs, fuel, p, q, hg', ht', hvar, hd, _, _⟩, _⟩, _⟩, _⟩, _⟩ := (show laidMet Tryd.prog [("math/bits.deBruijn32tab", Rows.laid_math_bits_deBruijn32tab), ("math/bits.deBruijn64tab", Rows.laid_math_bits_deBruijn64tab), ("internal/strconv.uint64pow10", Rows.laid_internal_strconv_uint64pow10), ("loop.example/g00880/impl.projectionNames", Rows.laid_loop_example_g00880_impl_projectionNames), ("loop.example/g00880/impl.stepWords", Rows.laid_loop_example_g00880_impl_stepWords)] W from h)
  obtain rfl := Option.some.inj ((show Tryd.prog.globalNamed "loop.example/g00880/impl.projectionNames" = some 0 by kernel_rfl).symm.trans hg')
  obtain rfl := Option.some.inj ((show (Tryd.prog.globals[0]?).map (·.type) = some 93 by kernel_rfl).symm.trans ht')
  rw [show (Rows.laid_loop_example_g00880_impl_projectionNames : DataW Unit) = strData [(⟨#[]⟩ : ByteArray), (⟨#[112, 108, 97, 116, 101]⟩ : ByteArray), (⟨#[109, 101, 114, 99, 97, 116, 111, 114]⟩ : ByteArray), (⟨#[99, 121, 108, 105, 110, 100, 101, 114]⟩ : ByteArray), (⟨#[109, 105, 108, 108, 101, 114]⟩ : ByteArray), (⟨#[103, 110, 111, 109, 111, 110, 105, 99]⟩ : ByteArray), (⟨#[115, 116, 101, 114, 101, 111]⟩ : ByteArray), (⟨#[111, 114, 116, 104, 111]⟩ : ByteArray), (⟨#[97, 122, 105, 109, 117, 116, 104]⟩ : ByteArray), (⟨#[122, 101, 110, 105, 116, 104]⟩ : ByteArray), (⟨#[97, 108, 98, 101, 114, 115]⟩ : ByteArray), (⟨#[108, 97, 109, 98, 101, 114, 116]⟩ : ByteArray), (⟨#[99, 111, 110, 105, 99]⟩ : ByteArray), (⟨#[115, 105, 110, 117, 115]⟩ : ByteArray), (⟨#[109, 111, 108, 108, 119, 101, 105, 100, 101]⟩ : ByteArray), (⟨#[101, 99, 107, 101, 114, 116]⟩ : ByteArray), (⟨#[116, 114, 97, 110, 115, 118, 101, 114, 115, 101]⟩ : ByteArray)] by kernel_rfl] at hd
  rw [hvar, ← cells_of_strs Tryd.underlying93 Tryd.underlying9 (by kernel_rfl) (by kernel_rfl) hd]
theorem str1 {W : World} (h : laidMetH Tryd.prog Rows.fnExactPipelineTextRow.laid W) : W.var? Tryd.prog "loop.example/g00880/impl.stepWords" = some ([(⟨#[]⟩ : ByteArray), (⟨#[112, 114, 111, 106, 101, 99, 116]⟩ : ByteArray), (⟨#[117, 110, 112, 114, 111, 106, 101, 99, 116]⟩ : ByteArray), (⟨#[99, 97, 114, 116, 101, 115, 105, 97, 110]⟩ : ByteArray), (⟨#[103, 101, 111, 103, 114, 97, 112, 104, 105, 99]⟩ : ByteArray), (⟨#[115, 104, 105, 102, 116]⟩ : ByteArray), (⟨#[117, 110, 115, 104, 105, 102, 116]⟩ : ByteArray), (⟨#[114, 111, 117, 110, 100]⟩ : ByteArray)].map Value.string).toArray := by
  obtain ⟨ps, ⟨_, _, _, _, _, _, _, _, _, _, ⟨_, _, _, _, _, _, _, _, _, _, ⟨_, _, _, _, _, _, _, _, _, _, ⟨_, _, _, _, _, _, _, _, _, _, ⟨g', t', cs, fuel, p, q, hg', ht', hvar, hd, _, _⟩, _⟩, _⟩, _⟩, _⟩, _⟩ := (show laidMet Tryd.prog [("math/bits.deBruijn32tab", Rows.laid_math_bits_deBruijn32tab), ("math/bits.deBruijn64tab", Rows.laid_math_bits_deBruijn64tab), ("internal/strconv.uint64pow10", Rows.laid_internal_strconv_uint64pow10), ("loop.example/g00880/impl.projectionNames", Rows.laid_loop_example_g00880_impl_projectionNames), ("loop.example/g00880/impl.stepWords", Rows.laid_loop_example_g00880_impl_stepWords)] W from h)
  obtain rfl := Option.some.inj ((show Tryd.prog.globalNamed "loop.example/g00880/impl.stepWords" = some 1 by kernel_rfl).symm.trans hg')
  obtain rfl := Option.some.inj ((show (Tryd.prog.globals[1]?).map (·.type) = some 123 by kernel_rfl).symm.trans ht')
  rw [show (Rows.laid_loop_example_g00880_impl_stepWords : DataW Unit) = strData [(⟨#[]⟩ : ByteArray), (⟨#[112, 114, 111, 106, 101, 99, 116]⟩ : ByteArray), (⟨#[117, 110, 112, 114, 111, 106, 101, 99, 116]⟩ : ByteArray), (⟨#[99, 97, 114, 116, 101, 115, 105, 97, 110]⟩ : ByteArray), (⟨#[103, 101, 111, 103, 114, 97, 112, 104, 105, 99]⟩ : ByteArray), (⟨#[115, 104, 105, 102, 116]⟩ : ByteArray), (⟨#[117, 110, 115, 104, 105, 102, 116]⟩ : ByteArray), (⟨#[114, 111, 117, 110, 100]⟩ : ByteArray)] by kernel_rfl] at hd
  rw [hvar, ← cells_of_strs Tryd.underlying123 Tryd.underlying9 (by kernel_rfl) (by kernel_rfl) hd]
theorem globs {W : World} (h : laidMetH Tryd.prog Rows.fnExactPipelineTextRow.laid W) : GlobsAt gl_ W fun _ => False := globsAt_cons (globAt_of_var (vs := [(⟨#[]⟩ : ByteArray), (⟨#[112, 108, 97, 116, 101]⟩ : ByteArray), (⟨#[109, 101, 114, 99, 97, 116, 111, 114]⟩ : ByteArray), (⟨#[99, 121, 108, 105, 110, 100, 101, 114]⟩ : ByteArray), (⟨#[109, 105, 108, 108, 101, 114]⟩ : ByteArray), (⟨#[103, 110, 111, 109, 111, 110, 105, 99]⟩ : ByteArray), (⟨#[115, 116, 101, 114, 101, 111]⟩ : ByteArray), (⟨#[111, 114, 116, 104, 111]⟩ : ByteArray), (⟨#[97, 122, 105, 109, 117, 116, 104]⟩ : ByteArray), (⟨#[122, 101, 110, 105, 116, 104]⟩ : ByteArray), (⟨#[97, 108, 98, 101, 114, 115]⟩ : ByteArray), (⟨#[108, 97, 109, 98, 101, 114, 116]⟩ : ByteArray), (⟨#[99, 111, 110, 105, 99]⟩ : ByteArray), (⟨#[115, 105, 110, 117, 115]⟩ : ByteArray), (⟨#[109, 111, 108, 108, 119, 101, 105, 100, 101]⟩ : ByteArray), (⟨#[101, 99, 107, 101, 114, 116]⟩ : ByteArray), (⟨#[116, 114, 97, 110, 115, 118, 101, 114, 115, 101]⟩ : ByteArray)].map Value.string) (name := "loop.example/g00880/impl.projectionNames") (by kernel_rfl) (str0 h) (by decide) (by kernel_rfl)) (globsAt_cons (globAt_of_var (vs := [(⟨#[]⟩ : ByteArray), (⟨#[112, 114, 111, 106, 101, 99, 116]⟩ : ByteArray), (⟨#[117, 110, 112, 114, 111, 106, 101, 99, 116]⟩ : ByteArray), (⟨#[99, 97, 114, 116, 101, 115, 105, 97, 110]⟩ : ByteArray), (⟨#[103, 101, 111, 103, 114, 97, 112, 104, 105, 99]⟩ : ByteArray), (⟨#[115, 104, 105, 102, 116]⟩ : ByteArray), (⟨#[117, 110, 115, 104, 105, 102, 116]⟩ : ByteArray), (⟨#[114, 111, 117, 110, 100]⟩ : ByteArray)].map Value.string) (name := "loop.example/g00880/impl.stepWords") (by kernel_rfl) (str1 h) (by decide) (by kernel_rfl)) (globsAt_cons (globAt_of_var (name := "internal/strconv.uint64pow10") (by kernel_rfl) (tab h) (by decide) (by kernel_rfl)) (GlobsAt.none)))
theorem laid_met (os : Os) : laidMet Tryd.prog Rows.fnExactPipelineTextRow.laid ((laidWorld os).forCall (fun _ _ => 0) ⟨#[], #[.slice none 0 0], []⟩).memory :=
  laidMet_of_run' 8 (by kernel_rfl) (by kernel_rfl)
theorem reads (os : Os) {H : Type} (enc : TypeId × Value → H) : ∃ places, DataW.whole enc Tryd.prog ((laidWorld os).forCall (fun _ _ => 0) ⟨#[], #[.slice none 0 0], []⟩).memory Tryd.f4.params.toList Rows.fnExactPipelineTextSpec.vars false (#[.slice none 0 0] : Array Value).toList 8 = some ([.nil], [Rows.laid_loop_example_g00880_impl_stepWords, Rows.laid_loop_example_g00880_impl_projectionNames], places) :=
  ⟨MemPlace.row ⟨1, 0, none⟩ 8 ++ MemPlace.row ⟨0, 0, none⟩ 17, by kernel_rfl⟩
open Go.Proofs.YthafgljgccebiaaDoor.Ev in
theorem call (k : Nat) (W : World) (hgl : GlobsAt gl_ W fun _ => False) (a0 : Option Addr) (len0 cap0 : Nat) (zs0 : List (List Int)) (hl0 : len0 ≤ cap0) (hz0 : zs0.length = len0) (hzw0 : ∀ z ∈ zs0, z.length = 16) (hza0 : 0 < len0 → ∃ b, a0 = some b ∧ ∀ (i : Nat) z, zs0[i]? = some z → ∀ (j : Nat) n, z[j]? = some n → W.cell? (b.add (i * 16 + j)) = some (.int .i64 n)) (hp : Go.Proofs.YthafgljgccebiaaDoor.Ev.laws_FnExactPipelineText k ((zs0.map fun z => z.map D.i)) = some [.b true]) : Calls Tryd.prog 4 #[.slice a0 len0 cap0] W fun e w' => e = .returned (.bool true) ∧ Below W.heap.size W w' := by
  have h1 : isMut (Go.Proofs.YthafgljgccebiaaDoor.Ev.laws_FnExactPipelineText.sp k) = false := by kernel_rfl
  have h2 : (Go.Proofs.YthafgljgccebiaaDoor.Ev.laws_FnExactPipelineText.sp k).rt = [(false, [(.bool, 0)])] := rfl
  have h3 : (Go.Proofs.YthafgljgccebiaaDoor.Ev.laws_FnExactPipelineText.sp k).G [.l (zs0.map fun z => z.map D.i)] = some [.b true] := hp
  have h4 : ∀ F : Nat → Prop, (∀ b, ¬ F b) → ArgsRep Tryd.prog W F (Go.Proofs.YthafgljgccebiaaDoor.Ev.laws_FnExactPipelineText.sp k).pt [.l (zs0.map fun z => z.map D.i)] [.slice a0 len0 cap0] := fun F hF => ⟨.cons (rep_slice hF (by kernel_rfl) (by decide) hl0 hz0 hzw0 hza0) (.nil), trivial⟩
  exact ev_calls (Go.Proofs.YthafgljgccebiaaDoor.Ev.laws_FnExactPipelineText.spec k) (fn := Tryd.f4) (by kernel_rfl) (by kernel_rfl) h1 h2 hgl h4 h3
set_option maxRecDepth 100000 in
theorem lifted (os : Os) (started : os.Started) (H : Type) (enc : TypeId × Value → H) (F : Stop.Interp) :
    ReturnsInHanded {} Tryd.checked os 4 .any ((OpenSpec.ofChange Rows.fnExactPipelineTextSpec).preRow enc Tryd.prog Tryd.f4 Rows.fnExactPipelineTextRow.domain false Rows.fnExactPipelineTextRow.laid) (((OpenSpec.ofChange Rows.fnExactPipelineTextSpec).at F).post enc Tryd.prog Tryd.f4 false true false false) := by
  obtain ⟨places, hx⟩ := reads os enc
  refine returnsInHanded_of_row (C := Tryd.checked) (s := OpenSpec.ofChange Rows.fnExactPipelineTextSpec) own started (by kernel_rfl) Tryd.func4
    (witness_row_at (enc := enc) (C := Tryd.checked) false (laidWorld os) #[.slice none 0 0] rfl (by kernel_rfl) (by kernel_rfl) (by kernel_rfl)
      (OpenSpec.preRow_of_cond 8 hx (by kernel_rfl) (fun k hk => by cases hk) (by kernel_rfl) (laid_met os))) ?_
  intro W base args ds gs before hval0 hW _ _ hsz0 hL _ _
  have hsz : (DataW.weightsEach Tryd.prog (Tryd.f4.params.toList ++ Rows.fnExactPipelineTextSpec.plain.varTypes Tryd.prog) (ds ++ gs)).all (· ≤ reachBytes) = true := hsz0
  have hval : ∀ (j : Nat) t v, Tryd.f4.params[j]? = some t → args[j]? = some v → Value.okWide Tryd.prog W .any base t v := hval0
  have hW' := hW
  obtain ⟨p, q, hA0, hV, rfl, hfz, hnd⟩ := hW
  have hA : DataW.TrodAll enc Tryd.prog W 0 (fun _ => true) true Tryd.f4.params.toList args.toList ds p := hA0
  rw [Tryd.params4] at hA hval hsz
  obtain ⟨v0, vs0, d0, ds0, p0, q0, hargs, rfl, rfl, h0, r0⟩ := trodAll_cons hA
  obtain ⟨rfl, rfl, rfl⟩ := trodAll_nil r0
  obtain rfl : args = #[v0] := by cases args; simp_all
  have hVV := hV
  obtain ⟨g0_, g1_, rfl⟩ := gs_2 (trodVars_len hV)
  obtain ⟨a0, len0, cap0, rfl⟩ := okWide_slice Tryd.underlying39 (hval 0 39 v0 rfl rfl)
  have k0 := h0
  have lt0 : ∀ x ∈ p0, x.block < W.heap.size := by obtain ⟨m, hm⟩ := k0; exact DataW.trod_lt m _ _ _ hm
  obtain ⟨fuel0, hf0⟩ := h0
  obtain ⟨A0, n0, c0, zs0, hcs0, hl0, hm0, hz0, hzw0, hza0⟩ := Open.open_slice_cells (P := Tryd.prog) 5 16 Tryd.underlying39 (by kernel_rfl) (by kernel_rfl) hf0
  simp only [Value.cells, List.cons.injEq, Value.slice.injEq, and_true] at hcs0
  obtain ⟨rfl, rfl, rfl⟩ := hcs0
  have hn0 : zs0.length ≤ 9223372036854775807 := by unfold maxLen at hm0; omega
  clear hA0 hval0 hsz0 hsz
  obtain ⟨k, hp⟩ := Go.Proofs.YthafgljgccebiaaDoor.Ev.FnExactPipelineText_pure zs0 (fun z hz => (hzw0 z hz).1) (fun z hz => (hzw0 z hz).2) hn0
  refine (call k W (globs hL) a0 len0 cap0 zs0 hl0 hz0 (fun z hz => (hzw0 z hz).1) hza0 hp).mono fun e W' ⟨he, bel⟩ => ?_
  subst he
  exact ⟨_, rfl, _, _, _, [], _, _, hW', trodAll_mk1 (shut_bool Tryd.underlying4 _), (trodAll_cons_mk (Below.trod laidOut (by kernel_rfl) (of_decide_eq_true (by kernel_rfl)) k0 bel lt0) trodAll_mk0), Below.trodVars laidOut bel (by kernel_rfl) hVV, bel.frame _, fun h => by cases h⟩
theorem said : Rows.FnExactPipelineTextSaid :=
  OpenClaim.holds_of_cond 4 Tryd.f4 rfl rfl rfl rfl rfl rfl rfl ⟨rfl, rfl, rfl, rfl, rfl⟩ rfl rfl rfl rfl rfl (by kernel_rfl) Tryd.func4 (by kernel_rfl)
    (of_decide_eq_true (by kernel_rfl)) (by unfold Func.isWrapper; first | (rw [if_pos (by decide +kernel)]; kernel_rfl) | (rw [if_neg (by decide +kernel)]; exact ⟨rfl, rfl⟩))
    (fun os started H enc _ F => by rw [OpenClaim.pre_eq_preRow]; exact lifted os started H enc F)
theorem plain (f : FuncId) (fn : Func) (hf : Tryd.pinned.checked.prog.funcNamed "loop.example/g00880/laws.FnExactPipelineText" = some f) (hfn : Tryd.pinned.checked.prog.funcs[f]? = some fn) :
    false = Tryd.pinned.checked.prog.looks [] ∧ ∀ (j : Nat) t, fn.params[j]? = some t → Tryd.pinned.checked.prog.wantsStandIn t = false := by
  obtain rfl : f = 4 := Option.some.inj ((show Tryd.prog.funcNamed "loop.example/g00880/laws.FnExactPipelineText" = some 4 by kernel_rfl).symm.trans hf) |>.symm
  obtain rfl : fn = Tryd.f4 := (Option.some.inj (Tryd.func4.symm.trans hfn)).symm
  refine ⟨by kernel_rfl, fun j t ht => ?_⟩
  rw [Tryd.params4] at ht
  have hm : t ∈ [39] := by simpa using Array.mem_of_getElem? ht
  have hall : ([39].all fun u => !Tryd.prog.wantsStandIn u) = true := by kernel_rfl
  exact (show Tryd.prog.wantsStandIn t = false by simpa using List.all_eq_true.1 hall t hm)
theorem card : Rows.FnExactPipelineTextCardSaid :=
  Claim7.holds_tied_plain_at .later [] _ _ _ _ said (fun _ h => by cases h) (by kernel_rfl) (fun _ h => by cases h) fnExactPipelineText_row_tie rfl ⟨rfl, rfl⟩ (by kernel_rfl) rfl plain (by kernel_rfl)
end Go.Proofs.YthafgljgccebiaaDoor.fnExactPipelineText
namespace Go.Proofs.YthafgljgccebiaaDoor
/-- The card, under a short name, for the claim. -/
theorem fnExactPipelineText_holds : Rows.FnExactPipelineTextCardSaid := fnExactPipelineText.card
end Go.Proofs.YthafgljgccebiaaDoor
