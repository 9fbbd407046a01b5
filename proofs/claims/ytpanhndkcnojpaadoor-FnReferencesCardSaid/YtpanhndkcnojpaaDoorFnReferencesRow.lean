/- The row of the law FnReferences: written by mkrow.py out of the pure statement and the contract. No condition. -/
import Derived.Test.YtpanhndkcnojpaaDoorCards
import Derived.Test.YtpanhndkcnojpaaDoorTie
import Derived.Test.YtpanhndkcnojpaaDoorPRef
import Derived.Test.YtpanhndkcnojpaaDoorEvRow
import Derived.Test.YtpanhndkcnojpaaDoorEvOpenB
import Derived.Deep.DeepHandedRow
import GoSem.PinnedTables
import Derived.Lib.LaidTab
import Derived.WalkKit
import Derived.ProofKit
import Derived.OpenShut
import Derived.ShutString
import Derived.ChangeOld
import Derived.Below
import Derived.Carry
import Derived.SizedLaws
namespace Go.Proofs.YtpanhndkcnojpaaDoor.fnReferences
open Go.ChangeShapes Go.WideShapes Go.ChangeAt Go.RowKit
open Go.ChangeMaps (open_string shut_string)
open Go.Proofs.YtpanhndkcnojpaaDoor Go.Proofs.YtpanhndkcnojpaaDoor.Ev
set_option linter.unusedVariables false
theorem own : ownKnob Tryd.prog.godebug = none := by kernel_rfl
theorem laidOut : laidOutB Tryd.prog = true := by kernel_rfl
/-- A table's cells. -/
def flat0 : DataW Unit → List Value
  | .lit (.int k n) => [.int k n]
  | .lit (.string b) => [.string ⟨b.toArray⟩]
  | _ => []
def flat1 : DataW Unit → List Value
  | .agg l => l.flatMap flat0
  | d => flat0 d
def flat2 : DataW Unit → List Value
  | .agg l => l.flatMap flat1
  | d => flat0 d
def lay (d : DataW Unit) : Obj → Obj
  | .cells _ t fr => .cells (flat2 d).toArray t fr
  | o => o
/-- A world for the witness: the settled one, with the listed tables laid. -/
noncomputable def laidWorld (os : Os) : World :=
  { World.holding Tryd.prog os ⟨#[], #[], []⟩ with heap := (((((World.holding Tryd.prog os ⟨#[], #[], []⟩).heap.modify 4 (lay Rows.laid_math_bits_deBruijn32tab)).modify 5 (lay Rows.laid_math_bits_deBruijn64tab)).modify 0 (lay Rows.laid_internal_strconv_uint64pow10)).modify 2 (lay Rows.laid_unicode_utf8_acceptRanges)).modify 1 (lay Rows.laid_unicode_utf8_first) }
/-- What the row's list gives: the table of powers of ten. -/
theorem tab {W : World} (h : laidMetH Tryd.prog Rows.fnReferencesRow.laid W) : Go.Proofs.YtpanhndkcnojpaaDoor.P.Tab_ W := by
  obtain ⟨ps, ⟨_, _, _, _, _, _, _, _, _, _, ⟨_, _, _, _, _, _, _, _, _, _, ⟨g', t', cs, fuel, p, q, hg', ht', hvar, hd, _, _⟩, _⟩, _⟩, _⟩ := (show laidMet Tryd.prog [("math/bits.deBruijn32tab", Rows.laid_math_bits_deBruijn32tab), ("math/bits.deBruijn64tab", Rows.laid_math_bits_deBruijn64tab), ("internal/strconv.uint64pow10", Rows.laid_internal_strconv_uint64pow10), ("unicode/utf8.acceptRanges", Rows.laid_unicode_utf8_acceptRanges), ("unicode/utf8.first", Rows.laid_unicode_utf8_first)] W from h)
  obtain rfl := Option.some.inj ((show Tryd.prog.globalNamed "internal/strconv.uint64pow10" = some 0 by kernel_rfl).symm.trans hg')
  obtain rfl := Option.some.inj ((show (Tryd.prog.globals[0]?).map (·.type) = some 129 by kernel_rfl).symm.trans ht')
  rw [show (Rows.laid_internal_strconv_uint64pow10 : DataW Unit) = Lib.tabData .u64 Lib.pow10Tab by kernel_rfl] at hd
  unfold Go.Proofs.YtpanhndkcnojpaaDoor.P.Tab_ Lib.TabIs
  rw [hvar, ← Lib.cells_of_tab Tryd.underlying129 Tryd.underlying76 (by kernel_rfl) (by kernel_rfl) hd]
theorem globs {W : World} (h : laidMetH Tryd.prog Rows.fnReferencesRow.laid W) : GlobsAt gl_ W fun _ => False := globsAt_cons (globAt_of_var (name := "internal/strconv.uint64pow10") (by kernel_rfl) (tab h) (by decide) (by kernel_rfl)) (GlobsAt.none)
theorem laid_met (os : Os) : laidMet Tryd.prog Rows.fnReferencesRow.laid ((laidWorld os).forCall (fun _ _ => 0) ⟨#[], #[.slice none 0 0, .slice none 0 0], []⟩).memory :=
  laidMet_of_run' 8 (by kernel_rfl) (by kernel_rfl)
theorem reads (os : Os) {H : Type} (enc : TypeId × Value → H) : ∃ places, DataW.whole enc Tryd.prog ((laidWorld os).forCall (fun _ _ => 0) ⟨#[], #[.slice none 0 0, .slice none 0 0], []⟩).memory Tryd.f4.params.toList Rows.fnReferencesSpec.vars false (#[.slice none 0 0, .slice none 0 0] : Array Value).toList 8 = some ([.nil, .nil], [], places) :=
  ⟨[], by kernel_rfl⟩
open Go.Proofs.YtpanhndkcnojpaaDoor.Ev in
theorem call (k : Nat) (W : World) (hgl : GlobsAt gl_ W fun _ => False) (a0 : Option Addr) (len0 cap0 : Nat) (zs0 : List (List Int)) (hl0 : len0 ≤ cap0) (hz0 : zs0.length = len0) (hzw0 : ∀ z ∈ zs0, z.length = 1) (hza0 : 0 < len0 → ∃ b, a0 = some b ∧ ∀ (i : Nat) z, zs0[i]? = some z → ∀ (j : Nat) n, z[j]? = some n → W.cell? (b.add (i * 1 + j)) = some (.int .u8 n)) (a1 : Option Addr) (len1 cap1 : Nat) (zs1 : List (List Int)) (hl1 : len1 ≤ cap1) (hz1 : zs1.length = len1) (hzw1 : ∀ z ∈ zs1, z.length = 1) (hza1 : 0 < len1 → ∃ b, a1 = some b ∧ ∀ (i : Nat) z, zs1[i]? = some z → ∀ (j : Nat) n, z[j]? = some n → W.cell? (b.add (i * 1 + j)) = some (.int .u8 n)) (hp : Go.Proofs.YtpanhndkcnojpaaDoor.Ev.laws_FnReferences k ((zs0.map fun z => z.map D.i)) ((zs1.map fun z => z.map D.i)) = some [.b true]) : Calls Tryd.prog 4 #[.slice a0 len0 cap0, .slice a1 len1 cap1] W fun e w' => e = .returned (.bool true) ∧ Below W.heap.size W w' := by
  have h1 : isMut (Go.Proofs.YtpanhndkcnojpaaDoor.Ev.laws_FnReferences.sp k) = false := by kernel_rfl
  have h2 : (Go.Proofs.YtpanhndkcnojpaaDoor.Ev.laws_FnReferences.sp k).rt = [(false, [(.bool, 0)])] := rfl
  have h3 : (Go.Proofs.YtpanhndkcnojpaaDoor.Ev.laws_FnReferences.sp k).G [.l (zs0.map fun z => z.map D.i), .l (zs1.map fun z => z.map D.i)] = some [.b true] := hp
  have h4 : ∀ F : Nat → Prop, (∀ b, ¬ F b) → ArgsRep Tryd.prog W F (Go.Proofs.YtpanhndkcnojpaaDoor.Ev.laws_FnReferences.sp k).pt [.l (zs0.map fun z => z.map D.i), .l (zs1.map fun z => z.map D.i)] [.slice a0 len0 cap0, .slice a1 len1 cap1] := fun F hF => ⟨.cons (rep_slice hF (by kernel_rfl) (by decide) hl0 hz0 hzw0 hza0) (.nil), .cons (rep_slice hF (by kernel_rfl) (by decide) hl1 hz1 hzw1 hza1) (.nil), trivial⟩
  exact ev_calls (Go.Proofs.YtpanhndkcnojpaaDoor.Ev.laws_FnReferences.spec k) (fn := Tryd.f4) (by kernel_rfl) (by kernel_rfl) h1 h2 hgl h4 h3
set_option maxRecDepth 100000 in
theorem lifted (os : Os) (started : os.Started) (H : Type) (enc : TypeId × Value → H) (F : Stop.Interp) :
    ReturnsInHanded {} Tryd.checked os 4 .any ((OpenSpec.ofChange Rows.fnReferencesSpec).preRow enc Tryd.prog Tryd.f4 Rows.fnReferencesRow.domain false Rows.fnReferencesRow.laid) (((OpenSpec.ofChange Rows.fnReferencesSpec).at F).post enc Tryd.prog Tryd.f4 false true false false) := by
  obtain ⟨places, hx⟩ := reads os enc
  refine returnsInHanded_of_row (C := Tryd.checked) (s := OpenSpec.ofChange Rows.fnReferencesSpec) own started (by kernel_rfl) Tryd.func4
    (witness_row_at (enc := enc) (C := Tryd.checked) false (laidWorld os) #[.slice none 0 0, .slice none 0 0] rfl (by kernel_rfl) (by kernel_rfl) (by kernel_rfl)
      (OpenSpec.preRow_of_cond 8 hx (by kernel_rfl) (fun k hk => by cases hk) (by kernel_rfl) (laid_met os))) ?_
  intro W base args ds gs before hval0 hW _ _ hsz0 hL _ _
  have hsz : (DataW.weightsEach Tryd.prog (Tryd.f4.params.toList ++ Rows.fnReferencesSpec.plain.varTypes Tryd.prog) (ds ++ gs)).all (· ≤ reachBytes) = true := hsz0
  have hval : ∀ (j : Nat) t v, Tryd.f4.params[j]? = some t → args[j]? = some v → Value.okWide Tryd.prog W .any base t v := hval0
  have hW' := hW
  obtain ⟨p, q, hA0, hV, rfl, hfz, hnd⟩ := hW
  have hA : DataW.TrodAll enc Tryd.prog W 0 (fun _ => true) true Tryd.f4.params.toList args.toList ds p := hA0
  rw [Tryd.params4] at hA hval hsz
  obtain ⟨v0, vs0, d0, ds0, p0, q0, hargs, rfl, rfl, h0, r0⟩ := trodAll_cons hA
  obtain ⟨v1, vs1, d1, ds1, p1, q1, rfl, rfl, rfl, h1, r1⟩ := trodAll_cons r0
  obtain ⟨rfl, rfl, rfl⟩ := trodAll_nil r1
  obtain rfl : args = #[v0, v1] := by cases args; simp_all
  obtain ⟨rfl, rfl⟩ := trodVars_none hV
  obtain ⟨a0, len0, cap0, rfl⟩ := okWide_slice Tryd.underlying22 (hval 0 22 v0 rfl rfl)
  have k0 := h0
  have lt0 : ∀ x ∈ p0, x.block < W.heap.size := by obtain ⟨m, hm⟩ := k0; exact DataW.trod_lt m _ _ _ hm
  obtain ⟨fuel0, hf0⟩ := h0
  obtain ⟨A0, n0, c0, zs0, hcs0, hl0, hm0, hz0, hzw0, hza0⟩ := OpenB.open_slice_cells (P := Tryd.prog) 5 1 Tryd.underlying22 (by kernel_rfl) (by kernel_rfl) hf0
  simp only [Value.cells, List.cons.injEq, Value.slice.injEq, and_true] at hcs0
  obtain ⟨rfl, rfl, rfl⟩ := hcs0
  have hn0 : zs0.length ≤ 9223372036854775807 := by unfold maxLen at hm0; omega
  obtain ⟨a1, len1, cap1, rfl⟩ := okWide_slice Tryd.underlying22 (hval 1 22 v1 rfl rfl)
  have k1 := h1
  have lt1 : ∀ x ∈ p1, x.block < W.heap.size := by obtain ⟨m, hm⟩ := k1; exact DataW.trod_lt m _ _ _ hm
  obtain ⟨fuel1, hf1⟩ := h1
  obtain ⟨A1, n1, c1, zs1, hcs1, hl1, hm1, hz1, hzw1, hza1⟩ := OpenB.open_slice_cells (P := Tryd.prog) 5 1 Tryd.underlying22 (by kernel_rfl) (by kernel_rfl) hf1
  simp only [Value.cells, List.cons.injEq, Value.slice.injEq, and_true] at hcs1
  obtain ⟨rfl, rfl, rfl⟩ := hcs1
  have hn1 : zs1.length ≤ 9223372036854775807 := by unfold maxLen at hm1; omega
  clear hA0 hval0 hsz0 hsz
  obtain ⟨k, hp⟩ := Go.Proofs.YtpanhndkcnojpaaDoor.Ev.FnReferences_pure zs0 zs1 (fun z hz => (hzw0 z hz).1) (fun z hz => (hzw0 z hz).2) hn0 (fun z hz => (hzw1 z hz).1) (fun z hz => (hzw1 z hz).2) hn1
  refine (call k W (globs hL) a0 len0 cap0 zs0 hl0 hz0 (fun z hz => (hzw0 z hz).1) hza0 a1 len1 cap1 zs1 hl1 hz1 (fun z hz => (hzw1 z hz).1) hza1 hp).mono fun e W' ⟨he, bel⟩ => ?_
  subst he
  exact ⟨_, rfl, _, _, _, [], _, [], hW', trodAll_mk1 (shut_bool Tryd.underlying4 _), (trodAll_cons_mk (Below.trod laidOut (by kernel_rfl) (of_decide_eq_true (by kernel_rfl)) k0 bel lt0) (trodAll_cons_mk (Below.trod laidOut (by kernel_rfl) (of_decide_eq_true (by kernel_rfl)) k1 bel lt1) trodAll_mk0)), rfl, bel.frame _, fun h => by cases h⟩
theorem said : Rows.FnReferencesSaid :=
  OpenClaim.holds_of_cond 4 Tryd.f4 rfl rfl rfl rfl rfl rfl rfl ⟨rfl, rfl, rfl, rfl, rfl⟩ rfl rfl rfl rfl rfl (by kernel_rfl) Tryd.func4 (by kernel_rfl)
    (of_decide_eq_true (by kernel_rfl)) (by unfold Func.isWrapper; first | (rw [if_pos (by decide +kernel)]; kernel_rfl) | (rw [if_neg (by decide +kernel)]; exact ⟨rfl, rfl⟩))
    (fun os started H enc _ F => by rw [OpenClaim.pre_eq_preRow]; exact lifted os started H enc F)
theorem plain (f : FuncId) (fn : Func) (hf : Tryd.pinned.checked.prog.funcNamed "loop.example/g00880/laws.FnReferences" = some f) (hfn : Tryd.pinned.checked.prog.funcs[f]? = some fn) :
    false = Tryd.pinned.checked.prog.looks [] ∧ ∀ (j : Nat) t, fn.params[j]? = some t → Tryd.pinned.checked.prog.wantsStandIn t = false := by
  obtain rfl : f = 4 := Option.some.inj ((show Tryd.prog.funcNamed "loop.example/g00880/laws.FnReferences" = some 4 by kernel_rfl).symm.trans hf) |>.symm
  obtain rfl : fn = Tryd.f4 := (Option.some.inj (Tryd.func4.symm.trans hfn)).symm
  refine ⟨by kernel_rfl, fun j t ht => ?_⟩
  rw [Tryd.params4] at ht
  have hm : t ∈ [22, 22] := by simpa using Array.mem_of_getElem? ht
  have hall : ([22, 22].all fun u => !Tryd.prog.wantsStandIn u) = true := by kernel_rfl
  exact (show Tryd.prog.wantsStandIn t = false by simpa using List.all_eq_true.1 hall t hm)
theorem card : Rows.FnReferencesCardSaid :=
  Claim7.holds_tied_plain_at .later [] _ _ _ _ said (fun _ h => by cases h) (by kernel_rfl) (fun _ h => by cases h) fnReferences_row_tie rfl ⟨rfl, rfl⟩ (by kernel_rfl) rfl plain (by kernel_rfl)
end Go.Proofs.YtpanhndkcnojpaaDoor.fnReferences
namespace Go.Proofs.YtpanhndkcnojpaaDoor
/-- The card, under a short name, for the claim. -/
theorem fnReferences_holds : Rows.FnReferencesCardSaid := fnReferences.card
end Go.Proofs.YtpanhndkcnojpaaDoor
