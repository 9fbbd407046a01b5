/-
  No cell of these rows narrows 'for every input' (looked for: loops, veiled, ifaces, maps, wideKeys, modest, calm, conditions, laid).
  DERIVED. THE GIVEN ROWS OF THIS SEAT. 2 by the template 'for every input the law returns true; each argument reads behind the call as it read before'; 0 by the template 'total and deterministic' (their statements: YtmjcfggcbdknnaaTotals.lean).
  GIVEN WITH THE SEED: the statements are not yours to turn. If you find one false, say at which input.
  Laid BY PROGRAM, IN A SANDBOX (cutbox-rows.mjs): the forced cells as the released guide's own fill.sh prints them over the translation e3b28db364557f37… (all of the seat's roots in one cut). By AI agents, Wed Nov 11 2026. No macro, syntax, notation, axiom, sorry.
-/
import Derived.Test.YtmjcfggcbdknnaaChecked
import GoSem.Claim
import GoSem.ClaimJoined
import GoSem.ClaimMapViews
import Derived.JoinedTies
import Derived.KernelRfl
namespace Go.Proofs.Ytmjcfggcbdknnaa
/- THE CELL 'sum', in the pinned program and in every row, IS THE sha256 OF THE DUMP (.gsa) THAT YtmjcfggcbdknnaaProg.lean LOADS. Nothing in Lean hashes anything: it is a label: what it is worth is what the hold of that sum in a sandbox is worth. -/
noncomputable def Try.pinned : Pinned := { name := "ytmjcfggcbdknnaa", sum := "e3b28db364557f3777339ccf50928247e913e70669dc43850d62190f705e2b2e", checked := Try.checked }
namespace Rows
def none {H : Type} : Left H := { results := [], args := [] }

/-- 'laws.FnExactOppositePipeline': WHATEVER THE INPUT: true; the input reads as it did. -/
def fnExactOppositePipelineSpec : ChangeSpec := { name := "fnExactOppositePipeline", fn := fun _ => fun
  | [d] => { results := [.lit (.bool true)], args := [d] }
  | _ => none }
def fnExactOppositePipelineRow : OpenClaim := { program := "ytmjcfggcbdknnaa", sum := "e3b28db364557f3777339ccf50928247e913e70669dc43850d62190f705e2b2e", func := "loop.example/g00880/laws.FnExactOppositePipeline", spec := "fnExactOppositePipeline", apart := false }
def FnExactOppositePipelineSaid : Prop := fnExactOppositePipelineRow.holds Try.pinned (OpenSpec.ofChange fnExactOppositePipelineSpec)

/-- ITS FALSE NEIGHBOUR: 'it returns false'. Refute it at one input. -/
def fnExactOppositePipelineWrong : ChangeSpec := { name := "fnExactOppositePipeline", fn := fun _ => fun
  | [d] => { results := [.lit (.bool false)], args := [d] }
  | _ => none }
def FnExactOppositePipelineWrongFalsely : Prop := fnExactOppositePipelineRow.holds Try.pinned (OpenSpec.ofChange fnExactOppositePipelineWrong)

/-- 'laws.FnExactJoinPipelines': WHATEVER THE INPUT: true; the input reads as it did. -/
def fnExactJoinPipelinesSpec : ChangeSpec := { name := "fnExactJoinPipelines", fn := fun _ => fun
  | [d1, d2] => { results := [.lit (.bool true)], args := [d1, d2] }
  | _ => none }
def fnExactJoinPipelinesRow : OpenClaim := { program := "ytmjcfggcbdknnaa", sum := "e3b28db364557f3777339ccf50928247e913e70669dc43850d62190f705e2b2e", func := "loop.example/g00880/laws.FnExactJoinPipelines", spec := "fnExactJoinPipelines", apart := false }
def FnExactJoinPipelinesSaid : Prop := fnExactJoinPipelinesRow.holds Try.pinned (OpenSpec.ofChange fnExactJoinPipelinesSpec)

/-- ITS FALSE NEIGHBOUR: 'it returns false'. Refute it at one input. -/
def fnExactJoinPipelinesWrong : ChangeSpec := { name := "fnExactJoinPipelines", fn := fun _ => fun
  | [d1, d2] => { results := [.lit (.bool false)], args := [d1, d2] }
  | _ => none }
def FnExactJoinPipelinesWrongFalsely : Prop := fnExactJoinPipelinesRow.holds Try.pinned (OpenSpec.ofChange fnExactJoinPipelinesWrong)

/- THE SECOND FORM. 'bulk': how many values and letters a reading holds, each counted each time it is reached (what is shared counts as often as it is met; a slice's spare places count too). A statement '..UptoSaid' is the law's where the arguments, and the package variables that the reading takes, are together of bulk at most 1048576: NARROWER than '..Said'. Prove '..Said' where nothing that the law and all that it calls make is longer than what came in: it says more and counts as full. Else prove '..UptoSaid'. A law counts once. -/
mutual
def uptoBulk {H : Type} : DataW H → Nat
  | .lit (.string bytes) => bytes.length + 1
  | .lit _ => 1
  | .nil => 1
  | .ptr d => uptoBulk d + 1
  | .slice elems spare => uptoBulkAll elems + uptoBulkAll spare + 1
  | .agg parts => uptoBulkAll parts + 1
  | .iface _ d => uptoBulk d + 1
  | .map entries => uptoBulkEntries entries + 1
  | .held _ => 1
def uptoBulkAll {H : Type} : List (DataW H) → Nat
  | [] => 0
  | d :: r => uptoBulk d + uptoBulkAll r
def uptoBulkEntries {H : Type} : List (Lit × DataW H) → Nat
  | [] => 0
  | x :: r => uptoBulkEntry x + uptoBulkEntries r
def uptoBulkEntry {H : Type} : Lit × DataW H → Nat
  | (.string bytes, d) => bytes.length + uptoBulk d + 1
  | (_, d) => uptoBulk d + 1
 end
def uptoSmall : (H : Type) → List (DataW H) → Bool := fun _ ds => decide (uptoBulkAll ds ≤ 1048576)
def OpenSpec.upto (s : _root_.Go.ChangeSpec) : _root_.Go.OpenSpec := { _root_.Go.OpenSpec.ofChange s with cond := some uptoSmall }

/-- 'laws.FnExactOppositePipeline', WHERE WHAT IT READS IS OF BULK AT MOST 1048576: true; the input reads as it did. -/
def fnExactOppositePipelineUptoRow : OpenClaim := { program := "ytmjcfggcbdknnaa", sum := "e3b28db364557f3777339ccf50928247e913e70669dc43850d62190f705e2b2e", func := "loop.example/g00880/laws.FnExactOppositePipeline", spec := "fnExactOppositePipeline", apart := false, narrowed := true }
def FnExactOppositePipelineUptoSaid : Prop := fnExactOppositePipelineUptoRow.holds Try.pinned (OpenSpec.upto fnExactOppositePipelineSpec)

/-- 'laws.FnExactJoinPipelines', WHERE WHAT IT READS IS OF BULK AT MOST 1048576: true; the input reads as it did. -/
def fnExactJoinPipelinesUptoRow : OpenClaim := { program := "ytmjcfggcbdknnaa", sum := "e3b28db364557f3777339ccf50928247e913e70669dc43850d62190f705e2b2e", func := "loop.example/g00880/laws.FnExactJoinPipelines", spec := "fnExactJoinPipelines", apart := false, narrowed := true }
def FnExactJoinPipelinesUptoSaid : Prop := fnExactJoinPipelinesUptoRow.holds Try.pinned (OpenSpec.upto fnExactJoinPipelinesSpec)

end Rows
end Go.Proofs.Ytmjcfggcbdknnaa
