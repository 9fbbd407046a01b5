/-
  No cell of these rows narrows 'for every input' (looked for: loops, veiled, ifaces, maps, wideKeys, modest, calm, conditions, laid).
  DERIVED. THE GIVEN ROWS OF THIS SEAT. 10 by the template 'for every input the law returns true; each argument reads behind the call as it read before'; 0 by the template 'total and deterministic' (their statements: YtillihiadpgalaaTotals.lean).
  GIVEN WITH THE SEED: the statements are not yours to turn. If you find one false, say at which input.
  Laid BY PROGRAM, IN A SANDBOX (cutbox-rows.mjs): the forced cells as the released guide's own fill.sh prints them over the translation 649145792c8ce313… (all of the seat's roots in one cut). By AI agents, Wed Nov 11 2026. No macro, syntax, notation, axiom, sorry.
-/
import Derived.Test.YtillihiadpgalaaChecked
import GoSem.Claim
import GoSem.ClaimJoined
import GoSem.ClaimMapViews
import Derived.JoinedTies
import Derived.KernelRfl
namespace Go.Proofs.Ytillihiadpgalaa
/- THE CELL 'sum', in the pinned program and in every row, IS THE sha256 OF THE DUMP (.gsa) THAT YtillihiadpgalaaProg.lean LOADS. Nothing in Lean hashes anything: it is a label: what it is worth is what the hold of that sum in a sandbox is worth. -/
noncomputable def Try.pinned : Pinned := { name := "ytillihiadpgalaa", sum := "649145792c8ce313cb58981b300d9fc7053a14d4ff7015a4c7c8a38559f48f40", checked := Try.checked }
namespace Rows
def none {H : Type} : Left H := { results := [], args := [] }

/-- 'laws.FnExactInLocator': WHATEVER THE INPUT: true; the input reads as it did. -/
def fnExactInLocatorSpec : ChangeSpec := { name := "fnExactInLocator", fn := fun _ => fun
  | [d1, d2] => { results := [.lit (.bool true)], args := [d1, d2] }
  | _ => none }
def fnExactInLocatorRow : OpenClaim := { program := "ytillihiadpgalaa", sum := "649145792c8ce313cb58981b300d9fc7053a14d4ff7015a4c7c8a38559f48f40", func := "loop.example/g00880/laws.FnExactInLocator", spec := "fnExactInLocator", apart := false }
def FnExactInLocatorSaid : Prop := fnExactInLocatorRow.holds Try.pinned (OpenSpec.ofChange fnExactInLocatorSpec)

/-- ITS FALSE NEIGHBOUR: 'it returns false'. Refute it at one input. -/
def fnExactInLocatorWrong : ChangeSpec := { name := "fnExactInLocator", fn := fun _ => fun
  | [d1, d2] => { results := [.lit (.bool false)], args := [d1, d2] }
  | _ => none }
def FnExactInLocatorWrongFalsely : Prop := fnExactInLocatorRow.holds Try.pinned (OpenSpec.ofChange fnExactInLocatorWrong)

/-- 'laws.FnExactShiftLocator': WHATEVER THE INPUT: true; the input reads as it did. -/
def fnExactShiftLocatorSpec : ChangeSpec := { name := "fnExactShiftLocator", fn := fun _ => fun
  | [d1, d2, d3] => { results := [.lit (.bool true)], args := [d1, d2, d3] }
  | _ => none }
def fnExactShiftLocatorRow : OpenClaim := { program := "ytillihiadpgalaa", sum := "649145792c8ce313cb58981b300d9fc7053a14d4ff7015a4c7c8a38559f48f40", func := "loop.example/g00880/laws.FnExactShiftLocator", spec := "fnExactShiftLocator", apart := false }
def FnExactShiftLocatorSaid : Prop := fnExactShiftLocatorRow.holds Try.pinned (OpenSpec.ofChange fnExactShiftLocatorSpec)

/-- ITS FALSE NEIGHBOUR: 'it returns false'. Refute it at one input. -/
def fnExactShiftLocatorWrong : ChangeSpec := { name := "fnExactShiftLocator", fn := fun _ => fun
  | [d1, d2, d3] => { results := [.lit (.bool false)], args := [d1, d2, d3] }
  | _ => none }
def FnExactShiftLocatorWrongFalsely : Prop := fnExactShiftLocatorRow.holds Try.pinned (OpenSpec.ofChange fnExactShiftLocatorWrong)

/-- 'laws.FnExactRingTurns': WHATEVER THE INPUT: true; the input reads as it did. -/
def fnExactRingTurnsSpec : ChangeSpec := { name := "fnExactRingTurns", fn := fun _ => fun
  | [d] => { results := [.lit (.bool true)], args := [d] }
  | _ => none }
def fnExactRingTurnsRow : OpenClaim := { program := "ytillihiadpgalaa", sum := "649145792c8ce313cb58981b300d9fc7053a14d4ff7015a4c7c8a38559f48f40", func := "loop.example/g00880/laws.FnExactRingTurns", spec := "fnExactRingTurns", apart := false }
def FnExactRingTurnsSaid : Prop := fnExactRingTurnsRow.holds Try.pinned (OpenSpec.ofChange fnExactRingTurnsSpec)

/-- ITS FALSE NEIGHBOUR: 'it returns false'. Refute it at one input. -/
def fnExactRingTurnsWrong : ChangeSpec := { name := "fnExactRingTurns", fn := fun _ => fun
  | [d] => { results := [.lit (.bool false)], args := [d] }
  | _ => none }
def FnExactRingTurnsWrongFalsely : Prop := fnExactRingTurnsRow.holds Try.pinned (OpenSpec.ofChange fnExactRingTurnsWrong)

/-- 'laws.FnExactSameBoard': WHATEVER THE INPUT: true; the input reads as it did. -/
def fnExactSameBoardSpec : ChangeSpec := { name := "fnExactSameBoard", fn := fun _ => fun
  | [d1, d2] => { results := [.lit (.bool true)], args := [d1, d2] }
  | _ => none }
def fnExactSameBoardRow : OpenClaim := { program := "ytillihiadpgalaa", sum := "649145792c8ce313cb58981b300d9fc7053a14d4ff7015a4c7c8a38559f48f40", func := "loop.example/g00880/laws.FnExactSameBoard", spec := "fnExactSameBoard", apart := false }
def FnExactSameBoardSaid : Prop := fnExactSameBoardRow.holds Try.pinned (OpenSpec.ofChange fnExactSameBoardSpec)

/-- ITS FALSE NEIGHBOUR: 'it returns false'. Refute it at one input. -/
def fnExactSameBoardWrong : ChangeSpec := { name := "fnExactSameBoard", fn := fun _ => fun
  | [d1, d2] => { results := [.lit (.bool false)], args := [d1, d2] }
  | _ => none }
def FnExactSameBoardWrongFalsely : Prop := fnExactSameBoardRow.holds Try.pinned (OpenSpec.ofChange fnExactSameBoardWrong)

/-- 'laws.FnExactValidStep': WHATEVER THE INPUT: true; the input reads as it did. -/
def fnExactValidStepSpec : ChangeSpec := { name := "fnExactValidStep", fn := fun _ => fun
  | [d] => { results := [.lit (.bool true)], args := [d] }
  | _ => none }
def fnExactValidStepRow : OpenClaim := { program := "ytillihiadpgalaa", sum := "649145792c8ce313cb58981b300d9fc7053a14d4ff7015a4c7c8a38559f48f40", func := "loop.example/g00880/laws.FnExactValidStep", spec := "fnExactValidStep", apart := false }
def FnExactValidStepSaid : Prop := fnExactValidStepRow.holds Try.pinned (OpenSpec.ofChange fnExactValidStepSpec)

/-- ITS FALSE NEIGHBOUR: 'it returns false'. Refute it at one input. -/
def fnExactValidStepWrong : ChangeSpec := { name := "fnExactValidStep", fn := fun _ => fun
  | [d] => { results := [.lit (.bool false)], args := [d] }
  | _ => none }
def FnExactValidStepWrongFalsely : Prop := fnExactValidStepRow.holds Try.pinned (OpenSpec.ofChange fnExactValidStepWrong)

/-- 'laws.FnExactLocatorBox': WHATEVER THE INPUT: true; the input reads as it did. -/
def fnExactLocatorBoxSpec : ChangeSpec := { name := "fnExactLocatorBox", fn := fun _ => fun
  | [d] => { results := [.lit (.bool true)], args := [d] }
  | _ => none }
def fnExactLocatorBoxRow : OpenClaim := { program := "ytillihiadpgalaa", sum := "649145792c8ce313cb58981b300d9fc7053a14d4ff7015a4c7c8a38559f48f40", func := "loop.example/g00880/laws.FnExactLocatorBox", spec := "fnExactLocatorBox", apart := false }
def FnExactLocatorBoxSaid : Prop := fnExactLocatorBoxRow.holds Try.pinned (OpenSpec.ofChange fnExactLocatorBoxSpec)

/-- ITS FALSE NEIGHBOUR: 'it returns false'. Refute it at one input. -/
def fnExactLocatorBoxWrong : ChangeSpec := { name := "fnExactLocatorBox", fn := fun _ => fun
  | [d] => { results := [.lit (.bool false)], args := [d] }
  | _ => none }
def FnExactLocatorBoxWrongFalsely : Prop := fnExactLocatorBoxRow.holds Try.pinned (OpenSpec.ofChange fnExactLocatorBoxWrong)

/-- 'laws.FnExactReverseRing': WHATEVER THE INPUT: true; the input reads as it did. -/
def fnExactReverseRingSpec : ChangeSpec := { name := "fnExactReverseRing", fn := fun _ => fun
  | [d] => { results := [.lit (.bool true)], args := [d] }
  | _ => none }
def fnExactReverseRingRow : OpenClaim := { program := "ytillihiadpgalaa", sum := "649145792c8ce313cb58981b300d9fc7053a14d4ff7015a4c7c8a38559f48f40", func := "loop.example/g00880/laws.FnExactReverseRing", spec := "fnExactReverseRing", apart := false }
def FnExactReverseRingSaid : Prop := fnExactReverseRingRow.holds Try.pinned (OpenSpec.ofChange fnExactReverseRingSpec)

/-- ITS FALSE NEIGHBOUR: 'it returns false'. Refute it at one input. -/
def fnExactReverseRingWrong : ChangeSpec := { name := "fnExactReverseRing", fn := fun _ => fun
  | [d] => { results := [.lit (.bool false)], args := [d] }
  | _ => none }
def FnExactReverseRingWrongFalsely : Prop := fnExactReverseRingRow.holds Try.pinned (OpenSpec.ofChange fnExactReverseRingWrong)

/-- 'laws.FnExactValidBoard': WHATEVER THE INPUT: true; the input reads as it did. -/
def fnExactValidBoardSpec : ChangeSpec := { name := "fnExactValidBoard", fn := fun _ => fun
  | [d] => { results := [.lit (.bool true)], args := [d] }
  | _ => none }
def fnExactValidBoardRow : OpenClaim := { program := "ytillihiadpgalaa", sum := "649145792c8ce313cb58981b300d9fc7053a14d4ff7015a4c7c8a38559f48f40", func := "loop.example/g00880/laws.FnExactValidBoard", spec := "fnExactValidBoard", apart := false }
def FnExactValidBoardSaid : Prop := fnExactValidBoardRow.holds Try.pinned (OpenSpec.ofChange fnExactValidBoardSpec)

/-- ITS FALSE NEIGHBOUR: 'it returns false'. Refute it at one input. -/
def fnExactValidBoardWrong : ChangeSpec := { name := "fnExactValidBoard", fn := fun _ => fun
  | [d] => { results := [.lit (.bool false)], args := [d] }
  | _ => none }
def FnExactValidBoardWrongFalsely : Prop := fnExactValidBoardRow.holds Try.pinned (OpenSpec.ofChange fnExactValidBoardWrong)

/-- 'laws.FnExactValidPipeline': WHATEVER THE INPUT: true; the input reads as it did. -/
def fnExactValidPipelineSpec : ChangeSpec := { name := "fnExactValidPipeline", fn := fun _ => fun
  | [d] => { results := [.lit (.bool true)], args := [d] }
  | _ => none }
def fnExactValidPipelineRow : OpenClaim := { program := "ytillihiadpgalaa", sum := "649145792c8ce313cb58981b300d9fc7053a14d4ff7015a4c7c8a38559f48f40", func := "loop.example/g00880/laws.FnExactValidPipeline", spec := "fnExactValidPipeline", apart := false }
def FnExactValidPipelineSaid : Prop := fnExactValidPipelineRow.holds Try.pinned (OpenSpec.ofChange fnExactValidPipelineSpec)

/-- ITS FALSE NEIGHBOUR: 'it returns false'. Refute it at one input. -/
def fnExactValidPipelineWrong : ChangeSpec := { name := "fnExactValidPipeline", fn := fun _ => fun
  | [d] => { results := [.lit (.bool false)], args := [d] }
  | _ => none }
def FnExactValidPipelineWrongFalsely : Prop := fnExactValidPipelineRow.holds Try.pinned (OpenSpec.ofChange fnExactValidPipelineWrong)

/-- 'laws.FnExactFormOf': WHATEVER THE INPUT: true; the input reads as it did. -/
def fnExactFormOfSpec : ChangeSpec := { name := "fnExactFormOf", fn := fun _ => fun
  | [d] => { results := [.lit (.bool true)], args := [d] }
  | _ => none }
def fnExactFormOfRow : OpenClaim := { program := "ytillihiadpgalaa", sum := "649145792c8ce313cb58981b300d9fc7053a14d4ff7015a4c7c8a38559f48f40", func := "loop.example/g00880/laws.FnExactFormOf", spec := "fnExactFormOf", apart := false }
def FnExactFormOfSaid : Prop := fnExactFormOfRow.holds Try.pinned (OpenSpec.ofChange fnExactFormOfSpec)

/-- ITS FALSE NEIGHBOUR: 'it returns false'. Refute it at one input. -/
def fnExactFormOfWrong : ChangeSpec := { name := "fnExactFormOf", fn := fun _ => fun
  | [d] => { results := [.lit (.bool false)], args := [d] }
  | _ => none }
def FnExactFormOfWrongFalsely : Prop := fnExactFormOfRow.holds Try.pinned (OpenSpec.ofChange fnExactFormOfWrong)

/- THE SECOND FORM. 'bulk': how many values and letters a reading holds, each counted each time it is reached (what is shared counts as often as it is met; a slice's spare places count too). A statement '..UptoSaid' is the law's where the arguments, and the package variables that the reading takes, are together of bulk at most 1048576: NARROWER than '..Said'. Prove '..Said' where nothing that the law and all that it calls make is longer than what came in: it says more and counts as full. Else prove '..UptoSaid'. A law counts once. -/
mutual
def uptoBulk {H : Type} : DataW H → Nat
  | .lit (.string bytes) => bytes.length + 1
  | .lit _ => 1
  | .nil => 1
  | .ptr d => uptoBulk d + 1
  | .slice elems spare => uptoBulkAll elems + uptoBulkAll spare + 1
  | .agg parts => uptoBulkAll parts + 1
  | .iface _ d => uptoBulk d + 1
  | .map entries => uptoBulkEntries entries + 1
  | .held _ => 1
def uptoBulkAll {H : Type} : List (DataW H) → Nat
  | [] => 0
  | d :: r => uptoBulk d + uptoBulkAll r
def uptoBulkEntries {H : Type} : List (Lit × DataW H) → Nat
  | [] => 0
  | x :: r => uptoBulkEntry x + uptoBulkEntries r
def uptoBulkEntry {H : Type} : Lit × DataW H → Nat
  | (.string bytes, d) => bytes.length + uptoBulk d + 1
  | (_, d) => uptoBulk d + 1
 end
def uptoSmall : (H : Type) → List (DataW H) → Bool := fun _ ds => decide (uptoBulkAll ds ≤ 1048576)
def OpenSpec.upto (s : _root_.Go.ChangeSpec) : _root_.Go.OpenSpec := { _root_.Go.OpenSpec.ofChange s with cond := some uptoSmall }

/-- 'laws.FnExactInLocator', WHERE WHAT IT READS IS OF BULK AT MOST 1048576: true; the input reads as it did. -/
def fnExactInLocatorUptoRow : OpenClaim := { program := "ytillihiadpgalaa", sum := "649145792c8ce313cb58981b300d9fc7053a14d4ff7015a4c7c8a38559f48f40", func := "loop.example/g00880/laws.FnExactInLocator", spec := "fnExactInLocator", apart := false, narrowed := true }
def FnExactInLocatorUptoSaid : Prop := fnExactInLocatorUptoRow.holds Try.pinned (OpenSpec.upto fnExactInLocatorSpec)

/-- 'laws.FnExactShiftLocator', WHERE WHAT IT READS IS OF BULK AT MOST 1048576: true; the input reads as it did. -/
def fnExactShiftLocatorUptoRow : OpenClaim := { program := "ytillihiadpgalaa", sum := "649145792c8ce313cb58981b300d9fc7053a14d4ff7015a4c7c8a38559f48f40", func := "loop.example/g00880/laws.FnExactShiftLocator", spec := "fnExactShiftLocator", apart := false, narrowed := true }
def FnExactShiftLocatorUptoSaid : Prop := fnExactShiftLocatorUptoRow.holds Try.pinned (OpenSpec.upto fnExactShiftLocatorSpec)

/-- 'laws.FnExactRingTurns', WHERE WHAT IT READS IS OF BULK AT MOST 1048576: true; the input reads as it did. -/
def fnExactRingTurnsUptoRow : OpenClaim := { program := "ytillihiadpgalaa", sum := "649145792c8ce313cb58981b300d9fc7053a14d4ff7015a4c7c8a38559f48f40", func := "loop.example/g00880/laws.FnExactRingTurns", spec := "fnExactRingTurns", apart := false, narrowed := true }
def FnExactRingTurnsUptoSaid : Prop := fnExactRingTurnsUptoRow.holds Try.pinned (OpenSpec.upto fnExactRingTurnsSpec)

/-- 'laws.FnExactSameBoard', WHERE WHAT IT READS IS OF BULK AT MOST 1048576: true; the input reads as it did. -/
def fnExactSameBoardUptoRow : OpenClaim := { program := "ytillihiadpgalaa", sum := "649145792c8ce313cb58981b300d9fc7053a14d4ff7015a4c7c8a38559f48f40", func := "loop.example/g00880/laws.FnExactSameBoard", spec := "fnExactSameBoard", apart := false, narrowed := true }
def FnExactSameBoardUptoSaid : Prop := fnExactSameBoardUptoRow.holds Try.pinned (OpenSpec.upto fnExactSameBoardSpec)

/-- 'laws.FnExactValidStep', WHERE WHAT IT READS IS OF BULK AT MOST 1048576: true; the input reads as it did. -/
def fnExactValidStepUptoRow : OpenClaim := { program := "ytillihiadpgalaa", sum := "649145792c8ce313cb58981b300d9fc7053a14d4ff7015a4c7c8a38559f48f40", func := "loop.example/g00880/laws.FnExactValidStep", spec := "fnExactValidStep", apart := false, narrowed := true }
def FnExactValidStepUptoSaid : Prop := fnExactValidStepUptoRow.holds Try.pinned (OpenSpec.upto fnExactValidStepSpec)

/-- 'laws.FnExactLocatorBox', WHERE WHAT IT READS IS OF BULK AT MOST 1048576: true; the input reads as it did. -/
def fnExactLocatorBoxUptoRow : OpenClaim := { program := "ytillihiadpgalaa", sum := "649145792c8ce313cb58981b300d9fc7053a14d4ff7015a4c7c8a38559f48f40", func := "loop.example/g00880/laws.FnExactLocatorBox", spec := "fnExactLocatorBox", apart := false, narrowed := true }
def FnExactLocatorBoxUptoSaid : Prop := fnExactLocatorBoxUptoRow.holds Try.pinned (OpenSpec.upto fnExactLocatorBoxSpec)

/-- 'laws.FnExactReverseRing', WHERE WHAT IT READS IS OF BULK AT MOST 1048576: true; the input reads as it did. -/
def fnExactReverseRingUptoRow : OpenClaim := { program := "ytillihiadpgalaa", sum := "649145792c8ce313cb58981b300d9fc7053a14d4ff7015a4c7c8a38559f48f40", func := "loop.example/g00880/laws.FnExactReverseRing", spec := "fnExactReverseRing", apart := false, narrowed := true }
def FnExactReverseRingUptoSaid : Prop := fnExactReverseRingUptoRow.holds Try.pinned (OpenSpec.upto fnExactReverseRingSpec)

/-- 'laws.FnExactValidBoard', WHERE WHAT IT READS IS OF BULK AT MOST 1048576: true; the input reads as it did. -/
def fnExactValidBoardUptoRow : OpenClaim := { program := "ytillihiadpgalaa", sum := "649145792c8ce313cb58981b300d9fc7053a14d4ff7015a4c7c8a38559f48f40", func := "loop.example/g00880/laws.FnExactValidBoard", spec := "fnExactValidBoard", apart := false, narrowed := true }
def FnExactValidBoardUptoSaid : Prop := fnExactValidBoardUptoRow.holds Try.pinned (OpenSpec.upto fnExactValidBoardSpec)

/-- 'laws.FnExactValidPipeline', WHERE WHAT IT READS IS OF BULK AT MOST 1048576: true; the input reads as it did. -/
def fnExactValidPipelineUptoRow : OpenClaim := { program := "ytillihiadpgalaa", sum := "649145792c8ce313cb58981b300d9fc7053a14d4ff7015a4c7c8a38559f48f40", func := "loop.example/g00880/laws.FnExactValidPipeline", spec := "fnExactValidPipeline", apart := false, narrowed := true }
def FnExactValidPipelineUptoSaid : Prop := fnExactValidPipelineUptoRow.holds Try.pinned (OpenSpec.upto fnExactValidPipelineSpec)

/-- 'laws.FnExactFormOf', WHERE WHAT IT READS IS OF BULK AT MOST 1048576: true; the input reads as it did. -/
def fnExactFormOfUptoRow : OpenClaim := { program := "ytillihiadpgalaa", sum := "649145792c8ce313cb58981b300d9fc7053a14d4ff7015a4c7c8a38559f48f40", func := "loop.example/g00880/laws.FnExactFormOf", spec := "fnExactFormOf", apart := false, narrowed := true }
def FnExactFormOfUptoSaid : Prop := fnExactFormOfUptoRow.holds Try.pinned (OpenSpec.upto fnExactFormOfSpec)

end Rows
end Go.Proofs.Ytillihiadpgalaa
