/-
  No cell of these rows narrows 'for every input' (looked for: loops, veiled, ifaces, maps, wideKeys, modest, calm, conditions, laid).
  DERIVED. THE GIVEN ROWS OF THIS SEAT. 11 by the template 'for every input the law returns true; each argument reads behind the call as it read before'; 0 by the template 'total and deterministic' (their statements: YtdnehiakmaacgaaTotals.lean).
  GIVEN WITH THE SEED: the statements are not yours to turn. If you find one false, say at which input.
  Laid BY PROGRAM, IN A SANDBOX (cutbox-rows.mjs): the forced cells as the released guide's own fill.sh prints them over the translation d5a0331ee61695de… (all of the seat's roots in one cut). By AI agents, Wed Nov 11 2026. No macro, syntax, notation, axiom, sorry.
-/
import Derived.Test.YtdnehiakmaacgaaChecked
import GoSem.Claim
import GoSem.ClaimJoined
import GoSem.ClaimMapViews
import Derived.JoinedTies
import Derived.KernelRfl
namespace Go.Proofs.Ytdnehiakmaacgaa
/- THE CELL 'sum', in the pinned program and in every row, IS THE sha256 OF THE DUMP (.gsa) THAT YtdnehiakmaacgaaProg.lean LOADS. Nothing in Lean hashes anything: it is a label: what it is worth is what the hold of that sum in a sandbox is worth. -/
noncomputable def Try.pinned : Pinned := { name := "ytdnehiakmaacgaa", sum := "d5a0331ee61695def796762f547ba9fc9dff28c97cd28b33d72b7cc43aef00c3", checked := Try.checked }
namespace Rows
def none {H : Type} : Left H := { results := [], args := [] }

/-- 'laws.FnExactValidTile': WHATEVER THE INPUT: true; the input reads as it did. -/
def fnExactValidTileSpec : ChangeSpec := { name := "fnExactValidTile", fn := fun _ => fun
  | [d] => { results := [.lit (.bool true)], args := [d] }
  | _ => none }
def fnExactValidTileRow : OpenClaim := { program := "ytdnehiakmaacgaa", sum := "d5a0331ee61695def796762f547ba9fc9dff28c97cd28b33d72b7cc43aef00c3", func := "loop.example/g00880/laws.FnExactValidTile", spec := "fnExactValidTile", apart := false }
def FnExactValidTileSaid : Prop := fnExactValidTileRow.holds Try.pinned (OpenSpec.ofChange fnExactValidTileSpec)

/-- ITS FALSE NEIGHBOUR: 'it returns false'. Refute it at one input. -/
def fnExactValidTileWrong : ChangeSpec := { name := "fnExactValidTile", fn := fun _ => fun
  | [d] => { results := [.lit (.bool false)], args := [d] }
  | _ => none }
def FnExactValidTileWrongFalsely : Prop := fnExactValidTileRow.holds Try.pinned (OpenSpec.ofChange fnExactValidTileWrong)

/-- 'laws.FnExactColumnOf': WHATEVER THE INPUT: true; the input reads as it did. -/
def fnExactColumnOfSpec : ChangeSpec := { name := "fnExactColumnOf", fn := fun _ => fun
  | [d1, d2] => { results := [.lit (.bool true)], args := [d1, d2] }
  | _ => none }
def fnExactColumnOfRow : OpenClaim := { program := "ytdnehiakmaacgaa", sum := "d5a0331ee61695def796762f547ba9fc9dff28c97cd28b33d72b7cc43aef00c3", func := "loop.example/g00880/laws.FnExactColumnOf", spec := "fnExactColumnOf", apart := false }
def FnExactColumnOfSaid : Prop := fnExactColumnOfRow.holds Try.pinned (OpenSpec.ofChange fnExactColumnOfSpec)

/-- ITS FALSE NEIGHBOUR: 'it returns false'. Refute it at one input. -/
def fnExactColumnOfWrong : ChangeSpec := { name := "fnExactColumnOf", fn := fun _ => fun
  | [d1, d2] => { results := [.lit (.bool false)], args := [d1, d2] }
  | _ => none }
def FnExactColumnOfWrongFalsely : Prop := fnExactColumnOfRow.holds Try.pinned (OpenSpec.ofChange fnExactColumnOfWrong)

/-- 'laws.FnExactStepForms': WHATEVER THE INPUT: true; the input reads as it did. -/
def fnExactStepFormsSpec : ChangeSpec := { name := "fnExactStepForms", fn := fun _ => fun
  | [d] => { results := [.lit (.bool true)], args := [d] }
  | _ => none }
def fnExactStepFormsRow : OpenClaim := { program := "ytdnehiakmaacgaa", sum := "d5a0331ee61695def796762f547ba9fc9dff28c97cd28b33d72b7cc43aef00c3", func := "loop.example/g00880/laws.FnExactStepForms", spec := "fnExactStepForms", apart := false }
def FnExactStepFormsSaid : Prop := fnExactStepFormsRow.holds Try.pinned (OpenSpec.ofChange fnExactStepFormsSpec)

/-- ITS FALSE NEIGHBOUR: 'it returns false'. Refute it at one input. -/
def fnExactStepFormsWrong : ChangeSpec := { name := "fnExactStepForms", fn := fun _ => fun
  | [d] => { results := [.lit (.bool false)], args := [d] }
  | _ => none }
def FnExactStepFormsWrongFalsely : Prop := fnExactStepFormsRow.holds Try.pinned (OpenSpec.ofChange fnExactStepFormsWrong)

/-- 'laws.FnExactBoardWords': WHATEVER THE INPUT: true; the input reads as it did. -/
def fnExactBoardWordsSpec : ChangeSpec := { name := "fnExactBoardWords", fn := fun _ => fun
  | [] => { results := [.lit (.bool true)], args := [] }
  | _ => none }
def fnExactBoardWordsRow : OpenClaim := { program := "ytdnehiakmaacgaa", sum := "d5a0331ee61695def796762f547ba9fc9dff28c97cd28b33d72b7cc43aef00c3", func := "loop.example/g00880/laws.FnExactBoardWords", spec := "fnExactBoardWords", apart := false }
def FnExactBoardWordsSaid : Prop := fnExactBoardWordsRow.holds Try.pinned (OpenSpec.ofChange fnExactBoardWordsSpec)

/-- ITS FALSE NEIGHBOUR: 'it returns false'. Refute it at one input. -/
def fnExactBoardWordsWrong : ChangeSpec := { name := "fnExactBoardWords", fn := fun _ => fun
  | [] => { results := [.lit (.bool false)], args := [] }
  | _ => none }
def FnExactBoardWordsWrongFalsely : Prop := fnExactBoardWordsRow.holds Try.pinned (OpenSpec.ofChange fnExactBoardWordsWrong)

/-- 'laws.FnExactNeighbourOf': WHATEVER THE INPUT: true; the input reads as it did. -/
def fnExactNeighbourOfSpec : ChangeSpec := { name := "fnExactNeighbourOf", fn := fun _ => fun
  | [d1, d2, d3] => { results := [.lit (.bool true)], args := [d1, d2, d3] }
  | _ => none }
def fnExactNeighbourOfRow : OpenClaim := { program := "ytdnehiakmaacgaa", sum := "d5a0331ee61695def796762f547ba9fc9dff28c97cd28b33d72b7cc43aef00c3", func := "loop.example/g00880/laws.FnExactNeighbourOf", spec := "fnExactNeighbourOf", apart := false }
def FnExactNeighbourOfSaid : Prop := fnExactNeighbourOfRow.holds Try.pinned (OpenSpec.ofChange fnExactNeighbourOfSpec)

/-- ITS FALSE NEIGHBOUR: 'it returns false'. Refute it at one input. -/
def fnExactNeighbourOfWrong : ChangeSpec := { name := "fnExactNeighbourOf", fn := fun _ => fun
  | [d1, d2, d3] => { results := [.lit (.bool false)], args := [d1, d2, d3] }
  | _ => none }
def FnExactNeighbourOfWrongFalsely : Prop := fnExactNeighbourOfRow.holds Try.pinned (OpenSpec.ofChange fnExactNeighbourOfWrong)

/-- 'laws.FnExactParentOf': WHATEVER THE INPUT: true; the input reads as it did. -/
def fnExactParentOfSpec : ChangeSpec := { name := "fnExactParentOf", fn := fun _ => fun
  | [d] => { results := [.lit (.bool true)], args := [d] }
  | _ => none }
def fnExactParentOfRow : OpenClaim := { program := "ytdnehiakmaacgaa", sum := "d5a0331ee61695def796762f547ba9fc9dff28c97cd28b33d72b7cc43aef00c3", func := "loop.example/g00880/laws.FnExactParentOf", spec := "fnExactParentOf", apart := false }
def FnExactParentOfSaid : Prop := fnExactParentOfRow.holds Try.pinned (OpenSpec.ofChange fnExactParentOfSpec)

/-- ITS FALSE NEIGHBOUR: 'it returns false'. Refute it at one input. -/
def fnExactParentOfWrong : ChangeSpec := { name := "fnExactParentOf", fn := fun _ => fun
  | [d] => { results := [.lit (.bool false)], args := [d] }
  | _ => none }
def FnExactParentOfWrongFalsely : Prop := fnExactParentOfRow.holds Try.pinned (OpenSpec.ofChange fnExactParentOfWrong)

/-- 'laws.FnExactCommonTile': WHATEVER THE INPUT: true; the input reads as it did. -/
def fnExactCommonTileSpec : ChangeSpec := { name := "fnExactCommonTile", fn := fun _ => fun
  | [d1, d2] => { results := [.lit (.bool true)], args := [d1, d2] }
  | _ => none }
def fnExactCommonTileRow : OpenClaim := { program := "ytdnehiakmaacgaa", sum := "d5a0331ee61695def796762f547ba9fc9dff28c97cd28b33d72b7cc43aef00c3", func := "loop.example/g00880/laws.FnExactCommonTile", spec := "fnExactCommonTile", apart := false }
def FnExactCommonTileSaid : Prop := fnExactCommonTileRow.holds Try.pinned (OpenSpec.ofChange fnExactCommonTileSpec)

/-- ITS FALSE NEIGHBOUR: 'it returns false'. Refute it at one input. -/
def fnExactCommonTileWrong : ChangeSpec := { name := "fnExactCommonTile", fn := fun _ => fun
  | [d1, d2] => { results := [.lit (.bool false)], args := [d1, d2] }
  | _ => none }
def FnExactCommonTileWrongFalsely : Prop := fnExactCommonTileRow.holds Try.pinned (OpenSpec.ofChange fnExactCommonTileWrong)

/-- 'laws.FnExactCommonLocator': WHATEVER THE INPUT: true; the input reads as it did. -/
def fnExactCommonLocatorSpec : ChangeSpec := { name := "fnExactCommonLocator", fn := fun _ => fun
  | [d1, d2] => { results := [.lit (.bool true)], args := [d1, d2] }
  | _ => none }
def fnExactCommonLocatorRow : OpenClaim := { program := "ytdnehiakmaacgaa", sum := "d5a0331ee61695def796762f547ba9fc9dff28c97cd28b33d72b7cc43aef00c3", func := "loop.example/g00880/laws.FnExactCommonLocator", spec := "fnExactCommonLocator", apart := false }
def FnExactCommonLocatorSaid : Prop := fnExactCommonLocatorRow.holds Try.pinned (OpenSpec.ofChange fnExactCommonLocatorSpec)

/-- ITS FALSE NEIGHBOUR: 'it returns false'. Refute it at one input. -/
def fnExactCommonLocatorWrong : ChangeSpec := { name := "fnExactCommonLocator", fn := fun _ => fun
  | [d1, d2] => { results := [.lit (.bool false)], args := [d1, d2] }
  | _ => none }
def FnExactCommonLocatorWrongFalsely : Prop := fnExactCommonLocatorRow.holds Try.pinned (OpenSpec.ofChange fnExactCommonLocatorWrong)

/-- 'laws.FnExactChildrenOf': WHATEVER THE INPUT: true; the input reads as it did. -/
def fnExactChildrenOfSpec : ChangeSpec := { name := "fnExactChildrenOf", fn := fun _ => fun
  | [d] => { results := [.lit (.bool true)], args := [d] }
  | _ => none }
def fnExactChildrenOfRow : OpenClaim := { program := "ytdnehiakmaacgaa", sum := "d5a0331ee61695def796762f547ba9fc9dff28c97cd28b33d72b7cc43aef00c3", func := "loop.example/g00880/laws.FnExactChildrenOf", spec := "fnExactChildrenOf", apart := false }
def FnExactChildrenOfSaid : Prop := fnExactChildrenOfRow.holds Try.pinned (OpenSpec.ofChange fnExactChildrenOfSpec)

/-- ITS FALSE NEIGHBOUR: 'it returns false'. Refute it at one input. -/
def fnExactChildrenOfWrong : ChangeSpec := { name := "fnExactChildrenOf", fn := fun _ => fun
  | [d] => { results := [.lit (.bool false)], args := [d] }
  | _ => none }
def FnExactChildrenOfWrongFalsely : Prop := fnExactChildrenOfRow.holds Try.pinned (OpenSpec.ofChange fnExactChildrenOfWrong)

/-- 'laws.FnExactNewBoard': WHATEVER THE INPUT: true; the input reads as it did. -/
def fnExactNewBoardSpec : ChangeSpec := { name := "fnExactNewBoard", fn := fun _ => fun
  | [] => { results := [.lit (.bool true)], args := [] }
  | _ => none }
def fnExactNewBoardRow : OpenClaim := { program := "ytdnehiakmaacgaa", sum := "d5a0331ee61695def796762f547ba9fc9dff28c97cd28b33d72b7cc43aef00c3", func := "loop.example/g00880/laws.FnExactNewBoard", spec := "fnExactNewBoard", apart := false }
def FnExactNewBoardSaid : Prop := fnExactNewBoardRow.holds Try.pinned (OpenSpec.ofChange fnExactNewBoardSpec)

/-- ITS FALSE NEIGHBOUR: 'it returns false'. Refute it at one input. -/
def fnExactNewBoardWrong : ChangeSpec := { name := "fnExactNewBoard", fn := fun _ => fun
  | [] => { results := [.lit (.bool false)], args := [] }
  | _ => none }
def FnExactNewBoardWrongFalsely : Prop := fnExactNewBoardRow.holds Try.pinned (OpenSpec.ofChange fnExactNewBoardWrong)

/-- 'laws.FnExactLocatorOf': WHATEVER THE INPUT: true; the input reads as it did. -/
def fnExactLocatorOfSpec : ChangeSpec := { name := "fnExactLocatorOf", fn := fun _ => fun
  | [d1, d2] => { results := [.lit (.bool true)], args := [d1, d2] }
  | _ => none }
def fnExactLocatorOfRow : OpenClaim := { program := "ytdnehiakmaacgaa", sum := "d5a0331ee61695def796762f547ba9fc9dff28c97cd28b33d72b7cc43aef00c3", func := "loop.example/g00880/laws.FnExactLocatorOf", spec := "fnExactLocatorOf", apart := false }
def FnExactLocatorOfSaid : Prop := fnExactLocatorOfRow.holds Try.pinned (OpenSpec.ofChange fnExactLocatorOfSpec)

/-- ITS FALSE NEIGHBOUR: 'it returns false'. Refute it at one input. -/
def fnExactLocatorOfWrong : ChangeSpec := { name := "fnExactLocatorOf", fn := fun _ => fun
  | [d1, d2] => { results := [.lit (.bool false)], args := [d1, d2] }
  | _ => none }
def FnExactLocatorOfWrongFalsely : Prop := fnExactLocatorOfRow.holds Try.pinned (OpenSpec.ofChange fnExactLocatorOfWrong)

/- THE SECOND FORM. 'bulk': how many values and letters a reading holds, each counted each time it is reached (what is shared counts as often as it is met; a slice's spare places count too). A statement '..UptoSaid' is the law's where the arguments, and the package variables that the reading takes, are together of bulk at most 1048576: NARROWER than '..Said'. Prove '..Said' where nothing that the law and all that it calls make is longer than what came in: it says more and counts as full. Else prove '..UptoSaid'. A law counts once. -/
mutual
def uptoBulk {H : Type} : DataW H → Nat
  | .lit (.string bytes) => bytes.length + 1
  | .lit _ => 1
  | .nil => 1
  | .ptr d => uptoBulk d + 1
  | .slice elems spare => uptoBulkAll elems + uptoBulkAll spare + 1
  | .agg parts => uptoBulkAll parts + 1
  | .iface _ d => uptoBulk d + 1
  | .map entries => uptoBulkEntries entries + 1
  | .held _ => 1
def uptoBulkAll {H : Type} : List (DataW H) → Nat
  | [] => 0
  | d :: r => uptoBulk d + uptoBulkAll r
def uptoBulkEntries {H : Type} : List (Lit × DataW H) → Nat
  | [] => 0
  | x :: r => uptoBulkEntry x + uptoBulkEntries r
def uptoBulkEntry {H : Type} : Lit × DataW H → Nat
  | (.string bytes, d) => bytes.length + uptoBulk d + 1
  | (_, d) => uptoBulk d + 1
 end
def uptoSmall : (H : Type) → List (DataW H) → Bool := fun _ ds => decide (uptoBulkAll ds ≤ 1048576)
def OpenSpec.upto (s : _root_.Go.ChangeSpec) : _root_.Go.OpenSpec := { _root_.Go.OpenSpec.ofChange s with cond := some uptoSmall }

/-- 'laws.FnExactValidTile', WHERE WHAT IT READS IS OF BULK AT MOST 1048576: true; the input reads as it did. -/
def fnExactValidTileUptoRow : OpenClaim := { program := "ytdnehiakmaacgaa", sum := "d5a0331ee61695def796762f547ba9fc9dff28c97cd28b33d72b7cc43aef00c3", func := "loop.example/g00880/laws.FnExactValidTile", spec := "fnExactValidTile", apart := false, narrowed := true }
def FnExactValidTileUptoSaid : Prop := fnExactValidTileUptoRow.holds Try.pinned (OpenSpec.upto fnExactValidTileSpec)

/-- 'laws.FnExactColumnOf', WHERE WHAT IT READS IS OF BULK AT MOST 1048576: true; the input reads as it did. -/
def fnExactColumnOfUptoRow : OpenClaim := { program := "ytdnehiakmaacgaa", sum := "d5a0331ee61695def796762f547ba9fc9dff28c97cd28b33d72b7cc43aef00c3", func := "loop.example/g00880/laws.FnExactColumnOf", spec := "fnExactColumnOf", apart := false, narrowed := true }
def FnExactColumnOfUptoSaid : Prop := fnExactColumnOfUptoRow.holds Try.pinned (OpenSpec.upto fnExactColumnOfSpec)

/-- 'laws.FnExactStepForms', WHERE WHAT IT READS IS OF BULK AT MOST 1048576: true; the input reads as it did. -/
def fnExactStepFormsUptoRow : OpenClaim := { program := "ytdnehiakmaacgaa", sum := "d5a0331ee61695def796762f547ba9fc9dff28c97cd28b33d72b7cc43aef00c3", func := "loop.example/g00880/laws.FnExactStepForms", spec := "fnExactStepForms", apart := false, narrowed := true }
def FnExactStepFormsUptoSaid : Prop := fnExactStepFormsUptoRow.holds Try.pinned (OpenSpec.upto fnExactStepFormsSpec)

/-- 'laws.FnExactBoardWords', WHERE WHAT IT READS IS OF BULK AT MOST 1048576: true; the input reads as it did. -/
def fnExactBoardWordsUptoRow : OpenClaim := { program := "ytdnehiakmaacgaa", sum := "d5a0331ee61695def796762f547ba9fc9dff28c97cd28b33d72b7cc43aef00c3", func := "loop.example/g00880/laws.FnExactBoardWords", spec := "fnExactBoardWords", apart := false, narrowed := true }
def FnExactBoardWordsUptoSaid : Prop := fnExactBoardWordsUptoRow.holds Try.pinned (OpenSpec.upto fnExactBoardWordsSpec)

/-- 'laws.FnExactNeighbourOf', WHERE WHAT IT READS IS OF BULK AT MOST 1048576: true; the input reads as it did. -/
def fnExactNeighbourOfUptoRow : OpenClaim := { program := "ytdnehiakmaacgaa", sum := "d5a0331ee61695def796762f547ba9fc9dff28c97cd28b33d72b7cc43aef00c3", func := "loop.example/g00880/laws.FnExactNeighbourOf", spec := "fnExactNeighbourOf", apart := false, narrowed := true }
def FnExactNeighbourOfUptoSaid : Prop := fnExactNeighbourOfUptoRow.holds Try.pinned (OpenSpec.upto fnExactNeighbourOfSpec)

/-- 'laws.FnExactParentOf', WHERE WHAT IT READS IS OF BULK AT MOST 1048576: true; the input reads as it did. -/
def fnExactParentOfUptoRow : OpenClaim := { program := "ytdnehiakmaacgaa", sum := "d5a0331ee61695def796762f547ba9fc9dff28c97cd28b33d72b7cc43aef00c3", func := "loop.example/g00880/laws.FnExactParentOf", spec := "fnExactParentOf", apart := false, narrowed := true }
def FnExactParentOfUptoSaid : Prop := fnExactParentOfUptoRow.holds Try.pinned (OpenSpec.upto fnExactParentOfSpec)

/-- 'laws.FnExactCommonTile', WHERE WHAT IT READS IS OF BULK AT MOST 1048576: true; the input reads as it did. -/
def fnExactCommonTileUptoRow : OpenClaim := { program := "ytdnehiakmaacgaa", sum := "d5a0331ee61695def796762f547ba9fc9dff28c97cd28b33d72b7cc43aef00c3", func := "loop.example/g00880/laws.FnExactCommonTile", spec := "fnExactCommonTile", apart := false, narrowed := true }
def FnExactCommonTileUptoSaid : Prop := fnExactCommonTileUptoRow.holds Try.pinned (OpenSpec.upto fnExactCommonTileSpec)

/-- 'laws.FnExactCommonLocator', WHERE WHAT IT READS IS OF BULK AT MOST 1048576: true; the input reads as it did. -/
def fnExactCommonLocatorUptoRow : OpenClaim := { program := "ytdnehiakmaacgaa", sum := "d5a0331ee61695def796762f547ba9fc9dff28c97cd28b33d72b7cc43aef00c3", func := "loop.example/g00880/laws.FnExactCommonLocator", spec := "fnExactCommonLocator", apart := false, narrowed := true }
def FnExactCommonLocatorUptoSaid : Prop := fnExactCommonLocatorUptoRow.holds Try.pinned (OpenSpec.upto fnExactCommonLocatorSpec)

/-- 'laws.FnExactChildrenOf', WHERE WHAT IT READS IS OF BULK AT MOST 1048576: true; the input reads as it did. -/
def fnExactChildrenOfUptoRow : OpenClaim := { program := "ytdnehiakmaacgaa", sum := "d5a0331ee61695def796762f547ba9fc9dff28c97cd28b33d72b7cc43aef00c3", func := "loop.example/g00880/laws.FnExactChildrenOf", spec := "fnExactChildrenOf", apart := false, narrowed := true }
def FnExactChildrenOfUptoSaid : Prop := fnExactChildrenOfUptoRow.holds Try.pinned (OpenSpec.upto fnExactChildrenOfSpec)

/-- 'laws.FnExactNewBoard', WHERE WHAT IT READS IS OF BULK AT MOST 1048576: true; the input reads as it did. -/
def fnExactNewBoardUptoRow : OpenClaim := { program := "ytdnehiakmaacgaa", sum := "d5a0331ee61695def796762f547ba9fc9dff28c97cd28b33d72b7cc43aef00c3", func := "loop.example/g00880/laws.FnExactNewBoard", spec := "fnExactNewBoard", apart := false, narrowed := true }
def FnExactNewBoardUptoSaid : Prop := fnExactNewBoardUptoRow.holds Try.pinned (OpenSpec.upto fnExactNewBoardSpec)

/-- 'laws.FnExactLocatorOf', WHERE WHAT IT READS IS OF BULK AT MOST 1048576: true; the input reads as it did. -/
def fnExactLocatorOfUptoRow : OpenClaim := { program := "ytdnehiakmaacgaa", sum := "d5a0331ee61695def796762f547ba9fc9dff28c97cd28b33d72b7cc43aef00c3", func := "loop.example/g00880/laws.FnExactLocatorOf", spec := "fnExactLocatorOf", apart := false, narrowed := true }
def FnExactLocatorOfUptoSaid : Prop := fnExactLocatorOfUptoRow.holds Try.pinned (OpenSpec.upto fnExactLocatorOfSpec)

end Rows
end Go.Proofs.Ytdnehiakmaacgaa
