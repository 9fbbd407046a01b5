/-
  No cell of these rows narrows 'for every input' (looked for: loops, veiled, ifaces, maps, wideKeys, modest, calm, conditions, laid).
  DERIVED. THE GIVEN ROWS OF THIS SEAT. 6 by the template 'for every input the law returns true; each argument reads behind the call as it read before'; 0 by the template 'total and deterministic' (their statements: YtbbgdeknaecljaaGreatTotals.lean).
  GIVEN WITH THE SEED: the statements are not yours to turn. If you find one false, say at which input.
  Laid BY PROGRAM, IN A SANDBOX (cutbox-rows.mjs): the forced cells as the released guide's own fill.sh prints them over the translation 09d3a2786fb2559a… (all of the seat's roots in one cut). By AI agents, Wed Nov 11 2026. No macro, syntax, notation, axiom, sorry.
-/
import Derived.Test.YtbbgdeknaecljaaGreatChecked
import GoSem.Claim
import GoSem.ClaimJoined
import GoSem.ClaimMapViews
import Derived.JoinedTies
import Derived.KernelRfl
namespace Go.Proofs.YtbbgdeknaecljaaGreat
/- THE CELL 'sum', in the pinned program and in every row, IS THE sha256 OF THE DUMP (.gsa) THAT YtbbgdeknaecljaaGreatProg.lean LOADS. Nothing in Lean hashes anything: it is a label: what it is worth is what the hold of that sum in a sandbox is worth. -/
noncomputable def Tryz.pinned : Pinned := { name := "ytbbgdeknaecljaagreat", sum := "09d3a2786fb2559a19d911e854a3505cd334799180b4add44b8f8685b6e8353b", checked := Tryz.checked }
namespace Rows
def none {H : Type} : Left H := { results := [], args := [] }

/-- 'laws.FnExactEdgeLatitude': WHATEVER THE INPUT: true; the input reads as it did. -/
def fnExactEdgeLatitudeSpec : ChangeSpec := { name := "fnExactEdgeLatitude", fn := fun _ => fun
  | [d1, d2, d3] => { results := [.lit (.bool true)], args := [d1, d2, d3] }
  | _ => none }
def fnExactEdgeLatitudeRow : OpenClaim := { program := "ytbbgdeknaecljaagreat", sum := "09d3a2786fb2559a19d911e854a3505cd334799180b4add44b8f8685b6e8353b", func := "loop.example/g00880/laws.FnExactEdgeLatitude", spec := "fnExactEdgeLatitude", inPlace := ["math/bits.Sub64", "math/bits.Add64"], unfollowed := true, recurses := true, named := ["math/bits.divideError", "math/bits.overflowError"], apart := false }
def FnExactEdgeLatitudeSaid : Prop := fnExactEdgeLatitudeRow.holds Tryz.pinned (OpenSpec.ofChange fnExactEdgeLatitudeSpec)

/-- ITS FALSE NEIGHBOUR: 'it returns false'. Refute it at one input. -/
def fnExactEdgeLatitudeWrong : ChangeSpec := { name := "fnExactEdgeLatitude", fn := fun _ => fun
  | [d1, d2, d3] => { results := [.lit (.bool false)], args := [d1, d2, d3] }
  | _ => none }
def FnExactEdgeLatitudeWrongFalsely : Prop := fnExactEdgeLatitudeRow.holds Tryz.pinned (OpenSpec.ofChange fnExactEdgeLatitudeWrong)

/-- 'laws.FnExactEdgeArea': WHATEVER THE INPUT: true; the input reads as it did. -/
def fnExactEdgeAreaSpec : ChangeSpec := { name := "fnExactEdgeArea", fn := fun _ => fun
  | [d1, d2] => { results := [.lit (.bool true)], args := [d1, d2] }
  | _ => none }
def fnExactEdgeAreaRow : OpenClaim := { program := "ytbbgdeknaecljaagreat", sum := "09d3a2786fb2559a19d911e854a3505cd334799180b4add44b8f8685b6e8353b", func := "loop.example/g00880/laws.FnExactEdgeArea", spec := "fnExactEdgeArea", inPlace := ["math/bits.Sub64", "math/bits.Add64"], unfollowed := true, recurses := true, named := ["math/bits.divideError", "math/bits.overflowError"], apart := false }
def FnExactEdgeAreaSaid : Prop := fnExactEdgeAreaRow.holds Tryz.pinned (OpenSpec.ofChange fnExactEdgeAreaSpec)

/-- ITS FALSE NEIGHBOUR: 'it returns false'. Refute it at one input. -/
def fnExactEdgeAreaWrong : ChangeSpec := { name := "fnExactEdgeArea", fn := fun _ => fun
  | [d1, d2] => { results := [.lit (.bool false)], args := [d1, d2] }
  | _ => none }
def FnExactEdgeAreaWrongFalsely : Prop := fnExactEdgeAreaRow.holds Tryz.pinned (OpenSpec.ofChange fnExactEdgeAreaWrong)

/-- 'laws.FnExactHasNorth': WHATEVER THE INPUT: true; the input reads as it did. -/
def fnExactHasNorthSpec : ChangeSpec := { name := "fnExactHasNorth", fn := fun _ => fun
  | [d] => { results := [.lit (.bool true)], args := [d] }
  | _ => none }
def fnExactHasNorthRow : OpenClaim := { program := "ytbbgdeknaecljaagreat", sum := "09d3a2786fb2559a19d911e854a3505cd334799180b4add44b8f8685b6e8353b", func := "loop.example/g00880/laws.FnExactHasNorth", spec := "fnExactHasNorth", inPlace := ["math/bits.Sub64", "math/bits.Add64"], unfollowed := true, recurses := true, named := ["math/bits.divideError", "math/bits.overflowError"], apart := false }
def FnExactHasNorthSaid : Prop := fnExactHasNorthRow.holds Tryz.pinned (OpenSpec.ofChange fnExactHasNorthSpec)

/-- ITS FALSE NEIGHBOUR: 'it returns false'. Refute it at one input. -/
def fnExactHasNorthWrong : ChangeSpec := { name := "fnExactHasNorth", fn := fun _ => fun
  | [d] => { results := [.lit (.bool false)], args := [d] }
  | _ => none }
def FnExactHasNorthWrongFalsely : Prop := fnExactHasNorthRow.holds Tryz.pinned (OpenSpec.ofChange fnExactHasNorthWrong)

/-- 'laws.FnExactRingArea': WHATEVER THE INPUT: true; the input reads as it did. -/
def fnExactRingAreaSpec : ChangeSpec := { name := "fnExactRingArea", fn := fun _ => fun
  | [d] => { results := [.lit (.bool true)], args := [d] }
  | _ => none }
def fnExactRingAreaRow : OpenClaim := { program := "ytbbgdeknaecljaagreat", sum := "09d3a2786fb2559a19d911e854a3505cd334799180b4add44b8f8685b6e8353b", func := "loop.example/g00880/laws.FnExactRingArea", spec := "fnExactRingArea", inPlace := ["math/bits.Sub64", "math/bits.Add64"], unfollowed := true, recurses := true, named := ["math/bits.divideError", "math/bits.overflowError"], apart := false }
def FnExactRingAreaSaid : Prop := fnExactRingAreaRow.holds Tryz.pinned (OpenSpec.ofChange fnExactRingAreaSpec)

/-- ITS FALSE NEIGHBOUR: 'it returns false'. Refute it at one input. -/
def fnExactRingAreaWrong : ChangeSpec := { name := "fnExactRingArea", fn := fun _ => fun
  | [d] => { results := [.lit (.bool false)], args := [d] }
  | _ => none }
def FnExactRingAreaWrongFalsely : Prop := fnExactRingAreaRow.holds Tryz.pinned (OpenSpec.ofChange fnExactRingAreaWrong)

/-- 'laws.FnExactRingPerimeter': WHATEVER THE INPUT: true; the input reads as it did. -/
def fnExactRingPerimeterSpec : ChangeSpec := { name := "fnExactRingPerimeter", fn := fun _ => fun
  | [d] => { results := [.lit (.bool true)], args := [d] }
  | _ => none }
def fnExactRingPerimeterRow : OpenClaim := { program := "ytbbgdeknaecljaagreat", sum := "09d3a2786fb2559a19d911e854a3505cd334799180b4add44b8f8685b6e8353b", func := "loop.example/g00880/laws.FnExactRingPerimeter", spec := "fnExactRingPerimeter", inPlace := ["math/bits.Sub64", "math/bits.Add64"], unfollowed := true, recurses := true, named := ["math/bits.divideError", "math/bits.overflowError"], apart := false }
def FnExactRingPerimeterSaid : Prop := fnExactRingPerimeterRow.holds Tryz.pinned (OpenSpec.ofChange fnExactRingPerimeterSpec)

/-- ITS FALSE NEIGHBOUR: 'it returns false'. Refute it at one input. -/
def fnExactRingPerimeterWrong : ChangeSpec := { name := "fnExactRingPerimeter", fn := fun _ => fun
  | [d] => { results := [.lit (.bool false)], args := [d] }
  | _ => none }
def FnExactRingPerimeterWrongFalsely : Prop := fnExactRingPerimeterRow.holds Tryz.pinned (OpenSpec.ofChange fnExactRingPerimeterWrong)

/-- 'laws.FnExactInRing': WHATEVER THE INPUT: true; the input reads as it did. -/
def fnExactInRingSpec : ChangeSpec := { name := "fnExactInRing", fn := fun _ => fun
  | [d1, d2] => { results := [.lit (.bool true)], args := [d1, d2] }
  | _ => none }
def fnExactInRingRow : OpenClaim := { program := "ytbbgdeknaecljaagreat", sum := "09d3a2786fb2559a19d911e854a3505cd334799180b4add44b8f8685b6e8353b", func := "loop.example/g00880/laws.FnExactInRing", spec := "fnExactInRing", inPlace := ["math/bits.Sub64", "math/bits.Add64"], unfollowed := true, recurses := true, named := ["math/bits.divideError", "math/bits.overflowError"], apart := false }
def FnExactInRingSaid : Prop := fnExactInRingRow.holds Tryz.pinned (OpenSpec.ofChange fnExactInRingSpec)

/-- ITS FALSE NEIGHBOUR: 'it returns false'. Refute it at one input. -/
def fnExactInRingWrong : ChangeSpec := { name := "fnExactInRing", fn := fun _ => fun
  | [d1, d2] => { results := [.lit (.bool false)], args := [d1, d2] }
  | _ => none }
def FnExactInRingWrongFalsely : Prop := fnExactInRingRow.holds Tryz.pinned (OpenSpec.ofChange fnExactInRingWrong)

/- THE SECOND FORM. 'bulk': how many values and letters a reading holds, each counted each time it is reached (what is shared counts as often as it is met; a slice's spare places count too). A statement '..UptoSaid' is the law's where the arguments, and the package variables that the reading takes, are together of bulk at most 1048576: NARROWER than '..Said'. Prove '..Said' where nothing that the law and all that it calls make is longer than what came in: it says more and counts as full. Else prove '..UptoSaid'. A law counts once. -/
mutual
def uptoBulk {H : Type} : DataW H → Nat
  | .lit (.string bytes) => bytes.length + 1
  | .lit _ => 1
  | .nil => 1
  | .ptr d => uptoBulk d + 1
  | .slice elems spare => uptoBulkAll elems + uptoBulkAll spare + 1
  | .agg parts => uptoBulkAll parts + 1
  | .iface _ d => uptoBulk d + 1
  | .map entries => uptoBulkEntries entries + 1
  | .held _ => 1
def uptoBulkAll {H : Type} : List (DataW H) → Nat
  | [] => 0
  | d :: r => uptoBulk d + uptoBulkAll r
def uptoBulkEntries {H : Type} : List (Lit × DataW H) → Nat
  | [] => 0
  | x :: r => uptoBulkEntry x + uptoBulkEntries r
def uptoBulkEntry {H : Type} : Lit × DataW H → Nat
  | (.string bytes, d) => bytes.length + uptoBulk d + 1
  | (_, d) => uptoBulk d + 1
 end
def uptoSmall : (H : Type) → List (DataW H) → Bool := fun _ ds => decide (uptoBulkAll ds ≤ 1048576)
def OpenSpec.upto (s : _root_.Go.ChangeSpec) : _root_.Go.OpenSpec := { _root_.Go.OpenSpec.ofChange s with cond := some uptoSmall }

/-- 'laws.FnExactEdgeLatitude', WHERE WHAT IT READS IS OF BULK AT MOST 1048576: true; the input reads as it did. -/
def fnExactEdgeLatitudeUptoRow : OpenClaim := { program := "ytbbgdeknaecljaagreat", sum := "09d3a2786fb2559a19d911e854a3505cd334799180b4add44b8f8685b6e8353b", func := "loop.example/g00880/laws.FnExactEdgeLatitude", spec := "fnExactEdgeLatitude", inPlace := ["math/bits.Sub64", "math/bits.Add64"], unfollowed := true, recurses := true, named := ["math/bits.divideError", "math/bits.overflowError"], apart := false, narrowed := true }
def FnExactEdgeLatitudeUptoSaid : Prop := fnExactEdgeLatitudeUptoRow.holds Tryz.pinned (OpenSpec.upto fnExactEdgeLatitudeSpec)

/-- 'laws.FnExactEdgeArea', WHERE WHAT IT READS IS OF BULK AT MOST 1048576: true; the input reads as it did. -/
def fnExactEdgeAreaUptoRow : OpenClaim := { program := "ytbbgdeknaecljaagreat", sum := "09d3a2786fb2559a19d911e854a3505cd334799180b4add44b8f8685b6e8353b", func := "loop.example/g00880/laws.FnExactEdgeArea", spec := "fnExactEdgeArea", inPlace := ["math/bits.Sub64", "math/bits.Add64"], unfollowed := true, recurses := true, named := ["math/bits.divideError", "math/bits.overflowError"], apart := false, narrowed := true }
def FnExactEdgeAreaUptoSaid : Prop := fnExactEdgeAreaUptoRow.holds Tryz.pinned (OpenSpec.upto fnExactEdgeAreaSpec)

/-- 'laws.FnExactHasNorth', WHERE WHAT IT READS IS OF BULK AT MOST 1048576: true; the input reads as it did. -/
def fnExactHasNorthUptoRow : OpenClaim := { program := "ytbbgdeknaecljaagreat", sum := "09d3a2786fb2559a19d911e854a3505cd334799180b4add44b8f8685b6e8353b", func := "loop.example/g00880/laws.FnExactHasNorth", spec := "fnExactHasNorth", inPlace := ["math/bits.Sub64", "math/bits.Add64"], unfollowed := true, recurses := true, named := ["math/bits.divideError", "math/bits.overflowError"], apart := false, narrowed := true }
def FnExactHasNorthUptoSaid : Prop := fnExactHasNorthUptoRow.holds Tryz.pinned (OpenSpec.upto fnExactHasNorthSpec)

/-- 'laws.FnExactRingArea', WHERE WHAT IT READS IS OF BULK AT MOST 1048576: true; the input reads as it did. -/
def fnExactRingAreaUptoRow : OpenClaim := { program := "ytbbgdeknaecljaagreat", sum := "09d3a2786fb2559a19d911e854a3505cd334799180b4add44b8f8685b6e8353b", func := "loop.example/g00880/laws.FnExactRingArea", spec := "fnExactRingArea", inPlace := ["math/bits.Sub64", "math/bits.Add64"], unfollowed := true, recurses := true, named := ["math/bits.divideError", "math/bits.overflowError"], apart := false, narrowed := true }
def FnExactRingAreaUptoSaid : Prop := fnExactRingAreaUptoRow.holds Tryz.pinned (OpenSpec.upto fnExactRingAreaSpec)

/-- 'laws.FnExactRingPerimeter', WHERE WHAT IT READS IS OF BULK AT MOST 1048576: true; the input reads as it did. -/
def fnExactRingPerimeterUptoRow : OpenClaim := { program := "ytbbgdeknaecljaagreat", sum := "09d3a2786fb2559a19d911e854a3505cd334799180b4add44b8f8685b6e8353b", func := "loop.example/g00880/laws.FnExactRingPerimeter", spec := "fnExactRingPerimeter", inPlace := ["math/bits.Sub64", "math/bits.Add64"], unfollowed := true, recurses := true, named := ["math/bits.divideError", "math/bits.overflowError"], apart := false, narrowed := true }
def FnExactRingPerimeterUptoSaid : Prop := fnExactRingPerimeterUptoRow.holds Tryz.pinned (OpenSpec.upto fnExactRingPerimeterSpec)

/-- 'laws.FnExactInRing', WHERE WHAT IT READS IS OF BULK AT MOST 1048576: true; the input reads as it did. -/
def fnExactInRingUptoRow : OpenClaim := { program := "ytbbgdeknaecljaagreat", sum := "09d3a2786fb2559a19d911e854a3505cd334799180b4add44b8f8685b6e8353b", func := "loop.example/g00880/laws.FnExactInRing", spec := "fnExactInRing", inPlace := ["math/bits.Sub64", "math/bits.Add64"], unfollowed := true, recurses := true, named := ["math/bits.divideError", "math/bits.overflowError"], apart := false, narrowed := true }
def FnExactInRingUptoSaid : Prop := fnExactInRingUptoRow.holds Tryz.pinned (OpenSpec.upto fnExactInRingSpec)

end Rows
end Go.Proofs.YtbbgdeknaecljaaGreat
