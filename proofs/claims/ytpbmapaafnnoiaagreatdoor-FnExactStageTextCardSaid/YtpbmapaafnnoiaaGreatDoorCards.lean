/-
  DERIVED. GIVEN WITH THE SEED: THE CARDS: each row of YtpbmapaafnnoiaaGreatDoorRows.lean that lists a variable, with what it lists TIED to the program's text (the seventh form; the later family's looks); each row that meets fmt, with fmt's text TOLD by the authors' own Lean function (tested against real Go, not proved from fmt's source: count such statements apart). THE CARD IS WHAT COUNTS. Prove the row's statement (the work); the ties are given (YtpbmapaafnnoiaaGreatDoorTie.lean); close each card by the builder's one call (the guide's Derived/Test/ToyasCard.lean, 'card_holds'). Laid BY PROGRAM, IN A SANDBOX (cutbox-door.mjs). By AI agents, Wed Nov 11 2026. No macro, syntax, notation, axiom, sorry.
-/
import Derived.Test.YtpbmapaafnnoiaaGreatDoorRows
import GoSem.ClaimSeven
namespace Go.Proofs.YtpbmapaafnnoiaaGreatDoor
namespace Rows

/-- THE TIED CARD OF 'laws.FnExactStageText'. -/
def fnExactStageTextCard : Claim7 := { stood := { row := fnExactStageTextRow, standIns := [], harness := (true, "a2d32167edbf506127ee81c455ac292f98b191d33ff4ee96335d3fa43071ff68"), looks := false }, kinds := [], alts := [], laidByText := true, laidKinds := [.data, .data, .data], laidTests := true, laidLooks := .later }
def FnExactStageTextCardSaid : Prop := Claim7.holds Tryz.pinned (.plain (OpenSpec.ofChange fnExactStageTextSpec)) fnExactStageTextCard

/-- THE SECOND FORM's CARD OF 'laws.FnExactStageText'. -/
def fnExactStageTextUptoCard : Claim7 := { stood := { row := fnExactStageTextUptoRow, standIns := [], harness := (true, "a2d32167edbf506127ee81c455ac292f98b191d33ff4ee96335d3fa43071ff68"), looks := false }, kinds := [], alts := [], laidByText := true, laidKinds := [.data, .data, .data], laidTests := true, laidLooks := .later }
def FnExactStageTextUptoCardSaid : Prop := Claim7.holds Tryz.pinned (.plain (OpenSpec.upto fnExactStageTextSpec)) fnExactStageTextUptoCard
end Rows
end Go.Proofs.YtpbmapaafnnoiaaGreatDoor
