/-
  DERIVED. GIVEN WITH THE SEED: THE CARDS: each row of YtpanhndkcnojpaaDoorRows.lean that lists a variable, with what it lists TIED to the program's text (the seventh form; the later family's looks); each row that meets fmt, with fmt's text TOLD by the authors' own Lean function (tested against real Go, not proved from fmt's source: count such statements apart). THE CARD IS WHAT COUNTS. Prove the row's statement (the work); the ties are given (YtpanhndkcnojpaaDoorTie.lean); close each card by the builder's one call (the guide's Derived/Test/ToyasCard.lean, 'card_holds'). Laid BY PROGRAM, IN A SANDBOX (cutbox-door.mjs). By AI agents, Wed Nov 11 2026. No macro, syntax, notation, axiom, sorry.
-/
import Derived.Test.YtpanhndkcnojpaaDoorRows
import GoSem.ClaimSeven
namespace Go.Proofs.YtpanhndkcnojpaaDoor
namespace Rows

/-- THE TIED CARD OF 'laws.FnPyramid'. -/
def fnPyramidCard : Claim7 := { stood := { row := fnPyramidRow, standIns := [], harness := (true, "9dc8453694e00ea62b327570384d1db9d9c1301012642b08a6b64992f558cbab"), looks := false }, kinds := [], alts := [], laidByText := true, laidKinds := [.data, .data, .data, .data, .pinned], laidTests := true, laidLooks := .later }
def FnPyramidCardSaid : Prop := Claim7.holds Tryd.pinned (.plain (OpenSpec.ofChange fnPyramidSpec)) fnPyramidCard

/-- THE TIED CARD OF 'laws.FnReferences'. -/
def fnReferencesCard : Claim7 := { stood := { row := fnReferencesRow, standIns := [], harness := (true, "9dc8453694e00ea62b327570384d1db9d9c1301012642b08a6b64992f558cbab"), looks := false }, kinds := [], alts := [], laidByText := true, laidKinds := [.data, .data, .data, .data, .pinned], laidTests := true, laidLooks := .later }
def FnReferencesCardSaid : Prop := Claim7.holds Tryd.pinned (.plain (OpenSpec.ofChange fnReferencesSpec)) fnReferencesCard

/-- THE SECOND FORM's CARD OF 'laws.FnPyramid'. -/
def fnPyramidUptoCard : Claim7 := { stood := { row := fnPyramidUptoRow, standIns := [], harness := (true, "9dc8453694e00ea62b327570384d1db9d9c1301012642b08a6b64992f558cbab"), looks := false }, kinds := [], alts := [], laidByText := true, laidKinds := [.data, .data, .data, .data, .pinned], laidTests := true, laidLooks := .later }
def FnPyramidUptoCardSaid : Prop := Claim7.holds Tryd.pinned (.plain (OpenSpec.upto fnPyramidSpec)) fnPyramidUptoCard

/-- THE SECOND FORM's CARD OF 'laws.FnReferences'. -/
def fnReferencesUptoCard : Claim7 := { stood := { row := fnReferencesUptoRow, standIns := [], harness := (true, "9dc8453694e00ea62b327570384d1db9d9c1301012642b08a6b64992f558cbab"), looks := false }, kinds := [], alts := [], laidByText := true, laidKinds := [.data, .data, .data, .data, .pinned], laidTests := true, laidLooks := .later }
def FnReferencesUptoCardSaid : Prop := Claim7.holds Tryd.pinned (.plain (OpenSpec.upto fnReferencesSpec)) fnReferencesUptoCard
end Rows
end Go.Proofs.YtpanhndkcnojpaaDoor
