/-
  DERIVED. GIVEN WITH THE SEED: THE CARDS: each row of YtillihiadpgalaaDoorRows.lean that lists a variable, with what it lists TIED to the program's text (the seventh form; the later family's looks); each row that meets fmt, with fmt's text TOLD by the authors' own Lean function (tested against real Go, not proved from fmt's source: count such statements apart). THE CARD IS WHAT COUNTS. Prove the row's statement (the work); the ties are given (YtillihiadpgalaaDoorTie.lean); close each card by the builder's one call (the guide's Derived/Test/ToyasCard.lean, 'card_holds'). Laid BY PROGRAM, IN A SANDBOX (cutbox-door.mjs). By AI agents, Wed Nov 11 2026. No macro, syntax, notation, axiom, sorry.
-/
import Derived.Test.YtillihiadpgalaaDoorRows
import GoSem.ClaimSeven
namespace Go.Proofs.YtillihiadpgalaaDoor
namespace Rows

/-- THE TIED CARD OF 'laws.FnExactTileKey'. -/
def fnExactTileKeyCard : Claim7 := { stood := { row := fnExactTileKeyRow, standIns := [], harness := (true, "3842d7410723226ae9934fed2388bf26a34967b07fd8ee1e2d38d0f739192c99"), looks := false }, kinds := [], alts := [], laidByText := true, laidKinds := [.data, .data, .data], laidTests := true, laidLooks := .later }
def FnExactTileKeyCardSaid : Prop := Claim7.holds Tryd.pinned (.plain (OpenSpec.ofChange fnExactTileKeySpec)) fnExactTileKeyCard

/-- THE TIED CARD OF 'laws.FnExactReadTileKey'. -/
def fnExactReadTileKeyCard : Claim7 := { stood := { row := fnExactReadTileKeyRow, standIns := [], harness := (true, "3842d7410723226ae9934fed2388bf26a34967b07fd8ee1e2d38d0f739192c99"), looks := false }, kinds := [], alts := [], laidByText := true, laidKinds := [.data, .pinned], laidTests := true, laidLooks := .later }
def FnExactReadTileKeyCardSaid : Prop := Claim7.holds Tryd.pinned (.plain (OpenSpec.ofChange fnExactReadTileKeySpec)) fnExactReadTileKeyCard

/-- THE SECOND FORM's CARD OF 'laws.FnExactTileKey'. -/
def fnExactTileKeyUptoCard : Claim7 := { stood := { row := fnExactTileKeyUptoRow, standIns := [], harness := (true, "3842d7410723226ae9934fed2388bf26a34967b07fd8ee1e2d38d0f739192c99"), looks := false }, kinds := [], alts := [], laidByText := true, laidKinds := [.data, .data, .data], laidTests := true, laidLooks := .later }
def FnExactTileKeyUptoCardSaid : Prop := Claim7.holds Tryd.pinned (.plain (OpenSpec.upto fnExactTileKeySpec)) fnExactTileKeyUptoCard

/-- THE SECOND FORM's CARD OF 'laws.FnExactReadTileKey'. -/
def fnExactReadTileKeyUptoCard : Claim7 := { stood := { row := fnExactReadTileKeyUptoRow, standIns := [], harness := (true, "3842d7410723226ae9934fed2388bf26a34967b07fd8ee1e2d38d0f739192c99"), looks := false }, kinds := [], alts := [], laidByText := true, laidKinds := [.data, .pinned], laidTests := true, laidLooks := .later }
def FnExactReadTileKeyUptoCardSaid : Prop := Claim7.holds Tryd.pinned (.plain (OpenSpec.upto fnExactReadTileKeySpec)) fnExactReadTileKeyUptoCard
end Rows
end Go.Proofs.YtillihiadpgalaaDoor
