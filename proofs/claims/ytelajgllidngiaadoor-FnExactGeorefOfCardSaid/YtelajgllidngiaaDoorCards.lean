/-
  DERIVED. GIVEN WITH THE SEED: THE CARDS: each row of YtelajgllidngiaaDoorRows.lean that lists a variable, with what it lists TIED to the program's text (the seventh form; the later family's looks); each row that meets fmt, with fmt's text TOLD by the authors' own Lean function (tested against real Go, not proved from fmt's source: count such statements apart). THE CARD IS WHAT COUNTS. Prove the row's statement (the work); the ties are given (YtelajgllidngiaaDoorTie.lean); close each card by the builder's one call (the guide's Derived/Test/ToyasCard.lean, 'card_holds'). Laid BY PROGRAM, IN A SANDBOX (cutbox-door.mjs). By AI agents, Wed Nov 11 2026. No macro, syntax, notation, axiom, sorry.
-/
import Derived.Test.YtelajgllidngiaaDoorRows
import GoSem.ClaimSeven
namespace Go.Proofs.YtelajgllidngiaaDoor
namespace Rows

/-- THE TIED CARD OF 'laws.FnExactGeorefOf'. -/
def fnExactGeorefOfCard : Claim7 := { stood := { row := fnExactGeorefOfRow, standIns := [], harness := (true, "f430c4e2a5f1e8d3e41bf74d9f6feff25078d9aa91f9e720c046ad933c3b5e40"), looks := false }, kinds := [], alts := [], laidByText := true, laidKinds := [.data, .data, .data], laidTests := true, laidLooks := .later }
def FnExactGeorefOfCardSaid : Prop := Claim7.holds Tryd.pinned (.plain (OpenSpec.ofChange fnExactGeorefOfSpec)) fnExactGeorefOfCard

/-- THE TIED CARD OF 'laws.FnExactBoardText'. -/
def fnExactBoardTextCard : Claim7 := { stood := { row := fnExactBoardTextRow, standIns := [], harness := (true, "f430c4e2a5f1e8d3e41bf74d9f6feff25078d9aa91f9e720c046ad933c3b5e40"), looks := false }, kinds := [], alts := [], laidByText := true, laidKinds := [.data, .data, .data, .widerDeep], laidTests := true, laidLooks := .later }
def FnExactBoardTextCardSaid : Prop := Claim7.holds Tryd.pinned (.plain (OpenSpec.ofChange fnExactBoardTextSpec)) fnExactBoardTextCard

/-- THE TIED CARD OF 'laws.FnExactRingText'. -/
def fnExactRingTextCard : Claim7 := { stood := { row := fnExactRingTextRow, standIns := [], harness := (true, "f430c4e2a5f1e8d3e41bf74d9f6feff25078d9aa91f9e720c046ad933c3b5e40"), looks := false }, kinds := [], alts := [], laidByText := true, laidKinds := [.data, .data, .data], laidTests := true, laidLooks := .later }
def FnExactRingTextCardSaid : Prop := Claim7.holds Tryd.pinned (.plain (OpenSpec.ofChange fnExactRingTextSpec)) fnExactRingTextCard

/-- THE TIED CARD OF 'laws.FnPyramid'. -/
def fnPyramidCard : Claim7 := { stood := { row := fnPyramidRow, standIns := [], harness := (true, "f430c4e2a5f1e8d3e41bf74d9f6feff25078d9aa91f9e720c046ad933c3b5e40"), looks := false }, kinds := [], alts := [], laidByText := true, laidKinds := [.data, .data, .data, .data, .pinned], laidTests := true, laidLooks := .later }
def FnPyramidCardSaid : Prop := Claim7.holds Tryd.pinned (.plain (OpenSpec.ofChange fnPyramidSpec)) fnPyramidCard

/-- THE SECOND FORM's CARD OF 'laws.FnExactGeorefOf'. -/
def fnExactGeorefOfUptoCard : Claim7 := { stood := { row := fnExactGeorefOfUptoRow, standIns := [], harness := (true, "f430c4e2a5f1e8d3e41bf74d9f6feff25078d9aa91f9e720c046ad933c3b5e40"), looks := false }, kinds := [], alts := [], laidByText := true, laidKinds := [.data, .data, .data], laidTests := true, laidLooks := .later }
def FnExactGeorefOfUptoCardSaid : Prop := Claim7.holds Tryd.pinned (.plain (OpenSpec.upto fnExactGeorefOfSpec)) fnExactGeorefOfUptoCard

/-- THE SECOND FORM's CARD OF 'laws.FnExactBoardText'. -/
def fnExactBoardTextUptoCard : Claim7 := { stood := { row := fnExactBoardTextUptoRow, standIns := [], harness := (true, "f430c4e2a5f1e8d3e41bf74d9f6feff25078d9aa91f9e720c046ad933c3b5e40"), looks := false }, kinds := [], alts := [], laidByText := true, laidKinds := [.data, .data, .data, .widerDeep], laidTests := true, laidLooks := .later }
def FnExactBoardTextUptoCardSaid : Prop := Claim7.holds Tryd.pinned (.plain (OpenSpec.upto fnExactBoardTextSpec)) fnExactBoardTextUptoCard

/-- THE SECOND FORM's CARD OF 'laws.FnExactRingText'. -/
def fnExactRingTextUptoCard : Claim7 := { stood := { row := fnExactRingTextUptoRow, standIns := [], harness := (true, "f430c4e2a5f1e8d3e41bf74d9f6feff25078d9aa91f9e720c046ad933c3b5e40"), looks := false }, kinds := [], alts := [], laidByText := true, laidKinds := [.data, .data, .data], laidTests := true, laidLooks := .later }
def FnExactRingTextUptoCardSaid : Prop := Claim7.holds Tryd.pinned (.plain (OpenSpec.upto fnExactRingTextSpec)) fnExactRingTextUptoCard

/-- THE SECOND FORM's CARD OF 'laws.FnPyramid'. -/
def fnPyramidUptoCard : Claim7 := { stood := { row := fnPyramidUptoRow, standIns := [], harness := (true, "f430c4e2a5f1e8d3e41bf74d9f6feff25078d9aa91f9e720c046ad933c3b5e40"), looks := false }, kinds := [], alts := [], laidByText := true, laidKinds := [.data, .data, .data, .data, .pinned], laidTests := true, laidLooks := .later }
def FnPyramidUptoCardSaid : Prop := Claim7.holds Tryd.pinned (.plain (OpenSpec.upto fnPyramidSpec)) fnPyramidUptoCard
end Rows
end Go.Proofs.YtelajgllidngiaaDoor
