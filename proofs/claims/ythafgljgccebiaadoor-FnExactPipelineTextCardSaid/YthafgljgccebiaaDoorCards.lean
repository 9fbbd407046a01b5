/-
  DERIVED. GIVEN WITH THE SEED: THE CARDS: each row of YthafgljgccebiaaDoorRows.lean that lists a variable, with what it lists TIED to the program's text (the seventh form; the later family's looks); each row that meets fmt, with fmt's text TOLD by the authors' own Lean function (tested against real Go, not proved from fmt's source: count such statements apart). THE CARD IS WHAT COUNTS. Prove the row's statement (the work); the ties are given (YthafgljgccebiaaDoorTie.lean); close each card by the builder's one call (the guide's Derived/Test/ToyasCard.lean, 'card_holds'). Laid BY PROGRAM, IN A SANDBOX (cutbox-door.mjs). By AI agents, Wed Nov 11 2026. No macro, syntax, notation, axiom, sorry.
-/
import Derived.Test.YthafgljgccebiaaDoorRows
import GoSem.ClaimSeven
namespace Go.Proofs.YthafgljgccebiaaDoor
namespace Rows

/-- THE TIED CARD OF 'laws.FnExactBoardText'. -/
def fnExactBoardTextCard : Claim7 := { stood := { row := fnExactBoardTextRow, standIns := [], harness := (true, "6dca0f9a69dbc861d1df86960d072b78fa7ab82c09ad10db552e24c3d615586e"), looks := false }, kinds := [], alts := [], laidByText := true, laidKinds := [.data, .data, .data, .widerDeep], laidTests := true, laidLooks := .later }
def FnExactBoardTextCardSaid : Prop := Claim7.holds Tryd.pinned (.plain (OpenSpec.ofChange fnExactBoardTextSpec)) fnExactBoardTextCard

/-- THE TIED CARD OF 'laws.FnExactPipelineText'. -/
def fnExactPipelineTextCard : Claim7 := { stood := { row := fnExactPipelineTextRow, standIns := [], harness := (true, "6dca0f9a69dbc861d1df86960d072b78fa7ab82c09ad10db552e24c3d615586e"), looks := false }, kinds := [], alts := [], laidByText := true, laidKinds := [.data, .data, .data, .widerDeep, .widerDeep], laidTests := true, laidLooks := .later }
def FnExactPipelineTextCardSaid : Prop := Claim7.holds Tryd.pinned (.plain (OpenSpec.ofChange fnExactPipelineTextSpec)) fnExactPipelineTextCard

/-- THE TIED CARD OF 'laws.FnExactReadRing'. -/
def fnExactReadRingCard : Claim7 := { stood := { row := fnExactReadRingRow, standIns := [], harness := (true, "6dca0f9a69dbc861d1df86960d072b78fa7ab82c09ad10db552e24c3d615586e"), looks := false }, kinds := [], alts := [], laidByText := true, laidKinds := [.data, .data, .data, .data, .pinned], laidTests := true, laidLooks := .later }
def FnExactReadRingCardSaid : Prop := Claim7.holds Tryd.pinned (.plain (OpenSpec.ofChange fnExactReadRingSpec)) fnExactReadRingCard

/-- THE SECOND FORM's CARD OF 'laws.FnExactBoardText'. -/
def fnExactBoardTextUptoCard : Claim7 := { stood := { row := fnExactBoardTextUptoRow, standIns := [], harness := (true, "6dca0f9a69dbc861d1df86960d072b78fa7ab82c09ad10db552e24c3d615586e"), looks := false }, kinds := [], alts := [], laidByText := true, laidKinds := [.data, .data, .data, .widerDeep], laidTests := true, laidLooks := .later }
def FnExactBoardTextUptoCardSaid : Prop := Claim7.holds Tryd.pinned (.plain (OpenSpec.upto fnExactBoardTextSpec)) fnExactBoardTextUptoCard

/-- THE SECOND FORM's CARD OF 'laws.FnExactPipelineText'. -/
def fnExactPipelineTextUptoCard : Claim7 := { stood := { row := fnExactPipelineTextUptoRow, standIns := [], harness := (true, "6dca0f9a69dbc861d1df86960d072b78fa7ab82c09ad10db552e24c3d615586e"), looks := false }, kinds := [], alts := [], laidByText := true, laidKinds := [.data, .data, .data, .widerDeep, .widerDeep], laidTests := true, laidLooks := .later }
def FnExactPipelineTextUptoCardSaid : Prop := Claim7.holds Tryd.pinned (.plain (OpenSpec.upto fnExactPipelineTextSpec)) fnExactPipelineTextUptoCard

/-- THE SECOND FORM's CARD OF 'laws.FnExactReadRing'. -/
def fnExactReadRingUptoCard : Claim7 := { stood := { row := fnExactReadRingUptoRow, standIns := [], harness := (true, "6dca0f9a69dbc861d1df86960d072b78fa7ab82c09ad10db552e24c3d615586e"), looks := false }, kinds := [], alts := [], laidByText := true, laidKinds := [.data, .data, .data, .data, .pinned], laidTests := true, laidLooks := .later }
def FnExactReadRingUptoCardSaid : Prop := Claim7.holds Tryd.pinned (.plain (OpenSpec.upto fnExactReadRingSpec)) fnExactReadRingUptoCard
end Rows
end Go.Proofs.YthafgljgccebiaaDoor
