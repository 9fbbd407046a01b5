/-
  DERIVED. GIVEN WITH THE SEED: THE CARDS: each row of YtajbomdeehaaiaaDoorRows.lean that lists a variable, with what it lists TIED to the program's text (the seventh form; the later family's looks); each row that meets fmt, with fmt's text TOLD by the authors' own Lean function (tested against real Go, not proved from fmt's source: count such statements apart). THE CARD IS WHAT COUNTS. Prove the row's statement (the work); the ties are given (YtajbomdeehaaiaaDoorTie.lean); close each card by the builder's one call (the guide's Derived/Test/ToyasCard.lean, 'card_holds'). Laid BY PROGRAM, IN A SANDBOX (cutbox-door.mjs). By AI agents, Wed Nov 11 2026. No macro, syntax, notation, axiom, sorry.
-/
import Derived.Test.YtajbomdeehaaiaaDoorRows
import GoSem.ClaimSeven
namespace Go.Proofs.YtajbomdeehaaiaaDoor
namespace Rows

/-- THE TIED CARD OF 'laws.FnExactGeorefBox'. -/
def fnExactGeorefBoxCard : Claim7 := { stood := { row := fnExactGeorefBoxRow, standIns := [], harness := (true, "5553997ac44a6a7ccf029b6e5526d3fa27cfee23bd590cd6d3d5a4a05bc6f010"), looks := false }, kinds := [], alts := [], laidByText := true, laidKinds := [.data, .data, .data, .data, .pinned], laidTests := true, laidLooks := .later }
def FnExactGeorefBoxCardSaid : Prop := Claim7.holds Tryd.pinned (.plain (OpenSpec.ofChange fnExactGeorefBoxSpec)) fnExactGeorefBoxCard

/-- THE TIED CARD OF 'laws.FnReferences'. -/
def fnReferencesCard : Claim7 := { stood := { row := fnReferencesRow, standIns := [], harness := (true, "5553997ac44a6a7ccf029b6e5526d3fa27cfee23bd590cd6d3d5a4a05bc6f010"), looks := false }, kinds := [], alts := [], laidByText := true, laidKinds := [.data, .data, .data, .data, .pinned], laidTests := true, laidLooks := .later }
def FnReferencesCardSaid : Prop := Claim7.holds Tryd.pinned (.plain (OpenSpec.ofChange fnReferencesSpec)) fnReferencesCard

/-- THE SECOND FORM's CARD OF 'laws.FnExactGeorefBox'. -/
def fnExactGeorefBoxUptoCard : Claim7 := { stood := { row := fnExactGeorefBoxUptoRow, standIns := [], harness := (true, "5553997ac44a6a7ccf029b6e5526d3fa27cfee23bd590cd6d3d5a4a05bc6f010"), looks := false }, kinds := [], alts := [], laidByText := true, laidKinds := [.data, .data, .data, .data, .pinned], laidTests := true, laidLooks := .later }
def FnExactGeorefBoxUptoCardSaid : Prop := Claim7.holds Tryd.pinned (.plain (OpenSpec.upto fnExactGeorefBoxSpec)) fnExactGeorefBoxUptoCard

/-- THE SECOND FORM's CARD OF 'laws.FnReferences'. -/
def fnReferencesUptoCard : Claim7 := { stood := { row := fnReferencesUptoRow, standIns := [], harness := (true, "5553997ac44a6a7ccf029b6e5526d3fa27cfee23bd590cd6d3d5a4a05bc6f010"), looks := false }, kinds := [], alts := [], laidByText := true, laidKinds := [.data, .data, .data, .data, .pinned], laidTests := true, laidLooks := .later }
def FnReferencesUptoCardSaid : Prop := Claim7.holds Tryd.pinned (.plain (OpenSpec.upto fnReferencesSpec)) fnReferencesUptoCard
end Rows
end Go.Proofs.YtajbomdeehaaiaaDoor
