/-
  DERIVED. GIVEN WITH THE SEED: THE CARDS: each row of YtjgcailejnokjaaDoorRows.lean that lists a variable, with what it lists TIED to the program's text (the seventh form; the later family's looks); each row that meets fmt, with fmt's text TOLD by the authors' own Lean function (tested against real Go, not proved from fmt's source: count such statements apart). THE CARD IS WHAT COUNTS. Prove the row's statement (the work); the ties are given (YtjgcailejnokjaaDoorTie.lean); close each card by the builder's one call (the guide's Derived/Test/ToyasCard.lean, 'card_holds'). Laid BY PROGRAM, IN A SANDBOX (cutbox-door.mjs). By AI agents, Wed Nov 11 2026. No macro, syntax, notation, axiom, sorry.
-/
import Derived.Test.YtjgcailejnokjaaDoorRows
import GoSem.ClaimSeven
namespace Go.Proofs.YtjgcailejnokjaaDoor
namespace Rows

/-- THE TIED CARD OF 'laws.FnExactInGeoref'. -/
def fnExactInGeorefCard : Claim7 := { stood := { row := fnExactInGeorefRow, standIns := [], harness := (true, "11b647996d72ade5f24f25e74f0120b59d9c53a23b0af08c1ff74f18f79558c5"), looks := false }, kinds := [], alts := [], laidByText := true, laidKinds := [.data, .data, .data, .data, .pinned], laidTests := true, laidLooks := .later }
def FnExactInGeorefCardSaid : Prop := Claim7.holds Tryd.pinned (.plain (OpenSpec.ofChange fnExactInGeorefSpec)) fnExactInGeorefCard

/-- THE SECOND FORM's CARD OF 'laws.FnExactInGeoref'. -/
def fnExactInGeorefUptoCard : Claim7 := { stood := { row := fnExactInGeorefUptoRow, standIns := [], harness := (true, "11b647996d72ade5f24f25e74f0120b59d9c53a23b0af08c1ff74f18f79558c5"), looks := false }, kinds := [], alts := [], laidByText := true, laidKinds := [.data, .data, .data, .data, .pinned], laidTests := true, laidLooks := .later }
def FnExactInGeorefUptoCardSaid : Prop := Claim7.holds Tryd.pinned (.plain (OpenSpec.upto fnExactInGeorefSpec)) fnExactInGeorefUptoCard
end Rows
end Go.Proofs.YtjgcailejnokjaaDoor
