/-
  DERIVED. GIVEN WITH THE SEED: THE CARDS: each row of YthabgkbpghpokaaDoorRows.lean that lists a variable, with what it lists TIED to the program's text (the seventh form; the later family's looks); each row that meets fmt, with fmt's text TOLD by the authors' own Lean function (tested against real Go, not proved from fmt's source: count such statements apart). THE CARD IS WHAT COUNTS. Prove the row's statement (the work); the ties are given (YthabgkbpghpokaaDoorTie.lean); close each card by the builder's one call (the guide's Derived/Test/ToyasCard.lean, 'card_holds'). Laid BY PROGRAM, IN A SANDBOX (cutbox-door.mjs). By AI agents, Wed Nov 11 2026. No macro, syntax, notation, axiom, sorry.
-/
import Derived.Test.YthabgkbpghpokaaDoorRows
import GoSem.ClaimSeven
namespace Go.Proofs.YthabgkbpghpokaaDoor
namespace Rows

/-- THE TIED CARD OF 'laws.FnExactReadRing'. -/
def fnExactReadRingCard : Claim7 := { stood := { row := fnExactReadRingRow, standIns := [], harness := (true, "ee0516fd665b962aa268ea54983159340e946149b8246f56f89a4ca195020d23"), looks := false }, kinds := [], alts := [], laidByText := true, laidKinds := [.data, .data, .data, .data, .pinned], laidTests := true, laidLooks := .later }
def FnExactReadRingCardSaid : Prop := Claim7.holds Tryd.pinned (.plain (OpenSpec.ofChange fnExactReadRingSpec)) fnExactReadRingCard

/-- THE SECOND FORM's CARD OF 'laws.FnExactReadRing'. -/
def fnExactReadRingUptoCard : Claim7 := { stood := { row := fnExactReadRingUptoRow, standIns := [], harness := (true, "ee0516fd665b962aa268ea54983159340e946149b8246f56f89a4ca195020d23"), looks := false }, kinds := [], alts := [], laidByText := true, laidKinds := [.data, .data, .data, .data, .pinned], laidTests := true, laidLooks := .later }
def FnExactReadRingUptoCardSaid : Prop := Claim7.holds Tryd.pinned (.plain (OpenSpec.upto fnExactReadRingSpec)) fnExactReadRingUptoCard
end Rows
end Go.Proofs.YthabgkbpghpokaaDoor
