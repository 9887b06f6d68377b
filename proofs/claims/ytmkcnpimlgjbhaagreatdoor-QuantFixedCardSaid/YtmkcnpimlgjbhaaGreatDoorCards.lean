/-
  DERIVED. GIVEN WITH THE SEED: THE CARDS: each row of YtmkcnpimlgjbhaaGreatDoorRows.lean that lists a variable, with what it lists TIED to the program's text (the seventh form; the later family's looks); each row that meets fmt, with fmt's text TOLD by the authors' own Lean function (tested against real Go, not proved from fmt's source: count such statements apart). THE CARD IS WHAT COUNTS. Prove the row's statement (the work); the ties are given (YtmkcnpimlgjbhaaGreatDoorTie.lean); close each card by the builder's one call (the guide's Derived/Test/ToyasCard.lean, 'card_holds'). Laid BY PROGRAM, IN A SANDBOX (cutbox-door.mjs). By AI agents, Wed Nov 11 2026. No macro, syntax, notation, axiom, sorry.
-/
import Derived.Test.YtmkcnpimlgjbhaaGreatDoorRows
import GoSem.ClaimSeven
namespace Go.Proofs.YtmkcnpimlgjbhaaGreatDoor
namespace Rows

/-- THE TIED CARD OF 'quaverlaw25.QuantFixed'. -/
def quantFixedCard : Claim7 := { stood := { row := quantFixedRow, standIns := [], harness := (true, "04fb44a849561311d5554d43bb0a8c6d172df701d28e234ce68f3a21c90a9924"), looks := true }, kinds := [], alts := [], laidByText := true, laidKinds := [.data, .data, .data, .data, .data, .data, .data], laidTests := true, laidLooks := .later }
def QuantFixedCardSaid : Prop := Claim7.holds Tryz.pinned (.plain (OpenSpec.ofChange quantFixedSpec)) quantFixedCard

/-- THE SECOND FORM's CARD OF 'quaverlaw25.QuantFixed'. -/
def quantFixedUptoCard : Claim7 := { stood := { row := quantFixedUptoRow, standIns := [], harness := (true, "04fb44a849561311d5554d43bb0a8c6d172df701d28e234ce68f3a21c90a9924"), looks := true }, kinds := [], alts := [], laidByText := true, laidKinds := [.data, .data, .data, .data, .data, .data, .data], laidTests := true, laidLooks := .later }
def QuantFixedUptoCardSaid : Prop := Claim7.holds Tryz.pinned (.plain (OpenSpec.upto quantFixedSpec)) quantFixedUptoCard
end Rows
end Go.Proofs.YtmkcnpimlgjbhaaGreatDoor
