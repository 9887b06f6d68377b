/-
  DERIVED. GIVEN WITH THE SEED: THE CARDS: each row of YtpamkblhdgjlcaaGreatDoorRows.lean that lists a variable, with what it lists TIED to the program's text (the seventh form; the later family's looks); each row that meets fmt, with fmt's text TOLD by the authors' own Lean function (tested against real Go, not proved from fmt's source: count such statements apart). THE CARD IS WHAT COUNTS. Prove the row's statement (the work); the ties are given (YtpamkblhdgjlcaaGreatDoorTie.lean); close each card by the builder's one call (the guide's Derived/Test/ToyasCard.lean, 'card_holds'). Laid BY PROGRAM, IN A SANDBOX (cutbox-door.mjs). By AI agents, Wed Nov 11 2026. No macro, syntax, notation, axiom, sorry.
-/
import Derived.Test.YtpamkblhdgjlcaaGreatDoorRows
import GoSem.ClaimSeven
namespace Go.Proofs.YtpamkblhdgjlcaaGreatDoor
namespace Rows

/-- THE TIED CARD OF 'quaverlaw25.QuantFixes'. -/
def quantFixesCard : Claim7 := { stood := { row := quantFixesRow, standIns := [], harness := (true, "a75af481dd1bbb1a71866b803dfb7f84df8f8cce9e43c696be35977b905a0e20"), looks := true }, kinds := [], alts := [], laidByText := true, laidKinds := [.data, .data, .data, .data, .data, .data, .data], laidTests := true, laidLooks := .later }
def QuantFixesCardSaid : Prop := Claim7.holds Tryz.pinned (.plain (OpenSpec.ofChange quantFixesSpec)) quantFixesCard

/-- THE SECOND FORM's CARD OF 'quaverlaw25.QuantFixes'. -/
def quantFixesUptoCard : Claim7 := { stood := { row := quantFixesUptoRow, standIns := [], harness := (true, "a75af481dd1bbb1a71866b803dfb7f84df8f8cce9e43c696be35977b905a0e20"), looks := true }, kinds := [], alts := [], laidByText := true, laidKinds := [.data, .data, .data, .data, .data, .data, .data], laidTests := true, laidLooks := .later }
def QuantFixesUptoCardSaid : Prop := Claim7.holds Tryz.pinned (.plain (OpenSpec.upto quantFixesSpec)) quantFixesUptoCard
end Rows
end Go.Proofs.YtpamkblhdgjlcaaGreatDoor
