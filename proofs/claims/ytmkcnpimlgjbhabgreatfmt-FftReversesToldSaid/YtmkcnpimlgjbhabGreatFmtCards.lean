/-
  DERIVED. GIVEN WITH THE SEED: THE CARDS: each row of YtmkcnpimlgjbhabGreatFmtRows.lean that lists a variable, with what it lists TIED to the program's text (the seventh form; the later family's looks); each row that meets fmt, with fmt's text TOLD by the authors' own Lean function (tested against real Go, not proved from fmt's source: count such statements apart). THE CARD IS WHAT COUNTS. Prove the row's statement (the work); the ties are given (YtmkcnpimlgjbhabGreatFmtTie.lean); close each card by the builder's one call (the guide's Derived/Test/ToyasCard.lean, 'card_holds'). Laid BY PROGRAM, IN A SANDBOX (cutbox-door.mjs). By AI agents, Wed Nov 11 2026. No macro, syntax, notation, axiom, sorry.
-/
import Derived.Test.YtmkcnpimlgjbhabGreatFmtRows
import GoSem.ClaimSeven
namespace Go.Proofs.YtmkcnpimlgjbhabGreatFmt
namespace Rows

/-- THE TOLD AND TIED CARD OF 'quaverlaw09.FftReverses'. -/
def fftReversesCard : Claim7 := { stood := { row := fftReversesRow, standIns := [], harness := (true, "9d99aed88248de14a0e30b5fc97b40fd6a783409c3ced46e3c0831a6f86505e4"), looks := true }, told := true, laidByText := true, laidKinds := [.data, .data, .data, .data, .data, .data, .data], laidTests := true, laidLooks := .later, goes := false }
def FftReversesToldSaid : Prop := Claim7.holds Tryz.pinned (.plain (OpenSpec.ofChange fftReversesSpec)) fftReversesCard
/-- ITS FALSE NEIGHBOUR. Refute it at one input. -/
def FftReversesToldWrongFalsely : Prop := Claim7.holds Tryz.pinned (.plain (OpenSpec.ofChange fftReversesWrong)) fftReversesCard
end Rows
end Go.Proofs.YtmkcnpimlgjbhabGreatFmt
