/-
  DERIVED. GIVEN WITH THE SEED: THE CARDS: each row of YtglepipfdmphhaaGreatDoorRows.lean that lists a variable, with what it lists TIED to the program's text (the seventh form; the later family's looks); each row that meets fmt, with fmt's text TOLD by the authors' own Lean function (tested against real Go, not proved from fmt's source: count such statements apart). THE CARD IS WHAT COUNTS. Prove the row's statement (the work); the ties are given (YtglepipfdmphhaaGreatDoorTie.lean); close each card by the builder's one call (the guide's Derived/Test/ToyasCard.lean, 'card_holds'). Laid BY PROGRAM, IN A SANDBOX (cutbox-door.mjs). By AI agents, Wed Nov 11 2026. No macro, syntax, notation, axiom, sorry.
-/
import Derived.Test.YtglepipfdmphhaaGreatDoorRows
import GoSem.ClaimSeven
namespace Go.Proofs.YtglepipfdmphhaaGreatDoor
namespace Rows

/-- THE TIED CARD OF 'foyerlaw08.PrinterHalls'. -/
def printerHallsCard : Claim7 := { stood := { row := printerHallsRow, standIns := [], harness := (true, "852fef2c3bcb62d76f30cfe56f89b32713f562c38d5f9e07eb573a04b780dfba"), looks := true }, kinds := [], alts := [], laidByText := true, laidKinds := [.data, .data, .data, .sentinel, .sentinel, .listed, .data], laidTests := true, laidLooks := .later }
def PrinterHallsCardSaid : Prop := Claim7.holds Tryz.pinned (.plain (OpenSpec.ofChange printerHallsSpec)) printerHallsCard

/-- THE TIED CARD OF 'foyerlaw08.PrinterAgain'. -/
def printerAgainCard : Claim7 := { stood := { row := printerAgainRow, standIns := [], harness := (true, "852fef2c3bcb62d76f30cfe56f89b32713f562c38d5f9e07eb573a04b780dfba"), looks := true }, kinds := [], alts := [], laidByText := true, laidKinds := [.data, .data, .data, .sentinel, .sentinel, .listed, .data], laidTests := true, laidLooks := .later }
def PrinterAgainCardSaid : Prop := Claim7.holds Tryz.pinned (.plain (OpenSpec.ofChange printerAgainSpec)) printerAgainCard

/-- THE SECOND FORM's CARD OF 'foyerlaw08.PrinterHalls'. -/
def printerHallsUptoCard : Claim7 := { stood := { row := printerHallsUptoRow, standIns := [], harness := (true, "852fef2c3bcb62d76f30cfe56f89b32713f562c38d5f9e07eb573a04b780dfba"), looks := true }, kinds := [], alts := [], laidByText := true, laidKinds := [.data, .data, .data, .sentinel, .sentinel, .listed, .data], laidTests := true, laidLooks := .later }
def PrinterHallsUptoCardSaid : Prop := Claim7.holds Tryz.pinned (.plain (OpenSpec.upto printerHallsSpec)) printerHallsUptoCard

/-- THE SECOND FORM's CARD OF 'foyerlaw08.PrinterAgain'. -/
def printerAgainUptoCard : Claim7 := { stood := { row := printerAgainUptoRow, standIns := [], harness := (true, "852fef2c3bcb62d76f30cfe56f89b32713f562c38d5f9e07eb573a04b780dfba"), looks := true }, kinds := [], alts := [], laidByText := true, laidKinds := [.data, .data, .data, .sentinel, .sentinel, .listed, .data], laidTests := true, laidLooks := .later }
def PrinterAgainUptoCardSaid : Prop := Claim7.holds Tryz.pinned (.plain (OpenSpec.upto printerAgainSpec)) printerAgainUptoCard
end Rows
end Go.Proofs.YtglepipfdmphhaaGreatDoor
