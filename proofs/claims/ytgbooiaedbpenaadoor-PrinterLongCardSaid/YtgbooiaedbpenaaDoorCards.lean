/-
  DERIVED. GIVEN WITH THE SEED: THE CARDS: each row of YtgbooiaedbpenaaDoorRows.lean that lists a variable, with what it lists TIED to the program's text (the seventh form; the later family's looks); each row that meets fmt, with fmt's text TOLD by the authors' own Lean function (tested against real Go, not proved from fmt's source: count such statements apart). THE CARD IS WHAT COUNTS. Prove the row's statement (the work); the ties are given (YtgbooiaedbpenaaDoorTie.lean); close each card by the builder's one call (the guide's Derived/Test/ToyasCard.lean, 'card_holds'). Laid BY PROGRAM, IN A SANDBOX (cutbox-door.mjs). By AI agents, Wed Nov 11 2026. No macro, syntax, notation, axiom, sorry.
-/
import Derived.Test.YtgbooiaedbpenaaDoorRows
import GoSem.ClaimSeven
namespace Go.Proofs.YtgbooiaedbpenaaDoor
namespace Rows

/-- THE TIED CARD OF 'foyerlaw08.PrinterMatchesReference'. -/
def printerMatchesReferenceCard : Claim7 := { stood := { row := printerMatchesReferenceRow, standIns := [], harness := (true, "1e75903b0eab4aff35e490b616109985a38026fe0aeea756f908b295fcc56a2d"), looks := false }, kinds := [], alts := [], laidByText := true, laidKinds := [.data, .data, .data, .listed, .data], laidTests := true, laidLooks := .later }
def PrinterMatchesReferenceCardSaid : Prop := Claim7.holds Tryd.pinned (.plain (OpenSpec.ofChange printerMatchesReferenceSpec)) printerMatchesReferenceCard

/-- THE TIED CARD OF 'foyerlaw08.PrinterLong'. -/
def printerLongCard : Claim7 := { stood := { row := printerLongRow, standIns := [], harness := (true, "1e75903b0eab4aff35e490b616109985a38026fe0aeea756f908b295fcc56a2d"), looks := false }, kinds := [], alts := [], laidByText := true, laidKinds := [.data, .data, .data, .listed, .data], laidTests := true, laidLooks := .later }
def PrinterLongCardSaid : Prop := Claim7.holds Tryd.pinned (.plain (OpenSpec.ofChange printerLongSpec)) printerLongCard

/-- THE TIED CARD OF 'foyerlaw08.PrinterLines'. -/
def printerLinesCard : Claim7 := { stood := { row := printerLinesRow, standIns := [], harness := (true, "1e75903b0eab4aff35e490b616109985a38026fe0aeea756f908b295fcc56a2d"), looks := false }, kinds := [], alts := [], laidByText := true, laidKinds := [.data, .data, .data, .listed, .data], laidTests := true, laidLooks := .later }
def PrinterLinesCardSaid : Prop := Claim7.holds Tryd.pinned (.plain (OpenSpec.ofChange printerLinesSpec)) printerLinesCard

/-- THE TIED CARD OF 'foyerlaw08.PrinterEqual'. -/
def printerEqualCard : Claim7 := { stood := { row := printerEqualRow, standIns := [], harness := (true, "1e75903b0eab4aff35e490b616109985a38026fe0aeea756f908b295fcc56a2d"), looks := false }, kinds := [], alts := [], laidByText := true, laidKinds := [.data, .data, .data, .listed, .data], laidTests := true, laidLooks := .later }
def PrinterEqualCardSaid : Prop := Claim7.holds Tryd.pinned (.plain (OpenSpec.ofChange printerEqualSpec)) printerEqualCard

/-- THE TIED CARD OF 'foyerlaw08.PrinterRefuses'. -/
def printerRefusesCard : Claim7 := { stood := { row := printerRefusesRow, standIns := [], harness := (true, "1e75903b0eab4aff35e490b616109985a38026fe0aeea756f908b295fcc56a2d"), looks := false }, kinds := [], alts := [], laidByText := true, laidKinds := [.data, .data, .data, .listed, .data], laidTests := true, laidLooks := .later }
def PrinterRefusesCardSaid : Prop := Claim7.holds Tryd.pinned (.plain (OpenSpec.ofChange printerRefusesSpec)) printerRefusesCard

/-- THE SECOND FORM's CARD OF 'foyerlaw08.PrinterMatchesReference'. -/
def printerMatchesReferenceUptoCard : Claim7 := { stood := { row := printerMatchesReferenceUptoRow, standIns := [], harness := (true, "1e75903b0eab4aff35e490b616109985a38026fe0aeea756f908b295fcc56a2d"), looks := false }, kinds := [], alts := [], laidByText := true, laidKinds := [.data, .data, .data, .listed, .data], laidTests := true, laidLooks := .later }
def PrinterMatchesReferenceUptoCardSaid : Prop := Claim7.holds Tryd.pinned (.plain (OpenSpec.upto printerMatchesReferenceSpec)) printerMatchesReferenceUptoCard

/-- THE SECOND FORM's CARD OF 'foyerlaw08.PrinterLong'. -/
def printerLongUptoCard : Claim7 := { stood := { row := printerLongUptoRow, standIns := [], harness := (true, "1e75903b0eab4aff35e490b616109985a38026fe0aeea756f908b295fcc56a2d"), looks := false }, kinds := [], alts := [], laidByText := true, laidKinds := [.data, .data, .data, .listed, .data], laidTests := true, laidLooks := .later }
def PrinterLongUptoCardSaid : Prop := Claim7.holds Tryd.pinned (.plain (OpenSpec.upto printerLongSpec)) printerLongUptoCard

/-- THE SECOND FORM's CARD OF 'foyerlaw08.PrinterLines'. -/
def printerLinesUptoCard : Claim7 := { stood := { row := printerLinesUptoRow, standIns := [], harness := (true, "1e75903b0eab4aff35e490b616109985a38026fe0aeea756f908b295fcc56a2d"), looks := false }, kinds := [], alts := [], laidByText := true, laidKinds := [.data, .data, .data, .listed, .data], laidTests := true, laidLooks := .later }
def PrinterLinesUptoCardSaid : Prop := Claim7.holds Tryd.pinned (.plain (OpenSpec.upto printerLinesSpec)) printerLinesUptoCard

/-- THE SECOND FORM's CARD OF 'foyerlaw08.PrinterEqual'. -/
def printerEqualUptoCard : Claim7 := { stood := { row := printerEqualUptoRow, standIns := [], harness := (true, "1e75903b0eab4aff35e490b616109985a38026fe0aeea756f908b295fcc56a2d"), looks := false }, kinds := [], alts := [], laidByText := true, laidKinds := [.data, .data, .data, .listed, .data], laidTests := true, laidLooks := .later }
def PrinterEqualUptoCardSaid : Prop := Claim7.holds Tryd.pinned (.plain (OpenSpec.upto printerEqualSpec)) printerEqualUptoCard

/-- THE SECOND FORM's CARD OF 'foyerlaw08.PrinterRefuses'. -/
def printerRefusesUptoCard : Claim7 := { stood := { row := printerRefusesUptoRow, standIns := [], harness := (true, "1e75903b0eab4aff35e490b616109985a38026fe0aeea756f908b295fcc56a2d"), looks := false }, kinds := [], alts := [], laidByText := true, laidKinds := [.data, .data, .data, .listed, .data], laidTests := true, laidLooks := .later }
def PrinterRefusesUptoCardSaid : Prop := Claim7.holds Tryd.pinned (.plain (OpenSpec.upto printerRefusesSpec)) printerRefusesUptoCard
end Rows
end Go.Proofs.YtgbooiaedbpenaaDoor
