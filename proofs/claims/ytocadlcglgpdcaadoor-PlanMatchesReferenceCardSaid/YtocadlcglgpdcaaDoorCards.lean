/-
  DERIVED. GIVEN WITH THE SEED: THE CARDS: each row of YtocadlcglgpdcaaDoorRows.lean that lists a variable, with what it lists TIED to the program's text (the seventh form; the later family's looks); each row that meets fmt, with fmt's text TOLD by the authors' own Lean function (tested against real Go, not proved from fmt's source: count such statements apart). THE CARD IS WHAT COUNTS. Prove the row's statement (the work); the ties are given (YtocadlcglgpdcaaDoorTie.lean); close each card by the builder's one call (the guide's Derived/Test/ToyasCard.lean, 'card_holds'). Laid BY PROGRAM, IN A SANDBOX (cutbox-door.mjs). By AI agents, Wed Nov 11 2026. No macro, syntax, notation, axiom, sorry.
-/
import Derived.Test.YtocadlcglgpdcaaDoorRows
import GoSem.ClaimSeven
namespace Go.Proofs.YtocadlcglgpdcaaDoor
namespace Rows

/-- THE TIED CARD OF 'foyerlaw06.PlanMatchesReference'. -/
def planMatchesReferenceCard : Claim7 := { stood := { row := planMatchesReferenceRow, standIns := [], harness := (true, "9193bc3e7ccb297a372ce82e06de20450237fec8e905eaafd33c960e9e0284a8"), looks := true }, kinds := [], alts := [], laidByText := true, laidKinds := [.data, .data, .data, .sentinel, .sentinel], laidTests := true, laidLooks := .later }
def PlanMatchesReferenceCardSaid : Prop := Claim7.holds Tryd.pinned (.plain (OpenSpec.ofChange planMatchesReferenceSpec)) planMatchesReferenceCard

/-- THE TIED CARD OF 'foyerlaw06.PlanGaps'. -/
def planGapsCard : Claim7 := { stood := { row := planGapsRow, standIns := [], harness := (true, "9193bc3e7ccb297a372ce82e06de20450237fec8e905eaafd33c960e9e0284a8"), looks := true }, kinds := [], alts := [], laidByText := true, laidKinds := [.data, .data, .data, .sentinel, .sentinel], laidTests := true, laidLooks := .later }
def PlanGapsCardSaid : Prop := Claim7.holds Tryd.pinned (.plain (OpenSpec.ofChange planGapsSpec)) planGapsCard

/-- THE TIED CARD OF 'foyerlaw06.PlanFirstError'. -/
def planFirstErrorCard : Claim7 := { stood := { row := planFirstErrorRow, standIns := [], harness := (true, "9193bc3e7ccb297a372ce82e06de20450237fec8e905eaafd33c960e9e0284a8"), looks := true }, kinds := [], alts := [], laidByText := true, laidKinds := [.data, .data, .data, .sentinel, .sentinel], laidTests := true, laidLooks := .later }
def PlanFirstErrorCardSaid : Prop := Claim7.holds Tryd.pinned (.plain (OpenSpec.ofChange planFirstErrorSpec)) planFirstErrorCard

/-- THE TIED CARD OF 'foyerlaw06.PlanOffsets'. -/
def planOffsetsCard : Claim7 := { stood := { row := planOffsetsRow, standIns := [], harness := (true, "9193bc3e7ccb297a372ce82e06de20450237fec8e905eaafd33c960e9e0284a8"), looks := true }, kinds := [], alts := [], laidByText := true, laidKinds := [.data, .data, .data, .sentinel, .sentinel], laidTests := true, laidLooks := .later }
def PlanOffsetsCardSaid : Prop := Claim7.holds Tryd.pinned (.plain (OpenSpec.ofChange planOffsetsSpec)) planOffsetsCard

/-- THE TIED CARD OF 'foyerlaw06.PlanLevels'. -/
def planLevelsCard : Claim7 := { stood := { row := planLevelsRow, standIns := [], harness := (true, "9193bc3e7ccb297a372ce82e06de20450237fec8e905eaafd33c960e9e0284a8"), looks := true }, kinds := [], alts := [], laidByText := true, laidKinds := [.data, .data, .data, .sentinel, .sentinel], laidTests := true, laidLooks := .later }
def PlanLevelsCardSaid : Prop := Claim7.holds Tryd.pinned (.plain (OpenSpec.ofChange planLevelsSpec)) planLevelsCard

/-- THE TIED CARD OF 'foyerlaw06.PlanSorts'. -/
def planSortsCard : Claim7 := { stood := { row := planSortsRow, standIns := [], harness := (true, "9193bc3e7ccb297a372ce82e06de20450237fec8e905eaafd33c960e9e0284a8"), looks := true }, kinds := [], alts := [], laidByText := true, laidKinds := [.data, .data, .data, .sentinel, .sentinel], laidTests := true, laidLooks := .later }
def PlanSortsCardSaid : Prop := Claim7.holds Tryd.pinned (.plain (OpenSpec.ofChange planSortsSpec)) planSortsCard

/-- THE SECOND FORM's CARD OF 'foyerlaw06.PlanMatchesReference'. -/
def planMatchesReferenceUptoCard : Claim7 := { stood := { row := planMatchesReferenceUptoRow, standIns := [], harness := (true, "9193bc3e7ccb297a372ce82e06de20450237fec8e905eaafd33c960e9e0284a8"), looks := true }, kinds := [], alts := [], laidByText := true, laidKinds := [.data, .data, .data, .sentinel, .sentinel], laidTests := true, laidLooks := .later }
def PlanMatchesReferenceUptoCardSaid : Prop := Claim7.holds Tryd.pinned (.plain (OpenSpec.upto planMatchesReferenceSpec)) planMatchesReferenceUptoCard

/-- THE SECOND FORM's CARD OF 'foyerlaw06.PlanGaps'. -/
def planGapsUptoCard : Claim7 := { stood := { row := planGapsUptoRow, standIns := [], harness := (true, "9193bc3e7ccb297a372ce82e06de20450237fec8e905eaafd33c960e9e0284a8"), looks := true }, kinds := [], alts := [], laidByText := true, laidKinds := [.data, .data, .data, .sentinel, .sentinel], laidTests := true, laidLooks := .later }
def PlanGapsUptoCardSaid : Prop := Claim7.holds Tryd.pinned (.plain (OpenSpec.upto planGapsSpec)) planGapsUptoCard

/-- THE SECOND FORM's CARD OF 'foyerlaw06.PlanFirstError'. -/
def planFirstErrorUptoCard : Claim7 := { stood := { row := planFirstErrorUptoRow, standIns := [], harness := (true, "9193bc3e7ccb297a372ce82e06de20450237fec8e905eaafd33c960e9e0284a8"), looks := true }, kinds := [], alts := [], laidByText := true, laidKinds := [.data, .data, .data, .sentinel, .sentinel], laidTests := true, laidLooks := .later }
def PlanFirstErrorUptoCardSaid : Prop := Claim7.holds Tryd.pinned (.plain (OpenSpec.upto planFirstErrorSpec)) planFirstErrorUptoCard

/-- THE SECOND FORM's CARD OF 'foyerlaw06.PlanOffsets'. -/
def planOffsetsUptoCard : Claim7 := { stood := { row := planOffsetsUptoRow, standIns := [], harness := (true, "9193bc3e7ccb297a372ce82e06de20450237fec8e905eaafd33c960e9e0284a8"), looks := true }, kinds := [], alts := [], laidByText := true, laidKinds := [.data, .data, .data, .sentinel, .sentinel], laidTests := true, laidLooks := .later }
def PlanOffsetsUptoCardSaid : Prop := Claim7.holds Tryd.pinned (.plain (OpenSpec.upto planOffsetsSpec)) planOffsetsUptoCard

/-- THE SECOND FORM's CARD OF 'foyerlaw06.PlanLevels'. -/
def planLevelsUptoCard : Claim7 := { stood := { row := planLevelsUptoRow, standIns := [], harness := (true, "9193bc3e7ccb297a372ce82e06de20450237fec8e905eaafd33c960e9e0284a8"), looks := true }, kinds := [], alts := [], laidByText := true, laidKinds := [.data, .data, .data, .sentinel, .sentinel], laidTests := true, laidLooks := .later }
def PlanLevelsUptoCardSaid : Prop := Claim7.holds Tryd.pinned (.plain (OpenSpec.upto planLevelsSpec)) planLevelsUptoCard

/-- THE SECOND FORM's CARD OF 'foyerlaw06.PlanSorts'. -/
def planSortsUptoCard : Claim7 := { stood := { row := planSortsUptoRow, standIns := [], harness := (true, "9193bc3e7ccb297a372ce82e06de20450237fec8e905eaafd33c960e9e0284a8"), looks := true }, kinds := [], alts := [], laidByText := true, laidKinds := [.data, .data, .data, .sentinel, .sentinel], laidTests := true, laidLooks := .later }
def PlanSortsUptoCardSaid : Prop := Claim7.holds Tryd.pinned (.plain (OpenSpec.upto planSortsSpec)) planSortsUptoCard
end Rows
end Go.Proofs.YtocadlcglgpdcaaDoor
