/-
  DERIVED. GIVEN WITH THE SEED: THE CARDS: each row of YtpmkgedlnanjiaaGreatDoorRows.lean that lists a variable, with what it lists TIED to the program's text (the seventh form; the later family's looks); each row that meets fmt, with fmt's text TOLD by the authors' own Lean function (tested against real Go, not proved from fmt's source: count such statements apart). THE CARD IS WHAT COUNTS. Prove the row's statement (the work); the ties are given (YtpmkgedlnanjiaaGreatDoorTie.lean); close each card by the builder's one call (the guide's Derived/Test/ToyasCard.lean, 'card_holds'). Laid BY PROGRAM, IN A SANDBOX (cutbox-door.mjs). By AI agents, Wed Nov 11 2026. No macro, syntax, notation, axiom, sorry.
-/
import Derived.Test.YtpmkgedlnanjiaaGreatDoorRows
import GoSem.ClaimSeven
namespace Go.Proofs.YtpmkgedlnanjiaaGreatDoor
namespace Rows

/-- THE TIED CARD OF 'foyerlaw44.JournalRoom'. -/
def journalRoomCard : Claim7 := { stood := { row := journalRoomRow, standIns := [], harness := (true, "eb81269d0448d3c37dd0916eec72cf1b685c46e6b7ce2bc906f20a1ab37777c0"), looks := true }, kinds := [], alts := [], laidByText := true, laidKinds := [.data, .data, .data, .sentinel, .sentinel, .data], laidTests := true, laidLooks := .later }
def JournalRoomCardSaid : Prop := Claim7.holds Tryz.pinned (.plain (OpenSpec.ofChange journalRoomSpec)) journalRoomCard

/-- THE TIED CARD OF 'foyerlaw44.JournalMatchesReference'. -/
def journalMatchesReferenceCard : Claim7 := { stood := { row := journalMatchesReferenceRow, standIns := [], harness := (true, "eb81269d0448d3c37dd0916eec72cf1b685c46e6b7ce2bc906f20a1ab37777c0"), looks := true }, kinds := [], alts := [], laidByText := true, laidKinds := [.data, .data, .data, .sentinel, .sentinel, .data], laidTests := true, laidLooks := .later }
def JournalMatchesReferenceCardSaid : Prop := Claim7.holds Tryz.pinned (.plain (OpenSpec.ofChange journalMatchesReferenceSpec)) journalMatchesReferenceCard

/-- THE SECOND FORM's CARD OF 'foyerlaw44.JournalRoom'. -/
def journalRoomUptoCard : Claim7 := { stood := { row := journalRoomUptoRow, standIns := [], harness := (true, "eb81269d0448d3c37dd0916eec72cf1b685c46e6b7ce2bc906f20a1ab37777c0"), looks := true }, kinds := [], alts := [], laidByText := true, laidKinds := [.data, .data, .data, .sentinel, .sentinel, .data], laidTests := true, laidLooks := .later }
def JournalRoomUptoCardSaid : Prop := Claim7.holds Tryz.pinned (.plain (OpenSpec.upto journalRoomSpec)) journalRoomUptoCard

/-- THE SECOND FORM's CARD OF 'foyerlaw44.JournalMatchesReference'. -/
def journalMatchesReferenceUptoCard : Claim7 := { stood := { row := journalMatchesReferenceUptoRow, standIns := [], harness := (true, "eb81269d0448d3c37dd0916eec72cf1b685c46e6b7ce2bc906f20a1ab37777c0"), looks := true }, kinds := [], alts := [], laidByText := true, laidKinds := [.data, .data, .data, .sentinel, .sentinel, .data], laidTests := true, laidLooks := .later }
def JournalMatchesReferenceUptoCardSaid : Prop := Claim7.holds Tryz.pinned (.plain (OpenSpec.upto journalMatchesReferenceSpec)) journalMatchesReferenceUptoCard
end Rows
end Go.Proofs.YtpmkgedlnanjiaaGreatDoor
