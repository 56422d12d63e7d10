/-
  DERIVED. GIVEN WITH THE SEED: THE CARDS: each row of YtpmkgedlnanjiaaDoorRows.lean that lists a variable, with what it lists TIED to the program's text (the seventh form; the later family's looks); each row that meets fmt, with fmt's text TOLD by the authors' own Lean function (tested against real Go, not proved from fmt's source: count such statements apart). THE CARD IS WHAT COUNTS. Prove the row's statement (the work); the ties are given (YtpmkgedlnanjiaaDoorTie.lean); close each card by the builder's one call (the guide's Derived/Test/ToyasCard.lean, 'card_holds'). Laid BY PROGRAM, IN A SANDBOX (cutbox-door.mjs). By AI agents, Wed Nov 11 2026. No macro, syntax, notation, axiom, sorry.
-/
import Derived.Test.YtpmkgedlnanjiaaDoorRows
import GoSem.ClaimSeven
namespace Go.Proofs.YtpmkgedlnanjiaaDoor
namespace Rows

/-- THE TIED CARD OF 'foyerlaw44.JournalDurable'. -/
def journalDurableCard : Claim7 := { stood := { row := journalDurableRow, standIns := [], harness := (true, "e55dc65c90fa5f46b4f60b98c1b208331e30af892585b4f88a9dc32e66a1918b"), looks := true }, kinds := [], alts := [], laidByText := true, laidKinds := [.data, .data, .data, .sentinel, .sentinel, .data], laidTests := true, laidLooks := .later }
def JournalDurableCardSaid : Prop := Claim7.holds Tryd.pinned (.plain (OpenSpec.ofChange journalDurableSpec)) journalDurableCard

/-- THE TIED CARD OF 'foyerlaw44.JournalBroken'. -/
def journalBrokenCard : Claim7 := { stood := { row := journalBrokenRow, standIns := [], harness := (true, "e55dc65c90fa5f46b4f60b98c1b208331e30af892585b4f88a9dc32e66a1918b"), looks := true }, kinds := [], alts := [], laidByText := true, laidKinds := [.data, .data, .data, .sentinel, .sentinel, .data], laidTests := true, laidLooks := .later }
def JournalBrokenCardSaid : Prop := Claim7.holds Tryd.pinned (.plain (OpenSpec.ofChange journalBrokenSpec)) journalBrokenCard

/-- THE TIED CARD OF 'foyerlaw44.JournalForeign'. -/
def journalForeignCard : Claim7 := { stood := { row := journalForeignRow, standIns := [], harness := (true, "e55dc65c90fa5f46b4f60b98c1b208331e30af892585b4f88a9dc32e66a1918b"), looks := true }, kinds := [], alts := [], laidByText := true, laidKinds := [.data, .data, .data, .sentinel, .sentinel, .data], laidTests := true, laidLooks := .later }
def JournalForeignCardSaid : Prop := Claim7.holds Tryd.pinned (.plain (OpenSpec.ofChange journalForeignSpec)) journalForeignCard

/-- THE TIED CARD OF 'foyerlaw44.JournalDamaged'. -/
def journalDamagedCard : Claim7 := { stood := { row := journalDamagedRow, standIns := [], harness := (true, "e55dc65c90fa5f46b4f60b98c1b208331e30af892585b4f88a9dc32e66a1918b"), looks := true }, kinds := [], alts := [], laidByText := true, laidKinds := [.data, .data, .data, .sentinel, .sentinel, .data], laidTests := true, laidLooks := .later }
def JournalDamagedCardSaid : Prop := Claim7.holds Tryd.pinned (.plain (OpenSpec.ofChange journalDamagedSpec)) journalDamagedCard

/-- THE TIED CARD OF 'foyerlaw44.JournalAtomic'. -/
def journalAtomicCard : Claim7 := { stood := { row := journalAtomicRow, standIns := [], harness := (true, "e55dc65c90fa5f46b4f60b98c1b208331e30af892585b4f88a9dc32e66a1918b"), looks := true }, kinds := [], alts := [], laidByText := true, laidKinds := [.data, .data, .data, .sentinel, .sentinel, .data], laidTests := true, laidLooks := .later }
def JournalAtomicCardSaid : Prop := Claim7.holds Tryd.pinned (.plain (OpenSpec.ofChange journalAtomicSpec)) journalAtomicCard

/-- THE SECOND FORM's CARD OF 'foyerlaw44.JournalDurable'. -/
def journalDurableUptoCard : Claim7 := { stood := { row := journalDurableUptoRow, standIns := [], harness := (true, "e55dc65c90fa5f46b4f60b98c1b208331e30af892585b4f88a9dc32e66a1918b"), looks := true }, kinds := [], alts := [], laidByText := true, laidKinds := [.data, .data, .data, .sentinel, .sentinel, .data], laidTests := true, laidLooks := .later }
def JournalDurableUptoCardSaid : Prop := Claim7.holds Tryd.pinned (.plain (OpenSpec.upto journalDurableSpec)) journalDurableUptoCard

/-- THE SECOND FORM's CARD OF 'foyerlaw44.JournalBroken'. -/
def journalBrokenUptoCard : Claim7 := { stood := { row := journalBrokenUptoRow, standIns := [], harness := (true, "e55dc65c90fa5f46b4f60b98c1b208331e30af892585b4f88a9dc32e66a1918b"), looks := true }, kinds := [], alts := [], laidByText := true, laidKinds := [.data, .data, .data, .sentinel, .sentinel, .data], laidTests := true, laidLooks := .later }
def JournalBrokenUptoCardSaid : Prop := Claim7.holds Tryd.pinned (.plain (OpenSpec.upto journalBrokenSpec)) journalBrokenUptoCard

/-- THE SECOND FORM's CARD OF 'foyerlaw44.JournalForeign'. -/
def journalForeignUptoCard : Claim7 := { stood := { row := journalForeignUptoRow, standIns := [], harness := (true, "e55dc65c90fa5f46b4f60b98c1b208331e30af892585b4f88a9dc32e66a1918b"), looks := true }, kinds := [], alts := [], laidByText := true, laidKinds := [.data, .data, .data, .sentinel, .sentinel, .data], laidTests := true, laidLooks := .later }
def JournalForeignUptoCardSaid : Prop := Claim7.holds Tryd.pinned (.plain (OpenSpec.upto journalForeignSpec)) journalForeignUptoCard

/-- THE SECOND FORM's CARD OF 'foyerlaw44.JournalDamaged'. -/
def journalDamagedUptoCard : Claim7 := { stood := { row := journalDamagedUptoRow, standIns := [], harness := (true, "e55dc65c90fa5f46b4f60b98c1b208331e30af892585b4f88a9dc32e66a1918b"), looks := true }, kinds := [], alts := [], laidByText := true, laidKinds := [.data, .data, .data, .sentinel, .sentinel, .data], laidTests := true, laidLooks := .later }
def JournalDamagedUptoCardSaid : Prop := Claim7.holds Tryd.pinned (.plain (OpenSpec.upto journalDamagedSpec)) journalDamagedUptoCard

/-- THE SECOND FORM's CARD OF 'foyerlaw44.JournalAtomic'. -/
def journalAtomicUptoCard : Claim7 := { stood := { row := journalAtomicUptoRow, standIns := [], harness := (true, "e55dc65c90fa5f46b4f60b98c1b208331e30af892585b4f88a9dc32e66a1918b"), looks := true }, kinds := [], alts := [], laidByText := true, laidKinds := [.data, .data, .data, .sentinel, .sentinel, .data], laidTests := true, laidLooks := .later }
def JournalAtomicUptoCardSaid : Prop := Claim7.holds Tryd.pinned (.plain (OpenSpec.upto journalAtomicSpec)) journalAtomicUptoCard
end Rows
end Go.Proofs.YtpmkgedlnanjiaaDoor
