/-
  DERIVED. GIVEN WITH THE SEED: THE CARDS: each row of YtpeehlflhnhhjaaDoorRows.lean that lists a variable, with what it lists TIED to the program's text (the seventh form; the later family's looks); each row that meets fmt, with fmt's text TOLD by the authors' own Lean function (tested against real Go, not proved from fmt's source: count such statements apart). THE CARD IS WHAT COUNTS. Prove the row's statement (the work); the ties are given (YtpeehlflhnhhjaaDoorTie.lean); close each card by the builder's one call (the guide's Derived/Test/ToyasCard.lean, 'card_holds'). Laid BY PROGRAM, IN A SANDBOX (cutbox-door.mjs). By AI agents, Wed Nov 11 2026. No macro, syntax, notation, axiom, sorry.
-/
import Derived.Test.YtpeehlflhnhhjaaDoorRows
import GoSem.ClaimSeven
namespace Go.Proofs.YtpeehlflhnhhjaaDoor
namespace Rows

/-- THE TIED CARD OF 'foyerlaw04.TreeMatchesReference'. -/
def treeMatchesReferenceCard : Claim7 := { stood := { row := treeMatchesReferenceRow, standIns := [], harness := (true, "589d19026e15b91eb72de41e7855e3b6c682540073c3afe0793c63af031ca424"), looks := false }, kinds := [], alts := [], laidByText := true, laidKinds := [.data, .data, .data, .data], laidTests := true, laidLooks := .later }
def TreeMatchesReferenceCardSaid : Prop := Claim7.holds Tryd.pinned (.plain (OpenSpec.ofChange treeMatchesReferenceSpec)) treeMatchesReferenceCard

/-- THE TIED CARD OF 'foyerlaw04.TreeComplete'. -/
def treeCompleteCard : Claim7 := { stood := { row := treeCompleteRow, standIns := [], harness := (true, "589d19026e15b91eb72de41e7855e3b6c682540073c3afe0793c63af031ca424"), looks := false }, kinds := [], alts := [], laidByText := true, laidKinds := [.data, .data, .data, .data], laidTests := true, laidLooks := .later }
def TreeCompleteCardSaid : Prop := Claim7.holds Tryd.pinned (.plain (OpenSpec.ofChange treeCompleteSpec)) treeCompleteCard

/-- THE TIED CARD OF 'foyerlaw04.TreeSound'. -/
def treeSoundCard : Claim7 := { stood := { row := treeSoundRow, standIns := [], harness := (true, "589d19026e15b91eb72de41e7855e3b6c682540073c3afe0793c63af031ca424"), looks := false }, kinds := [], alts := [], laidByText := true, laidKinds := [.data, .data, .data, .data], laidTests := true, laidLooks := .later }
def TreeSoundCardSaid : Prop := Claim7.holds Tryd.pinned (.plain (OpenSpec.ofChange treeSoundSpec)) treeSoundCard

/-- THE TIED CARD OF 'foyerlaw04.TreeDiffers'. -/
def treeDiffersCard : Claim7 := { stood := { row := treeDiffersRow, standIns := [], harness := (true, "589d19026e15b91eb72de41e7855e3b6c682540073c3afe0793c63af031ca424"), looks := false }, kinds := [], alts := [], laidByText := true, laidKinds := [.data, .data, .data, .data], laidTests := true, laidLooks := .later }
def TreeDiffersCardSaid : Prop := Claim7.holds Tryd.pinned (.plain (OpenSpec.ofChange treeDiffersSpec)) treeDiffersCard

/-- THE TIED CARD OF 'foyerlaw04.TreeParts'. -/
def treePartsCard : Claim7 := { stood := { row := treePartsRow, standIns := [], harness := (true, "589d19026e15b91eb72de41e7855e3b6c682540073c3afe0793c63af031ca424"), looks := false }, kinds := [], alts := [], laidByText := true, laidKinds := [.data, .data, .data, .data], laidTests := true, laidLooks := .later }
def TreePartsCardSaid : Prop := Claim7.holds Tryd.pinned (.plain (OpenSpec.ofChange treePartsSpec)) treePartsCard

/-- THE TIED CARD OF 'foyerlaw04.TreeRefuses'. -/
def treeRefusesCard : Claim7 := { stood := { row := treeRefusesRow, standIns := [], harness := (true, "589d19026e15b91eb72de41e7855e3b6c682540073c3afe0793c63af031ca424"), looks := false }, kinds := [], alts := [], laidByText := true, laidKinds := [.data, .data, .data, .data], laidTests := true, laidLooks := .later }
def TreeRefusesCardSaid : Prop := Claim7.holds Tryd.pinned (.plain (OpenSpec.ofChange treeRefusesSpec)) treeRefusesCard

/-- THE SECOND FORM's CARD OF 'foyerlaw04.TreeMatchesReference'. -/
def treeMatchesReferenceUptoCard : Claim7 := { stood := { row := treeMatchesReferenceUptoRow, standIns := [], harness := (true, "589d19026e15b91eb72de41e7855e3b6c682540073c3afe0793c63af031ca424"), looks := false }, kinds := [], alts := [], laidByText := true, laidKinds := [.data, .data, .data, .data], laidTests := true, laidLooks := .later }
def TreeMatchesReferenceUptoCardSaid : Prop := Claim7.holds Tryd.pinned (.plain (OpenSpec.upto treeMatchesReferenceSpec)) treeMatchesReferenceUptoCard

/-- THE SECOND FORM's CARD OF 'foyerlaw04.TreeComplete'. -/
def treeCompleteUptoCard : Claim7 := { stood := { row := treeCompleteUptoRow, standIns := [], harness := (true, "589d19026e15b91eb72de41e7855e3b6c682540073c3afe0793c63af031ca424"), looks := false }, kinds := [], alts := [], laidByText := true, laidKinds := [.data, .data, .data, .data], laidTests := true, laidLooks := .later }
def TreeCompleteUptoCardSaid : Prop := Claim7.holds Tryd.pinned (.plain (OpenSpec.upto treeCompleteSpec)) treeCompleteUptoCard

/-- THE SECOND FORM's CARD OF 'foyerlaw04.TreeSound'. -/
def treeSoundUptoCard : Claim7 := { stood := { row := treeSoundUptoRow, standIns := [], harness := (true, "589d19026e15b91eb72de41e7855e3b6c682540073c3afe0793c63af031ca424"), looks := false }, kinds := [], alts := [], laidByText := true, laidKinds := [.data, .data, .data, .data], laidTests := true, laidLooks := .later }
def TreeSoundUptoCardSaid : Prop := Claim7.holds Tryd.pinned (.plain (OpenSpec.upto treeSoundSpec)) treeSoundUptoCard

/-- THE SECOND FORM's CARD OF 'foyerlaw04.TreeDiffers'. -/
def treeDiffersUptoCard : Claim7 := { stood := { row := treeDiffersUptoRow, standIns := [], harness := (true, "589d19026e15b91eb72de41e7855e3b6c682540073c3afe0793c63af031ca424"), looks := false }, kinds := [], alts := [], laidByText := true, laidKinds := [.data, .data, .data, .data], laidTests := true, laidLooks := .later }
def TreeDiffersUptoCardSaid : Prop := Claim7.holds Tryd.pinned (.plain (OpenSpec.upto treeDiffersSpec)) treeDiffersUptoCard

/-- THE SECOND FORM's CARD OF 'foyerlaw04.TreeParts'. -/
def treePartsUptoCard : Claim7 := { stood := { row := treePartsUptoRow, standIns := [], harness := (true, "589d19026e15b91eb72de41e7855e3b6c682540073c3afe0793c63af031ca424"), looks := false }, kinds := [], alts := [], laidByText := true, laidKinds := [.data, .data, .data, .data], laidTests := true, laidLooks := .later }
def TreePartsUptoCardSaid : Prop := Claim7.holds Tryd.pinned (.plain (OpenSpec.upto treePartsSpec)) treePartsUptoCard

/-- THE SECOND FORM's CARD OF 'foyerlaw04.TreeRefuses'. -/
def treeRefusesUptoCard : Claim7 := { stood := { row := treeRefusesUptoRow, standIns := [], harness := (true, "589d19026e15b91eb72de41e7855e3b6c682540073c3afe0793c63af031ca424"), looks := false }, kinds := [], alts := [], laidByText := true, laidKinds := [.data, .data, .data, .data], laidTests := true, laidLooks := .later }
def TreeRefusesUptoCardSaid : Prop := Claim7.holds Tryd.pinned (.plain (OpenSpec.upto treeRefusesSpec)) treeRefusesUptoCard
end Rows
end Go.Proofs.YtpeehlflhnhhjaaDoor
