/-
  DERIVED. GIVEN WITH THE SEED: THE CARDS: each row of YtmfjebpefneboaaDoorRows.lean that lists a variable, with what it lists TIED to the program's text (the seventh form; the later family's looks); each row that meets fmt, with fmt's text TOLD by the authors' own Lean function (tested against real Go, not proved from fmt's source: count such statements apart). THE CARD IS WHAT COUNTS. Prove the row's statement (the work); the ties are given (YtmfjebpefneboaaDoorTie.lean); close each card by the builder's one call (the guide's Derived/Test/ToyasCard.lean, 'card_holds'). Laid BY PROGRAM, IN A SANDBOX (cutbox-door.mjs). By AI agents, Wed Nov 11 2026. No macro, syntax, notation, axiom, sorry.
-/
import Derived.Test.YtmfjebpefneboaaDoorRows
import GoSem.ClaimSeven
namespace Go.Proofs.YtmfjebpefneboaaDoor
namespace Rows

/-- THE TIED CARD OF 'foyerlaw07.RuleMatchesReference'. -/
def ruleMatchesReferenceCard : Claim7 := { stood := { row := ruleMatchesReferenceRow, standIns := [], harness := (true, "7b1fcb6a2c3a950b22acc558ddc9edf60222ead68a0f75aefb91e3767f0a8318"), looks := true }, kinds := [], alts := [], laidByText := true, laidKinds := [.data, .data, .data, .sentinel, .sentinel], laidTests := true, laidLooks := .later }
def RuleMatchesReferenceCardSaid : Prop := Claim7.holds Tryd.pinned (.plain (OpenSpec.ofChange ruleMatchesReferenceSpec)) ruleMatchesReferenceCard

/-- THE TIED CARD OF 'foyerlaw07.RuleJoins'. -/
def ruleJoinsCard : Claim7 := { stood := { row := ruleJoinsRow, standIns := [], harness := (true, "7b1fcb6a2c3a950b22acc558ddc9edf60222ead68a0f75aefb91e3767f0a8318"), looks := true }, kinds := [], alts := [], laidByText := true, laidKinds := [.data, .data, .data, .sentinel, .sentinel], laidTests := true, laidLooks := .later }
def RuleJoinsCardSaid : Prop := Claim7.holds Tryd.pinned (.plain (OpenSpec.ofChange ruleJoinsSpec)) ruleJoinsCard

/-- THE TIED CARD OF 'foyerlaw07.RuleGaps'. -/
def ruleGapsCard : Claim7 := { stood := { row := ruleGapsRow, standIns := [], harness := (true, "7b1fcb6a2c3a950b22acc558ddc9edf60222ead68a0f75aefb91e3767f0a8318"), looks := true }, kinds := [], alts := [], laidByText := true, laidKinds := [.data, .data, .data, .sentinel, .sentinel], laidTests := true, laidLooks := .later }
def RuleGapsCardSaid : Prop := Claim7.holds Tryd.pinned (.plain (OpenSpec.ofChange ruleGapsSpec)) ruleGapsCard

/-- THE TIED CARD OF 'foyerlaw07.RuleOffsets'. -/
def ruleOffsetsCard : Claim7 := { stood := { row := ruleOffsetsRow, standIns := [], harness := (true, "7b1fcb6a2c3a950b22acc558ddc9edf60222ead68a0f75aefb91e3767f0a8318"), looks := true }, kinds := [], alts := [], laidByText := true, laidKinds := [.data, .data, .data, .sentinel, .sentinel], laidTests := true, laidLooks := .later }
def RuleOffsetsCardSaid : Prop := Claim7.holds Tryd.pinned (.plain (OpenSpec.ofChange ruleOffsetsSpec)) ruleOffsetsCard

/-- THE TIED CARD OF 'foyerlaw07.RuleErrors'. -/
def ruleErrorsCard : Claim7 := { stood := { row := ruleErrorsRow, standIns := [], harness := (true, "7b1fcb6a2c3a950b22acc558ddc9edf60222ead68a0f75aefb91e3767f0a8318"), looks := true }, kinds := [], alts := [], laidByText := true, laidKinds := [.data, .data, .data, .sentinel, .sentinel], laidTests := true, laidLooks := .later }
def RuleErrorsCardSaid : Prop := Claim7.holds Tryd.pinned (.plain (OpenSpec.ofChange ruleErrorsSpec)) ruleErrorsCard

/-- THE TIED CARD OF 'foyerlaw07.RuleLeaves'. -/
def ruleLeavesCard : Claim7 := { stood := { row := ruleLeavesRow, standIns := [], harness := (true, "7b1fcb6a2c3a950b22acc558ddc9edf60222ead68a0f75aefb91e3767f0a8318"), looks := true }, kinds := [], alts := [], laidByText := true, laidKinds := [.data, .data, .data, .sentinel, .sentinel], laidTests := true, laidLooks := .later }
def RuleLeavesCardSaid : Prop := Claim7.holds Tryd.pinned (.plain (OpenSpec.ofChange ruleLeavesSpec)) ruleLeavesCard

/-- THE TIED CARD OF 'foyerlaw07.RuleAlternatives'. -/
def ruleAlternativesCard : Claim7 := { stood := { row := ruleAlternativesRow, standIns := [], harness := (true, "7b1fcb6a2c3a950b22acc558ddc9edf60222ead68a0f75aefb91e3767f0a8318"), looks := true }, kinds := [], alts := [], laidByText := true, laidKinds := [.data, .data, .data, .sentinel, .sentinel], laidTests := true, laidLooks := .later }
def RuleAlternativesCardSaid : Prop := Claim7.holds Tryd.pinned (.plain (OpenSpec.ofChange ruleAlternativesSpec)) ruleAlternativesCard

/-- THE SECOND FORM's CARD OF 'foyerlaw07.RuleMatchesReference'. -/
def ruleMatchesReferenceUptoCard : Claim7 := { stood := { row := ruleMatchesReferenceUptoRow, standIns := [], harness := (true, "7b1fcb6a2c3a950b22acc558ddc9edf60222ead68a0f75aefb91e3767f0a8318"), looks := true }, kinds := [], alts := [], laidByText := true, laidKinds := [.data, .data, .data, .sentinel, .sentinel], laidTests := true, laidLooks := .later }
def RuleMatchesReferenceUptoCardSaid : Prop := Claim7.holds Tryd.pinned (.plain (OpenSpec.upto ruleMatchesReferenceSpec)) ruleMatchesReferenceUptoCard

/-- THE SECOND FORM's CARD OF 'foyerlaw07.RuleJoins'. -/
def ruleJoinsUptoCard : Claim7 := { stood := { row := ruleJoinsUptoRow, standIns := [], harness := (true, "7b1fcb6a2c3a950b22acc558ddc9edf60222ead68a0f75aefb91e3767f0a8318"), looks := true }, kinds := [], alts := [], laidByText := true, laidKinds := [.data, .data, .data, .sentinel, .sentinel], laidTests := true, laidLooks := .later }
def RuleJoinsUptoCardSaid : Prop := Claim7.holds Tryd.pinned (.plain (OpenSpec.upto ruleJoinsSpec)) ruleJoinsUptoCard

/-- THE SECOND FORM's CARD OF 'foyerlaw07.RuleGaps'. -/
def ruleGapsUptoCard : Claim7 := { stood := { row := ruleGapsUptoRow, standIns := [], harness := (true, "7b1fcb6a2c3a950b22acc558ddc9edf60222ead68a0f75aefb91e3767f0a8318"), looks := true }, kinds := [], alts := [], laidByText := true, laidKinds := [.data, .data, .data, .sentinel, .sentinel], laidTests := true, laidLooks := .later }
def RuleGapsUptoCardSaid : Prop := Claim7.holds Tryd.pinned (.plain (OpenSpec.upto ruleGapsSpec)) ruleGapsUptoCard

/-- THE SECOND FORM's CARD OF 'foyerlaw07.RuleOffsets'. -/
def ruleOffsetsUptoCard : Claim7 := { stood := { row := ruleOffsetsUptoRow, standIns := [], harness := (true, "7b1fcb6a2c3a950b22acc558ddc9edf60222ead68a0f75aefb91e3767f0a8318"), looks := true }, kinds := [], alts := [], laidByText := true, laidKinds := [.data, .data, .data, .sentinel, .sentinel], laidTests := true, laidLooks := .later }
def RuleOffsetsUptoCardSaid : Prop := Claim7.holds Tryd.pinned (.plain (OpenSpec.upto ruleOffsetsSpec)) ruleOffsetsUptoCard

/-- THE SECOND FORM's CARD OF 'foyerlaw07.RuleErrors'. -/
def ruleErrorsUptoCard : Claim7 := { stood := { row := ruleErrorsUptoRow, standIns := [], harness := (true, "7b1fcb6a2c3a950b22acc558ddc9edf60222ead68a0f75aefb91e3767f0a8318"), looks := true }, kinds := [], alts := [], laidByText := true, laidKinds := [.data, .data, .data, .sentinel, .sentinel], laidTests := true, laidLooks := .later }
def RuleErrorsUptoCardSaid : Prop := Claim7.holds Tryd.pinned (.plain (OpenSpec.upto ruleErrorsSpec)) ruleErrorsUptoCard

/-- THE SECOND FORM's CARD OF 'foyerlaw07.RuleLeaves'. -/
def ruleLeavesUptoCard : Claim7 := { stood := { row := ruleLeavesUptoRow, standIns := [], harness := (true, "7b1fcb6a2c3a950b22acc558ddc9edf60222ead68a0f75aefb91e3767f0a8318"), looks := true }, kinds := [], alts := [], laidByText := true, laidKinds := [.data, .data, .data, .sentinel, .sentinel], laidTests := true, laidLooks := .later }
def RuleLeavesUptoCardSaid : Prop := Claim7.holds Tryd.pinned (.plain (OpenSpec.upto ruleLeavesSpec)) ruleLeavesUptoCard

/-- THE SECOND FORM's CARD OF 'foyerlaw07.RuleAlternatives'. -/
def ruleAlternativesUptoCard : Claim7 := { stood := { row := ruleAlternativesUptoRow, standIns := [], harness := (true, "7b1fcb6a2c3a950b22acc558ddc9edf60222ead68a0f75aefb91e3767f0a8318"), looks := true }, kinds := [], alts := [], laidByText := true, laidKinds := [.data, .data, .data, .sentinel, .sentinel], laidTests := true, laidLooks := .later }
def RuleAlternativesUptoCardSaid : Prop := Claim7.holds Tryd.pinned (.plain (OpenSpec.upto ruleAlternativesSpec)) ruleAlternativesUptoCard
end Rows
end Go.Proofs.YtmfjebpefneboaaDoor
