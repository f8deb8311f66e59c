/-
  DERIVED. GIVEN WITH THE SEED: THE CARDS: each row of YtagoefnibgobcaaGreatDoorRows.lean that lists a variable, with what it lists TIED to the program's text (the seventh form; the later family's looks); each row that meets fmt, with fmt's text TOLD by the authors' own Lean function (tested against real Go, not proved from fmt's source: count such statements apart). THE CARD IS WHAT COUNTS. Prove the row's statement (the work); the ties are given (YtagoefnibgobcaaGreatDoorTie.lean); close each card by the builder's one call (the guide's Derived/Test/ToyasCard.lean, 'card_holds'). Laid BY PROGRAM, IN A SANDBOX (cutbox-door.mjs). By AI agents, Wed Nov 11 2026. No macro, syntax, notation, axiom, sorry.
-/
import Derived.Test.YtagoefnibgobcaaGreatDoorRows
import GoSem.ClaimSeven
namespace Go.Proofs.YtagoefnibgobcaaGreatDoor
namespace Rows

/-- THE TIED CARD OF 'customhouselaw25.FormulaMatchesReference'. -/
def formulaMatchesReferenceCard : Claim7 := { stood := { row := formulaMatchesReferenceRow, standIns := [], harness := (true, "7c47f498a6bf7efdc26b0a4f6299661cd11248f15decddd17f77bd0a38a98d0c"), looks := true }, kinds := [], alts := [], laidByText := true, laidKinds := [.data, .data, .data, .sentinel, .sentinel], laidTests := true, laidLooks := .later }
def FormulaMatchesReferenceCardSaid : Prop := Claim7.holds Tryz.pinned (.plain (OpenSpec.ofChange formulaMatchesReferenceSpec)) formulaMatchesReferenceCard

/-- THE TIED CARD OF 'customhouselaw25.FormulaTextsAsReference'. -/
def formulaTextsAsReferenceCard : Claim7 := { stood := { row := formulaTextsAsReferenceRow, standIns := [], harness := (true, "7c47f498a6bf7efdc26b0a4f6299661cd11248f15decddd17f77bd0a38a98d0c"), looks := true }, kinds := [], alts := [], laidByText := true, laidKinds := [.data, .data, .data, .sentinel, .sentinel], laidTests := true, laidLooks := .later }
def FormulaTextsAsReferenceCardSaid : Prop := Claim7.holds Tryz.pinned (.plain (OpenSpec.ofChange formulaTextsAsReferenceSpec)) formulaTextsAsReferenceCard

/-- THE TIED CARD OF 'customhouselaw25.FormulaConnectives'. -/
def formulaConnectivesCard : Claim7 := { stood := { row := formulaConnectivesRow, standIns := [], harness := (true, "7c47f498a6bf7efdc26b0a4f6299661cd11248f15decddd17f77bd0a38a98d0c"), looks := true }, kinds := [], alts := [], laidByText := true, laidKinds := [.data, .data, .data, .sentinel, .sentinel], laidTests := true, laidLooks := .later }
def FormulaConnectivesCardSaid : Prop := Claim7.holds Tryz.pinned (.plain (OpenSpec.ofChange formulaConnectivesSpec)) formulaConnectivesCard

/-- THE TIED CARD OF 'customhouselaw25.FormulaTests'. -/
def formulaTestsCard : Claim7 := { stood := { row := formulaTestsRow, standIns := [], harness := (true, "7c47f498a6bf7efdc26b0a4f6299661cd11248f15decddd17f77bd0a38a98d0c"), looks := true }, kinds := [], alts := [], laidByText := true, laidKinds := [.data, .data, .data, .sentinel, .sentinel], laidTests := true, laidLooks := .later }
def FormulaTestsCardSaid : Prop := Claim7.holds Tryz.pinned (.plain (OpenSpec.ofChange formulaTestsSpec)) formulaTestsCard

/-- THE TIED CARD OF 'customhouselaw25.FormulaMatters'. -/
def formulaMattersCard : Claim7 := { stood := { row := formulaMattersRow, standIns := [], harness := (true, "7c47f498a6bf7efdc26b0a4f6299661cd11248f15decddd17f77bd0a38a98d0c"), looks := true }, kinds := [], alts := [], laidByText := true, laidKinds := [.data, .data, .data, .sentinel, .sentinel], laidTests := true, laidLooks := .later }
def FormulaMattersCardSaid : Prop := Claim7.holds Tryz.pinned (.plain (OpenSpec.ofChange formulaMattersSpec)) formulaMattersCard

/-- THE TIED CARD OF 'customhouselaw25.FormulaSizes'. -/
def formulaSizesCard : Claim7 := { stood := { row := formulaSizesRow, standIns := [], harness := (true, "7c47f498a6bf7efdc26b0a4f6299661cd11248f15decddd17f77bd0a38a98d0c"), looks := true }, kinds := [], alts := [], laidByText := true, laidKinds := [.data, .data, .data, .sentinel, .sentinel], laidTests := true, laidLooks := .later }
def FormulaSizesCardSaid : Prop := Claim7.holds Tryz.pinned (.plain (OpenSpec.ofChange formulaSizesSpec)) formulaSizesCard

/-- THE TIED CARD OF 'customhouselaw25.FormulaParts'. -/
def formulaPartsCard : Claim7 := { stood := { row := formulaPartsRow, standIns := [], harness := (true, "7c47f498a6bf7efdc26b0a4f6299661cd11248f15decddd17f77bd0a38a98d0c"), looks := true }, kinds := [], alts := [], laidByText := true, laidKinds := [.data, .data, .data, .sentinel, .sentinel], laidTests := true, laidLooks := .later }
def FormulaPartsCardSaid : Prop := Claim7.holds Tryz.pinned (.plain (OpenSpec.ofChange formulaPartsSpec)) formulaPartsCard

/-- THE TIED CARD OF 'customhouselaw25.FormulaTexts'. -/
def formulaTextsCard : Claim7 := { stood := { row := formulaTextsRow, standIns := [], harness := (true, "7c47f498a6bf7efdc26b0a4f6299661cd11248f15decddd17f77bd0a38a98d0c"), looks := true }, kinds := [], alts := [], laidByText := true, laidKinds := [.data, .data, .data, .sentinel, .sentinel], laidTests := true, laidLooks := .later }
def FormulaTextsCardSaid : Prop := Claim7.holds Tryz.pinned (.plain (OpenSpec.ofChange formulaTextsSpec)) formulaTextsCard

/-- THE TIED CARD OF 'customhouselaw25.FormulaGaps'. -/
def formulaGapsCard : Claim7 := { stood := { row := formulaGapsRow, standIns := [], harness := (true, "7c47f498a6bf7efdc26b0a4f6299661cd11248f15decddd17f77bd0a38a98d0c"), looks := true }, kinds := [], alts := [], laidByText := true, laidKinds := [.data, .data, .data, .sentinel, .sentinel], laidTests := true, laidLooks := .later }
def FormulaGapsCardSaid : Prop := Claim7.holds Tryz.pinned (.plain (OpenSpec.ofChange formulaGapsSpec)) formulaGapsCard

/-- THE SECOND FORM's CARD OF 'customhouselaw25.FormulaMatchesReference'. -/
def formulaMatchesReferenceUptoCard : Claim7 := { stood := { row := formulaMatchesReferenceUptoRow, standIns := [], harness := (true, "7c47f498a6bf7efdc26b0a4f6299661cd11248f15decddd17f77bd0a38a98d0c"), looks := true }, kinds := [], alts := [], laidByText := true, laidKinds := [.data, .data, .data, .sentinel, .sentinel], laidTests := true, laidLooks := .later }
def FormulaMatchesReferenceUptoCardSaid : Prop := Claim7.holds Tryz.pinned (.plain (OpenSpec.upto formulaMatchesReferenceSpec)) formulaMatchesReferenceUptoCard

/-- THE SECOND FORM's CARD OF 'customhouselaw25.FormulaTextsAsReference'. -/
def formulaTextsAsReferenceUptoCard : Claim7 := { stood := { row := formulaTextsAsReferenceUptoRow, standIns := [], harness := (true, "7c47f498a6bf7efdc26b0a4f6299661cd11248f15decddd17f77bd0a38a98d0c"), looks := true }, kinds := [], alts := [], laidByText := true, laidKinds := [.data, .data, .data, .sentinel, .sentinel], laidTests := true, laidLooks := .later }
def FormulaTextsAsReferenceUptoCardSaid : Prop := Claim7.holds Tryz.pinned (.plain (OpenSpec.upto formulaTextsAsReferenceSpec)) formulaTextsAsReferenceUptoCard

/-- THE SECOND FORM's CARD OF 'customhouselaw25.FormulaConnectives'. -/
def formulaConnectivesUptoCard : Claim7 := { stood := { row := formulaConnectivesUptoRow, standIns := [], harness := (true, "7c47f498a6bf7efdc26b0a4f6299661cd11248f15decddd17f77bd0a38a98d0c"), looks := true }, kinds := [], alts := [], laidByText := true, laidKinds := [.data, .data, .data, .sentinel, .sentinel], laidTests := true, laidLooks := .later }
def FormulaConnectivesUptoCardSaid : Prop := Claim7.holds Tryz.pinned (.plain (OpenSpec.upto formulaConnectivesSpec)) formulaConnectivesUptoCard

/-- THE SECOND FORM's CARD OF 'customhouselaw25.FormulaTests'. -/
def formulaTestsUptoCard : Claim7 := { stood := { row := formulaTestsUptoRow, standIns := [], harness := (true, "7c47f498a6bf7efdc26b0a4f6299661cd11248f15decddd17f77bd0a38a98d0c"), looks := true }, kinds := [], alts := [], laidByText := true, laidKinds := [.data, .data, .data, .sentinel, .sentinel], laidTests := true, laidLooks := .later }
def FormulaTestsUptoCardSaid : Prop := Claim7.holds Tryz.pinned (.plain (OpenSpec.upto formulaTestsSpec)) formulaTestsUptoCard

/-- THE SECOND FORM's CARD OF 'customhouselaw25.FormulaMatters'. -/
def formulaMattersUptoCard : Claim7 := { stood := { row := formulaMattersUptoRow, standIns := [], harness := (true, "7c47f498a6bf7efdc26b0a4f6299661cd11248f15decddd17f77bd0a38a98d0c"), looks := true }, kinds := [], alts := [], laidByText := true, laidKinds := [.data, .data, .data, .sentinel, .sentinel], laidTests := true, laidLooks := .later }
def FormulaMattersUptoCardSaid : Prop := Claim7.holds Tryz.pinned (.plain (OpenSpec.upto formulaMattersSpec)) formulaMattersUptoCard

/-- THE SECOND FORM's CARD OF 'customhouselaw25.FormulaSizes'. -/
def formulaSizesUptoCard : Claim7 := { stood := { row := formulaSizesUptoRow, standIns := [], harness := (true, "7c47f498a6bf7efdc26b0a4f6299661cd11248f15decddd17f77bd0a38a98d0c"), looks := true }, kinds := [], alts := [], laidByText := true, laidKinds := [.data, .data, .data, .sentinel, .sentinel], laidTests := true, laidLooks := .later }
def FormulaSizesUptoCardSaid : Prop := Claim7.holds Tryz.pinned (.plain (OpenSpec.upto formulaSizesSpec)) formulaSizesUptoCard

/-- THE SECOND FORM's CARD OF 'customhouselaw25.FormulaParts'. -/
def formulaPartsUptoCard : Claim7 := { stood := { row := formulaPartsUptoRow, standIns := [], harness := (true, "7c47f498a6bf7efdc26b0a4f6299661cd11248f15decddd17f77bd0a38a98d0c"), looks := true }, kinds := [], alts := [], laidByText := true, laidKinds := [.data, .data, .data, .sentinel, .sentinel], laidTests := true, laidLooks := .later }
def FormulaPartsUptoCardSaid : Prop := Claim7.holds Tryz.pinned (.plain (OpenSpec.upto formulaPartsSpec)) formulaPartsUptoCard

/-- THE SECOND FORM's CARD OF 'customhouselaw25.FormulaTexts'. -/
def formulaTextsUptoCard : Claim7 := { stood := { row := formulaTextsUptoRow, standIns := [], harness := (true, "7c47f498a6bf7efdc26b0a4f6299661cd11248f15decddd17f77bd0a38a98d0c"), looks := true }, kinds := [], alts := [], laidByText := true, laidKinds := [.data, .data, .data, .sentinel, .sentinel], laidTests := true, laidLooks := .later }
def FormulaTextsUptoCardSaid : Prop := Claim7.holds Tryz.pinned (.plain (OpenSpec.upto formulaTextsSpec)) formulaTextsUptoCard

/-- THE SECOND FORM's CARD OF 'customhouselaw25.FormulaGaps'. -/
def formulaGapsUptoCard : Claim7 := { stood := { row := formulaGapsUptoRow, standIns := [], harness := (true, "7c47f498a6bf7efdc26b0a4f6299661cd11248f15decddd17f77bd0a38a98d0c"), looks := true }, kinds := [], alts := [], laidByText := true, laidKinds := [.data, .data, .data, .sentinel, .sentinel], laidTests := true, laidLooks := .later }
def FormulaGapsUptoCardSaid : Prop := Claim7.holds Tryz.pinned (.plain (OpenSpec.upto formulaGapsSpec)) formulaGapsUptoCard
end Rows
end Go.Proofs.YtagoefnibgobcaaGreatDoor
