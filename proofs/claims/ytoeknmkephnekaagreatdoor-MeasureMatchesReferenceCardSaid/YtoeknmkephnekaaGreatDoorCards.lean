/-
  DERIVED. GIVEN WITH THE SEED: THE CARDS: each row of YtoeknmkephnekaaGreatDoorRows.lean that lists a variable, with what it lists TIED to the program's text (the seventh form; the later family's looks); each row that meets fmt, with fmt's text TOLD by the authors' own Lean function (tested against real Go, not proved from fmt's source: count such statements apart). THE CARD IS WHAT COUNTS. Prove the row's statement (the work); the ties are given (YtoeknmkephnekaaGreatDoorTie.lean); close each card by the builder's one call (the guide's Derived/Test/ToyasCard.lean, 'card_holds'). Laid BY PROGRAM, IN A SANDBOX (cutbox-door.mjs). By AI agents, Wed Nov 11 2026. No macro, syntax, notation, axiom, sorry.
-/
import Derived.Test.YtoeknmkephnekaaGreatDoorRows
import GoSem.ClaimSeven
namespace Go.Proofs.YtoeknmkephnekaaGreatDoor
namespace Rows

/-- THE TIED CARD OF 'customhouselaw30.MeasureTexts'. -/
def measureTextsCard : Claim7 := { stood := { row := measureTextsRow, standIns := [], harness := (true, "c1a74f8c053b38fe410982b812a479b7244cae795c509a8673bef9467bd38a66"), looks := true }, kinds := [], alts := [], laidByText := true, laidKinds := [.data, .data, .data, .sentinel, .sentinel], laidTests := true, laidLooks := .later }
def MeasureTextsCardSaid : Prop := Claim7.holds Tryz.pinned (.plain (OpenSpec.ofChange measureTextsSpec)) measureTextsCard

/-- THE TIED CARD OF 'customhouselaw30.MeasureParses'. -/
def measureParsesCard : Claim7 := { stood := { row := measureParsesRow, standIns := [], harness := (true, "c1a74f8c053b38fe410982b812a479b7244cae795c509a8673bef9467bd38a66"), looks := true }, kinds := [], alts := [], laidByText := true, laidKinds := [.data, .data, .data, .sentinel, .sentinel], laidTests := true, laidLooks := .later }
def MeasureParsesCardSaid : Prop := Claim7.holds Tryz.pinned (.plain (OpenSpec.ofChange measureParsesSpec)) measureParsesCard

/-- THE TIED CARD OF 'customhouselaw30.MeasureGaps'. -/
def measureGapsCard : Claim7 := { stood := { row := measureGapsRow, standIns := [], harness := (true, "c1a74f8c053b38fe410982b812a479b7244cae795c509a8673bef9467bd38a66"), looks := true }, kinds := [], alts := [], laidByText := true, laidKinds := [.data, .data, .data, .sentinel, .sentinel], laidTests := true, laidLooks := .later }
def MeasureGapsCardSaid : Prop := Claim7.holds Tryz.pinned (.plain (OpenSpec.ofChange measureGapsSpec)) measureGapsCard

/-- THE TIED CARD OF 'customhouselaw30.MeasureFields'. -/
def measureFieldsCard : Claim7 := { stood := { row := measureFieldsRow, standIns := [], harness := (true, "c1a74f8c053b38fe410982b812a479b7244cae795c509a8673bef9467bd38a66"), looks := true }, kinds := [], alts := [], laidByText := true, laidKinds := [.data, .data, .data, .sentinel, .sentinel], laidTests := true, laidLooks := .later }
def MeasureFieldsCardSaid : Prop := Claim7.holds Tryz.pinned (.plain (OpenSpec.ofChange measureFieldsSpec)) measureFieldsCard

/-- THE TIED CARD OF 'customhouselaw30.MeasureDomains'. -/
def measureDomainsCard : Claim7 := { stood := { row := measureDomainsRow, standIns := [], harness := (true, "c1a74f8c053b38fe410982b812a479b7244cae795c509a8673bef9467bd38a66"), looks := true }, kinds := [], alts := [], laidByText := true, laidKinds := [.data, .data, .data, .sentinel, .sentinel], laidTests := true, laidLooks := .later }
def MeasureDomainsCardSaid : Prop := Claim7.holds Tryz.pinned (.plain (OpenSpec.ofChange measureDomainsSpec)) measureDomainsCard

/-- THE TIED CARD OF 'customhouselaw30.MeasureMatchesReference'. -/
def measureMatchesReferenceCard : Claim7 := { stood := { row := measureMatchesReferenceRow, standIns := [], harness := (true, "c1a74f8c053b38fe410982b812a479b7244cae795c509a8673bef9467bd38a66"), looks := true }, kinds := [], alts := [], laidByText := true, laidKinds := [.data, .data, .data, .sentinel, .sentinel], laidTests := true, laidLooks := .later }
def MeasureMatchesReferenceCardSaid : Prop := Claim7.holds Tryz.pinned (.plain (OpenSpec.ofChange measureMatchesReferenceSpec)) measureMatchesReferenceCard

/-- THE SECOND FORM's CARD OF 'customhouselaw30.MeasureTexts'. -/
def measureTextsUptoCard : Claim7 := { stood := { row := measureTextsUptoRow, standIns := [], harness := (true, "c1a74f8c053b38fe410982b812a479b7244cae795c509a8673bef9467bd38a66"), looks := true }, kinds := [], alts := [], laidByText := true, laidKinds := [.data, .data, .data, .sentinel, .sentinel], laidTests := true, laidLooks := .later }
def MeasureTextsUptoCardSaid : Prop := Claim7.holds Tryz.pinned (.plain (OpenSpec.upto measureTextsSpec)) measureTextsUptoCard

/-- THE SECOND FORM's CARD OF 'customhouselaw30.MeasureParses'. -/
def measureParsesUptoCard : Claim7 := { stood := { row := measureParsesUptoRow, standIns := [], harness := (true, "c1a74f8c053b38fe410982b812a479b7244cae795c509a8673bef9467bd38a66"), looks := true }, kinds := [], alts := [], laidByText := true, laidKinds := [.data, .data, .data, .sentinel, .sentinel], laidTests := true, laidLooks := .later }
def MeasureParsesUptoCardSaid : Prop := Claim7.holds Tryz.pinned (.plain (OpenSpec.upto measureParsesSpec)) measureParsesUptoCard

/-- THE SECOND FORM's CARD OF 'customhouselaw30.MeasureGaps'. -/
def measureGapsUptoCard : Claim7 := { stood := { row := measureGapsUptoRow, standIns := [], harness := (true, "c1a74f8c053b38fe410982b812a479b7244cae795c509a8673bef9467bd38a66"), looks := true }, kinds := [], alts := [], laidByText := true, laidKinds := [.data, .data, .data, .sentinel, .sentinel], laidTests := true, laidLooks := .later }
def MeasureGapsUptoCardSaid : Prop := Claim7.holds Tryz.pinned (.plain (OpenSpec.upto measureGapsSpec)) measureGapsUptoCard

/-- THE SECOND FORM's CARD OF 'customhouselaw30.MeasureFields'. -/
def measureFieldsUptoCard : Claim7 := { stood := { row := measureFieldsUptoRow, standIns := [], harness := (true, "c1a74f8c053b38fe410982b812a479b7244cae795c509a8673bef9467bd38a66"), looks := true }, kinds := [], alts := [], laidByText := true, laidKinds := [.data, .data, .data, .sentinel, .sentinel], laidTests := true, laidLooks := .later }
def MeasureFieldsUptoCardSaid : Prop := Claim7.holds Tryz.pinned (.plain (OpenSpec.upto measureFieldsSpec)) measureFieldsUptoCard

/-- THE SECOND FORM's CARD OF 'customhouselaw30.MeasureDomains'. -/
def measureDomainsUptoCard : Claim7 := { stood := { row := measureDomainsUptoRow, standIns := [], harness := (true, "c1a74f8c053b38fe410982b812a479b7244cae795c509a8673bef9467bd38a66"), looks := true }, kinds := [], alts := [], laidByText := true, laidKinds := [.data, .data, .data, .sentinel, .sentinel], laidTests := true, laidLooks := .later }
def MeasureDomainsUptoCardSaid : Prop := Claim7.holds Tryz.pinned (.plain (OpenSpec.upto measureDomainsSpec)) measureDomainsUptoCard

/-- THE SECOND FORM's CARD OF 'customhouselaw30.MeasureMatchesReference'. -/
def measureMatchesReferenceUptoCard : Claim7 := { stood := { row := measureMatchesReferenceUptoRow, standIns := [], harness := (true, "c1a74f8c053b38fe410982b812a479b7244cae795c509a8673bef9467bd38a66"), looks := true }, kinds := [], alts := [], laidByText := true, laidKinds := [.data, .data, .data, .sentinel, .sentinel], laidTests := true, laidLooks := .later }
def MeasureMatchesReferenceUptoCardSaid : Prop := Claim7.holds Tryz.pinned (.plain (OpenSpec.upto measureMatchesReferenceSpec)) measureMatchesReferenceUptoCard
end Rows
end Go.Proofs.YtoeknmkephnekaaGreatDoor
