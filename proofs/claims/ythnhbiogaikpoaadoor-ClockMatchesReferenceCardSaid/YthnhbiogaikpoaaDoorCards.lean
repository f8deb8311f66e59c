/-
  DERIVED. GIVEN WITH THE SEED: THE CARDS: each row of YthnhbiogaikpoaaDoorRows.lean that lists a variable, with what it lists TIED to the program's text (the seventh form; the later family's looks); each row that meets fmt, with fmt's text TOLD by the authors' own Lean function (tested against real Go, not proved from fmt's source: count such statements apart). THE CARD IS WHAT COUNTS. Prove the row's statement (the work); the ties are given (YthnhbiogaikpoaaDoorTie.lean); close each card by the builder's one call (the guide's Derived/Test/ToyasCard.lean, 'card_holds'). Laid BY PROGRAM, IN A SANDBOX (cutbox-door.mjs). By AI agents, Wed Nov 11 2026. No macro, syntax, notation, axiom, sorry.
-/
import Derived.Test.YthnhbiogaikpoaaDoorRows
import GoSem.ClaimSeven
namespace Go.Proofs.YthnhbiogaikpoaaDoor
namespace Rows

/-- THE TIED CARD OF 'customhouselaw06.ClockMatchesReference'. -/
def clockMatchesReferenceCard : Claim7 := { stood := { row := clockMatchesReferenceRow, standIns := [], harness := (true, "5ab8622d22d7f242c700ec7ff1014eb3229114e363e7fe19f85e6032c5950428"), looks := true }, kinds := [], alts := [], laidByText := true, laidKinds := [.data, .data, .data, .sentinel, .sentinel], laidTests := true, laidLooks := .later }
def ClockMatchesReferenceCardSaid : Prop := Claim7.holds Tryd.pinned (.plain (OpenSpec.ofChange clockMatchesReferenceSpec)) clockMatchesReferenceCard

/-- THE TIED CARD OF 'customhouselaw06.ClockGoes'. -/
def clockGoesCard : Claim7 := { stood := { row := clockGoesRow, standIns := [], harness := (true, "5ab8622d22d7f242c700ec7ff1014eb3229114e363e7fe19f85e6032c5950428"), looks := true }, kinds := [], alts := [], laidByText := true, laidKinds := [.data, .data, .data, .sentinel, .sentinel], laidTests := true, laidLooks := .later }
def ClockGoesCardSaid : Prop := Claim7.holds Tryd.pinned (.plain (OpenSpec.ofChange clockGoesSpec)) clockGoesCard

/-- THE TIED CARD OF 'customhouselaw06.ClockFirst'. -/
def clockFirstCard : Claim7 := { stood := { row := clockFirstRow, standIns := [], harness := (true, "5ab8622d22d7f242c700ec7ff1014eb3229114e363e7fe19f85e6032c5950428"), looks := true }, kinds := [], alts := [], laidByText := true, laidKinds := [.data, .data, .data, .sentinel, .sentinel], laidTests := true, laidLooks := .later }
def ClockFirstCardSaid : Prop := Claim7.holds Tryd.pinned (.plain (OpenSpec.ofChange clockFirstSpec)) clockFirstCard

/-- THE TIED CARD OF 'customhouselaw06.ClockBack'. -/
def clockBackCard : Claim7 := { stood := { row := clockBackRow, standIns := [], harness := (true, "5ab8622d22d7f242c700ec7ff1014eb3229114e363e7fe19f85e6032c5950428"), looks := true }, kinds := [], alts := [], laidByText := true, laidKinds := [.data, .data, .data, .sentinel, .sentinel], laidTests := true, laidLooks := .later }
def ClockBackCardSaid : Prop := Claim7.holds Tryd.pinned (.plain (OpenSpec.ofChange clockBackSpec)) clockBackCard

/-- THE TIED CARD OF 'customhouselaw06.ClockDays'. -/
def clockDaysCard : Claim7 := { stood := { row := clockDaysRow, standIns := [], harness := (true, "5ab8622d22d7f242c700ec7ff1014eb3229114e363e7fe19f85e6032c5950428"), looks := true }, kinds := [], alts := [], laidByText := true, laidKinds := [.data, .data, .data, .sentinel, .sentinel], laidTests := true, laidLooks := .later }
def ClockDaysCardSaid : Prop := Claim7.holds Tryd.pinned (.plain (OpenSpec.ofChange clockDaysSpec)) clockDaysCard

/-- THE TIED CARD OF 'customhouselaw06.ClockPlain'. -/
def clockPlainCard : Claim7 := { stood := { row := clockPlainRow, standIns := [], harness := (true, "5ab8622d22d7f242c700ec7ff1014eb3229114e363e7fe19f85e6032c5950428"), looks := true }, kinds := [], alts := [], laidByText := true, laidKinds := [.data, .data, .data, .sentinel, .sentinel], laidTests := true, laidLooks := .later }
def ClockPlainCardSaid : Prop := Claim7.holds Tryd.pinned (.plain (OpenSpec.ofChange clockPlainSpec)) clockPlainCard

/-- THE TIED CARD OF 'customhouselaw06.ClockTexts'. -/
def clockTextsCard : Claim7 := { stood := { row := clockTextsRow, standIns := [], harness := (true, "5ab8622d22d7f242c700ec7ff1014eb3229114e363e7fe19f85e6032c5950428"), looks := true }, kinds := [], alts := [], laidByText := true, laidKinds := [.data, .data, .data, .sentinel, .sentinel], laidTests := true, laidLooks := .later }
def ClockTextsCardSaid : Prop := Claim7.holds Tryd.pinned (.plain (OpenSpec.ofChange clockTextsSpec)) clockTextsCard

/-- THE TIED CARD OF 'customhouselaw06.ClockEast'. -/
def clockEastCard : Claim7 := { stood := { row := clockEastRow, standIns := [], harness := (true, "5ab8622d22d7f242c700ec7ff1014eb3229114e363e7fe19f85e6032c5950428"), looks := true }, kinds := [], alts := [], laidByText := true, laidKinds := [.data, .data, .data, .sentinel, .sentinel], laidTests := true, laidLooks := .later }
def ClockEastCardSaid : Prop := Claim7.holds Tryd.pinned (.plain (OpenSpec.ofChange clockEastSpec)) clockEastCard

/-- THE SECOND FORM's CARD OF 'customhouselaw06.ClockMatchesReference'. -/
def clockMatchesReferenceUptoCard : Claim7 := { stood := { row := clockMatchesReferenceUptoRow, standIns := [], harness := (true, "5ab8622d22d7f242c700ec7ff1014eb3229114e363e7fe19f85e6032c5950428"), looks := true }, kinds := [], alts := [], laidByText := true, laidKinds := [.data, .data, .data, .sentinel, .sentinel], laidTests := true, laidLooks := .later }
def ClockMatchesReferenceUptoCardSaid : Prop := Claim7.holds Tryd.pinned (.plain (OpenSpec.upto clockMatchesReferenceSpec)) clockMatchesReferenceUptoCard

/-- THE SECOND FORM's CARD OF 'customhouselaw06.ClockGoes'. -/
def clockGoesUptoCard : Claim7 := { stood := { row := clockGoesUptoRow, standIns := [], harness := (true, "5ab8622d22d7f242c700ec7ff1014eb3229114e363e7fe19f85e6032c5950428"), looks := true }, kinds := [], alts := [], laidByText := true, laidKinds := [.data, .data, .data, .sentinel, .sentinel], laidTests := true, laidLooks := .later }
def ClockGoesUptoCardSaid : Prop := Claim7.holds Tryd.pinned (.plain (OpenSpec.upto clockGoesSpec)) clockGoesUptoCard

/-- THE SECOND FORM's CARD OF 'customhouselaw06.ClockFirst'. -/
def clockFirstUptoCard : Claim7 := { stood := { row := clockFirstUptoRow, standIns := [], harness := (true, "5ab8622d22d7f242c700ec7ff1014eb3229114e363e7fe19f85e6032c5950428"), looks := true }, kinds := [], alts := [], laidByText := true, laidKinds := [.data, .data, .data, .sentinel, .sentinel], laidTests := true, laidLooks := .later }
def ClockFirstUptoCardSaid : Prop := Claim7.holds Tryd.pinned (.plain (OpenSpec.upto clockFirstSpec)) clockFirstUptoCard

/-- THE SECOND FORM's CARD OF 'customhouselaw06.ClockBack'. -/
def clockBackUptoCard : Claim7 := { stood := { row := clockBackUptoRow, standIns := [], harness := (true, "5ab8622d22d7f242c700ec7ff1014eb3229114e363e7fe19f85e6032c5950428"), looks := true }, kinds := [], alts := [], laidByText := true, laidKinds := [.data, .data, .data, .sentinel, .sentinel], laidTests := true, laidLooks := .later }
def ClockBackUptoCardSaid : Prop := Claim7.holds Tryd.pinned (.plain (OpenSpec.upto clockBackSpec)) clockBackUptoCard

/-- THE SECOND FORM's CARD OF 'customhouselaw06.ClockDays'. -/
def clockDaysUptoCard : Claim7 := { stood := { row := clockDaysUptoRow, standIns := [], harness := (true, "5ab8622d22d7f242c700ec7ff1014eb3229114e363e7fe19f85e6032c5950428"), looks := true }, kinds := [], alts := [], laidByText := true, laidKinds := [.data, .data, .data, .sentinel, .sentinel], laidTests := true, laidLooks := .later }
def ClockDaysUptoCardSaid : Prop := Claim7.holds Tryd.pinned (.plain (OpenSpec.upto clockDaysSpec)) clockDaysUptoCard

/-- THE SECOND FORM's CARD OF 'customhouselaw06.ClockPlain'. -/
def clockPlainUptoCard : Claim7 := { stood := { row := clockPlainUptoRow, standIns := [], harness := (true, "5ab8622d22d7f242c700ec7ff1014eb3229114e363e7fe19f85e6032c5950428"), looks := true }, kinds := [], alts := [], laidByText := true, laidKinds := [.data, .data, .data, .sentinel, .sentinel], laidTests := true, laidLooks := .later }
def ClockPlainUptoCardSaid : Prop := Claim7.holds Tryd.pinned (.plain (OpenSpec.upto clockPlainSpec)) clockPlainUptoCard

/-- THE SECOND FORM's CARD OF 'customhouselaw06.ClockTexts'. -/
def clockTextsUptoCard : Claim7 := { stood := { row := clockTextsUptoRow, standIns := [], harness := (true, "5ab8622d22d7f242c700ec7ff1014eb3229114e363e7fe19f85e6032c5950428"), looks := true }, kinds := [], alts := [], laidByText := true, laidKinds := [.data, .data, .data, .sentinel, .sentinel], laidTests := true, laidLooks := .later }
def ClockTextsUptoCardSaid : Prop := Claim7.holds Tryd.pinned (.plain (OpenSpec.upto clockTextsSpec)) clockTextsUptoCard

/-- THE SECOND FORM's CARD OF 'customhouselaw06.ClockEast'. -/
def clockEastUptoCard : Claim7 := { stood := { row := clockEastUptoRow, standIns := [], harness := (true, "5ab8622d22d7f242c700ec7ff1014eb3229114e363e7fe19f85e6032c5950428"), looks := true }, kinds := [], alts := [], laidByText := true, laidKinds := [.data, .data, .data, .sentinel, .sentinel], laidTests := true, laidLooks := .later }
def ClockEastUptoCardSaid : Prop := Claim7.holds Tryd.pinned (.plain (OpenSpec.upto clockEastSpec)) clockEastUptoCard
end Rows
end Go.Proofs.YthnhbiogaikpoaaDoor
