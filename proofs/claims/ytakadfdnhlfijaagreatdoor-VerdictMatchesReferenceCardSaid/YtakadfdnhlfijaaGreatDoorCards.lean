/-
  DERIVED. GIVEN WITH THE SEED: THE CARDS: each row of YtakadfdnhlfijaaGreatDoorRows.lean that lists a variable, with what it lists TIED to the program's text (the seventh form; the later family's looks); each row that meets fmt, with fmt's text TOLD by the authors' own Lean function (tested against real Go, not proved from fmt's source: count such statements apart). THE CARD IS WHAT COUNTS. Prove the row's statement (the work); the ties are given (YtakadfdnhlfijaaGreatDoorTie.lean); close each card by the builder's one call (the guide's Derived/Test/ToyasCard.lean, 'card_holds'). Laid BY PROGRAM, IN A SANDBOX (cutbox-door.mjs). By AI agents, Wed Nov 11 2026. No macro, syntax, notation, axiom, sorry.
-/
import Derived.Test.YtakadfdnhlfijaaGreatDoorRows
import GoSem.ClaimSeven
namespace Go.Proofs.YtakadfdnhlfijaaGreatDoor
namespace Rows

/-- THE TIED CARD OF 'customhouselaw32.VerdictMatchesReference'. -/
def verdictMatchesReferenceCard : Claim7 := { stood := { row := verdictMatchesReferenceRow, standIns := [], harness := (true, "03667f86e14fdae6d6885cfadb8422e8227d2e0532e41da31fd33a3e4fb0be37"), looks := true }, kinds := [], alts := [], laidByText := true, laidKinds := [.data, .data, .data, .sentinel, .sentinel], laidTests := true, laidLooks := .later }
def VerdictMatchesReferenceCardSaid : Prop := Claim7.holds Tryz.pinned (.plain (OpenSpec.ofChange verdictMatchesReferenceSpec)) verdictMatchesReferenceCard

/-- THE TIED CARD OF 'customhouselaw32.VerdictMeans'. -/
def verdictMeansCard : Claim7 := { stood := { row := verdictMeansRow, standIns := [], harness := (true, "03667f86e14fdae6d6885cfadb8422e8227d2e0532e41da31fd33a3e4fb0be37"), looks := true }, kinds := [], alts := [], laidByText := true, laidKinds := [.data, .data, .data, .sentinel, .sentinel], laidTests := true, laidLooks := .later }
def VerdictMeansCardSaid : Prop := Claim7.holds Tryz.pinned (.plain (OpenSpec.ofChange verdictMeansSpec)) verdictMeansCard

/-- THE TIED CARD OF 'customhouselaw32.VerdictOrder'. -/
def verdictOrderCard : Claim7 := { stood := { row := verdictOrderRow, standIns := [], harness := (true, "03667f86e14fdae6d6885cfadb8422e8227d2e0532e41da31fd33a3e4fb0be37"), looks := true }, kinds := [], alts := [], laidByText := true, laidKinds := [.data, .data, .data, .sentinel, .sentinel], laidTests := true, laidLooks := .later }
def VerdictOrderCardSaid : Prop := Claim7.holds Tryz.pinned (.plain (OpenSpec.ofChange verdictOrderSpec)) verdictOrderCard

/-- THE TIED CARD OF 'customhouselaw32.VerdictFurther'. -/
def verdictFurtherCard : Claim7 := { stood := { row := verdictFurtherRow, standIns := [], harness := (true, "03667f86e14fdae6d6885cfadb8422e8227d2e0532e41da31fd33a3e4fb0be37"), looks := true }, kinds := [], alts := [], laidByText := true, laidKinds := [.data, .data, .data, .sentinel, .sentinel], laidTests := true, laidLooks := .later }
def VerdictFurtherCardSaid : Prop := Claim7.holds Tryz.pinned (.plain (OpenSpec.ofChange verdictFurtherSpec)) verdictFurtherCard

/-- THE TIED CARD OF 'customhouselaw32.VerdictLicences'. -/
def verdictLicencesCard : Claim7 := { stood := { row := verdictLicencesRow, standIns := [], harness := (true, "03667f86e14fdae6d6885cfadb8422e8227d2e0532e41da31fd33a3e4fb0be37"), looks := true }, kinds := [], alts := [], laidByText := true, laidKinds := [.data, .data, .data, .sentinel, .sentinel], laidTests := true, laidLooks := .later }
def VerdictLicencesCardSaid : Prop := Claim7.holds Tryz.pinned (.plain (OpenSpec.ofChange verdictLicencesSpec)) verdictLicencesCard

/-- THE TIED CARD OF 'customhouselaw32.VerdictTime'. -/
def verdictTimeCard : Claim7 := { stood := { row := verdictTimeRow, standIns := [], harness := (true, "03667f86e14fdae6d6885cfadb8422e8227d2e0532e41da31fd33a3e4fb0be37"), looks := true }, kinds := [], alts := [], laidByText := true, laidKinds := [.data, .data, .data, .sentinel, .sentinel], laidTests := true, laidLooks := .later }
def VerdictTimeCardSaid : Prop := Claim7.holds Tryz.pinned (.plain (OpenSpec.ofChange verdictTimeSpec)) verdictTimeCard

/-- THE SECOND FORM's CARD OF 'customhouselaw32.VerdictMatchesReference'. -/
def verdictMatchesReferenceUptoCard : Claim7 := { stood := { row := verdictMatchesReferenceUptoRow, standIns := [], harness := (true, "03667f86e14fdae6d6885cfadb8422e8227d2e0532e41da31fd33a3e4fb0be37"), looks := true }, kinds := [], alts := [], laidByText := true, laidKinds := [.data, .data, .data, .sentinel, .sentinel], laidTests := true, laidLooks := .later }
def VerdictMatchesReferenceUptoCardSaid : Prop := Claim7.holds Tryz.pinned (.plain (OpenSpec.upto verdictMatchesReferenceSpec)) verdictMatchesReferenceUptoCard

/-- THE SECOND FORM's CARD OF 'customhouselaw32.VerdictMeans'. -/
def verdictMeansUptoCard : Claim7 := { stood := { row := verdictMeansUptoRow, standIns := [], harness := (true, "03667f86e14fdae6d6885cfadb8422e8227d2e0532e41da31fd33a3e4fb0be37"), looks := true }, kinds := [], alts := [], laidByText := true, laidKinds := [.data, .data, .data, .sentinel, .sentinel], laidTests := true, laidLooks := .later }
def VerdictMeansUptoCardSaid : Prop := Claim7.holds Tryz.pinned (.plain (OpenSpec.upto verdictMeansSpec)) verdictMeansUptoCard

/-- THE SECOND FORM's CARD OF 'customhouselaw32.VerdictOrder'. -/
def verdictOrderUptoCard : Claim7 := { stood := { row := verdictOrderUptoRow, standIns := [], harness := (true, "03667f86e14fdae6d6885cfadb8422e8227d2e0532e41da31fd33a3e4fb0be37"), looks := true }, kinds := [], alts := [], laidByText := true, laidKinds := [.data, .data, .data, .sentinel, .sentinel], laidTests := true, laidLooks := .later }
def VerdictOrderUptoCardSaid : Prop := Claim7.holds Tryz.pinned (.plain (OpenSpec.upto verdictOrderSpec)) verdictOrderUptoCard

/-- THE SECOND FORM's CARD OF 'customhouselaw32.VerdictFurther'. -/
def verdictFurtherUptoCard : Claim7 := { stood := { row := verdictFurtherUptoRow, standIns := [], harness := (true, "03667f86e14fdae6d6885cfadb8422e8227d2e0532e41da31fd33a3e4fb0be37"), looks := true }, kinds := [], alts := [], laidByText := true, laidKinds := [.data, .data, .data, .sentinel, .sentinel], laidTests := true, laidLooks := .later }
def VerdictFurtherUptoCardSaid : Prop := Claim7.holds Tryz.pinned (.plain (OpenSpec.upto verdictFurtherSpec)) verdictFurtherUptoCard

/-- THE SECOND FORM's CARD OF 'customhouselaw32.VerdictLicences'. -/
def verdictLicencesUptoCard : Claim7 := { stood := { row := verdictLicencesUptoRow, standIns := [], harness := (true, "03667f86e14fdae6d6885cfadb8422e8227d2e0532e41da31fd33a3e4fb0be37"), looks := true }, kinds := [], alts := [], laidByText := true, laidKinds := [.data, .data, .data, .sentinel, .sentinel], laidTests := true, laidLooks := .later }
def VerdictLicencesUptoCardSaid : Prop := Claim7.holds Tryz.pinned (.plain (OpenSpec.upto verdictLicencesSpec)) verdictLicencesUptoCard

/-- THE SECOND FORM's CARD OF 'customhouselaw32.VerdictTime'. -/
def verdictTimeUptoCard : Claim7 := { stood := { row := verdictTimeUptoRow, standIns := [], harness := (true, "03667f86e14fdae6d6885cfadb8422e8227d2e0532e41da31fd33a3e4fb0be37"), looks := true }, kinds := [], alts := [], laidByText := true, laidKinds := [.data, .data, .data, .sentinel, .sentinel], laidTests := true, laidLooks := .later }
def VerdictTimeUptoCardSaid : Prop := Claim7.holds Tryz.pinned (.plain (OpenSpec.upto verdictTimeSpec)) verdictTimeUptoCard
end Rows
end Go.Proofs.YtakadfdnhlfijaaGreatDoor
