/-
  DERIVED. GIVEN WITH THE SEED: THE CARDS: each row of YtlkihpgpcgeogaaDoorRows.lean that lists a variable, with what it lists TIED to the program's text (the seventh form; the later family's looks); each row that meets fmt, with fmt's text TOLD by the authors' own Lean function (tested against real Go, not proved from fmt's source: count such statements apart). THE CARD IS WHAT COUNTS. Prove the row's statement (the work); the ties are given (YtlkihpgpcgeogaaDoorTie.lean); close each card by the builder's one call (the guide's Derived/Test/ToyasCard.lean, 'card_holds'). Laid BY PROGRAM, IN A SANDBOX (cutbox-door.mjs). By AI agents, Wed Nov 11 2026. No macro, syntax, notation, axiom, sorry.
-/
import Derived.Test.YtlkihpgpcgeogaaDoorRows
import GoSem.ClaimSeven
namespace Go.Proofs.YtlkihpgpcgeogaaDoor
namespace Rows

/-- THE TIED CARD OF 'customhousetop.TopEachDay'. -/
def topEachDayCard : Claim7 := { stood := { row := topEachDayRow, standIns := [], harness := (true, "4e3925ca9701efb3f7f27356c7b4576612f8180a38b2b07b5d8d4f43d52ab23d"), looks := true }, kinds := [], alts := [], laidByText := true, laidKinds := [.data, .data, .data, .sentinel, .sentinel], laidTests := true, laidLooks := .later }
def TopEachDayCardSaid : Prop := Claim7.holds Tryd.pinned (.plain (OpenSpec.ofChange topEachDaySpec)) topEachDayCard

/-- THE SECOND FORM's CARD OF 'customhousetop.TopEachDay'. -/
def topEachDayUptoCard : Claim7 := { stood := { row := topEachDayUptoRow, standIns := [], harness := (true, "4e3925ca9701efb3f7f27356c7b4576612f8180a38b2b07b5d8d4f43d52ab23d"), looks := true }, kinds := [], alts := [], laidByText := true, laidKinds := [.data, .data, .data, .sentinel, .sentinel], laidTests := true, laidLooks := .later }
def TopEachDayUptoCardSaid : Prop := Claim7.holds Tryd.pinned (.plain (OpenSpec.upto topEachDaySpec)) topEachDayUptoCard
end Rows
end Go.Proofs.YtlkihpgpcgeogaaDoor
