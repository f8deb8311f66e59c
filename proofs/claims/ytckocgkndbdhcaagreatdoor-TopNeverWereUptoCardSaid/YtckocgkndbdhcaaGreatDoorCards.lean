/-
  DERIVED. GIVEN WITH THE SEED: THE CARDS: each row of YtckocgkndbdhcaaGreatDoorRows.lean that lists a variable, with what it lists TIED to the program's text (the seventh form; the later family's looks); each row that meets fmt, with fmt's text TOLD by the authors' own Lean function (tested against real Go, not proved from fmt's source: count such statements apart). THE CARD IS WHAT COUNTS. Prove the row's statement (the work); the ties are given (YtckocgkndbdhcaaGreatDoorTie.lean); close each card by the builder's one call (the guide's Derived/Test/ToyasCard.lean, 'card_holds'). Laid BY PROGRAM, IN A SANDBOX (cutbox-door.mjs). By AI agents, Wed Nov 11 2026. No macro, syntax, notation, axiom, sorry.
-/
import Derived.Test.YtckocgkndbdhcaaGreatDoorRows
import GoSem.ClaimSeven
namespace Go.Proofs.YtckocgkndbdhcaaGreatDoor
namespace Rows

/-- THE TIED CARD OF 'customhousetop.TopNeverWere'. -/
def topNeverWereCard : Claim7 := { stood := { row := topNeverWereRow, standIns := [], harness := (true, "62fc06ad38ba9742c01ef1a6c9fae674a285b4e6d537ca53c0629877d5c0ffe3"), looks := true }, kinds := [], alts := [], laidByText := true, laidKinds := [.data, .data, .data, .data, .sentinel, .sentinel, .pinned, .pinned], laidTests := true, laidLooks := .later }
def TopNeverWereCardSaid : Prop := Claim7.holds Tryz.pinned (.plain (OpenSpec.ofChange topNeverWereSpec)) topNeverWereCard

/-- THE SECOND FORM's CARD OF 'customhousetop.TopNeverWere'. -/
def topNeverWereUptoCard : Claim7 := { stood := { row := topNeverWereUptoRow, standIns := [], harness := (true, "62fc06ad38ba9742c01ef1a6c9fae674a285b4e6d537ca53c0629877d5c0ffe3"), looks := true }, kinds := [], alts := [], laidByText := true, laidKinds := [.data, .data, .data, .data, .sentinel, .sentinel, .pinned, .pinned], laidTests := true, laidLooks := .later }
def TopNeverWereUptoCardSaid : Prop := Claim7.holds Tryz.pinned (.plain (OpenSpec.upto topNeverWereSpec)) topNeverWereUptoCard
end Rows
end Go.Proofs.YtckocgkndbdhcaaGreatDoor
