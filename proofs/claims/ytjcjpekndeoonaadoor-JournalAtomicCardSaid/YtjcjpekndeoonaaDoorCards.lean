/-
  DERIVED. GIVEN WITH THE SEED: THE CARDS: each row of YtjcjpekndeoonaaDoorRows.lean that lists a variable, with what it lists TIED to the program's text (the seventh form; the later family's looks); each row that meets fmt, with fmt's text TOLD by the authors' own Lean function (tested against real Go, not proved from fmt's source: count such statements apart). THE CARD IS WHAT COUNTS. Prove the row's statement (the work); the ties are given (YtjcjpekndeoonaaDoorTie.lean); close each card by the builder's one call (the guide's Derived/Test/ToyasCard.lean, 'card_holds'). Laid BY PROGRAM, IN A SANDBOX (cutbox-door.mjs). By AI agents, Wed Nov 11 2026. No macro, syntax, notation, axiom, sorry.
-/
import Derived.Test.YtjcjpekndeoonaaDoorRows
import GoSem.ClaimSeven
namespace Go.Proofs.YtjcjpekndeoonaaDoor
namespace Rows

/-- THE TIED CARD OF 'customhouselaw43.JournalDurable'. -/
def journalDurableCard : Claim7 := { stood := { row := journalDurableRow, standIns := [], harness := (true, "6e5aeb1d38d02c29da3fd6d70af46013f4a322af00aed745480ab86669015608"), looks := true }, kinds := [], alts := [], laidByText := true, laidKinds := [.data, .data, .data, .sentinel, .sentinel], laidTests := true, laidLooks := .later }
def JournalDurableCardSaid : Prop := Claim7.holds Tryd.pinned (.plain (OpenSpec.ofChange journalDurableSpec)) journalDurableCard

/-- THE TIED CARD OF 'customhouselaw43.JournalDamaged'. -/
def journalDamagedCard : Claim7 := { stood := { row := journalDamagedRow, standIns := [], harness := (true, "6e5aeb1d38d02c29da3fd6d70af46013f4a322af00aed745480ab86669015608"), looks := true }, kinds := [], alts := [], laidByText := true, laidKinds := [.data, .data, .data, .sentinel, .sentinel], laidTests := true, laidLooks := .later }
def JournalDamagedCardSaid : Prop := Claim7.holds Tryd.pinned (.plain (OpenSpec.ofChange journalDamagedSpec)) journalDamagedCard

/-- THE TIED CARD OF 'customhouselaw43.JournalBroken'. -/
def journalBrokenCard : Claim7 := { stood := { row := journalBrokenRow, standIns := [], harness := (true, "6e5aeb1d38d02c29da3fd6d70af46013f4a322af00aed745480ab86669015608"), looks := true }, kinds := [], alts := [], laidByText := true, laidKinds := [.data, .data, .data, .sentinel, .sentinel], laidTests := true, laidLooks := .later }
def JournalBrokenCardSaid : Prop := Claim7.holds Tryd.pinned (.plain (OpenSpec.ofChange journalBrokenSpec)) journalBrokenCard

/-- THE TIED CARD OF 'customhouselaw43.JournalForeign'. -/
def journalForeignCard : Claim7 := { stood := { row := journalForeignRow, standIns := [], harness := (true, "6e5aeb1d38d02c29da3fd6d70af46013f4a322af00aed745480ab86669015608"), looks := true }, kinds := [], alts := [], laidByText := true, laidKinds := [.data, .data, .data, .sentinel, .sentinel], laidTests := true, laidLooks := .later }
def JournalForeignCardSaid : Prop := Claim7.holds Tryd.pinned (.plain (OpenSpec.ofChange journalForeignSpec)) journalForeignCard

/-- THE TIED CARD OF 'customhouselaw43.JournalAtomic'. -/
def journalAtomicCard : Claim7 := { stood := { row := journalAtomicRow, standIns := [], harness := (true, "6e5aeb1d38d02c29da3fd6d70af46013f4a322af00aed745480ab86669015608"), looks := true }, kinds := [], alts := [], laidByText := true, laidKinds := [.data, .data, .data, .sentinel, .sentinel], laidTests := true, laidLooks := .later }
def JournalAtomicCardSaid : Prop := Claim7.holds Tryd.pinned (.plain (OpenSpec.ofChange journalAtomicSpec)) journalAtomicCard

/-- THE SECOND FORM's CARD OF 'customhouselaw43.JournalDurable'. -/
def journalDurableUptoCard : Claim7 := { stood := { row := journalDurableUptoRow, standIns := [], harness := (true, "6e5aeb1d38d02c29da3fd6d70af46013f4a322af00aed745480ab86669015608"), looks := true }, kinds := [], alts := [], laidByText := true, laidKinds := [.data, .data, .data, .sentinel, .sentinel], laidTests := true, laidLooks := .later }
def JournalDurableUptoCardSaid : Prop := Claim7.holds Tryd.pinned (.plain (OpenSpec.upto journalDurableSpec)) journalDurableUptoCard

/-- THE SECOND FORM's CARD OF 'customhouselaw43.JournalDamaged'. -/
def journalDamagedUptoCard : Claim7 := { stood := { row := journalDamagedUptoRow, standIns := [], harness := (true, "6e5aeb1d38d02c29da3fd6d70af46013f4a322af00aed745480ab86669015608"), looks := true }, kinds := [], alts := [], laidByText := true, laidKinds := [.data, .data, .data, .sentinel, .sentinel], laidTests := true, laidLooks := .later }
def JournalDamagedUptoCardSaid : Prop := Claim7.holds Tryd.pinned (.plain (OpenSpec.upto journalDamagedSpec)) journalDamagedUptoCard

/-- THE SECOND FORM's CARD OF 'customhouselaw43.JournalBroken'. -/
def journalBrokenUptoCard : Claim7 := { stood := { row := journalBrokenUptoRow, standIns := [], harness := (true, "6e5aeb1d38d02c29da3fd6d70af46013f4a322af00aed745480ab86669015608"), looks := true }, kinds := [], alts := [], laidByText := true, laidKinds := [.data, .data, .data, .sentinel, .sentinel], laidTests := true, laidLooks := .later }
def JournalBrokenUptoCardSaid : Prop := Claim7.holds Tryd.pinned (.plain (OpenSpec.upto journalBrokenSpec)) journalBrokenUptoCard

/-- THE SECOND FORM's CARD OF 'customhouselaw43.JournalForeign'. -/
def journalForeignUptoCard : Claim7 := { stood := { row := journalForeignUptoRow, standIns := [], harness := (true, "6e5aeb1d38d02c29da3fd6d70af46013f4a322af00aed745480ab86669015608"), looks := true }, kinds := [], alts := [], laidByText := true, laidKinds := [.data, .data, .data, .sentinel, .sentinel], laidTests := true, laidLooks := .later }
def JournalForeignUptoCardSaid : Prop := Claim7.holds Tryd.pinned (.plain (OpenSpec.upto journalForeignSpec)) journalForeignUptoCard

/-- THE SECOND FORM's CARD OF 'customhouselaw43.JournalAtomic'. -/
def journalAtomicUptoCard : Claim7 := { stood := { row := journalAtomicUptoRow, standIns := [], harness := (true, "6e5aeb1d38d02c29da3fd6d70af46013f4a322af00aed745480ab86669015608"), looks := true }, kinds := [], alts := [], laidByText := true, laidKinds := [.data, .data, .data, .sentinel, .sentinel], laidTests := true, laidLooks := .later }
def JournalAtomicUptoCardSaid : Prop := Claim7.holds Tryd.pinned (.plain (OpenSpec.upto journalAtomicSpec)) journalAtomicUptoCard
end Rows
end Go.Proofs.YtjcjpekndeoonaaDoor
