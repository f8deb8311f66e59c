/-
  DERIVED. GIVEN WITH THE SEED: THE CARDS: each row of YtkcbdlnoobjmbaaDoorRows.lean that lists a variable, with what it lists TIED to the program's text (the seventh form; the later family's looks); each row that meets fmt, with fmt's text TOLD by the authors' own Lean function (tested against real Go, not proved from fmt's source: count such statements apart). THE CARD IS WHAT COUNTS. Prove the row's statement (the work); the ties are given (YtkcbdlnoobjmbaaDoorTie.lean); close each card by the builder's one call (the guide's Derived/Test/ToyasCard.lean, 'card_holds'). Laid BY PROGRAM, IN A SANDBOX (cutbox-door.mjs). By AI agents, Wed Nov 11 2026. No macro, syntax, notation, axiom, sorry.
-/
import Derived.Test.YtkcbdlnoobjmbaaDoorRows
import GoSem.ClaimSeven
namespace Go.Proofs.YtkcbdlnoobjmbaaDoor
namespace Rows

/-- THE TIED CARD OF 'customhouselaw31.WindowMatchesReference'. -/
def windowMatchesReferenceCard : Claim7 := { stood := { row := windowMatchesReferenceRow, standIns := [], harness := (true, "83976fd4c881fff5173902935fe460a29e47b197596fb71936ab339715c2ce63"), looks := true }, kinds := [], alts := [], laidByText := true, laidKinds := [.data, .data, .data, .sentinel, .sentinel], laidTests := true, laidLooks := .later }
def WindowMatchesReferenceCardSaid : Prop := Claim7.holds Tryd.pinned (.plain (OpenSpec.ofChange windowMatchesReferenceSpec)) windowMatchesReferenceCard

/-- THE TIED CARD OF 'customhouselaw31.WindowChangesAsReference'. -/
def windowChangesAsReferenceCard : Claim7 := { stood := { row := windowChangesAsReferenceRow, standIns := [], harness := (true, "83976fd4c881fff5173902935fe460a29e47b197596fb71936ab339715c2ce63"), looks := true }, kinds := [], alts := [], laidByText := true, laidKinds := [.data, .data, .data, .sentinel, .sentinel], laidTests := true, laidLooks := .later }
def WindowChangesAsReferenceCardSaid : Prop := Claim7.holds Tryd.pinned (.plain (OpenSpec.ofChange windowChangesAsReferenceSpec)) windowChangesAsReferenceCard

/-- THE TIED CARD OF 'customhouselaw31.WindowWinds'. -/
def windowWindsCard : Claim7 := { stood := { row := windowWindsRow, standIns := [], harness := (true, "83976fd4c881fff5173902935fe460a29e47b197596fb71936ab339715c2ce63"), looks := true }, kinds := [], alts := [], laidByText := true, laidKinds := [.data, .data, .data, .sentinel, .sentinel], laidTests := true, laidLooks := .later }
def WindowWindsCardSaid : Prop := Claim7.holds Tryd.pinned (.plain (OpenSpec.ofChange windowWindsSpec)) windowWindsCard

/-- THE TIED CARD OF 'customhouselaw31.WindowLater'. -/
def windowLaterCard : Claim7 := { stood := { row := windowLaterRow, standIns := [], harness := (true, "83976fd4c881fff5173902935fe460a29e47b197596fb71936ab339715c2ce63"), looks := true }, kinds := [], alts := [], laidByText := true, laidKinds := [.data, .data, .data, .sentinel, .sentinel], laidTests := true, laidLooks := .later }
def WindowLaterCardSaid : Prop := Claim7.holds Tryd.pinned (.plain (OpenSpec.ofChange windowLaterSpec)) windowLaterCard

/-- THE TIED CARD OF 'customhouselaw31.WindowConstant'. -/
def windowConstantCard : Claim7 := { stood := { row := windowConstantRow, standIns := [], harness := (true, "83976fd4c881fff5173902935fe460a29e47b197596fb71936ab339715c2ce63"), looks := true }, kinds := [], alts := [], laidByText := true, laidKinds := [.data, .data, .data, .sentinel, .sentinel], laidTests := true, laidLooks := .later }
def WindowConstantCardSaid : Prop := Claim7.holds Tryd.pinned (.plain (OpenSpec.ofChange windowConstantSpec)) windowConstantCard

/-- THE TIED CARD OF 'customhouselaw31.WindowSpans'. -/
def windowSpansCard : Claim7 := { stood := { row := windowSpansRow, standIns := [], harness := (true, "83976fd4c881fff5173902935fe460a29e47b197596fb71936ab339715c2ce63"), looks := true }, kinds := [], alts := [], laidByText := true, laidKinds := [.data, .data, .data, .sentinel, .sentinel], laidTests := true, laidLooks := .later }
def WindowSpansCardSaid : Prop := Claim7.holds Tryd.pinned (.plain (OpenSpec.ofChange windowSpansSpec)) windowSpansCard

/-- THE TIED CARD OF 'customhouselaw31.WindowPlain'. -/
def windowPlainCard : Claim7 := { stood := { row := windowPlainRow, standIns := [], harness := (true, "83976fd4c881fff5173902935fe460a29e47b197596fb71936ab339715c2ce63"), looks := true }, kinds := [], alts := [], laidByText := true, laidKinds := [.data, .data, .data, .sentinel, .sentinel], laidTests := true, laidLooks := .later }
def WindowPlainCardSaid : Prop := Claim7.holds Tryd.pinned (.plain (OpenSpec.ofChange windowPlainSpec)) windowPlainCard

/-- THE SECOND FORM's CARD OF 'customhouselaw31.WindowMatchesReference'. -/
def windowMatchesReferenceUptoCard : Claim7 := { stood := { row := windowMatchesReferenceUptoRow, standIns := [], harness := (true, "83976fd4c881fff5173902935fe460a29e47b197596fb71936ab339715c2ce63"), looks := true }, kinds := [], alts := [], laidByText := true, laidKinds := [.data, .data, .data, .sentinel, .sentinel], laidTests := true, laidLooks := .later }
def WindowMatchesReferenceUptoCardSaid : Prop := Claim7.holds Tryd.pinned (.plain (OpenSpec.upto windowMatchesReferenceSpec)) windowMatchesReferenceUptoCard

/-- THE SECOND FORM's CARD OF 'customhouselaw31.WindowChangesAsReference'. -/
def windowChangesAsReferenceUptoCard : Claim7 := { stood := { row := windowChangesAsReferenceUptoRow, standIns := [], harness := (true, "83976fd4c881fff5173902935fe460a29e47b197596fb71936ab339715c2ce63"), looks := true }, kinds := [], alts := [], laidByText := true, laidKinds := [.data, .data, .data, .sentinel, .sentinel], laidTests := true, laidLooks := .later }
def WindowChangesAsReferenceUptoCardSaid : Prop := Claim7.holds Tryd.pinned (.plain (OpenSpec.upto windowChangesAsReferenceSpec)) windowChangesAsReferenceUptoCard

/-- THE SECOND FORM's CARD OF 'customhouselaw31.WindowWinds'. -/
def windowWindsUptoCard : Claim7 := { stood := { row := windowWindsUptoRow, standIns := [], harness := (true, "83976fd4c881fff5173902935fe460a29e47b197596fb71936ab339715c2ce63"), looks := true }, kinds := [], alts := [], laidByText := true, laidKinds := [.data, .data, .data, .sentinel, .sentinel], laidTests := true, laidLooks := .later }
def WindowWindsUptoCardSaid : Prop := Claim7.holds Tryd.pinned (.plain (OpenSpec.upto windowWindsSpec)) windowWindsUptoCard

/-- THE SECOND FORM's CARD OF 'customhouselaw31.WindowLater'. -/
def windowLaterUptoCard : Claim7 := { stood := { row := windowLaterUptoRow, standIns := [], harness := (true, "83976fd4c881fff5173902935fe460a29e47b197596fb71936ab339715c2ce63"), looks := true }, kinds := [], alts := [], laidByText := true, laidKinds := [.data, .data, .data, .sentinel, .sentinel], laidTests := true, laidLooks := .later }
def WindowLaterUptoCardSaid : Prop := Claim7.holds Tryd.pinned (.plain (OpenSpec.upto windowLaterSpec)) windowLaterUptoCard

/-- THE SECOND FORM's CARD OF 'customhouselaw31.WindowConstant'. -/
def windowConstantUptoCard : Claim7 := { stood := { row := windowConstantUptoRow, standIns := [], harness := (true, "83976fd4c881fff5173902935fe460a29e47b197596fb71936ab339715c2ce63"), looks := true }, kinds := [], alts := [], laidByText := true, laidKinds := [.data, .data, .data, .sentinel, .sentinel], laidTests := true, laidLooks := .later }
def WindowConstantUptoCardSaid : Prop := Claim7.holds Tryd.pinned (.plain (OpenSpec.upto windowConstantSpec)) windowConstantUptoCard

/-- THE SECOND FORM's CARD OF 'customhouselaw31.WindowSpans'. -/
def windowSpansUptoCard : Claim7 := { stood := { row := windowSpansUptoRow, standIns := [], harness := (true, "83976fd4c881fff5173902935fe460a29e47b197596fb71936ab339715c2ce63"), looks := true }, kinds := [], alts := [], laidByText := true, laidKinds := [.data, .data, .data, .sentinel, .sentinel], laidTests := true, laidLooks := .later }
def WindowSpansUptoCardSaid : Prop := Claim7.holds Tryd.pinned (.plain (OpenSpec.upto windowSpansSpec)) windowSpansUptoCard

/-- THE SECOND FORM's CARD OF 'customhouselaw31.WindowPlain'. -/
def windowPlainUptoCard : Claim7 := { stood := { row := windowPlainUptoRow, standIns := [], harness := (true, "83976fd4c881fff5173902935fe460a29e47b197596fb71936ab339715c2ce63"), looks := true }, kinds := [], alts := [], laidByText := true, laidKinds := [.data, .data, .data, .sentinel, .sentinel], laidTests := true, laidLooks := .later }
def WindowPlainUptoCardSaid : Prop := Claim7.holds Tryd.pinned (.plain (OpenSpec.upto windowPlainSpec)) windowPlainUptoCard
end Rows
end Go.Proofs.YtkcbdlnoobjmbaaDoor
