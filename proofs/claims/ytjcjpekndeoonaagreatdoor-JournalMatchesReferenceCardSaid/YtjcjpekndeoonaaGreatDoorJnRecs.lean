/-
  'Records'.
-/
import Derived.Test.YtjcjpekndeoonaaGreatDoorJnClone
namespace Go.Proofs.YtjcjpekndeoonaaGreatDoor
open Go.RowKit Go.Cz Go.Cz.Jn
set_option linter.unusedSimpArgs false
set_option linter.unusedVariables false
attribute [local irreducible] cList cPlan
set_option maxHeartbeats 2000000 in
theorem Records_c {w0 w : World} {ps : List Piece} {db jb sec cnt : Nat} {rv : Value} {br : Bool} {l : List Bytes} (h : Owns w0 w (Go.Proofs.YtjcjpekndeoonaaGreatDoor.trow rv l :: jblk jb db sec cnt rv br :: ps)) (hl : l.length ≤ 1000000) :
    Calls Tryz.prog 9 #[.pointer (some ⟨jb, 0, none⟩)] w fun e w' => ∃ v', e = .returned v' ∧ Owns w0 w' (Go.Proofs.YtjcjpekndeoonaaGreatDoor.trow v' l :: Go.Proofs.YtjcjpekndeoonaaGreatDoor.trow rv l :: jblk jb db sec cnt rv br :: ps) := by
  obtain ⟨bk, -⟩ := h.swap.blk
  have hb1 := lt_of_block bk
  have c3 : w.cell? ⟨jb, 3, none⟩ = some rv := by rw [cell_of_heap bk]; rfl
  have HC := Lib.hid (clone_c h hl)
  clear bk h
  go_enter Tryz.func9, Tryz.ntmps9
  go_wp2_with fail
  go_at_call 42
  refine HC.out.mono ?_
  rintro e w1 ⟨v', rfl, ho⟩
  have HO := Lib.hid ho
  clear ho HC
  go_wp2_with fail
  go_ret
  exact ⟨_, rfl, HO.out⟩
end Go.Proofs.YtjcjpekndeoonaaGreatDoor
