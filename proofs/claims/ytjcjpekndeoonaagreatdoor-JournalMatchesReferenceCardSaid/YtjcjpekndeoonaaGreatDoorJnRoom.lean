/-
  'Room'.
-/
import Derived.Test.YtjcjpekndeoonaaGreatDoorJnWrite
namespace Go.Proofs.YtjcjpekndeoonaaGreatDoor
open Go.RowKit Go.Cz Go.Cz.Jn
set_option linter.unusedSimpArgs false
set_option linter.unusedVariables false
attribute [local irreducible] cList cPlan
set_option maxHeartbeats 2000000 in
theorem Room_c {w0 w : World} {ps : List Piece} {db jb sec cnt : Nat} {rv : Value} {br : Bool} (h : Owns w0 w (jblk jb db sec cnt rv br :: ps)) (h1 : sec ≤ 1000000000) (h2 : cnt ≤ 1000000000) :
    Calls Tryz.prog 14 #[.pointer (some ⟨jb, 0, none⟩)] w fun e w' => e = .returned (.int .i64 ((sec : Int) - 2 - cnt)) ∧ Below w.heap.size w w' := by
  obtain ⟨bk, -⟩ := h.blk
  have hb1 := lt_of_block bk
  have c1 : w.cell? ⟨jb, 1, none⟩ = some (.int .i64 (sec : Int)) := by rw [cell_of_heap bk]; rfl
  have c2 : w.cell? ⟨jb, 2, none⟩ = some (.int .i64 (cnt : Int)) := by rw [cell_of_heap bk]; rfl
  clear bk h
  go_enter Tryz.func14, Tryz.ntmps14
  go_wp2_with fail
  refine wp_region_can [] (List.range 11) (by kernel_rfl) (by kernel_rfl) ?_
  iterate 11 (refine cl_do rfl rfl rfl rfl (fun _ _ => ?_); go_wp2_with fail)
  refine cl_nil ?_
  go_wp2_with fail
  go_ret
  exact ⟨rfl, (Below.refl _ _).drew⟩
end Go.Proofs.YtjcjpekndeoonaaGreatDoor
