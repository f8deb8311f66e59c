/-
  The laws' 'short'; key words; names; well-formed nodes.
-/
import Derived.Test.YtoeknmkephnekaaGreatDoorFmRec
namespace Go.Proofs.YtoeknmkephnekaaGreatDoor
open Go.RowKit Go.Cz Go.Cz.Lx Go.Cz.Fo
set_option linter.unusedSimpArgs false
set_option linter.unusedVariables false
attribute [local go_sem] bs_size bs_extract bs_append bs_toList
attribute [local irreducible] cList cPlan
section
variable {p : Nat → Prop}
end
theorem keyB_has (s : Bytes) : Lib.containsS ([bs wOr, bs wAnd, bs wNot, bs wTrue, bs wFalse].take 5) (bs s) = keyB s := by
  rw [Bool.eq_iff_iff, Lib.containsS_iff]
  have e : ∀ a : Bytes, (bs s = bs a) = (s = a) := fun a => propext ⟨bs_inj, fun h => by rw [h]⟩
  simp [keyB, e]
theorem key_c (s : Bytes) (w : World) : Calls Tryz.prog 67 #[.string (bs s)] w (fun e w' => e = .returned (.bool (keyB s)) ∧ Below w.heap.size w w') := by
  go_enter Tryz.func67, Tryz.ntmps67
  go_wp2_with fail
  have hcell : ∀ j, j < [bs wOr, bs wAnd, bs wNot, bs wTrue, bs wFalse].length → (w.alloc (.cells #[.string ⟨#[111, 114]⟩, .string ⟨#[97, 110, 100]⟩, .string ⟨#[110, 111, 116]⟩, .string ⟨#[116, 114, 117, 101]⟩, .string ⟨#[102, 97, 108, 115, 101]⟩] 9)).cell? ⟨w.heap.size, 0 + j, none⟩ = some (.string ([bs wOr, bs wAnd, bs wNot, bs wTrue, bs wFalse].getD j ByteArray.empty)) := by
    intro j hj
    rw [cell_of_heap (new_heap w _ _ rfl)]
    rcases j with _ | _ | _ | _ | _ | j
    iterate 5 rfl
    simp at hj
    omega
  have HC := Lib.hid hcell
  clear hcell
  refine (Tryz.slices_Contains_string w.heap.size 0 5 5 [bs wOr, bs wAnd, bs wNot, bs wTrue, bs wFalse] (bs s) _ (by simp) (by omega) HC.out).mono ?_
  rintro e w2 ⟨rfl, rfl⟩
  rw [keyB_has]
  clear HC
  go_wp2_with fail
  go_ret
  exact ⟨rfl, (Below.refl _ _).alloc (Nat.le_refl _) _⟩
theorem rKey_c (s : Bytes) (w : World) : Calls Tryz.prog 145 #[.string (bs s)] w (fun e w' => e = .returned (.bool (keyB s)) ∧ w' = w) := by
  go_enter Tryz.func145, Tryz.ntmps145
  go_wp2_with fail
  all_goals go_ret
  all_goals refine ⟨?_, rfl⟩
  all_goals simp_all [keyB, wOr, wAnd, wNot, wTrue, wFalse, Bool.or_assoc]
end Go.Proofs.YtoeknmkephnekaaGreatDoor
