/-
  TopEachDay's head: w09Opened.
-/
import Derived.Test.YtlkihpgpcgeogaaDoorFzMore
import Derived.Test.YtlkihpgpcgeogaaDoorFzInt
namespace Go.Proofs.YtlkihpgpcgeogaaDoor
open Go.RowKit Go.Cz Go.Cz.Td
set_option linter.unusedSimpArgs false
set_option linter.unusedVariables false
attribute [local irreducible] cList cPlan
abbrev hd0 : Acc := ⟨365, 0, [(10, 1000000)], false⟩
abbrev hd1 : Acc := ⟨365, 0, [(10, 1000000), (15, 500000)], false⟩
theorem hd_recv : recvE hd0 15 500000 = 0 := by decide
theorem hd_recvA : recvA hd0 15 500000 = hd1 := by unfold recvA; rw [hd_recv]; rfl
theorem hd_int : intN hd1 20 false = 1250 ∧ intE hd1 20 = 0 := by decide
theorem hd_move : moveE hd1 20 1 false = 20 := by decide
theorem hd_good0 : GoodA hd0 := new_good (by decide)
theorem hd_good1 : GoodA hd1 := by
  have h := hd_good0.recv 15 500000
  rwa [hd_recvA] at h
theorem head_c (w : World) : Calls Tryd.prog 4 #[] w fun e w' => e = .returned (.bool true) ∧ Below w.heap.size w w' := by
  go_enter Tryd.func4, Tryd.ntmps4
  go_wp2_with fail
  go_at_call 5
  refine (new_c 365 0 10 1000000 w).mono ?_
  rintro e w1 (⟨h, -, -⟩ | ⟨-, b, rfl, ho⟩)
  · exact absurd h (by decide)
  have HO := Lib.hid ho
  clear ho
  go_wp2_with fail
  go_at_call 6
  refine (recv_c 15 500000 w1 HO.out hd_good0).mono ?_
  rintro e w2 ⟨rfl, ho⟩
  rw [hd_recvA] at ho
  rw [hd_recv]
  replace HO := Lib.hid ho
  clear ho
  go_wp2_with fail
  go_at_call 14
  refine (int_c 20 false w2 HO.out hd_good1).mono ?_
  rintro e w3 ⟨rfl, hb⟩
  rw [hd_int.1, hd_int.2]
  replace HO := Lib.hid (HO.out.below hb)
  clear hb
  go_wp2_with fail
  go_at_call 7
  refine (move_c 20 1 false w3 HO.out hd_good1).mono ?_
  rintro e w4 ⟨rfl, ho⟩
  rw [hd_move]
  have HB := Lib.hid ho.1
  clear ho HO
  go_wp2_with fail
  go_ret
  exact ⟨rfl, HB.out⟩
end Go.Proofs.YtlkihpgpcgeogaaDoor
