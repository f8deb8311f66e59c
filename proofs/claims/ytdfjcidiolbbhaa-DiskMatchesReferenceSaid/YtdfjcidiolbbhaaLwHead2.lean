/-
  What 'head' of the disk's laws answers: true. The walk.
-/
import Derived.Test.YtdfjcidiolbbhaaLwHead
namespace Go.Proofs.Ytdfjcidiolbbhaa
open Go.RowKit Go.Cz Go.Cz.Dk
set_option linter.unusedSimpArgs false
set_option linter.unusedVariables false
attribute [local go_sem] bs_size bs_extract bs_append bs_toList
attribute [local irreducible] Own fillT hd0 hd1 hd2 hd3 hd4 hd5 hx0 hx1 hx2 hx3 hx4 hk0 hk1 hk2 hk3 hk4

set_option maxRecDepth 100000 in
set_option maxHeartbeats 4000000 in
theorem head_c (w : World) : Calls Try.prog 11 #[] w fun e w' => e = .returned (.bool true) ∧ Below w.heap.size w w' := by
  have lA : (fillT [97]).length = 64 := length_fill _ (by simp)
  have lB : (fillT [98]).length = 64 := length_fill _ (by simp)
  have HA : Hid (∀ w, Calls Try.prog 28 #[.string (bs [97])] w fun e w' => e = .returned (.string (bs (fillT [97]))) ∧ Below w.heap.size w w') := fun w => fill_c [97] (by simp) w
  have HB : Hid (∀ w, Calls Try.prog 28 #[.string (bs [98])] w fun e w' => e = .returned (.string (bs (fillT [98]))) ∧ Below w.heap.size w w') := fun w => fill_c [98] (by simp) w
  have HZ : Hid (∀ w, Calls Try.prog 28 #[.string (bs [0])] w fun e w' => e = .returned (.string (bs (fillT [0]))) ∧ Below w.heap.size w w') := fun w => fill_c [0] (by simp) w
  have HWn : Hid (∀ w, Calls Try.prog 23 #[.pointer none, .int .i64 0, .string (bs (fillT [97]))] w fun e w' => e = .returned (.int .i64 1) ∧ Below w.heap.size w w') := fun w => Write_nil 0 (fillT [97]) w
  have hw0 : Below w.heap.size w w := Below.refl _ _
  have HN2 : Hid (∀ w1, Below w.heap.size w w1 → Calls Try.prog 13 #[.int .i64 2] w1 fun e w' => ∃ b, e = .returned (.pointer (some ⟨b, 0, none⟩)) ∧ Own w w' b hd0 []) := fun w1 h => by have := Own.fresh 2 h (by omega) (by omega); rw [hd0]; exact this
  have HNx : Hid (∀ w1, Below w.heap.size w w1 → Calls Try.prog 13 #[.int .i64 1] w1 fun e w' => ∃ b, e = .returned (.pointer (some ⟨b, 0, none⟩)) ∧ Own w w' b hx0 []) := fun w1 h => by have := Own.fresh 1 h (by omega) (by omega); rw [hx0]; exact this
  have HNk : Hid (∀ w1, Below w.heap.size w w1 → Calls Try.prog 13 #[.int .i64 1] w1 fun e w' => ∃ b, e = .returned (.pointer (some ⟨b, 0, none⟩)) ∧ Own w w' b hk0 []) := fun w1 h => by have := Own.fresh 1 h (by omega) (by omega); rw [hk0]; exact this
  have t0 : Hid True := trivial
  have t1 : Hid True := trivial
  have t2 : Hid True := trivial
  have t3 : Hid True := trivial
  have t4 : Hid True := trivial
  have t5 : Hid True := trivial
  have t6 : Hid True := trivial
  have t7 : Hid True := trivial
  have t8 : Hid True := trivial
  have t9 : Hid True := trivial
  have t10 : Hid True := trivial
  have t11 : Hid True := trivial
  have t12 : Hid True := trivial
  have t13 : Hid True := trivial
  have t14 : Hid True := trivial
  have t15 : Hid True := trivial
  have t16 : Hid True := trivial
  have t17 : Hid True := trivial
  have t18 : Hid True := trivial
  have t19 : Hid True := trivial
  have t20 : Hid True := trivial
  have t21 : Hid True := trivial
  have t22 : Hid True := trivial
  have t23 : Hid True := trivial
  have t24 : Hid True := trivial
  have t25 : Hid True := trivial
  have t26 : Hid True := trivial
  have t27 : Hid True := trivial
  have t28 : Hid True := trivial
  have t29 : Hid True := trivial
  have t30 : Hid True := trivial
  have t31 : Hid True := trivial
  have t32 : Hid True := trivial
  have t33 : Hid True := trivial
  have t34 : Hid True := trivial
  have t35 : Hid True := trivial
  have t36 : Hid True := trivial
  have t37 : Hid True := trivial
  have t38 : Hid True := trivial
  have t39 : Hid True := trivial
  have t40 : Hid True := trivial
  have t41 : Hid True := trivial
  have t42 : Hid True := trivial
  have t43 : Hid True := trivial
  have t44 : Hid True := trivial
  have t45 : Hid True := trivial
  have lt : List.take 62 (List.drop 2 (fillT [97])) = List.drop 2 (fillT [97]) := List.take_of_length_le (by simp [lA])
  have e1 : ({ data := #[98, 98] } : ByteArray) ++ bs (List.take 62 (List.drop 2 (fillT [97]))) = bs (98 :: 98 :: List.drop 2 (fillT [97])) := by rw [lt]; exact bs_append [98, 98] _
  have e2 : ({ data := #[97, 98] } : ByteArray) ++ bs (List.take 62 (List.drop 2 (fillT [97]))) = bs (97 :: 98 :: List.drop 2 (fillT [97])) := by rw [lt]; exact bs_append [97, 98] _
  clear lt
  go_enter Try.func11, Try.ntmps11
  go_wp2_with (first | (go_at_call 13; clear t0; refine (HN2.out _ hw0).mono ?_; clear hw0; rintro e w1 ⟨b, rfl, h⟩) | (go_at_call 28; clear t1; refine (HA.out _).mono ?_; rintro e w1 ⟨rfl, hb⟩; replace h := Own.below h hb; clear hb) | (go_at_call 23; clear t2; refine (W1 h).mono ?_; clear h; rintro e w1 ⟨rfl, h⟩) | (go_at_call 21; clear t3; refine (Y1 h).mono ?_; clear h; rintro e w1 ⟨rfl, h⟩) | (go_at_call 28; clear t4; refine (HB.out _).mono ?_; rintro e w1 ⟨rfl, hb⟩; replace h := Own.below h hb; clear hb) | (go_at_call 23; clear t5; refine (W2 h).mono ?_; clear h; rintro e w1 ⟨rfl, h⟩) | (go_at_call 18; clear t6; refine (D1 h).mono ?_; clear h; rintro e w1 ⟨rfl, h⟩) | (go_at_call 25; clear t7; refine (F1 h).mono ?_; clear h; rintro e w1 ⟨rfl, h⟩) | (go_at_call 21; clear t8; refine (Y2 h).mono ?_; clear h; rintro e w1 ⟨rfl, h⟩) | (go_at_call 20; clear t9; refine (S1 h).mono ?_; clear h; rintro e w1 ⟨rfl, h⟩) | (go_at_call 18; clear t10; refine (D2 h).mono ?_; clear h; rintro e w1 ⟨rfl, h⟩) | (go_at_call 18; clear t11; refine (D3 h).mono ?_; clear h; rintro e w1 ⟨rfl, h⟩) | (go_at_call 18; clear t12; refine (D4 h).mono ?_; clear h; rintro e w1 ⟨rfl, h⟩) | (go_at_call 23; clear t13; refine (W3 h).mono ?_; clear h; rintro e w1 ⟨rfl, h⟩) | (go_at_call 25; clear t14; refine (Fail_nil _ _ _).mono ?_; rintro e w1 ⟨rfl, rfl⟩) | (go_at_call 20; clear t15; refine (Start_nil _).mono ?_; rintro e w1 ⟨rfl, rfl⟩) | (go_at_call 29; clear t16; refine (Arm_nil _ _ _ _).mono ?_; rintro e w1 ⟨rfl, rfl⟩) | (go_at_call 30; clear t17; refine (Rot_nil _ _ _ _).mono ?_; rintro e w1 ⟨rfl, hb⟩; replace h := Own.below h hb; clear hb) | (go_at_call 13; clear t18; refine (HNx.out _ (Own.base h)).mono ?_; clear h; rintro e w1 ⟨b, rfl, h⟩) | (go_at_call 28; clear t19; refine (HA.out _).mono ?_; rintro e w1 ⟨rfl, hb⟩; replace h := Own.below h hb; clear hb) | (go_at_call 23; clear t20; refine (W4 h).mono ?_; clear h; rintro e w1 ⟨rfl, h⟩) | (go_at_call 21; clear t21; refine (Y3 h).mono ?_; clear h; rintro e w1 ⟨rfl, h⟩) | (go_at_call 30; clear t22; refine (T1 h).mono ?_; clear h; rintro e w1 ⟨rfl, h⟩) | (go_at_call 18; clear t23; refine (D5 h).mono ?_; clear h; rintro e w1 ⟨rfl, h⟩) | (go_at_call 28; clear t24; refine (HB.out _).mono ?_; rintro e w1 ⟨rfl, hb⟩; replace h := Own.below h hb; clear hb) | (go_at_call 23; clear t25; refine (W5 h).mono ?_; clear h; rintro e w1 ⟨rfl, h⟩) | (go_at_call 28; clear t26; refine (HA.out _).mono ?_; rintro e w1 ⟨rfl, hb⟩; replace h := Own.below h hb; clear hb) | (go_at_call 31; clear t27; refine (G1 h).mono ?_; clear h; rintro e w1 ⟨rfl, h⟩) | (go_at_call 31; clear t28; refine (Raw_nil _).mono ?_; rintro e w1 ⟨rfl, rfl⟩) | (go_at_call 13; clear t29; refine (HNk.out _ (Own.base h)).mono ?_; clear h; rintro e w1 ⟨b, rfl, h⟩) | (go_at_call 29; clear t30; refine (A1 h).mono ?_; clear h; rintro e w1 ⟨rfl, h⟩) | (go_at_call 28; clear t31; refine (HA.out _).mono ?_; rintro e w1 ⟨rfl, hb⟩; replace h := Own.below h hb; clear hb) | (go_at_call 23; clear t32; refine (W6 h).mono ?_; clear h; rintro e w1 ⟨rfl, h⟩) | (go_at_call 28; clear t33; refine (HB.out _).mono ?_; rintro e w1 ⟨rfl, hb⟩; replace h := Own.below h hb; clear hb) | (go_at_call 23; clear t34; refine (W7 h).mono ?_; clear h; rintro e w1 ⟨rfl, h⟩) | (go_at_call 20; clear t35; refine (S2 h).mono ?_; clear h; rintro e w1 ⟨rfl, h⟩) | (go_at_call 18; clear t36; refine (D6 h).mono ?_; clear h; rintro e w1 ⟨rfl, h⟩) | (go_at_call 28; clear t37; refine (HA.out _).mono ?_; rintro e w1 ⟨rfl, hb⟩; replace h := Own.below h hb; clear hb) | (go_at_call 28; clear t38; refine (HB.out _).mono ?_; rintro e w1 ⟨rfl, hb⟩; replace h := Own.below h hb; clear hb) | (go_at_call 28; clear t39; refine (HA.out _).mono ?_; rintro e w1 ⟨rfl, hb⟩; replace h := Own.below h hb; clear hb) | (go_at_call 28; clear t40; refine (HZ.out _).mono ?_; rintro e w1 ⟨rfl, hb⟩; replace h := Own.below h hb; clear hb) | (go_at_call 21; clear t41; refine (Sync_nil _).mono ?_; rintro e w1 ⟨rfl, rfl⟩) | (go_at_call 28; clear t42; refine (HA.out _).mono ?_; rintro e w1 ⟨rfl, hb⟩; replace h := Own.below h hb; clear hb) | (go_at_call 23; clear t43; refine (HWn.out _).mono ?_; rintro e w1 ⟨rfl, hb⟩; replace h := Own.below h hb; clear hb) | (go_at_call 13; clear t44; refine (New_bad 0 _ (by omega)).mono ?_; rintro e w1 ⟨rfl, rfl⟩) | (go_at_call 13; clear t45; refine (New_bad 4001 _ (by omega)).mono ?_; rintro e w1 ⟨rfl, rfl⟩))

  go_ret
  exact ⟨by simp [go_sem], h.base⟩
end Go.Proofs.Ytdfjcidiolbbhaa
