/-
  The law's 'head'.
-/
import Derived.Test.YthnhbiogaikpoaaDoorClHead
namespace Go.Proofs.YthnhbiogaikpoaaDoor
open Go.RowKit Go.Cz Go.Cz.Ck
set_option linter.unusedSimpArgs false
set_option linter.unusedVariables false
attribute [local go_sem] bs_size bs_extract bs_append bs_toList
attribute [local irreducible] cList

structure HeadE (w W : World) (B g : Nat) : Prop where
  below : Below w.heap.size w W
  box : Bk W B #[.slice (some ⟨g, 0, none⟩) 2 2] 24
  sh : IsShifts W (some ⟨g, 0, none⟩) 2 zs
  std : Std W
theorem HeadE.next {w W W' : World} {B g : Nat} (h : HeadE w W B g) (hb : Below W.heap.size W W') : HeadE w W' B g ∧ B < W'.heap.size ∧ W'.cell? ⟨B, 0, none⟩ = some (.slice (some ⟨g, 0, none⟩) 2 2) := by
  have hb2 := h.box.below hb
  exact ⟨⟨h.below.trans (hb.mono h.below.size), hb2, h.sh.below hb, h.std.below hb⟩, hb2.lt, by rw [hb2.cell]; rfl⟩
set_option maxRecDepth 20000 in
set_option maxHeartbeats 4000000 in
theorem head_c (w : World) (hs : Std w) : Calls Tryd.prog 11 #[] w fun e w' => e = .returned (.bool true) ∧ Below w.heap.size w w' := by
  have HS := Lib.hid hs
  have HZ := Lib.hid (sample_c w)
  clear hs
  go_enter Tryd.func11, Tryd.ntmps11
  go_wp2_with fail
  go_at_call 25
  refine HZ.out.mono ?_
  rintro e w1 ⟨g, rfl, hb1, hz1⟩
  have HE : Hid (HeadE w (w1.alloc (.cells #[.slice (some ⟨g, 0, none⟩) 2 2] 24)) w1.heap.size g) :=
    ⟨hb1.alloc hb1.size _, Bk.new _ _ _, hz1.below (by repeat (first | exact Below.refl _ _ | (refine Below.drew ?_) | (refine Below.alloc ?_ (by (try simp only [World.size_alloc, World.size_setCell, World.size_drew] at *); omega) _) | (refine Below.setCell ?_ (by (try simp only [World.size_alloc, World.size_setCell, World.size_drew] at *); omega) _))), HS.out.below (hb1.alloc hb1.size _)⟩
  clear hb1 hz1 HZ
  go_wp2_with fail
  obtain ⟨B, hB⟩ : ∃ B, B = w1.heap.size := ⟨_, rfl⟩
  rw [← hB] at HE ⊢
  obtain ⟨W1, hW1⟩ : ∃ W1, W1 = w1.alloc (.cells #[.slice (some ⟨g, 0, none⟩) 2 2] 24) := ⟨_, rfl⟩
  rw [← hW1] at HE ⊢
  clear hB hW1
  obtain ⟨-, lz, cz⟩ := HE.out.next (Below.refl _ _)
  go_at_call 13
  refine (Local_c _ 2 2 zs 9999 W1 HE.out.sh).mono ?_
  rintro e w2 ⟨rfl, hb⟩
  rw [v_l1]
  clear lz cz
  obtain ⟨he, lz, cz⟩ := HE.out.next hb
  replace HE := Lib.hid he
  clear he hb
  go_wp2_with fail
  go_at_call 13
  refine (Local_c _ 2 2 zs 10000 w2 HE.out.sh).mono ?_
  rintro e w3 ⟨rfl, hb⟩
  rw [v_l2]
  clear lz cz
  obtain ⟨he, lz, cz⟩ := HE.out.next hb
  replace HE := Lib.hid he
  clear he hb
  go_wp2_with fail
  go_at_call 15
  refine (Instant_c _ 2 2 zs 7 0 w3 HE.out.sh).mono ?_
  rintro e w4 ⟨rfl, hb⟩
  rw [v_i1]
  clear lz cz
  obtain ⟨he, lz, cz⟩ := HE.out.next hb
  replace HE := Lib.hid he
  clear he hb
  go_wp2_with fail
  go_at_call 17
  refine (Begin_c _ 2 2 zs 1 w4 HE.out.sh).mono ?_
  rintro e w5 ⟨rfl, hb⟩
  rw [v_i2]
  clear lz cz
  obtain ⟨he, lz, cz⟩ := HE.out.next hb
  replace HE := Lib.hid he
  clear he hb
  go_wp2_with fail
  go_at_call 17
  refine (Begin_c _ 2 2 zs 0 w5 HE.out.sh).mono ?_
  rintro e w6 ⟨rfl, hb⟩
  rw [v_i3]
  clear lz cz
  obtain ⟨he, lz, cz⟩ := HE.out.next hb
  replace HE := Lib.hid he
  clear he hb
  go_wp2_with fail
  go_at_call 18
  refine (Text_c 17705 w6 HE.out.std).mono ?_
  rintro e w7 ⟨rfl, hb⟩
  rw [v_t]
  clear lz cz
  obtain ⟨he, lz, cz⟩ := HE.out.next hb
  replace HE := Lib.hid he
  clear he hb
  go_wp2_with fail
  go_at_call 20
  refine (Parse_c [49, 50, 47, 48, 55, 58, 48, 53] w7 (by decide) HE.out.std).mono ?_
  rintro e w8 ⟨rfl, hb⟩
  rw [v_p1]
  clear lz cz
  obtain ⟨he, lz, cz⟩ := HE.out.next hb
  replace HE := Lib.hid he
  clear he hb
  go_wp2_with fail
  go_at_call 20
  refine (Parse_c [49, 50, 47, 55, 58, 48, 53] w8 (by decide) HE.out.std).mono ?_
  rintro e w9 ⟨rfl, hb⟩
  rw [v_p2]
  clear lz cz
  obtain ⟨he, lz, cz⟩ := HE.out.next hb
  replace HE := Lib.hid he
  clear he hb
  go_wp2_with fail
  go_at_call 22
  refine (Valid_c _ 2 2 zs w9 HE.out.sh).mono ?_
  rintro e w10 ⟨rfl, hb⟩
  rw [v_zs]
  clear lz cz
  obtain ⟨he, lz, cz⟩ := HE.out.next hb
  replace HE := Lib.hid he
  clear he hb
  go_wp2_with fail
  go_ret
  exact ⟨rfl, HE.out.below⟩
end Go.Proofs.YthnhbiogaikpoaaDoor
