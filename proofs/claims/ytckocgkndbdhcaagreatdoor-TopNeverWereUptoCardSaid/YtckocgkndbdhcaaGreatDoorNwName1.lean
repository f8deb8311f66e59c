/-
  The names and changes of the law's own run: w11Name, add.
-/
import Derived.Test.YtckocgkndbdhcaaGreatDoorNwShort
namespace Go.Proofs.YtckocgkndbdhcaaGreatDoor
open Go.RowKit Go.Cz Go.Cz.Nw Go.Cz.Lx Go.ChangeMaps
set_option linter.unusedSimpArgs false
set_option linter.unusedVariables false
attribute [local go_sem] bs_size bs_extract bs_append bs_toList
attribute [local irreducible] cList cPlan
set_option maxRecDepth 10000 in
theorem name_c (word : Bytes) (w : World) : Calls Tryz.prog 10 #[.string (bs word)] w fun e w' => ∃ g, e = .returned (.agg #[.int .i64 1, .slice (some ⟨g, 0, none⟩) 1 1]) ∧ Below w.heap.size w w' ∧ w.heap.size ≤ g ∧ w'.cell? ⟨g, 0, none⟩ = some (.string (bs word)) := by
  go_enter Tryz.func10, Tryz.ntmps10
  go_wp2_with fail
  have hk := (Bk.new w #[.int .i64 1, .slice (some ⟨w.heap.size + 1, 0, none⟩) 1 1] 41).alloc (.cells #[.string (bs word)] 9)
  refine bodyPost_ret (results_cell_row (fn := Tryz.f10) (p := 2) (ty := 41) (by rfl) _ _ w.heap.size 41 #[.int .i64 1, .slice (some ⟨w.heap.size + 1, 0, none⟩) 1 1] (0, 0) _ (by rfl) hk Tryz.underlying41 rfl (by kernel_rfl)) (by rfl) ?_
  have hk2 := Bk.new (w.alloc (.cells #[.int .i64 1, .slice (some ⟨w.heap.size + 1, 0, none⟩) 1 1] 41)) #[.string (bs word)] 9
  rw [alloc_size1] at hk2
  exact ⟨_, rfl, ((Below.refl w.heap.size w).alloc (Nat.le_refl _) _).alloc (by rw [alloc_size1]; omega) _, by omega, by rw [hk2.cell]; rfl⟩
/-- One word, one name: what lies there is one. -/
theorem one_words {w : World} {g : Nat} {word : Bytes} (h : w.cell? ⟨g, 0, none⟩ = some (.string (bs word))) : IsWords w (.slice (some ⟨g, 0, none⟩) 1 1) [word] := by
  refine ⟨some ⟨g, 0, none⟩, 1, rfl, fun j x hx => ?_⟩
  match j, hx with
  | 0, hx =>
    simp at hx
    subst hx
    exact ⟨g, 0, rfl, World.block_lt_of_cell? w _ h, h⟩
  | j + 1, hx => simp at hx
theorem one_names {w : World} {g g1 : Nat} {word : Bytes} (h0 : w.cell? ⟨g, 0, none⟩ = some (.int .i64 1)) (h1 : w.cell? ⟨g, 1, none⟩ = some (.slice (some ⟨g1, 0, none⟩) 1 1)) (h : w.cell? ⟨g1, 0, none⟩ = some (.string (bs word))) : IsNames w (.slice (some ⟨g, 0, none⟩) 1 1) [⟨1, [word]⟩] := by
  refine ⟨some ⟨g, 0, none⟩, 1, rfl, fun j x hx => ?_⟩
  match j, hx with
  | 0, hx =>
    simp at hx
    subst hx
    exact ⟨g, 0, _, rfl, World.block_lt_of_cell? w _ h0, h0, h1, one_words h⟩
  | j + 1, hx => simp at hx
set_option maxRecDepth 10000 in
set_option maxHeartbeats 4000000 in
theorem add_c (id word : Bytes) (t : Int) (w : World) : Calls Tryz.prog 9 #[.string (bs id), .string (bs word), .int .i64 t] w fun e w' => ∃ g, e = .returned (.agg #[.int .i64 1, .string (bs id), .string (bs id), .slice (some ⟨g, 0, none⟩) 1 1, .int .i64 t]) ∧ Below w.heap.size w w' ∧ IsNames w' (.slice (some ⟨g, 0, none⟩) 1 1) [⟨1, [word]⟩] := by
  obtain ⟨W1, hW1⟩ : ∃ W, W = w.alloc (.cells #[.int .i64 0, .string ⟨#[]⟩, .string ⟨#[]⟩, .slice none 0 0, .int .i64 0] 29) := ⟨_, rfl⟩
  obtain ⟨b1, hb1⟩ : ∃ x, x = w.heap.size := ⟨_, rfl⟩
  have HB1 : Hid (Below w.heap.size w W1) := by rw [hW1]; exact (Below.refl _ _).alloc (Nat.le_refl _) _
  have HK1 : Hid (Bk W1 b1 #[.int .i64 0, .string ⟨#[]⟩, .string ⟨#[]⟩, .slice none 0 0, .int .i64 0] 29) := by rw [hW1, hb1]; exact Bk.new _ _ _
  go_enter Tryz.func9, Tryz.ntmps9
  go_upto_region 1 with fail
  rw [← hW1, ← hb1]
  have Hb1 := Lib.hid hb1
  clear hW1 hb1
  go_wp2_with fail
  go_at_call 10
  refine (name_c word W1).mono ?_
  rintro e W2 ⟨g1, rfl, hb2, hgl, hw2⟩
  have hne : b1 ≠ g1 := by have := HK1.out.lt; omega
  have HNe := Lib.hid hne
  have HB2 := Lib.hid (HB1.out.trans (hb2.mono HB1.out.size))
  have hk2 := HK1.out.below hb2
  have HK2 := Lib.hid hk2
  have hl2 := hk2.lt
  have HW2 := Lib.hid hw2
  obtain ⟨W3, hW3⟩ : ∃ W, W = W2.alloc (.cells #[.int .i64 1, .slice (some ⟨g1, 0, none⟩) 1 1] 41) := ⟨_, rfl⟩
  obtain ⟨g2, hg2⟩ : ∃ x, x = W2.heap.size := ⟨_, rfl⟩
  have hk3 : Bk W3 b1 #[.int .i64 0, .string ⟨#[]⟩, .string ⟨#[]⟩, .slice none 0 0, .int .i64 0] 29 := by rw [hW3]; exact hk2.alloc _
  have hn3 : Bk W3 g2 #[.int .i64 1, .slice (some ⟨g1, 0, none⟩) 1 1] 41 := by rw [hW3, hg2]; exact Bk.new _ _ _
  have hb3 : Below W2.heap.size W2 W3 := by rw [hW3]; exact (Below.refl _ _).alloc (Nat.le_refl _) _
  have hbg : b1 < g2 := by rw [hg2]; exact hl2
  obtain ⟨A, hA⟩ : ∃ A : List Value, A = [.int .i64 1, .string (bs id), .string (bs id), .slice (some ⟨g2, 0, none⟩) 1 1, .int .i64 t] := ⟨_, rfl⟩
  have HA := Lib.hid hA
  have hth : W3.there b1 0 5 := fun j hj => by
    rw [hk3.cell, hk3.free]
    refine ⟨?_, rfl⟩
    rw [Array.getElem?_eq_getElem (by simpa using hj)]
    rfl
  have HTh := Lib.hid hth
  have HK3 := Lib.hid hk3
  have HN3 := Lib.hid hn3
  have HB3 := Lib.hid hb3
  have HBg := Lib.hid hbg
  have HW3 := Lib.hid hW3
  have Hg2 := Lib.hid hg2
  clear hb2 hgl hne hw2 hk2 hl2 hW3 hg2 hk3 hn3 hb3 hbg hA hth HK1 HB1
  go_wp2_with (rw [← HW3.out, ← Hg2.out]; refine wpList_plain rfl fun K hK => wp_store_mid 29 (.tmp 6) (.tmp 14) (by rfl) b1 0 A.toArray (by rfl) (by rw [HA.out]; rfl) (by rw [HA.out]; exact HTh.out) (by rw [HA.out]; kernel_rfl) (by rw [HA.out]; simp [Value.oneCell']) ?_; refine hK _ _ ?_)
  have hk4 : Bk (W3.setCells b1 0 A) b1 A.toArray 29 := bk_whole A [.int .i64 0, .string ⟨#[]⟩, .string ⟨#[]⟩, .slice none 0 0, .int .i64 0] HK3.out (by rw [HA.out]; rfl)
  have hout : ∀ g i, b1 ≠ g → (W3.setCells b1 0 A).cell? ⟨g, i, none⟩ = W3.cell? ⟨g, i, none⟩ := fun g i h => World.cell?_setCells_out b1 A 0 W3 _ fun h1 => absurd h1.symm h
  have e1 : (W3.setCells b1 0 A).cell? ⟨g1, 0, none⟩ = some (.string (bs word)) := by rw [hout _ _ HNe.out]; exact old_cell HB3.out HW2.out
  have e2 : (W3.setCells b1 0 A).cell? ⟨g2, 0, none⟩ = some (.int .i64 1) := by rw [hout _ _ (by have := HBg.out; omega), HN3.out.cell]; rfl
  have e3 : (W3.setCells b1 0 A).cell? ⟨g2, 1, none⟩ = some (.slice (some ⟨g1, 0, none⟩) 1 1) := by rw [hout _ _ (by have := HBg.out; omega), HN3.out.cell]; rfl
  refine bodyPost_ret (results_cell_row (fn := Tryz.f9) (p := 6) (ty := 29) (by rfl) _ _ b1 29 A.toArray (0, 0) _ (by rfl) hk4 Tryz.underlying29 rfl (by rw [HA.out]; kernel_rfl)) (by rfl) ?_
  refine ⟨g2, by rw [HA.out], below_cells (by rw [Hb1.out]; exact Nat.le_refl _) A 0 W3 (HB2.out.trans (HB3.out.mono HB2.out.size)), one_names e2 e3 e1⟩
end Go.Proofs.YtckocgkndbdhcaaGreatDoor
