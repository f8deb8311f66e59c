/-
  'FormulaTextsAsReference' returns true: the walk.
-/
import Derived.Test.YtagoefnibgobcaaGreatDoorFmRParse
import Derived.Test.YtagoefnibgobcaaGreatDoorFmHead
import Derived.Test.YtagoefnibgobcaaGreatDoorFmSame
import Derived.Test.YtagoefnibgobcaaGreatDoorFmLaw2
namespace Go.Cz.Fo
open Go.Cz.Lx
theorem parse_size2 (l : Bytes) : size (parseF l).1 ≤ 900000 := by
  by_cases h : (parseF l).2.1 = 0
  · have h1 : textE (parseF l).1 = 0 := parse_writes (l := l) (at' := (parseF l).2.2) (by rw [← h])
    have := (text_small h1).1
    omega
  · rw [parse_zero h]
    decide
end Go.Cz.Fo
namespace Go.Proofs.YtagoefnibgobcaaGreatDoor
open Go.RowKit Go.Cz Go.Cz.Lx Go.Cz.Fo
set_option linter.unusedSimpArgs false
set_option linter.unusedVariables false
attribute [local go_sem] bs_size bs_extract bs_append bs_toList
attribute [local irreducible] cList cPlan
set_option maxRecDepth 100000 in
set_option maxHeartbeats 8000000 in
theorem FormulaTextsAsReference_walk (w : World) (hs : Std w) (f : Fm) (kv : Value) (hf : IsFm (fun _ => True) w f kv) (l : Bytes) (hl : l.length ≤ 140737488355328) :
    Calls Tryz.prog 4 #[fval f kv, .string (bs l)] w fun e w' => e = .returned (.bool true) ∧ Below w.heap.size w w' := by
  have HS := Lib.hid hs
  clear hs
  obtain ⟨y, m, rfl⟩ := hf.form
  obtain ⟨N, hN⟩ : ∃ N, N = f.kids.length := ⟨_, rfl⟩
  rw [← hN] at hf ⊢
  have HF := Lib.hid hf
  clear hN hf
  obtain ⟨W1, hW1⟩ : ∃ W1, W1 = w.alloc (fobj f (.slice y N m)) := ⟨_, rfl⟩
  obtain ⟨bf, hbf⟩ : ∃ bf, bf = w.heap.size := ⟨_, rfl⟩
  have HO : Hid (Owns w W1 [blk bf (fobj f (.slice y N m))]) := by
    rw [hW1, hbf]
    exact Lib.hid ((Owns.start w).box (fobj f (.slice y N m)))
  go_enter Tryz.func4, Tryz.ntmps4
  go_wp2_with fail
  rw [← hW1]
  try rw [← hbf]
  clear hW1 hbf
  go_at_call 12
  refine (head_c W1 (HS.out.below HO.out.base)).mono ?_
  rintro e W2 ⟨rfl, hb⟩
  replace HO := Lib.hid (HO.out.below hb)
  clear hb
  focus
    obtain ⟨bk, -⟩ := HO.out.blk
    have hbf := lt_of_block bk
    have cf0 := cell_of_heap bk (i := 0)
    have cf1 := cell_of_heap bk (i := 1)
    have cf2 := cell_of_heap bk (i := 2)
    have cf3 := cell_of_heap bk (i := 3)
    have cf4 := cell_of_heap bk (i := 4)
    simp only [List.getElem?_toArray, List.getElem?_cons_succ, List.getElem?_cons_zero] at cf0 cf1 cf2 cf3 cf4
    clear bk
    go_wp2_with fail
    clear hbf cf0 cf1 cf2 cf3 cf4
  go_at_call 13
  refine (Small_c f W2 _ 300 (HF.out.later HO.out.base) (by omega)).mono ?_
  rintro e W3 ⟨rfl, hb⟩
  replace HO := Lib.hid (HO.out.below hb)
  obtain ⟨b, hb0⟩ : ∃ b, b = decide (size f ≤ 300) := ⟨_, rfl⟩
  have HB1 := Lib.hid hb0
  rw [← hb0]
  clear hb0 hb
  cases b
  · go_wp2_with fail
    go_ret
    exact ⟨rfl, HO.out.base⟩
  focus
    obtain ⟨bk, -⟩ := HO.out.blk
    have hbf := lt_of_block bk
    have cf0 := cell_of_heap bk (i := 0)
    have cf1 := cell_of_heap bk (i := 1)
    have cf2 := cell_of_heap bk (i := 2)
    have cf3 := cell_of_heap bk (i := 3)
    have cf4 := cell_of_heap bk (i := 4)
    simp only [List.getElem?_toArray, List.getElem?_cons_succ, List.getElem?_cons_zero] at cf0 cf1 cf2 cf3 cf4
    clear bk
    go_wp2_with fail
    clear hbf cf0 cf1 cf2 cf3 cf4
  have hz : size f ≤ 300 := of_decide_eq_true HB1.out.symm
  have HZ : Hid (size f ≤ 900000) := by show _ ≤ _; omega
  have HZk : Hid (sizes f.kids ≤ 900000) := by show _ ≤ _; rw [size_kids] at hz; omega
  clear hz
  go_at_call 15
  refine (short_c f W3 _ (HF.out.later HO.out.base) HZk.out).mono ?_
  rintro e W4 ⟨rfl, hb⟩
  replace HO := Lib.hid (HO.out.below hb)
  obtain ⟨b, hb0⟩ : ∃ b, b = short 60 f := ⟨_, rfl⟩
  have HB3 := Lib.hid hb0
  rw [← hb0]
  clear hb0 hb
  cases b
  · go_wp2_with fail
    go_ret
    exact ⟨rfl, HO.out.base⟩
  by_cases h3 : 3000 < l.length
  · have h3' : (3000 : Int) < (l.length : Int) := by omega
    clear h3
    go_wp2_with fail
    go_ret
    exact ⟨rfl, HO.out.base⟩
  have h3' : ¬ (3000 : Int) < (l.length : Int) := by omega
  clear h3
  focus
    obtain ⟨bk, -⟩ := HO.out.blk
    have hbf := lt_of_block bk
    have cf0 := cell_of_heap bk (i := 0)
    have cf1 := cell_of_heap bk (i := 1)
    have cf2 := cell_of_heap bk (i := 2)
    have cf3 := cell_of_heap bk (i := 3)
    have cf4 := cell_of_heap bk (i := 4)
    simp only [List.getElem?_toArray, List.getElem?_cons_succ, List.getElem?_cons_zero] at cf0 cf1 cf2 cf3 cf4
    clear bk
    go_wp2_with fail
    clear hbf cf0 cf1 cf2 cf3 cf4
  go_at_call 24
  refine (Text_c (p := fun _ => True) f W4 _ (HS.out.below HO.out.base) (HF.out.later HO.out.base) (lim := 60) (by omega) HB3.out.symm HZ.out).mono ?_
  rintro e W5 ⟨rfl, hb⟩
  replace HO := Lib.hid (HO.out.below hb)
  clear hb
  obtain ⟨tf, htf⟩ : ∃ tf, tf = if textE f = 0 then textF Lib.itoa f else [] := ⟨_, rfl⟩
  obtain ⟨ef, hef⟩ : ∃ ef, ef = textE f := ⟨_, rfl⟩
  have HTf := Lib.hid htf
  have HEf := Lib.hid hef
  rw [← htf, ← hef]
  clear htf hef
  focus
    obtain ⟨bk, -⟩ := HO.out.blk
    have hbf := lt_of_block bk
    have cf0 := cell_of_heap bk (i := 0)
    have cf1 := cell_of_heap bk (i := 1)
    have cf2 := cell_of_heap bk (i := 2)
    have cf3 := cell_of_heap bk (i := 3)
    have cf4 := cell_of_heap bk (i := 4)
    simp only [List.getElem?_toArray, List.getElem?_cons_succ, List.getElem?_cons_zero] at cf0 cf1 cf2 cf3 cf4
    clear bk
    go_wp2_with fail
    clear hbf cf0 cf1 cf2 cf3 cf4
  go_at_call 25
  refine (rText_c (p := fun _ => True) f W5 _ (HF.out.later HO.out.base) (lim := 60) (by omega) HB3.out.symm HZ.out).mono ?_
  rintro e W6 ⟨rfl, hb⟩
  replace HO := Lib.hid (HO.out.below hb)
  clear hb
  rw [← HTf.out, ← HEf.out]
  go_wp2_with fail
  go_at_call 26
  refine (Parse_c l _ hl).mono ?_
  rintro e W7 ⟨kx, rfl, hx, hb⟩
  obtain ⟨X, hX⟩ : ∃ X, X = (parseF l).1 := ⟨_, rfl⟩
  obtain ⟨ec, hec⟩ : ∃ ec, ec = (parseF l).2.1 := ⟨_, rfl⟩
  obtain ⟨ep, hep⟩ : ∃ ep, ep = (parseF l).2.2 := ⟨_, rfl⟩
  have HXz : Hid (size X ≤ 900000) := by rw [hX]; exact Lib.hid (parse_size2 l)
  have HXe := Lib.hid hX
  have HEe := Lib.hid hec
  have HPe := Lib.hid hep
  rw [← hX] at hx
  rw [← hX, ← hec, ← hep]
  obtain ⟨yx, mx, rfl⟩ := hx.form
  obtain ⟨nx, hnx⟩ : ∃ nx, nx = X.kids.length := ⟨_, rfl⟩
  have HNx := Lib.hid hnx
  rw [← hnx] at hx ⊢
  obtain ⟨W8, hW8⟩ : ∃ W8, W8 = W7.alloc (.cells #[.int .i64 X.op, .string (bs X.name), .int .i64 X.cmp, .int .i64 X.num, .slice yx nx mx] 24) := ⟨_, rfl⟩
  obtain ⟨bx, hbx⟩ : ∃ bx, bx = W7.heap.size := ⟨_, rfl⟩
  have hb8 : Below W7.heap.size W7 W8 := by rw [hW8]; exact (Below.refl _ _).alloc (Nat.le_refl _) _
  have HFX : Hid (IsFm (fun _ => True) W8 X (.slice yx nx mx)) := Lib.hid ((hx.mono fun _ _ _ => trivial).later hb8)
  replace HO : Hid (Owns w W8 [blk bx (fobj X (.slice yx nx mx)), blk bf (fobj f (.slice y N m))]) := by
    rw [hW8, hbx]
    exact Lib.hid ((HO.out.below hb).box (fobj X (.slice yx nx mx)))
  clear hX hec hep hnx hx hb hb8
  go_wp2_with fail
  rw [← hW8, ← hbx]
  clear hW8 hbx
  try go_at_call 27
  refine (rParse_c l _ hl).mono ?_
  rintro e W9 ⟨ky, rfl, hy, hb⟩
  rw [← HXe.out] at hy
  rw [← HXe.out, ← HEe.out, ← HPe.out]
  obtain ⟨yy, my, rfl⟩ := hy.form
  rw [← HNx.out] at hy ⊢
  obtain ⟨W10, hW10⟩ : ∃ W10, W10 = W9.alloc (.cells #[.int .i64 X.op, .string (bs X.name), .int .i64 X.cmp, .int .i64 X.num, .slice yy nx my] 24) := ⟨_, rfl⟩
  obtain ⟨bY, hbY⟩ : ∃ bY, bY = W9.heap.size := ⟨_, rfl⟩
  have hb10 : Below W9.heap.size W9 W10 := by rw [hW10]; exact (Below.refl _ _).alloc (Nat.le_refl _) _
  have HFY : Hid (IsFm (fun _ => True) W10 X (.slice yy nx my)) := Lib.hid ((hy.mono fun _ _ _ => trivial).later hb10)
  replace HFX := Lib.hid (HFX.out.later (hb.trans (hb10.mono hb.size)))
  replace HO : Hid (Owns w W10 [blk bY (fobj X (.slice yy nx my)), blk bx (fobj X (.slice yx nx mx)), blk bf (fobj f (.slice y N m))]) := by
    rw [hW10, hbY]
    exact Lib.hid ((HO.out.below hb).box (fobj X (.slice yy nx my)))
  clear hy hb hb10
  subst hW10 hbY
  focus
    obtain ⟨bk, -⟩ := HO.out.blk
    have hby := lt_of_block bk
    have cy0 := cell_of_heap bk (i := 0)
    have cy1 := cell_of_heap bk (i := 1)
    have cy2 := cell_of_heap bk (i := 2)
    have cy3 := cell_of_heap bk (i := 3)
    have cy4 := cell_of_heap bk (i := 4)
    simp only [List.getElem?_toArray, List.getElem?_cons_succ, List.getElem?_cons_zero] at cy0 cy1 cy2 cy3 cy4
    clear bk
    obtain ⟨bk, -⟩ := HO.out.pop.blk
    have hbx := lt_of_block bk
    have cx0 := cell_of_heap bk (i := 0)
    have cx1 := cell_of_heap bk (i := 1)
    have cx2 := cell_of_heap bk (i := 2)
    have cx3 := cell_of_heap bk (i := 3)
    have cx4 := cell_of_heap bk (i := 4)
    simp only [List.getElem?_toArray, List.getElem?_cons_succ, List.getElem?_cons_zero] at cx0 cx1 cx2 cx3 cx4
    clear bk
    go_wp2_with fail
    clear hby cy0 cy1 cy2 cy3 cy4 hbx cx0 cx1 cx2 cx3 cx4
  try go_at_call 23
  refine (rSame_c (p := fun _ => True) _ X X _ _ _ (Below.refl _ _) HFX.out HFY.out HXz.out HXz.out).mono ?_
  rintro e W11 ⟨rfl, hb⟩
  rw [same_refl]
  replace HO := Lib.hid (HO.out.below hb)
  clear hb
  go_wp2_with fail
  go_ret
  exact ⟨rfl, HO.out.base⟩
end Go.Proofs.YtagoefnibgobcaaGreatDoor
