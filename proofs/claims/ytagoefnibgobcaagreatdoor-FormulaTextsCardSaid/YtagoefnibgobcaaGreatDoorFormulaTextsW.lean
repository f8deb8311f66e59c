/-
  'FormulaTexts' returns true: the walk.
-/
import Derived.Test.YtagoefnibgobcaaGreatDoorFmFew
import Derived.Test.YtagoefnibgobcaaGreatDoorFmLaw2
import Derived.Test.YtagoefnibgobcaaGreatDoorFmSame
namespace Go.Proofs.YtagoefnibgobcaaGreatDoor
open Go.RowKit Go.Cz Go.Cz.Lx Go.Cz.Fo
set_option linter.unusedSimpArgs false
set_option linter.unusedVariables false
attribute [local go_sem] bs_size bs_extract bs_append bs_toList
attribute [local irreducible] cList cPlan
set_option maxRecDepth 100000 in
set_option maxHeartbeats 8000000 in
theorem FormulaTexts_walk (w : World) (hs : Std w) (f : Fm) (kv : Value) (hf : IsFm (fun _ => True) w f kv) (g : Fm) (gv : Value) (hg : IsFm (fun _ => True) w g gv) (l : Bytes) (hl : l.length ≤ 140737488355328) :
    Calls Tryz.prog 10 #[fval f kv, fval g gv, .string (bs l)] w fun e w' => e = .returned (.bool true) ∧ Below w.heap.size w w' := by
  have HS := Lib.hid hs
  clear hs
  obtain ⟨y, m, rfl⟩ := hf.form
  obtain ⟨N, hN⟩ : ∃ N, N = f.kids.length := ⟨_, rfl⟩
  rw [← hN] at hf ⊢
  have HF := Lib.hid hf
  obtain ⟨y', m', rfl⟩ := hg.form
  obtain ⟨N', hN'⟩ : ∃ N', N' = g.kids.length := ⟨_, rfl⟩
  rw [← hN'] at hg ⊢
  have HG := Lib.hid hg
  clear hN hf hN' hg
  obtain ⟨W1, hW1⟩ : ∃ W1, W1 = (w.alloc (fobj f (.slice y N m))).alloc (fobj g (.slice y' N' m')) := ⟨_, rfl⟩
  obtain ⟨bf, hbf⟩ : ∃ bf, bf = w.heap.size := ⟨_, rfl⟩
  obtain ⟨bg, hbg⟩ : ∃ bg, bg = w.heap.size + 1 := ⟨_, rfl⟩
  have HO : Hid (Owns w W1 [blk bf (fobj f (.slice y N m)), blk bg (fobj g (.slice y' N' m'))]) := by
    rw [hW1, hbf, hbg]
    have h := ((Owns.start w).box (fobj f (.slice y N m))).box (fobj g (.slice y' N' m'))
    simp only [World.size_alloc] at h
    exact Lib.hid h.swap
  go_enter Tryz.func10, Tryz.ntmps10
  go_wp2_with fail
  rw [← hW1]
  try rw [← hbg]
  try rw [← hbf]
  clear hW1 hbf hbg
  go_at_call 12
  refine (head_c W1 (HS.out.below HO.out.base)).mono ?_
  rintro e W2 ⟨rfl, hb⟩
  replace HO := Lib.hid (HO.out.below hb)
  clear hb
  focus
    obtain ⟨bk, -⟩ := HO.out.blk
    have hbf := lt_of_block bk
    have cf0 := cell_of_heap bk (i := 0)
    have cf1 := cell_of_heap bk (i := 1)
    have cf2 := cell_of_heap bk (i := 2)
    have cf3 := cell_of_heap bk (i := 3)
    have cf4 := cell_of_heap bk (i := 4)
    simp only [List.getElem?_toArray, List.getElem?_cons_succ, List.getElem?_cons_zero] at cf0 cf1 cf2 cf3 cf4
    clear bk
    obtain ⟨bk, -⟩ := HO.out.pop.blk
    have hbg := lt_of_block bk
    have cg0 := cell_of_heap bk (i := 0)
    have cg1 := cell_of_heap bk (i := 1)
    have cg2 := cell_of_heap bk (i := 2)
    have cg3 := cell_of_heap bk (i := 3)
    have cg4 := cell_of_heap bk (i := 4)
    simp only [List.getElem?_toArray, List.getElem?_cons_succ, List.getElem?_cons_zero] at cg0 cg1 cg2 cg3 cg4
    clear bk
    go_wp2_with fail
    clear hbf cf0 cf1 cf2 cf3 cf4 hbg cg0 cg1 cg2 cg3 cg4
  go_at_call 13
  refine (Small_c f W2 _ 300 (HF.out.later HO.out.base) (by omega)).mono ?_
  rintro e W3 ⟨rfl, hb⟩
  replace HO := Lib.hid (HO.out.below hb)
  obtain ⟨b, hb0⟩ : ∃ b, b = decide (size f ≤ 300) := ⟨_, rfl⟩
  have HB1 := Lib.hid hb0
  rw [← hb0]
  clear hb0 hb
  cases b
  · go_wp2_with fail
    go_ret
    exact ⟨rfl, HO.out.base⟩
  focus
    obtain ⟨bk, -⟩ := HO.out.blk
    have hbf := lt_of_block bk
    have cf0 := cell_of_heap bk (i := 0)
    have cf1 := cell_of_heap bk (i := 1)
    have cf2 := cell_of_heap bk (i := 2)
    have cf3 := cell_of_heap bk (i := 3)
    have cf4 := cell_of_heap bk (i := 4)
    simp only [List.getElem?_toArray, List.getElem?_cons_succ, List.getElem?_cons_zero] at cf0 cf1 cf2 cf3 cf4
    clear bk
    obtain ⟨bk, -⟩ := HO.out.pop.blk
    have hbg := lt_of_block bk
    have cg0 := cell_of_heap bk (i := 0)
    have cg1 := cell_of_heap bk (i := 1)
    have cg2 := cell_of_heap bk (i := 2)
    have cg3 := cell_of_heap bk (i := 3)
    have cg4 := cell_of_heap bk (i := 4)
    simp only [List.getElem?_toArray, List.getElem?_cons_succ, List.getElem?_cons_zero] at cg0 cg1 cg2 cg3 cg4
    clear bk
    go_wp2_with fail
    clear hbf cf0 cf1 cf2 cf3 cf4 hbg cg0 cg1 cg2 cg3 cg4
  have hz : size f ≤ 300 := of_decide_eq_true HB1.out.symm
  have HZ : Hid (size f ≤ 900000) := by show _ ≤ _; omega
  have HZk : Hid (sizes f.kids ≤ 900000) := by show _ ≤ _; rw [size_kids] at hz; omega
  go_at_call 13
  refine (Small_c g W3 _ 300 (HG.out.later HO.out.base) (by omega)).mono ?_
  rintro e W4 ⟨rfl, hb⟩
  clear hz
  replace HO := Lib.hid (HO.out.below hb)
  obtain ⟨b, hb0⟩ : ∃ b, b = decide (size g ≤ 300) := ⟨_, rfl⟩
  have HB2 := Lib.hid hb0
  rw [← hb0]
  clear hb0 hb
  cases b
  · go_wp2_with fail
    go_ret
    exact ⟨rfl, HO.out.base⟩
  focus
    obtain ⟨bk, -⟩ := HO.out.blk
    have hbf := lt_of_block bk
    have cf0 := cell_of_heap bk (i := 0)
    have cf1 := cell_of_heap bk (i := 1)
    have cf2 := cell_of_heap bk (i := 2)
    have cf3 := cell_of_heap bk (i := 3)
    have cf4 := cell_of_heap bk (i := 4)
    simp only [List.getElem?_toArray, List.getElem?_cons_succ, List.getElem?_cons_zero] at cf0 cf1 cf2 cf3 cf4
    clear bk
    obtain ⟨bk, -⟩ := HO.out.pop.blk
    have hbg := lt_of_block bk
    have cg0 := cell_of_heap bk (i := 0)
    have cg1 := cell_of_heap bk (i := 1)
    have cg2 := cell_of_heap bk (i := 2)
    have cg3 := cell_of_heap bk (i := 3)
    have cg4 := cell_of_heap bk (i := 4)
    simp only [List.getElem?_toArray, List.getElem?_cons_succ, List.getElem?_cons_zero] at cg0 cg1 cg2 cg3 cg4
    clear bk
    go_wp2_with fail
    clear hbf cf0 cf1 cf2 cf3 cf4 hbg cg0 cg1 cg2 cg3 cg4
  have hz : size g ≤ 300 := of_decide_eq_true HB2.out.symm
  have HZ2 : Hid (size g ≤ 900000) := by show _ ≤ _; omega
  have HZk2 : Hid (sizes g.kids ≤ 900000) := by show _ ≤ _; rw [size_kids] at hz; omega
  go_at_call 15
  refine (short_c f W4 _ (HF.out.later HO.out.base) HZk.out).mono ?_
  rintro e W5 ⟨rfl, hb⟩
  clear hz
  replace HO := Lib.hid (HO.out.below hb)
  obtain ⟨b, hb0⟩ : ∃ b, b = short 60 f := ⟨_, rfl⟩
  have HB3 := Lib.hid hb0
  rw [← hb0]
  clear hb0 hb
  cases b
  · go_wp2_with fail
    go_ret
    exact ⟨rfl, HO.out.base⟩
  focus
    obtain ⟨bk, -⟩ := HO.out.blk
    have hbf := lt_of_block bk
    have cf0 := cell_of_heap bk (i := 0)
    have cf1 := cell_of_heap bk (i := 1)
    have cf2 := cell_of_heap bk (i := 2)
    have cf3 := cell_of_heap bk (i := 3)
    have cf4 := cell_of_heap bk (i := 4)
    simp only [List.getElem?_toArray, List.getElem?_cons_succ, List.getElem?_cons_zero] at cf0 cf1 cf2 cf3 cf4
    clear bk
    obtain ⟨bk, -⟩ := HO.out.pop.blk
    have hbg := lt_of_block bk
    have cg0 := cell_of_heap bk (i := 0)
    have cg1 := cell_of_heap bk (i := 1)
    have cg2 := cell_of_heap bk (i := 2)
    have cg3 := cell_of_heap bk (i := 3)
    have cg4 := cell_of_heap bk (i := 4)
    simp only [List.getElem?_toArray, List.getElem?_cons_succ, List.getElem?_cons_zero] at cg0 cg1 cg2 cg3 cg4
    clear bk
    go_wp2_with fail
    clear hbf cf0 cf1 cf2 cf3 cf4 hbg cg0 cg1 cg2 cg3 cg4
  go_at_call 15
  refine (short_c g W5 _ (HG.out.later HO.out.base) HZk2.out).mono ?_
  rintro e W6 ⟨rfl, hb⟩
  replace HO := Lib.hid (HO.out.below hb)
  obtain ⟨b, hb0⟩ : ∃ b, b = short 60 g := ⟨_, rfl⟩
  have HB4 := Lib.hid hb0
  rw [← hb0]
  clear hb0 hb
  cases b
  · go_wp2_with fail
    go_ret
    exact ⟨rfl, HO.out.base⟩
  by_cases h3 : 3000 < l.length
  · have h3' : (3000 : Int) < (l.length : Int) := by omega
    clear h3
    go_wp2_with fail
    go_ret
    exact ⟨rfl, HO.out.base⟩
  have h3' : ¬ (3000 : Int) < (l.length : Int) := by omega
  clear h3
  focus
    obtain ⟨bk, -⟩ := HO.out.blk
    have hbf := lt_of_block bk
    have cf0 := cell_of_heap bk (i := 0)
    have cf1 := cell_of_heap bk (i := 1)
    have cf2 := cell_of_heap bk (i := 2)
    have cf3 := cell_of_heap bk (i := 3)
    have cf4 := cell_of_heap bk (i := 4)
    simp only [List.getElem?_toArray, List.getElem?_cons_succ, List.getElem?_cons_zero] at cf0 cf1 cf2 cf3 cf4
    clear bk
    obtain ⟨bk, -⟩ := HO.out.pop.blk
    have hbg := lt_of_block bk
    have cg0 := cell_of_heap bk (i := 0)
    have cg1 := cell_of_heap bk (i := 1)
    have cg2 := cell_of_heap bk (i := 2)
    have cg3 := cell_of_heap bk (i := 3)
    have cg4 := cell_of_heap bk (i := 4)
    simp only [List.getElem?_toArray, List.getElem?_cons_succ, List.getElem?_cons_zero] at cg0 cg1 cg2 cg3 cg4
    clear bk
    go_wp2_with fail
    clear hbf cf0 cf1 cf2 cf3 cf4 hbg cg0 cg1 cg2 cg3 cg4
  go_at_call 24
  refine (Text_c (p := fun _ => True) f W6 _ (HS.out.below HO.out.base) (HF.out.later HO.out.base) (lim := 60) (by omega) HB3.out.symm HZ.out).mono ?_
  rintro e W7 ⟨rfl, hb⟩
  replace HO := Lib.hid (HO.out.below hb)
  clear hb
  obtain ⟨tf, htf⟩ : ∃ tf, tf = if textE f = 0 then textF Lib.itoa f else [] := ⟨_, rfl⟩
  obtain ⟨ef, hef⟩ : ∃ ef, ef = textE f := ⟨_, rfl⟩
  rw [← htf, ← hef]
  have HTf := Lib.hid htf
  have HEf := Lib.hid hef
  clear htf hef
  focus
    obtain ⟨bk, -⟩ := HO.out.blk
    have hbf := lt_of_block bk
    have cf0 := cell_of_heap bk (i := 0)
    have cf1 := cell_of_heap bk (i := 1)
    have cf2 := cell_of_heap bk (i := 2)
    have cf3 := cell_of_heap bk (i := 3)
    have cf4 := cell_of_heap bk (i := 4)
    simp only [List.getElem?_toArray, List.getElem?_cons_succ, List.getElem?_cons_zero] at cf0 cf1 cf2 cf3 cf4
    clear bk
    obtain ⟨bk, -⟩ := HO.out.pop.blk
    have hbg := lt_of_block bk
    have cg0 := cell_of_heap bk (i := 0)
    have cg1 := cell_of_heap bk (i := 1)
    have cg2 := cell_of_heap bk (i := 2)
    have cg3 := cell_of_heap bk (i := 3)
    have cg4 := cell_of_heap bk (i := 4)
    simp only [List.getElem?_toArray, List.getElem?_cons_succ, List.getElem?_cons_zero] at cg0 cg1 cg2 cg3 cg4
    clear bk
    go_wp2_with fail
    clear hbf cf0 cf1 cf2 cf3 cf4 hbg cg0 cg1 cg2 cg3 cg4
  go_at_call 24
  refine (Text_c (p := fun _ => True) g W7 _ (HS.out.below HO.out.base) (HG.out.later HO.out.base) (lim := 60) (by omega) HB4.out.symm HZ2.out).mono ?_
  rintro e W8 ⟨rfl, hb⟩
  replace HO := Lib.hid (HO.out.below hb)
  clear hb
  obtain ⟨tg, htg⟩ : ∃ tg, tg = if textE g = 0 then textF Lib.itoa g else [] := ⟨_, rfl⟩
  obtain ⟨eg, heg⟩ : ∃ eg, eg = textE g := ⟨_, rfl⟩
  rw [← htg, ← heg]
  have HTg := Lib.hid htg
  have HEg := Lib.hid heg
  clear htg heg
  by_cases he : ef = 0
  · have he' : ((ef : Int) == 0) = true := by simpa using he
    have HE0 : Hid (textE f = 0) := Lib.hid (HEf.out.symm.trans he)
    have HTf2 : Hid (tf = textF Lib.itoa f) := by show _ = _; rw [HTf.out, if_pos HE0.out]
    clear he
    go_wp2_with fail
    go_at_call 26
    refine (Parse_c tf W8 (by rw [HTf2.out]; have := (text_small HE0.out).2.2; omega)).mono ?_
    rintro e W9 ⟨kx, he, hx, hb⟩
    rw [HTf2.out, text_back HE0.out] at he hx
    simp only at he
    subst he
    obtain ⟨yx, mx, rfl⟩ := hx.form
    obtain ⟨nx, hnx⟩ : ∃ nx, nx = f.kids.length := ⟨_, rfl⟩
    rw [← hnx] at hx ⊢
    obtain ⟨W10, hW10⟩ : ∃ W10, W10 = W9.alloc (.cells #[.int .i64 f.op, .string (bs f.name), .int .i64 f.cmp, .int .i64 f.num, .slice yx nx mx] 24) := ⟨_, rfl⟩
    obtain ⟨bx, hbx⟩ : ∃ bx, bx = W9.heap.size := ⟨_, rfl⟩
    have hb10 : Below W9.heap.size W9 W10 := by rw [hW10]; exact (Below.refl _ _).alloc (Nat.le_refl _) _
    have HFX : Hid (IsFm (fun _ => True) W10 f (.slice yx nx mx)) := Lib.hid ((hx.mono fun _ _ _ => trivial).later hb10)
    replace HO : Hid (Owns w W10 [blk bx (fobj f (.slice yx nx mx)), blk bf (fobj f (.slice y N m)), blk bg (fobj g (.slice y' N' m'))]) := by
      rw [hW10, hbx]
      exact Lib.hid ((HO.out.below hb).box (fobj f (.slice yx nx mx)))
    clear hnx hx hb hb10
    subst hW10 hbx
    focus
      obtain ⟨bk, -⟩ := HO.out.blk
      have hbx := lt_of_block bk
      have cx0 := cell_of_heap bk (i := 0)
      have cx1 := cell_of_heap bk (i := 1)
      have cx2 := cell_of_heap bk (i := 2)
      have cx3 := cell_of_heap bk (i := 3)
      have cx4 := cell_of_heap bk (i := 4)
      simp only [List.getElem?_toArray, List.getElem?_cons_succ, List.getElem?_cons_zero] at cx0 cx1 cx2 cx3 cx4
      clear bk
      obtain ⟨bk, -⟩ := HO.out.pop.blk
      have hbf := lt_of_block bk
      have cf0 := cell_of_heap bk (i := 0)
      have cf1 := cell_of_heap bk (i := 1)
      have cf2 := cell_of_heap bk (i := 2)
      have cf3 := cell_of_heap bk (i := 3)
      have cf4 := cell_of_heap bk (i := 4)
      simp only [List.getElem?_toArray, List.getElem?_cons_succ, List.getElem?_cons_zero] at cf0 cf1 cf2 cf3 cf4
      clear bk
      obtain ⟨bk, -⟩ := HO.out.pop.pop.blk
      have hbg := lt_of_block bk
      have cg0 := cell_of_heap bk (i := 0)
      have cg1 := cell_of_heap bk (i := 1)
      have cg2 := cell_of_heap bk (i := 2)
      have cg3 := cell_of_heap bk (i := 3)
      have cg4 := cell_of_heap bk (i := 4)
      simp only [List.getElem?_toArray, List.getElem?_cons_succ, List.getElem?_cons_zero] at cg0 cg1 cg2 cg3 cg4
      clear bk
      go_wp2_with fail
      clear hbf cf0 cf1 cf2 cf3 cf4 hbg cg0 cg1 cg2 cg3 cg4 hbx cx0 cx1 cx2 cx3 cx4
    go_at_call 22
    refine (Same_c (p := fun _ => True) _ f f _ _ _ (Below.refl _ _) HFX.out (HF.out.later HO.out.base) HZ.out HZ.out).mono ?_
    rintro e W11 ⟨rfl, hb⟩
    rw [same_refl]
    replace HO := Lib.hid (HO.out.below hb)
    clear hb HFX
    obtain ⟨q, hq⟩ : ∃ q, q = sameF f g := ⟨_, rfl⟩
    have HQ := Lib.hid hq
    clear hq
    by_cases heg : eg = 0
    · have heg' : ((eg : Int) == 0) = true := by simpa using heg
      have HTe : Hid ((tf == tg) = q) := by
        have h0 : textE g = 0 := HEg.out.symm.trans heg
        show _ = _
        rw [HTf2.out, HTg.out, if_pos h0, HQ.out]
        exact texts_same HE0.out h0
      clear heg
      focus
        obtain ⟨bk, -⟩ := HO.out.pop.blk
        have hbf := lt_of_block bk
        have cf0 := cell_of_heap bk (i := 0)
        have cf1 := cell_of_heap bk (i := 1)
        have cf2 := cell_of_heap bk (i := 2)
        have cf3 := cell_of_heap bk (i := 3)
        have cf4 := cell_of_heap bk (i := 4)
        simp only [List.getElem?_toArray, List.getElem?_cons_succ, List.getElem?_cons_zero] at cf0 cf1 cf2 cf3 cf4
        clear bk
        obtain ⟨bk, -⟩ := HO.out.pop.pop.blk
        have hbg := lt_of_block bk
        have cg0 := cell_of_heap bk (i := 0)
        have cg1 := cell_of_heap bk (i := 1)
        have cg2 := cell_of_heap bk (i := 2)
        have cg3 := cell_of_heap bk (i := 3)
        have cg4 := cell_of_heap bk (i := 4)
        simp only [List.getElem?_toArray, List.getElem?_cons_succ, List.getElem?_cons_zero] at cg0 cg1 cg2 cg3 cg4
        clear bk
        go_wp2_with fail
        clear hbf cf0 cf1 cf2 cf3 cf4 hbg cg0 cg1 cg2 cg3 cg4
      go_at_call 22
      refine (Same_c (p := fun _ => True) _ f g _ _ _ (Below.refl _ _) (HF.out.later HO.out.base) (HG.out.later HO.out.base) HZ.out HZ2.out).mono ?_
      rintro e W12 ⟨rfl, hb⟩
      rw [← HQ.out]
      replace HO := Lib.hid (HO.out.below hb).pop
      have hte := HTe.out
      rw [hte]
      clear hb hte
      have hqq : (q != q) = false := by simp
      go_wp2_with fail
      -- the text is parsed; HO: [f, g]
      go_at_call 26
      refine (Parse_c l _ hl).mono ?_
      rintro e W20 ⟨kx, rfl, hx, hb⟩
      obtain ⟨X, hX⟩ : ∃ X, X = (parseF l).1 := ⟨_, rfl⟩
      obtain ⟨ec, hec⟩ : ∃ ec, ec = (parseF l).2.1 := ⟨_, rfl⟩
      obtain ⟨ep, hep⟩ : ∃ ep, ep = (parseF l).2.2 := ⟨_, rfl⟩
      rw [← hX] at hx
      rw [← hX, ← hec, ← hep]
      have HXp := Lib.hid hX
      have HEc := Lib.hid hec
      have HEp := Lib.hid hep
      obtain ⟨yx, mx, rfl⟩ := hx.form
      obtain ⟨nx, hnx⟩ : ∃ nx, nx = X.kids.length := ⟨_, rfl⟩
      rw [← hnx] at hx ⊢
      obtain ⟨W21, hW21⟩ : ∃ W21, W21 = W20.alloc (.cells #[.int .i64 X.op, .string (bs X.name), .int .i64 X.cmp, .int .i64 X.num, .slice yx nx mx] 24) := ⟨_, rfl⟩
      obtain ⟨bx, hbx⟩ : ∃ bx, bx = W20.heap.size := ⟨_, rfl⟩
      have hb21 : Below W20.heap.size W20 W21 := by rw [hW21]; exact (Below.refl _ _).alloc (Nat.le_refl _) _
      have HFX : Hid (IsFm (fun _ => True) W21 X (.slice yx nx mx)) := Lib.hid ((hx.mono fun _ _ _ => trivial).later hb21)
      replace HO : Hid (Owns w W21 [blk bx (fobj X (.slice yx nx mx)), blk bf (fobj f (.slice y N m)), blk bg (fobj g (.slice y' N' m'))]) := by
        rw [hW21, hbx]
        exact Lib.hid ((HO.out.below hb).box (fobj X (.slice yx nx mx)))
      clear hX hec hep hnx hx hb hb21
      subst hW21 hbx
      by_cases hec : ec = 0
      · have hec' : ((ec : Int) != 0) = false := by simpa using hec
        have HXt : Hid (textE X = 0) := by
          have hh : parseF l = (X, 0, ep) := by
            rw [HXp.out, HEp.out, ← hec, HEc.out]
          exact Lib.hid (parse_writes hh)
        have HXs := Lib.hid (text_small HXt.out)
        clear hec
        focus
          obtain ⟨bk, -⟩ := HO.out.blk
          have hbx := lt_of_block bk
          have cx0 := cell_of_heap bk (i := 0)
          have cx1 := cell_of_heap bk (i := 1)
          have cx2 := cell_of_heap bk (i := 2)
          have cx3 := cell_of_heap bk (i := 3)
          have cx4 := cell_of_heap bk (i := 4)
          simp only [List.getElem?_toArray, List.getElem?_cons_succ, List.getElem?_cons_zero] at cx0 cx1 cx2 cx3 cx4
          clear bk
          obtain ⟨bk, -⟩ := HO.out.pop.blk
          have hbf := lt_of_block bk
          have cf0 := cell_of_heap bk (i := 0)
          have cf1 := cell_of_heap bk (i := 1)
          have cf2 := cell_of_heap bk (i := 2)
          have cf3 := cell_of_heap bk (i := 3)
          have cf4 := cell_of_heap bk (i := 4)
          simp only [List.getElem?_toArray, List.getElem?_cons_succ, List.getElem?_cons_zero] at cf0 cf1 cf2 cf3 cf4
          clear bk
          obtain ⟨bk, -⟩ := HO.out.pop.pop.blk
          have hbg := lt_of_block bk
          have cg0 := cell_of_heap bk (i := 0)
          have cg1 := cell_of_heap bk (i := 1)
          have cg2 := cell_of_heap bk (i := 2)
          have cg3 := cell_of_heap bk (i := 3)
          have cg4 := cell_of_heap bk (i := 4)
          simp only [List.getElem?_toArray, List.getElem?_cons_succ, List.getElem?_cons_zero] at cg0 cg1 cg2 cg3 cg4
          clear bk
          go_wp2_with fail
          clear hbf cf0 cf1 cf2 cf3 cf4 hbg cg0 cg1 cg2 cg3 cg4 hbx cx0 cx1 cx2 cx3 cx4
        go_at_call 24
        refine (Text_c (p := fun _ => True) X _ _ (HS.out.below HO.out.base) HFX.out (lim := 24) (by omega) HXs.out.2.1 (by have := HXs.out.1; omega)).mono ?_
        rintro e W22 ⟨rfl, hb⟩
        rw [HXt.out, if_pos rfl]
        replace HFX := Lib.hid (HFX.out.later hb)
        replace HO := Lib.hid (HO.out.below hb)
        clear hb
        obtain ⟨tx, htx⟩ : ∃ tx, tx = textF Lib.itoa X := ⟨_, rfl⟩
        have HTx := Lib.hid htx
        rw [← htx]
        clear htx
        go_wp2_with fail
        go_at_call 26
        refine (Parse_c tx W22 (by rw [HTx.out]; have := HXs.out.2.2; omega)).mono ?_
        rintro e W23 ⟨kz, he, hz, hb⟩
        rw [HTx.out, text_back HXt.out] at he hz
        simp only at he
        subst he
        obtain ⟨yz, mz, rfl⟩ := hz.form
        obtain ⟨nz, hnz⟩ : ∃ nz, nz = X.kids.length := ⟨_, rfl⟩
        rw [← hnz] at hz ⊢
        have hb24 : Below W23.heap.size W23 (W23.alloc (fobj X (.slice yz nz mz))) := (Below.refl _ _).alloc (Nat.le_refl _) _
        have HFZ : Hid (IsFm (fun _ => True) (W23.alloc (fobj X (.slice yz nz mz))) X (.slice yz nz mz)) := Lib.hid ((hz.mono fun _ _ _ => trivial).later hb24)
        replace HFX := Lib.hid ((HFX.out.later hb).later hb24)
        replace HO := Lib.hid ((HO.out.below hb).below hb24)
        clear hnz hz hb hb24
        focus
          obtain ⟨bk, -⟩ := HO.out.blk
          have hbx := lt_of_block bk
          have cx0 := cell_of_heap bk (i := 0)
          have cx1 := cell_of_heap bk (i := 1)
          have cx2 := cell_of_heap bk (i := 2)
          have cx3 := cell_of_heap bk (i := 3)
          have cx4 := cell_of_heap bk (i := 4)
          simp only [List.getElem?_toArray, List.getElem?_cons_succ, List.getElem?_cons_zero] at cx0 cx1 cx2 cx3 cx4
          clear bk
          go_wp2_with fail
          clear hbx cx0 cx1 cx2 cx3 cx4
        go_at_call 22
        refine (Same_c (p := fun _ => True) _ X X _ _ _ (Below.refl _ _) HFX.out HFZ.out (by have := HXs.out.1; omega) (by have := HXs.out.1; omega)).mono ?_
        rintro e W25 ⟨rfl, hb⟩
        rw [same_refl]
        replace HO := Lib.hid (HO.out.below hb)
        clear hb
        go_wp2_with fail
        go_ret
        exact ⟨rfl, HO.out.base⟩
      · have hec' : ((ec : Int) != 0) = true := by simpa using hec
        have HXz : Hid (X = zeroF) := by rw [HXp.out]; exact Lib.hid (parse_zero (by rw [← HEc.out]; exact hec))
        clear hec
        skip
        focus
          obtain ⟨bk, -⟩ := HO.out.blk
          have hbx := lt_of_block bk
          have cx0 := cell_of_heap bk (i := 0)
          have cx1 := cell_of_heap bk (i := 1)
          have cx2 := cell_of_heap bk (i := 2)
          have cx3 := cell_of_heap bk (i := 3)
          have cx4 := cell_of_heap bk (i := 4)
          simp only [List.getElem?_toArray, List.getElem?_cons_succ, List.getElem?_cons_zero] at cx0 cx1 cx2 cx3 cx4
          clear bk
          go_wp2_with fail
          clear hbx cx0 cx1 cx2 cx3 cx4
        go_at_call 22
        refine (Same_c (p := fun _ => True) _ X zeroF _ _ (.slice none 0 0) (Below.refl _ _) HFX.out (.leaf 0 [] 0 0 none 0) (by rw [HXz.out]; decide) (by decide)).mono ?_
        rintro e W25 ⟨rfl, hb⟩
        rw [HXz.out, same_refl]
        replace HO := Lib.hid (HO.out.below hb)
        clear hb
        go_wp2_with fail
        go_ret
        exact ⟨rfl, HO.out.base⟩
    · have heg' : ((eg : Int) == 0) = false := by simpa using heg
      clear heg
      replace HO := Lib.hid HO.out.pop
      go_wp2_with fail
      -- the text is parsed; HO: [f, g]
      go_at_call 26
      refine (Parse_c l _ hl).mono ?_
      rintro e W20 ⟨kx, rfl, hx, hb⟩
      obtain ⟨X, hX⟩ : ∃ X, X = (parseF l).1 := ⟨_, rfl⟩
      obtain ⟨ec, hec⟩ : ∃ ec, ec = (parseF l).2.1 := ⟨_, rfl⟩
      obtain ⟨ep, hep⟩ : ∃ ep, ep = (parseF l).2.2 := ⟨_, rfl⟩
      rw [← hX] at hx
      rw [← hX, ← hec, ← hep]
      have HXp := Lib.hid hX
      have HEc := Lib.hid hec
      have HEp := Lib.hid hep
      obtain ⟨yx, mx, rfl⟩ := hx.form
      obtain ⟨nx, hnx⟩ : ∃ nx, nx = X.kids.length := ⟨_, rfl⟩
      rw [← hnx] at hx ⊢
      obtain ⟨W21, hW21⟩ : ∃ W21, W21 = W20.alloc (.cells #[.int .i64 X.op, .string (bs X.name), .int .i64 X.cmp, .int .i64 X.num, .slice yx nx mx] 24) := ⟨_, rfl⟩
      obtain ⟨bx, hbx⟩ : ∃ bx, bx = W20.heap.size := ⟨_, rfl⟩
      have hb21 : Below W20.heap.size W20 W21 := by rw [hW21]; exact (Below.refl _ _).alloc (Nat.le_refl _) _
      have HFX : Hid (IsFm (fun _ => True) W21 X (.slice yx nx mx)) := Lib.hid ((hx.mono fun _ _ _ => trivial).later hb21)
      replace HO : Hid (Owns w W21 [blk bx (fobj X (.slice yx nx mx)), blk bf (fobj f (.slice y N m)), blk bg (fobj g (.slice y' N' m'))]) := by
        rw [hW21, hbx]
        exact Lib.hid ((HO.out.below hb).box (fobj X (.slice yx nx mx)))
      clear hX hec hep hnx hx hb hb21
      subst hW21 hbx
      by_cases hec : ec = 0
      · have hec' : ((ec : Int) != 0) = false := by simpa using hec
        have HXt : Hid (textE X = 0) := by
          have hh : parseF l = (X, 0, ep) := by
            rw [HXp.out, HEp.out, ← hec, HEc.out]
          exact Lib.hid (parse_writes hh)
        have HXs := Lib.hid (text_small HXt.out)
        clear hec
        focus
          obtain ⟨bk, -⟩ := HO.out.blk
          have hbx := lt_of_block bk
          have cx0 := cell_of_heap bk (i := 0)
          have cx1 := cell_of_heap bk (i := 1)
          have cx2 := cell_of_heap bk (i := 2)
          have cx3 := cell_of_heap bk (i := 3)
          have cx4 := cell_of_heap bk (i := 4)
          simp only [List.getElem?_toArray, List.getElem?_cons_succ, List.getElem?_cons_zero] at cx0 cx1 cx2 cx3 cx4
          clear bk
          obtain ⟨bk, -⟩ := HO.out.pop.blk
          have hbf := lt_of_block bk
          have cf0 := cell_of_heap bk (i := 0)
          have cf1 := cell_of_heap bk (i := 1)
          have cf2 := cell_of_heap bk (i := 2)
          have cf3 := cell_of_heap bk (i := 3)
          have cf4 := cell_of_heap bk (i := 4)
          simp only [List.getElem?_toArray, List.getElem?_cons_succ, List.getElem?_cons_zero] at cf0 cf1 cf2 cf3 cf4
          clear bk
          obtain ⟨bk, -⟩ := HO.out.pop.pop.blk
          have hbg := lt_of_block bk
          have cg0 := cell_of_heap bk (i := 0)
          have cg1 := cell_of_heap bk (i := 1)
          have cg2 := cell_of_heap bk (i := 2)
          have cg3 := cell_of_heap bk (i := 3)
          have cg4 := cell_of_heap bk (i := 4)
          simp only [List.getElem?_toArray, List.getElem?_cons_succ, List.getElem?_cons_zero] at cg0 cg1 cg2 cg3 cg4
          clear bk
          go_wp2_with fail
          clear hbf cf0 cf1 cf2 cf3 cf4 hbg cg0 cg1 cg2 cg3 cg4 hbx cx0 cx1 cx2 cx3 cx4
        go_at_call 24
        refine (Text_c (p := fun _ => True) X _ _ (HS.out.below HO.out.base) HFX.out (lim := 24) (by omega) HXs.out.2.1 (by have := HXs.out.1; omega)).mono ?_
        rintro e W22 ⟨rfl, hb⟩
        rw [HXt.out, if_pos rfl]
        replace HFX := Lib.hid (HFX.out.later hb)
        replace HO := Lib.hid (HO.out.below hb)
        clear hb
        obtain ⟨tx, htx⟩ : ∃ tx, tx = textF Lib.itoa X := ⟨_, rfl⟩
        have HTx := Lib.hid htx
        rw [← htx]
        clear htx
        go_wp2_with fail
        go_at_call 26
        refine (Parse_c tx W22 (by rw [HTx.out]; have := HXs.out.2.2; omega)).mono ?_
        rintro e W23 ⟨kz, he, hz, hb⟩
        rw [HTx.out, text_back HXt.out] at he hz
        simp only at he
        subst he
        obtain ⟨yz, mz, rfl⟩ := hz.form
        obtain ⟨nz, hnz⟩ : ∃ nz, nz = X.kids.length := ⟨_, rfl⟩
        rw [← hnz] at hz ⊢
        have hb24 : Below W23.heap.size W23 (W23.alloc (fobj X (.slice yz nz mz))) := (Below.refl _ _).alloc (Nat.le_refl _) _
        have HFZ : Hid (IsFm (fun _ => True) (W23.alloc (fobj X (.slice yz nz mz))) X (.slice yz nz mz)) := Lib.hid ((hz.mono fun _ _ _ => trivial).later hb24)
        replace HFX := Lib.hid ((HFX.out.later hb).later hb24)
        replace HO := Lib.hid ((HO.out.below hb).below hb24)
        clear hnz hz hb hb24
        focus
          obtain ⟨bk, -⟩ := HO.out.blk
          have hbx := lt_of_block bk
          have cx0 := cell_of_heap bk (i := 0)
          have cx1 := cell_of_heap bk (i := 1)
          have cx2 := cell_of_heap bk (i := 2)
          have cx3 := cell_of_heap bk (i := 3)
          have cx4 := cell_of_heap bk (i := 4)
          simp only [List.getElem?_toArray, List.getElem?_cons_succ, List.getElem?_cons_zero] at cx0 cx1 cx2 cx3 cx4
          clear bk
          go_wp2_with fail
          clear hbx cx0 cx1 cx2 cx3 cx4
        go_at_call 22
        refine (Same_c (p := fun _ => True) _ X X _ _ _ (Below.refl _ _) HFX.out HFZ.out (by have := HXs.out.1; omega) (by have := HXs.out.1; omega)).mono ?_
        rintro e W25 ⟨rfl, hb⟩
        rw [same_refl]
        replace HO := Lib.hid (HO.out.below hb)
        clear hb
        go_wp2_with fail
        go_ret
        exact ⟨rfl, HO.out.base⟩
      · have hec' : ((ec : Int) != 0) = true := by simpa using hec
        have HXz : Hid (X = zeroF) := by rw [HXp.out]; exact Lib.hid (parse_zero (by rw [← HEc.out]; exact hec))
        clear hec
        skip
        focus
          obtain ⟨bk, -⟩ := HO.out.blk
          have hbx := lt_of_block bk
          have cx0 := cell_of_heap bk (i := 0)
          have cx1 := cell_of_heap bk (i := 1)
          have cx2 := cell_of_heap bk (i := 2)
          have cx3 := cell_of_heap bk (i := 3)
          have cx4 := cell_of_heap bk (i := 4)
          simp only [List.getElem?_toArray, List.getElem?_cons_succ, List.getElem?_cons_zero] at cx0 cx1 cx2 cx3 cx4
          clear bk
          go_wp2_with fail
          clear hbx cx0 cx1 cx2 cx3 cx4
        go_at_call 22
        refine (Same_c (p := fun _ => True) _ X zeroF _ _ (.slice none 0 0) (Below.refl _ _) HFX.out (.leaf 0 [] 0 0 none 0) (by rw [HXz.out]; decide) (by decide)).mono ?_
        rintro e W25 ⟨rfl, hb⟩
        rw [HXz.out, same_refl]
        replace HO := Lib.hid (HO.out.below hb)
        clear hb
        go_wp2_with fail
        go_ret
        exact ⟨rfl, HO.out.base⟩
  · have he' : ((ef : Int) == 0) = false := by simpa using he
    have HTn : Hid (tf = []) := by show _ = _; rw [HTf.out, if_neg (by rw [← HEf.out]; exact he)]
    clear he
    go_wp2_with fail
    -- the text is parsed; HO: [f, g]
    go_at_call 26
    refine (Parse_c l _ hl).mono ?_
    rintro e W20 ⟨kx, rfl, hx, hb⟩
    obtain ⟨X, hX⟩ : ∃ X, X = (parseF l).1 := ⟨_, rfl⟩
    obtain ⟨ec, hec⟩ : ∃ ec, ec = (parseF l).2.1 := ⟨_, rfl⟩
    obtain ⟨ep, hep⟩ : ∃ ep, ep = (parseF l).2.2 := ⟨_, rfl⟩
    rw [← hX] at hx
    rw [← hX, ← hec, ← hep]
    have HXp := Lib.hid hX
    have HEc := Lib.hid hec
    have HEp := Lib.hid hep
    obtain ⟨yx, mx, rfl⟩ := hx.form
    obtain ⟨nx, hnx⟩ : ∃ nx, nx = X.kids.length := ⟨_, rfl⟩
    rw [← hnx] at hx ⊢
    obtain ⟨W21, hW21⟩ : ∃ W21, W21 = W20.alloc (.cells #[.int .i64 X.op, .string (bs X.name), .int .i64 X.cmp, .int .i64 X.num, .slice yx nx mx] 24) := ⟨_, rfl⟩
    obtain ⟨bx, hbx⟩ : ∃ bx, bx = W20.heap.size := ⟨_, rfl⟩
    have hb21 : Below W20.heap.size W20 W21 := by rw [hW21]; exact (Below.refl _ _).alloc (Nat.le_refl _) _
    have HFX : Hid (IsFm (fun _ => True) W21 X (.slice yx nx mx)) := Lib.hid ((hx.mono fun _ _ _ => trivial).later hb21)
    replace HO : Hid (Owns w W21 [blk bx (fobj X (.slice yx nx mx)), blk bf (fobj f (.slice y N m)), blk bg (fobj g (.slice y' N' m'))]) := by
      rw [hW21, hbx]
      exact Lib.hid ((HO.out.below hb).box (fobj X (.slice yx nx mx)))
    clear hX hec hep hnx hx hb hb21
    subst hW21 hbx
    by_cases hec : ec = 0
    · have hec' : ((ec : Int) != 0) = false := by simpa using hec
      have HXt : Hid (textE X = 0) := by
        have hh : parseF l = (X, 0, ep) := by
          rw [HXp.out, HEp.out, ← hec, HEc.out]
        exact Lib.hid (parse_writes hh)
      have HXs := Lib.hid (text_small HXt.out)
      clear hec
      focus
        obtain ⟨bk, -⟩ := HO.out.blk
        have hbx := lt_of_block bk
        have cx0 := cell_of_heap bk (i := 0)
        have cx1 := cell_of_heap bk (i := 1)
        have cx2 := cell_of_heap bk (i := 2)
        have cx3 := cell_of_heap bk (i := 3)
        have cx4 := cell_of_heap bk (i := 4)
        simp only [List.getElem?_toArray, List.getElem?_cons_succ, List.getElem?_cons_zero] at cx0 cx1 cx2 cx3 cx4
        clear bk
        obtain ⟨bk, -⟩ := HO.out.pop.blk
        have hbf := lt_of_block bk
        have cf0 := cell_of_heap bk (i := 0)
        have cf1 := cell_of_heap bk (i := 1)
        have cf2 := cell_of_heap bk (i := 2)
        have cf3 := cell_of_heap bk (i := 3)
        have cf4 := cell_of_heap bk (i := 4)
        simp only [List.getElem?_toArray, List.getElem?_cons_succ, List.getElem?_cons_zero] at cf0 cf1 cf2 cf3 cf4
        clear bk
        obtain ⟨bk, -⟩ := HO.out.pop.pop.blk
        have hbg := lt_of_block bk
        have cg0 := cell_of_heap bk (i := 0)
        have cg1 := cell_of_heap bk (i := 1)
        have cg2 := cell_of_heap bk (i := 2)
        have cg3 := cell_of_heap bk (i := 3)
        have cg4 := cell_of_heap bk (i := 4)
        simp only [List.getElem?_toArray, List.getElem?_cons_succ, List.getElem?_cons_zero] at cg0 cg1 cg2 cg3 cg4
        clear bk
        go_wp2_with fail
        clear hbf cf0 cf1 cf2 cf3 cf4 hbg cg0 cg1 cg2 cg3 cg4 hbx cx0 cx1 cx2 cx3 cx4
      go_at_call 24
      refine (Text_c (p := fun _ => True) X _ _ (HS.out.below HO.out.base) HFX.out (lim := 24) (by omega) HXs.out.2.1 (by have := HXs.out.1; omega)).mono ?_
      rintro e W22 ⟨rfl, hb⟩
      rw [HXt.out, if_pos rfl]
      replace HFX := Lib.hid (HFX.out.later hb)
      replace HO := Lib.hid (HO.out.below hb)
      clear hb
      obtain ⟨tx, htx⟩ : ∃ tx, tx = textF Lib.itoa X := ⟨_, rfl⟩
      have HTx := Lib.hid htx
      rw [← htx]
      clear htx
      go_wp2_with fail
      go_at_call 26
      refine (Parse_c tx W22 (by rw [HTx.out]; have := HXs.out.2.2; omega)).mono ?_
      rintro e W23 ⟨kz, he, hz, hb⟩
      rw [HTx.out, text_back HXt.out] at he hz
      simp only at he
      subst he
      obtain ⟨yz, mz, rfl⟩ := hz.form
      obtain ⟨nz, hnz⟩ : ∃ nz, nz = X.kids.length := ⟨_, rfl⟩
      rw [← hnz] at hz ⊢
      have hb24 : Below W23.heap.size W23 (W23.alloc (fobj X (.slice yz nz mz))) := (Below.refl _ _).alloc (Nat.le_refl _) _
      have HFZ : Hid (IsFm (fun _ => True) (W23.alloc (fobj X (.slice yz nz mz))) X (.slice yz nz mz)) := Lib.hid ((hz.mono fun _ _ _ => trivial).later hb24)
      replace HFX := Lib.hid ((HFX.out.later hb).later hb24)
      replace HO := Lib.hid ((HO.out.below hb).below hb24)
      clear hnz hz hb hb24
      focus
        obtain ⟨bk, -⟩ := HO.out.blk
        have hbx := lt_of_block bk
        have cx0 := cell_of_heap bk (i := 0)
        have cx1 := cell_of_heap bk (i := 1)
        have cx2 := cell_of_heap bk (i := 2)
        have cx3 := cell_of_heap bk (i := 3)
        have cx4 := cell_of_heap bk (i := 4)
        simp only [List.getElem?_toArray, List.getElem?_cons_succ, List.getElem?_cons_zero] at cx0 cx1 cx2 cx3 cx4
        clear bk
        go_wp2_with fail
        clear hbx cx0 cx1 cx2 cx3 cx4
      go_at_call 22
      refine (Same_c (p := fun _ => True) _ X X _ _ _ (Below.refl _ _) HFX.out HFZ.out (by have := HXs.out.1; omega) (by have := HXs.out.1; omega)).mono ?_
      rintro e W25 ⟨rfl, hb⟩
      rw [same_refl]
      replace HO := Lib.hid (HO.out.below hb)
      clear hb
      go_wp2_with fail
      go_ret
      exact ⟨rfl, HO.out.base⟩
    · have hec' : ((ec : Int) != 0) = true := by simpa using hec
      have HXz : Hid (X = zeroF) := by rw [HXp.out]; exact Lib.hid (parse_zero (by rw [← HEc.out]; exact hec))
      clear hec
      (have htn : (tf == []) = true := by rw [HTn.out]; rfl)
      focus
        obtain ⟨bk, -⟩ := HO.out.blk
        have hbx := lt_of_block bk
        have cx0 := cell_of_heap bk (i := 0)
        have cx1 := cell_of_heap bk (i := 1)
        have cx2 := cell_of_heap bk (i := 2)
        have cx3 := cell_of_heap bk (i := 3)
        have cx4 := cell_of_heap bk (i := 4)
        simp only [List.getElem?_toArray, List.getElem?_cons_succ, List.getElem?_cons_zero] at cx0 cx1 cx2 cx3 cx4
        clear bk
        go_wp2_with fail
        clear hbx cx0 cx1 cx2 cx3 cx4
      go_at_call 22
      refine (Same_c (p := fun _ => True) _ X zeroF _ _ (.slice none 0 0) (Below.refl _ _) HFX.out (.leaf 0 [] 0 0 none 0) (by rw [HXz.out]; decide) (by decide)).mono ?_
      rintro e W25 ⟨rfl, hb⟩
      rw [HXz.out, same_refl]
      replace HO := Lib.hid (HO.out.below hb)
      clear hb
      go_wp2_with fail
      go_ret
      exact ⟨rfl, HO.out.base⟩
end Go.Proofs.YtagoefnibgobcaaGreatDoor
