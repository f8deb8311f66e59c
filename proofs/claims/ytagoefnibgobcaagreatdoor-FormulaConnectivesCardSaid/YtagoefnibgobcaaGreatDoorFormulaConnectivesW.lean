/-
  'FormulaConnectives' returns true: the walk.
-/
import Derived.Test.YtagoefnibgobcaaGreatDoorFmFew
import Derived.Test.YtagoefnibgobcaaGreatDoorFmLaw2
import Derived.Test.YtagoefnibgobcaaGreatDoorFmHdL
import Derived.Test.YtagoefnibgobcaaGreatDoorAnyOrdG
namespace Go.Cz.Fo
open Go.Cz.Lx
theorem good_of2 {d : List Fact} {c : List Int} {f : Fm} (h : goodB d c f = true) : Good d c f ∧ short 60 f = true ∧ fewB d c = true := by
  unfold goodB at h
  simp only [Bool.and_eq_true, decide_eq_true_eq] at h
  exact ⟨⟨h.1, h.2.2.2.2.1, h.2.2.2.1, h.2.2.2.2.2⟩, h.2.1, h.2.2.1⟩
end Go.Cz.Fo
namespace Go.Proofs.YtagoefnibgobcaaGreatDoor
open Go.RowKit Go.Cz Go.Cz.Lx Go.Cz.Fo
set_option linter.unusedSimpArgs false
set_option linter.unusedVariables false
attribute [local go_sem] bs_size bs_extract bs_append bs_toList
attribute [local irreducible] cList cPlan cWalk
set_option maxRecDepth 100000 in
set_option maxHeartbeats 8000000 in
theorem FormulaConnectives_walk (w : World) (hs : Std w) (f : Fm) (kv : Value) (hf : IsFm (fun _ => True) w f kv) (g : Fm) (gv : Value) (hg : IsFm (fun _ => True) w g gv) (d : List Fact) (v : Value) (hd : IsD w d v) (hn : d.length ≤ 9223372036854775807) (c : List Int) (u : Value) (hc : IsC w c u) (hm : c.length ≤ 9223372036854775807) :
    Calls Tryz.prog 5 #[fval f kv, fval g gv, .agg #[v], u] w fun e w' => e = .returned (.bool true) ∧ Below w.heap.size w w' := by
  have HS := Lib.hid hs
  have HD := Lib.hid hd
  have HC := Lib.hid hc
  have HDn := Lib.hid hn
  clear hs hd hc hn hm
  obtain ⟨yd, md, hv⟩ := HD.out.form
  subst hv
  obtain ⟨M, hM⟩ : ∃ M, M = d.length := ⟨_, rfl⟩
  rw [← hM] at HD ⊢
  obtain ⟨yc, mc, hv⟩ := HC.out.form
  subst hv
  obtain ⟨Mc, hMc⟩ : ∃ Mc, Mc = c.length := ⟨_, rfl⟩
  rw [← hMc] at HC ⊢
  clear hM hMc
  obtain ⟨y, m, rfl⟩ := hf.form
  obtain ⟨N, hN⟩ : ∃ N, N = f.kids.length := ⟨_, rfl⟩
  rw [← hN] at hf ⊢
  have HF := Lib.hid hf
  obtain ⟨y', m', rfl⟩ := hg.form
  obtain ⟨N', hN'⟩ : ∃ N', N' = g.kids.length := ⟨_, rfl⟩
  rw [← hN'] at hg ⊢
  have HG := Lib.hid hg
  clear hN hf hN' hg
  obtain ⟨W1, hW1⟩ : ∃ W1, W1 = ((w.alloc (fobj f (.slice y N m))).alloc (fobj g (.slice y' N' m'))).alloc (.cells #[.slice yd M md] 27) := ⟨_, rfl⟩
  obtain ⟨bf, hbf⟩ : ∃ bf, bf = w.heap.size := ⟨_, rfl⟩
  obtain ⟨bg, hbg⟩ : ∃ bg, bg = w.heap.size + 1 := ⟨_, rfl⟩
  obtain ⟨bd, hbd⟩ : ∃ bd, bd = w.heap.size + 1 + 1 := ⟨_, rfl⟩
  have HO : Hid (Owns w W1 [blk bf (fobj f (.slice y N m)), blk bg (fobj g (.slice y' N' m')), blk bd (.cells #[.slice yd M md] 27 (0, 0))]) := by
    rw [hW1, hbf, hbg, hbd]
    have h := (((Owns.start w).box (fobj f (.slice y N m))).box (fobj g (.slice y' N' m'))).box (.cells #[.slice yd M md] 27 (0, 0))
    simp only [World.size_alloc] at h
    exact Lib.hid (h.re [2, 1, 0])
  go_enter Tryz.func5, Tryz.ntmps5
  go_wp2_with fail
  rw [← hW1]
  try rw [← hbd]
  try rw [← hbg]
  try rw [← hbf]
  clear hW1 hbf hbg hbd
  go_at_call 12
  refine (head_c W1 (HS.out.below HO.out.base)).mono ?_
  rintro e W2 ⟨rfl, hb⟩
  replace HO := Lib.hid (HO.out.below hb)
  clear hb
  focus
    -- pieces: f, g, d
    obtain ⟨bk, -⟩ := HO.out.pop.pop.blk
    have hbd := lt_of_block bk
    have cd0 := cell_of_heap bk (i := 0)
    simp only [List.getElem?_toArray, List.getElem?_cons_succ, List.getElem?_cons_zero] at cd0
    clear bk
    obtain ⟨bk, -⟩ := HO.out.blk
    have hbf := lt_of_block bk
    have cf0 := cell_of_heap bk (i := 0)
    have cf1 := cell_of_heap bk (i := 1)
    have cf2 := cell_of_heap bk (i := 2)
    have cf3 := cell_of_heap bk (i := 3)
    have cf4 := cell_of_heap bk (i := 4)
    simp only [List.getElem?_toArray, List.getElem?_cons_succ, List.getElem?_cons_zero] at cf0 cf1 cf2 cf3 cf4
    clear bk
    obtain ⟨bk, -⟩ := HO.out.pop.blk
    have hbg := lt_of_block bk
    have cg0 := cell_of_heap bk (i := 0)
    have cg1 := cell_of_heap bk (i := 1)
    have cg2 := cell_of_heap bk (i := 2)
    have cg3 := cell_of_heap bk (i := 3)
    have cg4 := cell_of_heap bk (i := 4)
    simp only [List.getElem?_toArray, List.getElem?_cons_succ, List.getElem?_cons_zero] at cg0 cg1 cg2 cg3 cg4
    clear bk
    go_wp2_with fail
    clear hbf cf0 cf1 cf2 cf3 cf4 hbg cg0 cg1 cg2 cg3 cg4 hbd cd0
  go_at_call 28
  refine (good_c f W2 _ d _ c _ (HF.out.later HO.out.base) (HD.out.later HO.out.base) (HC.out.later HO.out.base) HDn.out).mono ?_
  rintro e W3 ⟨rfl, hb⟩
  replace HO := Lib.hid (HO.out.below hb)
  obtain ⟨b, hb0⟩ : ∃ b, b = goodB d c f := ⟨_, rfl⟩
  have HB1 := Lib.hid hb0
  rw [← hb0]
  clear hb0 hb
  cases b
  · go_wp2_with fail
    go_ret
    exact ⟨rfl, HO.out.base⟩
  focus
    -- pieces: f, g, d
    obtain ⟨bk, -⟩ := HO.out.pop.pop.blk
    have hbd := lt_of_block bk
    have cd0 := cell_of_heap bk (i := 0)
    simp only [List.getElem?_toArray, List.getElem?_cons_succ, List.getElem?_cons_zero] at cd0
    clear bk
    obtain ⟨bk, -⟩ := HO.out.blk
    have hbf := lt_of_block bk
    have cf0 := cell_of_heap bk (i := 0)
    have cf1 := cell_of_heap bk (i := 1)
    have cf2 := cell_of_heap bk (i := 2)
    have cf3 := cell_of_heap bk (i := 3)
    have cf4 := cell_of_heap bk (i := 4)
    simp only [List.getElem?_toArray, List.getElem?_cons_succ, List.getElem?_cons_zero] at cf0 cf1 cf2 cf3 cf4
    clear bk
    obtain ⟨bk, -⟩ := HO.out.pop.blk
    have hbg := lt_of_block bk
    have cg0 := cell_of_heap bk (i := 0)
    have cg1 := cell_of_heap bk (i := 1)
    have cg2 := cell_of_heap bk (i := 2)
    have cg3 := cell_of_heap bk (i := 3)
    have cg4 := cell_of_heap bk (i := 4)
    simp only [List.getElem?_toArray, List.getElem?_cons_succ, List.getElem?_cons_zero] at cg0 cg1 cg2 cg3 cg4
    clear bk
    go_wp2_with fail
    clear hbf cf0 cf1 cf2 cf3 cf4 hbg cg0 cg1 cg2 cg3 cg4 hbd cd0
  go_at_call 28
  refine (good_c g W3 _ d _ c _ (HG.out.later HO.out.base) (HD.out.later HO.out.base) (HC.out.later HO.out.base) HDn.out).mono ?_
  rintro e W4 ⟨rfl, hb⟩
  replace HO := Lib.hid (HO.out.below hb)
  obtain ⟨b, hb0⟩ : ∃ b, b = goodB d c g := ⟨_, rfl⟩
  have HB2 := Lib.hid hb0
  rw [← hb0]
  clear hb0 hb
  cases b
  · go_wp2_with fail
    go_ret
    exact ⟨rfl, HO.out.base⟩
  obtain ⟨hG1, hs1, hfe⟩ := good_of2 HB1.out.symm
  obtain ⟨hG2, hs2, -⟩ := good_of2 HB2.out.symm
  have HG1 := Lib.hid hG1
  have HG2 := Lib.hid hG2
  have HCo := Lib.hid (connect hG1 hG2)
  have HS1 := Lib.hid hs1
  have HS2 := Lib.hid hs2
  have HFw := Lib.hid (few_names hfe)
  have HX : Hid (∀ x ∈ d, x.name.length ≤ 140737488355328) := fun x hx => by have := HFw.out.1 x hx; omega
  have HDm : Hid (d.length ≤ 1000000) := by have := HFw.out.2.1; show _ ≤ _; omega
  have HCm : Hid (c.length ≤ 1000000) := by have := HFw.out.2.2; show _ ≤ _; omega
  have HHo : Hid (∀ (W : World) (q : Fm) (qv : Value), Below w.heap.size w W → IsFm (fun _ => True) W q qv → short 60 q = true → size q ≤ 300 → Calls Tryz.prog 20 #[fval q qv, .agg #[.slice yd M md], .slice yc Mc mc] W fun e w' => e = .returned (.bool (holdsF d c q)) ∧ Below W.heap.size W w') := by
    intro W q qv hW hq hs hz
    exact Holds_c q W _ d _ c _ hq (HD.out.later hW) (HC.out.later hW) HDm.out HCm.out HX.out (lim := 60) (by omega) hs (by omega)
  clear hG1 hG2 hs1 hs2 hfe
  focus
    -- pieces: f, g, d
    obtain ⟨bk, -⟩ := HO.out.pop.pop.blk
    have hbd := lt_of_block bk
    have cd0 := cell_of_heap bk (i := 0)
    simp only [List.getElem?_toArray, List.getElem?_cons_succ, List.getElem?_cons_zero] at cd0
    clear bk
    obtain ⟨bk, -⟩ := HO.out.blk
    have hbf := lt_of_block bk
    have cf0 := cell_of_heap bk (i := 0)
    have cf1 := cell_of_heap bk (i := 1)
    have cf2 := cell_of_heap bk (i := 2)
    have cf3 := cell_of_heap bk (i := 3)
    have cf4 := cell_of_heap bk (i := 4)
    simp only [List.getElem?_toArray, List.getElem?_cons_succ, List.getElem?_cons_zero] at cf0 cf1 cf2 cf3 cf4
    clear bk
    obtain ⟨bk, -⟩ := HO.out.pop.blk
    have hbg := lt_of_block bk
    have cg0 := cell_of_heap bk (i := 0)
    have cg1 := cell_of_heap bk (i := 1)
    have cg2 := cell_of_heap bk (i := 2)
    have cg3 := cell_of_heap bk (i := 3)
    have cg4 := cell_of_heap bk (i := 4)
    simp only [List.getElem?_toArray, List.getElem?_cons_succ, List.getElem?_cons_zero] at cg0 cg1 cg2 cg3 cg4
    clear bk
    go_wp2_with fail
    clear hbf cf0 cf1 cf2 cf3 cf4 hbg cg0 cg1 cg2 cg3 cg4 hbd cd0
  go_at_call 20
  refine (HHo.out W4 f _ HO.out.base (HF.out.later HO.out.base) HS1.out (by have := HG1.out.small; omega)).mono ?_
  rintro e W5 ⟨rfl, hb⟩
  replace HO := Lib.hid (HO.out.below hb)
  clear hb
  obtain ⟨A, hA⟩ : ∃ A, A = holdsF d c f := ⟨_, rfl⟩
  rw [← hA] at HCo ⊢
  clear hA
  focus
    -- pieces: f, g, d
    obtain ⟨bk, -⟩ := HO.out.pop.pop.blk
    have hbd := lt_of_block bk
    have cd0 := cell_of_heap bk (i := 0)
    simp only [List.getElem?_toArray, List.getElem?_cons_succ, List.getElem?_cons_zero] at cd0
    clear bk
    obtain ⟨bk, -⟩ := HO.out.blk
    have hbf := lt_of_block bk
    have cf0 := cell_of_heap bk (i := 0)
    have cf1 := cell_of_heap bk (i := 1)
    have cf2 := cell_of_heap bk (i := 2)
    have cf3 := cell_of_heap bk (i := 3)
    have cf4 := cell_of_heap bk (i := 4)
    simp only [List.getElem?_toArray, List.getElem?_cons_succ, List.getElem?_cons_zero] at cf0 cf1 cf2 cf3 cf4
    clear bk
    obtain ⟨bk, -⟩ := HO.out.pop.blk
    have hbg := lt_of_block bk
    have cg0 := cell_of_heap bk (i := 0)
    have cg1 := cell_of_heap bk (i := 1)
    have cg2 := cell_of_heap bk (i := 2)
    have cg3 := cell_of_heap bk (i := 3)
    have cg4 := cell_of_heap bk (i := 4)
    simp only [List.getElem?_toArray, List.getElem?_cons_succ, List.getElem?_cons_zero] at cg0 cg1 cg2 cg3 cg4
    clear bk
    go_wp2_with fail
    clear hbf cf0 cf1 cf2 cf3 cf4 hbg cg0 cg1 cg2 cg3 cg4 hbd cd0
  go_at_call 20
  refine (HHo.out W5 g _ HO.out.base (HG.out.later HO.out.base) HS2.out (by have := HG2.out.small; omega)).mono ?_
  rintro e W6 ⟨rfl, hb⟩
  replace HO := Lib.hid (HO.out.below hb)
  clear hb
  obtain ⟨B, hB⟩ : ∃ B, B = holdsF d c g := ⟨_, rfl⟩
  rw [← hB] at HCo ⊢
  clear hB
  obtain ⟨W7, hW7⟩ : ∃ W7, W7 = W6.alloc (.cells #[.int .i64 f.op, .string (bs f.name), .int .i64 f.cmp, .int .i64 f.num, .slice y N m] 24) := ⟨_, rfl⟩
  obtain ⟨yn, hyn⟩ : ∃ yn, yn = W6.heap.size := ⟨_, rfl⟩
  focus
    -- pieces: f, g, d
    obtain ⟨bk, -⟩ := HO.out.pop.pop.blk
    have hbd := lt_of_block bk
    have cd0 := cell_of_heap bk (i := 0)
    simp only [List.getElem?_toArray, List.getElem?_cons_succ, List.getElem?_cons_zero] at cd0
    clear bk
    obtain ⟨bk, -⟩ := HO.out.blk
    have hbf := lt_of_block bk
    have cf0 := cell_of_heap bk (i := 0)
    have cf1 := cell_of_heap bk (i := 1)
    have cf2 := cell_of_heap bk (i := 2)
    have cf3 := cell_of_heap bk (i := 3)
    have cf4 := cell_of_heap bk (i := 4)
    simp only [List.getElem?_toArray, List.getElem?_cons_succ, List.getElem?_cons_zero] at cf0 cf1 cf2 cf3 cf4
    clear bk
    obtain ⟨bk, -⟩ := HO.out.pop.blk
    have hbg := lt_of_block bk
    have cg0 := cell_of_heap bk (i := 0)
    have cg1 := cell_of_heap bk (i := 1)
    have cg2 := cell_of_heap bk (i := 2)
    have cg3 := cell_of_heap bk (i := 3)
    have cg4 := cell_of_heap bk (i := 4)
    simp only [List.getElem?_toArray, List.getElem?_cons_succ, List.getElem?_cons_zero] at cg0 cg1 cg2 cg3 cg4
    clear bk
    go_wp2_with fail
    rw [← hW7, ← hyn]
    clear hbf cf0 cf1 cf2 cf3 cf4 hbg cg0 cg1 cg2 cg3 cg4 hbd cd0
  have hb7 : Below W6.heap.size W6 W7 := by rw [hW7]; exact (Below.refl _ _).alloc (Nat.le_refl _) _
  have hr : W7.heap[yn]? = some (.cells (kidCells [(f, .slice y N m)]).toArray 24 (0, 0)) := by
    rw [hW7, hyn]; exact new_heap _ _ _ rfl
  have hf7 : IsFm (fun _ => True) W7 f (.slice y N m) := HF.out.later (HO.out.below hb7).base
  have HNf : Hid (IsFm (fun _ => True) W7 (notF f) (.slice (some ⟨yn, 0, none⟩) 1 1)) := Lib.hid (IsFm.row _ hr (by simp; exact hf7) trivial (Nat.le_refl _) 4 [] 0 0)
  replace HO := Lib.hid (HO.out.below hb7)
  clear hW7 hyn hb7 hr hf7
  go_at_call 29
  refine (both_c 4 _ 1 1 W7).mono ?_
  rintro e W8 ⟨rfl, hb⟩
  obtain ⟨W9, hW9⟩ : ∃ W9, W9 = W8.alloc (.cells #[.int .i64 4, .string (bs []), .int .i64 0, .int .i64 0, .slice (some ⟨yn, 0, none⟩) 1 1] 24) := ⟨_, rfl⟩
  obtain ⟨b12, hb12⟩ : ∃ b12, b12 = W8.heap.size := ⟨_, rfl⟩
  have hb9 : Below W8.heap.size W8 W9 := by rw [hW9]; exact (Below.refl _ _).alloc (Nat.le_refl _) _
  replace HNf := Lib.hid ((HNf.out.later hb).later hb9)
  replace HO : Hid (Owns w W9 [blk bf (fobj f (.slice y N m)), blk bg (fobj g (.slice y' N' m')), blk bd (.cells #[.slice yd M md] 27 (0, 0)), blk b12 (.cells #[.int .i64 4, .string (bs []), .int .i64 0, .int .i64 0, .slice (some ⟨yn, 0, none⟩) 1 1] 24 (0, 0))]) := by
    rw [hW9, hb12]
    exact Lib.hid (((HO.out.below hb).box (.cells #[.int .i64 4, .string (bs []), .int .i64 0, .int .i64 0, .slice (some ⟨yn, 0, none⟩) 1 1] 24 (0, 0))).re [1, 2, 3, 0])
  go_wp2_with fail
  rw [← hW9, ← hb12]
  clear hW9 hb12 hb9 hb
  have hsz : size f ≤ 60 ∧ size g ≤ 60 := ⟨HG1.out.small, HG2.out.small⟩
  have HSz := Lib.hid hsz
  clear hsz
  refine wp_region_can [3, 11, 14, 25, 28] [0, 1, 2, 4, 5, 3, 6, 7, 8, 9, 12, 13, 15, 10, 11, 14, 16, 17, 18, 19, 20, 21, 22, 23, 26, 27, 29, 24, 25, 28, 30, 31, 32, 33, 34, 35] (by decide +kernel) (by decide +kernel) ?_
  have ho1 := HO.out.drew
  have hn1 := HNf.out.later (Below.refl _ _).drew
  generalize hWd : World.drew _ = W10 at ho1 hn1 ⊢
  replace HO := Lib.hid ho1
  replace HNf := Lib.hid hn1
  clear hWd ho1 hn1
  focus
    -- pieces: f, g, d
    obtain ⟨bk, -⟩ := HO.out.pop.pop.blk
    have hbd := lt_of_block bk
    have cd0 := cell_of_heap bk (i := 0)
    simp only [List.getElem?_toArray, List.getElem?_cons_succ, List.getElem?_cons_zero] at cd0
    clear bk
    obtain ⟨bk, -⟩ := HO.out.blk
    have hbf := lt_of_block bk
    have cf0 := cell_of_heap bk (i := 0)
    have cf1 := cell_of_heap bk (i := 1)
    have cf2 := cell_of_heap bk (i := 2)
    have cf3 := cell_of_heap bk (i := 3)
    have cf4 := cell_of_heap bk (i := 4)
    simp only [List.getElem?_toArray, List.getElem?_cons_succ, List.getElem?_cons_zero] at cf0 cf1 cf2 cf3 cf4
    clear bk
    obtain ⟨bk, -⟩ := HO.out.pop.blk
    have hbg := lt_of_block bk
    have cg0 := cell_of_heap bk (i := 0)
    have cg1 := cell_of_heap bk (i := 1)
    have cg2 := cell_of_heap bk (i := 2)
    have cg3 := cell_of_heap bk (i := 3)
    have cg4 := cell_of_heap bk (i := 4)
    simp only [List.getElem?_toArray, List.getElem?_cons_succ, List.getElem?_cons_zero] at cg0 cg1 cg2 cg3 cg4
    clear bk
    obtain ⟨bk, -⟩ := (HO.out.re [3, 0, 1, 2]).blk
    have hbn := lt_of_block bk
    have cn0 := cell_of_heap bk (i := 0)
    have cn1 := cell_of_heap bk (i := 1)
    have cn2 := cell_of_heap bk (i := 2)
    have cn3 := cell_of_heap bk (i := 3)
    have cn4 := cell_of_heap bk (i := 4)
    simp only [List.getElem?_toArray, List.getElem?_cons_succ, List.getElem?_cons_zero] at cn0 cn1 cn2 cn3 cn4
    clear bk
    iterate 5 (first | (refine cl_do rfl rfl rfl (by first | rfl | simp [okB, lenV, plainV, Act.eval]) (fun _ _ => ?_); go_wp2_with fail) | (refine cl_yes rfl rfl rfl rfl (by first | rfl | simp [okB, lenV, plainV, Act.eval]) (fun _ _ => ?_); go_wp2_with fail) | (refine cl_no rfl rfl rfl ?_; go_simp))
    clear hbf cf0 cf1 cf2 cf3 cf4 hbg cg0 cg1 cg2 cg3 cg4 hbd cd0
    clear hbn cn0 cn1 cn2 cn3 cn4
  refine cl_call (i := 3) rfl rfl (by first | rfl | simp [okB, lenV, plainV, Act.eval]) (fun K hK => ?_)
  go_wp2_with fail
  go_at_call 20
  refine (HHo.out W10 (notF f) _ HO.out.base HNf.out (by simp [short, shorts, HS1.out]) (by have := HSz.out.1; simp [size, sizes]; omega)).mono ?_
  rintro e w2 ⟨rfl, hb⟩
  rw [HCo.out.1]
  replace HO := Lib.hid (HO.out.below hb)
  replace HNf := Lib.hid (HNf.out.later hb)
  have Hb := Lib.hid hb
  clear hb
  go_wp2_with fail
  refine And.intro Hb.out ?_
  clear Hb
  cases A <;> cases B
  all_goals
    iterate 2 (first | (refine cl_do rfl rfl rfl (by first | rfl | simp [okB, lenV, plainV, Act.eval]) (fun _ _ => ?_); go_wp2_with fail) | (refine cl_yes rfl rfl rfl rfl (by first | rfl | simp [okB, lenV, plainV, Act.eval]) (fun _ _ => ?_); go_wp2_with fail) | (refine cl_no rfl rfl rfl ?_; go_simp))
    focus
      -- pieces: f, g, d
      obtain ⟨bk, -⟩ := HO.out.pop.pop.blk
      have hbd := lt_of_block bk
      have cd0 := cell_of_heap bk (i := 0)
      simp only [List.getElem?_toArray, List.getElem?_cons_succ, List.getElem?_cons_zero] at cd0
      clear bk
      obtain ⟨bk, -⟩ := HO.out.blk
      have hbf := lt_of_block bk
      have cf0 := cell_of_heap bk (i := 0)
      have cf1 := cell_of_heap bk (i := 1)
      have cf2 := cell_of_heap bk (i := 2)
      have cf3 := cell_of_heap bk (i := 3)
      have cf4 := cell_of_heap bk (i := 4)
      simp only [List.getElem?_toArray, List.getElem?_cons_succ, List.getElem?_cons_zero] at cf0 cf1 cf2 cf3 cf4
      clear bk
      obtain ⟨bk, -⟩ := HO.out.pop.blk
      have hbg := lt_of_block bk
      have cg0 := cell_of_heap bk (i := 0)
      have cg1 := cell_of_heap bk (i := 1)
      have cg2 := cell_of_heap bk (i := 2)
      have cg3 := cell_of_heap bk (i := 3)
      have cg4 := cell_of_heap bk (i := 4)
      simp only [List.getElem?_toArray, List.getElem?_cons_succ, List.getElem?_cons_zero] at cg0 cg1 cg2 cg3 cg4
      clear bk
      iterate 5 (first | (refine cl_do rfl rfl rfl (by first | rfl | simp [okB, lenV, plainV, Act.eval]) (fun _ _ => ?_); go_wp2_with fail) | (refine cl_yes rfl rfl rfl rfl (by first | rfl | simp [okB, lenV, plainV, Act.eval]) (fun _ _ => ?_); go_wp2_with fail) | (refine cl_no rfl rfl rfl ?_; go_simp))
      clear hbf cf0 cf1 cf2 cf3 cf4 hbg cg0 cg1 cg2 cg3 cg4 hbd cd0
    obtain ⟨Wp, hWp⟩ : ∃ Wp, Wp = w2.alloc (.cells #[.int .i64 (f).op, .string (bs (f).name), .int .i64 (f).cmp, .int .i64 (f).num, .slice y N m, .int .i64 (g).op, .string (bs (g).name), .int .i64 (g).cmp, .int .i64 (g).num, .slice y' N' m'] 24) := ⟨_, rfl⟩
    obtain ⟨yp, hyp⟩ : ∃ yp, yp = w2.heap.size := ⟨_, rfl⟩
    iterate 1 (first | (refine cl_do rfl rfl rfl (by first | rfl | simp [okB, lenV, plainV, Act.eval]) (fun _ _ => ?_); go_wp2_with fail) | (refine cl_yes rfl rfl rfl rfl (by first | rfl | simp [okB, lenV, plainV, Act.eval]) (fun _ _ => ?_); go_wp2_with fail) | (refine cl_no rfl rfl rfl ?_; go_simp))
    rw [← hWp, ← hyp]
    have hbp : Below w2.heap.size w2 Wp := by rw [hWp]; exact (Below.refl _ _).alloc (Nat.le_refl _) _
    have hr : Wp.heap[yp]? = some (.cells (kidCells [(f, .slice y N m), (g, .slice y' N' m')]).toArray 24 (0, 0)) := by
      rw [hWp, hyp]; exact new_heap _ _ _ rfl
    replace HO := Lib.hid (HO.out.below hbp)
    replace HNf := Lib.hid (HNf.out.later hbp)
    have HPr : Hid (IsFm (fun _ => True) Wp (.mk 5 [] 0 0 [f, g]) (.slice (some ⟨yp, 0, none⟩) 2 2)) := Lib.hid (IsFm.row _ hr (by
      intro q hq
      simp only [List.mem_cons, List.not_mem_nil, or_false] at hq
      rcases hq with rfl | rfl
      · exact (HF).out.later HO.out.base
      · exact (HG).out.later HO.out.base) trivial (Nat.le_refl _) 5 [] 0 0)
    clear hWp hyp hbp hr
    first | refine cl_ycall (i := 11) rfl rfl rfl (by first | rfl | simp [okB, lenV, plainV, Act.eval]) (fun K hK => ?_) | refine cl_call (i := 11) rfl rfl (by first | rfl | simp [okB, lenV, plainV, Act.eval]) (fun K hK => ?_)
    go_wp2_with fail
    go_at_call 29
    refine (both_c 5 _ 2 2 Wp).mono ?_
    rintro e w3 ⟨rfl, hb⟩
    replace HPr := Lib.hid (HPr.out.later hb)
    replace HO := Lib.hid (HO.out.below hb)
    replace HNf := Lib.hid (HNf.out.later hb)
    have Hb := Lib.hid hb
    clear hb
    go_wp2_with fail
    refine And.intro Hb.out ?_
    clear Hb
    first | refine cl_ycall (i := 14) rfl rfl rfl (by first | rfl | simp [okB, lenV, plainV, Act.eval]) (fun K hK => ?_) | refine cl_call (i := 14) rfl rfl (by first | rfl | simp [okB, lenV, plainV, Act.eval]) (fun K hK => ?_)
    go_wp2_with fail
    go_at_call 20
    refine (HHo.out w3 (.mk 5 [] 0 0 [f, g]) _ HO.out.base HPr.out (by simp [short, shorts, HS1.out, HS2.out]) (by have := HSz.out; simp [size, sizes]; omega)).mono ?_
    clear HPr
    rintro e w2 ⟨rfl, hb⟩
    rw [HCo.out.2.1]
    replace HO := Lib.hid (HO.out.below hb)
    replace HNf := Lib.hid (HNf.out.later hb)
    have Hb := Lib.hid hb
    clear hb
    go_wp2_with fail
    refine And.intro Hb.out ?_
    clear Hb
    iterate 6 (first | (refine cl_do rfl rfl rfl (by first | rfl | simp [okB, lenV, plainV, Act.eval]) (fun _ _ => ?_); go_wp2_with fail) | (refine cl_yes rfl rfl rfl rfl (by first | rfl | simp [okB, lenV, plainV, Act.eval]) (fun _ _ => ?_); go_wp2_with fail) | (refine cl_no rfl rfl rfl ?_; go_simp))
    focus
      -- pieces: f, g, d
      obtain ⟨bk, -⟩ := HO.out.pop.pop.blk
      have hbd := lt_of_block bk
      have cd0 := cell_of_heap bk (i := 0)
      simp only [List.getElem?_toArray, List.getElem?_cons_succ, List.getElem?_cons_zero] at cd0
      clear bk
      obtain ⟨bk, -⟩ := HO.out.blk
      have hbf := lt_of_block bk
      have cf0 := cell_of_heap bk (i := 0)
      have cf1 := cell_of_heap bk (i := 1)
      have cf2 := cell_of_heap bk (i := 2)
      have cf3 := cell_of_heap bk (i := 3)
      have cf4 := cell_of_heap bk (i := 4)
      simp only [List.getElem?_toArray, List.getElem?_cons_succ, List.getElem?_cons_zero] at cf0 cf1 cf2 cf3 cf4
      clear bk
      obtain ⟨bk, -⟩ := HO.out.pop.blk
      have hbg := lt_of_block bk
      have cg0 := cell_of_heap bk (i := 0)
      have cg1 := cell_of_heap bk (i := 1)
      have cg2 := cell_of_heap bk (i := 2)
      have cg3 := cell_of_heap bk (i := 3)
      have cg4 := cell_of_heap bk (i := 4)
      simp only [List.getElem?_toArray, List.getElem?_cons_succ, List.getElem?_cons_zero] at cg0 cg1 cg2 cg3 cg4
      clear bk
      iterate 5 (first | (refine cl_do rfl rfl rfl (by first | rfl | simp [okB, lenV, plainV, Act.eval]) (fun _ _ => ?_); go_wp2_with fail) | (refine cl_yes rfl rfl rfl rfl (by first | rfl | simp [okB, lenV, plainV, Act.eval]) (fun _ _ => ?_); go_wp2_with fail) | (refine cl_no rfl rfl rfl ?_; go_simp))
      clear hbf cf0 cf1 cf2 cf3 cf4 hbg cg0 cg1 cg2 cg3 cg4 hbd cd0
    obtain ⟨Wp, hWp⟩ : ∃ Wp, Wp = w2.alloc (.cells #[.int .i64 (g).op, .string (bs (g).name), .int .i64 (g).cmp, .int .i64 (g).num, .slice y' N' m', .int .i64 (f).op, .string (bs (f).name), .int .i64 (f).cmp, .int .i64 (f).num, .slice y N m] 24) := ⟨_, rfl⟩
    obtain ⟨yp, hyp⟩ : ∃ yp, yp = w2.heap.size := ⟨_, rfl⟩
    iterate 1 (first | (refine cl_do rfl rfl rfl (by first | rfl | simp [okB, lenV, plainV, Act.eval]) (fun _ _ => ?_); go_wp2_with fail) | (refine cl_yes rfl rfl rfl rfl (by first | rfl | simp [okB, lenV, plainV, Act.eval]) (fun _ _ => ?_); go_wp2_with fail) | (refine cl_no rfl rfl rfl ?_; go_simp))
    rw [← hWp, ← hyp]
    have hbp : Below w2.heap.size w2 Wp := by rw [hWp]; exact (Below.refl _ _).alloc (Nat.le_refl _) _
    have hr : Wp.heap[yp]? = some (.cells (kidCells [(g, .slice y' N' m'), (f, .slice y N m)]).toArray 24 (0, 0)) := by
      rw [hWp, hyp]; exact new_heap _ _ _ rfl
    replace HO := Lib.hid (HO.out.below hbp)
    replace HNf := Lib.hid (HNf.out.later hbp)
    have HPr : Hid (IsFm (fun _ => True) Wp (.mk 6 [] 0 0 [g, f]) (.slice (some ⟨yp, 0, none⟩) 2 2)) := Lib.hid (IsFm.row _ hr (by
      intro q hq
      simp only [List.mem_cons, List.not_mem_nil, or_false] at hq
      rcases hq with rfl | rfl
      · exact (HG).out.later HO.out.base
      · exact (HF).out.later HO.out.base) trivial (Nat.le_refl _) 6 [] 0 0)
    clear hWp hyp hbp hr
    first | refine cl_ycall (i := 25) rfl rfl rfl (by first | rfl | simp [okB, lenV, plainV, Act.eval]) (fun K hK => ?_) | refine cl_call (i := 25) rfl rfl (by first | rfl | simp [okB, lenV, plainV, Act.eval]) (fun K hK => ?_)
    go_wp2_with fail
    go_at_call 29
    refine (both_c 6 _ 2 2 Wp).mono ?_
    rintro e w3 ⟨rfl, hb⟩
    replace HPr := Lib.hid (HPr.out.later hb)
    replace HO := Lib.hid (HO.out.below hb)
    replace HNf := Lib.hid (HNf.out.later hb)
    have Hb := Lib.hid hb
    clear hb
    go_wp2_with fail
    refine And.intro Hb.out ?_
    clear Hb
    first | refine cl_ycall (i := 28) rfl rfl rfl (by first | rfl | simp [okB, lenV, plainV, Act.eval]) (fun K hK => ?_) | refine cl_call (i := 28) rfl rfl (by first | rfl | simp [okB, lenV, plainV, Act.eval]) (fun K hK => ?_)
    go_wp2_with fail
    go_at_call 20
    refine (HHo.out w3 (.mk 6 [] 0 0 [g, f]) _ HO.out.base HPr.out (by simp [short, shorts, HS1.out, HS2.out]) (by have := HSz.out; simp [size, sizes]; omega)).mono ?_
    clear HPr
    rintro e w2 ⟨rfl, hb⟩
    rw [HCo.out.2.2.1]
    replace HO := Lib.hid (HO.out.below hb)
    replace HNf := Lib.hid (HNf.out.later hb)
    have Hb := Lib.hid hb
    clear hb
    go_wp2_with fail
    refine And.intro Hb.out ?_
    clear Hb
    iterate 6 (first | (refine cl_do rfl rfl rfl (by first | rfl | simp [okB, lenV, plainV, Act.eval]) (fun _ _ => ?_); go_wp2_with fail) | (refine cl_yes rfl rfl rfl rfl (by first | rfl | simp [okB, lenV, plainV, Act.eval]) (fun _ _ => ?_); go_wp2_with fail) | (refine cl_no rfl rfl rfl ?_; go_simp))
    refine cl_nil ?_
    focus
      -- pieces: f, g, d
      obtain ⟨bk, -⟩ := HO.out.pop.pop.blk
      have hbd := lt_of_block bk
      have cd0 := cell_of_heap bk (i := 0)
      simp only [List.getElem?_toArray, List.getElem?_cons_succ, List.getElem?_cons_zero] at cd0
      clear bk
      obtain ⟨bk, -⟩ := HO.out.blk
      have hbf := lt_of_block bk
      have cf0 := cell_of_heap bk (i := 0)
      have cf1 := cell_of_heap bk (i := 1)
      have cf2 := cell_of_heap bk (i := 2)
      have cf3 := cell_of_heap bk (i := 3)
      have cf4 := cell_of_heap bk (i := 4)
      simp only [List.getElem?_toArray, List.getElem?_cons_succ, List.getElem?_cons_zero] at cf0 cf1 cf2 cf3 cf4
      clear bk
      obtain ⟨bk, -⟩ := HO.out.pop.blk
      have hbg := lt_of_block bk
      have cg0 := cell_of_heap bk (i := 0)
      have cg1 := cell_of_heap bk (i := 1)
      have cg2 := cell_of_heap bk (i := 2)
      have cg3 := cell_of_heap bk (i := 3)
      have cg4 := cell_of_heap bk (i := 4)
      simp only [List.getElem?_toArray, List.getElem?_cons_succ, List.getElem?_cons_zero] at cg0 cg1 cg2 cg3 cg4
      clear bk
      go_wp2_with fail
      clear hbf cf0 cf1 cf2 cf3 cf4 hbg cg0 cg1 cg2 cg3 cg4 hbd cd0
    refine wp_region_can [3, 6, 16, 19] [0, 1, 4, 5, 7, 2, 3, 6, 8, 9, 10, 11, 12, 13, 14, 17, 18, 20, 15, 16, 19, 21, 22, 23, 24, 25, 26] (by decide +kernel) (by decide +kernel) ?_
    have ho1 := HO.out.drew
    have hn1 := HNf.out.later (Below.refl _ _).drew
    generalize hWd : World.drew _ = w2 at ho1 hn1 ⊢
    replace HO := Lib.hid ho1
    replace HNf := Lib.hid hn1
    clear hWd ho1 hn1
    focus
      -- pieces: f, g, d
      obtain ⟨bk, -⟩ := HO.out.pop.pop.blk
      have hbd := lt_of_block bk
      have cd0 := cell_of_heap bk (i := 0)
      simp only [List.getElem?_toArray, List.getElem?_cons_succ, List.getElem?_cons_zero] at cd0
      clear bk
      obtain ⟨bk, -⟩ := HO.out.blk
      have hbf := lt_of_block bk
      have cf0 := cell_of_heap bk (i := 0)
      have cf1 := cell_of_heap bk (i := 1)
      have cf2 := cell_of_heap bk (i := 2)
      have cf3 := cell_of_heap bk (i := 3)
      have cf4 := cell_of_heap bk (i := 4)
      simp only [List.getElem?_toArray, List.getElem?_cons_succ, List.getElem?_cons_zero] at cf0 cf1 cf2 cf3 cf4
      clear bk
      obtain ⟨bk, -⟩ := HO.out.pop.blk
      have hbg := lt_of_block bk
      have cg0 := cell_of_heap bk (i := 0)
      have cg1 := cell_of_heap bk (i := 1)
      have cg2 := cell_of_heap bk (i := 2)
      have cg3 := cell_of_heap bk (i := 3)
      have cg4 := cell_of_heap bk (i := 4)
      simp only [List.getElem?_toArray, List.getElem?_cons_succ, List.getElem?_cons_zero] at cg0 cg1 cg2 cg3 cg4
      clear bk
      iterate 5 (first | (refine cl_do rfl rfl rfl (by first | rfl | simp [okB, lenV, plainV, Act.eval]) (fun _ _ => ?_); go_wp2_with fail) | (refine cl_yes rfl rfl rfl rfl (by first | rfl | simp [okB, lenV, plainV, Act.eval]) (fun _ _ => ?_); go_wp2_with fail) | (refine cl_no rfl rfl rfl ?_; go_simp))
      clear hbf cf0 cf1 cf2 cf3 cf4 hbg cg0 cg1 cg2 cg3 cg4 hbd cd0
    obtain ⟨Wp, hWp⟩ : ∃ Wp, Wp = w2.alloc (.cells #[.int .i64 (g).op, .string (bs (g).name), .int .i64 (g).cmp, .int .i64 (g).num, .slice y' N' m', .int .i64 (f).op, .string (bs (f).name), .int .i64 (f).cmp, .int .i64 (f).num, .slice y N m] 24) := ⟨_, rfl⟩
    obtain ⟨yp, hyp⟩ : ∃ yp, yp = w2.heap.size := ⟨_, rfl⟩
    iterate 1 (first | (refine cl_do rfl rfl rfl (by first | rfl | simp [okB, lenV, plainV, Act.eval]) (fun _ _ => ?_); go_wp2_with fail) | (refine cl_yes rfl rfl rfl rfl (by first | rfl | simp [okB, lenV, plainV, Act.eval]) (fun _ _ => ?_); go_wp2_with fail) | (refine cl_no rfl rfl rfl ?_; go_simp))
    rw [← hWp, ← hyp]
    have hbp : Below w2.heap.size w2 Wp := by rw [hWp]; exact (Below.refl _ _).alloc (Nat.le_refl _) _
    have hr : Wp.heap[yp]? = some (.cells (kidCells [(g, .slice y' N' m'), (f, .slice y N m)]).toArray 24 (0, 0)) := by
      rw [hWp, hyp]; exact new_heap _ _ _ rfl
    replace HO := Lib.hid (HO.out.below hbp)
    replace HNf := Lib.hid (HNf.out.later hbp)
    have HPr : Hid (IsFm (fun _ => True) Wp (.mk 5 [] 0 0 [g, f]) (.slice (some ⟨yp, 0, none⟩) 2 2)) := Lib.hid (IsFm.row _ hr (by
      intro q hq
      simp only [List.mem_cons, List.not_mem_nil, or_false] at hq
      rcases hq with rfl | rfl
      · exact (HG).out.later HO.out.base
      · exact (HF).out.later HO.out.base) trivial (Nat.le_refl _) 5 [] 0 0)
    clear hWp hyp hbp hr
    first | refine cl_ycall (i := 3) rfl rfl rfl (by first | rfl | simp [okB, lenV, plainV, Act.eval]) (fun K hK => ?_) | refine cl_call (i := 3) rfl rfl (by first | rfl | simp [okB, lenV, plainV, Act.eval]) (fun K hK => ?_)
    go_wp2_with fail
    go_at_call 29
    refine (both_c 5 _ 2 2 Wp).mono ?_
    rintro e w3 ⟨rfl, hb⟩
    replace HPr := Lib.hid (HPr.out.later hb)
    replace HO := Lib.hid (HO.out.below hb)
    replace HNf := Lib.hid (HNf.out.later hb)
    have Hb := Lib.hid hb
    clear hb
    go_wp2_with fail
    refine And.intro Hb.out ?_
    clear Hb
    first | refine cl_ycall (i := 6) rfl rfl rfl (by first | rfl | simp [okB, lenV, plainV, Act.eval]) (fun K hK => ?_) | refine cl_call (i := 6) rfl rfl (by first | rfl | simp [okB, lenV, plainV, Act.eval]) (fun K hK => ?_)
    go_wp2_with fail
    go_at_call 20
    refine (HHo.out w3 (.mk 5 [] 0 0 [g, f]) _ HO.out.base HPr.out (by simp [short, shorts, HS1.out, HS2.out]) (by have := HSz.out; simp [size, sizes]; omega)).mono ?_
    clear HPr
    rintro e w2 ⟨rfl, hb⟩
    rw [HCo.out.2.2.2.1]
    replace HO := Lib.hid (HO.out.below hb)
    replace HNf := Lib.hid (HNf.out.later hb)
    have Hb := Lib.hid hb
    clear hb
    go_wp2_with fail
    refine And.intro Hb.out ?_
    clear Hb
    iterate 5 (first | (refine cl_do rfl rfl rfl (by first | rfl | simp [okB, lenV, plainV, Act.eval]) (fun _ _ => ?_); go_wp2_with fail) | (refine cl_yes rfl rfl rfl rfl (by first | rfl | simp [okB, lenV, plainV, Act.eval]) (fun _ _ => ?_); go_wp2_with fail) | (refine cl_no rfl rfl rfl ?_; go_simp))
    focus
      -- pieces: f, g, d
      obtain ⟨bk, -⟩ := HO.out.pop.pop.blk
      have hbd := lt_of_block bk
      have cd0 := cell_of_heap bk (i := 0)
      simp only [List.getElem?_toArray, List.getElem?_cons_succ, List.getElem?_cons_zero] at cd0
      clear bk
      obtain ⟨bk, -⟩ := HO.out.blk
      have hbf := lt_of_block bk
      have cf0 := cell_of_heap bk (i := 0)
      have cf1 := cell_of_heap bk (i := 1)
      have cf2 := cell_of_heap bk (i := 2)
      have cf3 := cell_of_heap bk (i := 3)
      have cf4 := cell_of_heap bk (i := 4)
      simp only [List.getElem?_toArray, List.getElem?_cons_succ, List.getElem?_cons_zero] at cf0 cf1 cf2 cf3 cf4
      clear bk
      obtain ⟨bk, -⟩ := HO.out.pop.blk
      have hbg := lt_of_block bk
      have cg0 := cell_of_heap bk (i := 0)
      have cg1 := cell_of_heap bk (i := 1)
      have cg2 := cell_of_heap bk (i := 2)
      have cg3 := cell_of_heap bk (i := 3)
      have cg4 := cell_of_heap bk (i := 4)
      simp only [List.getElem?_toArray, List.getElem?_cons_succ, List.getElem?_cons_zero] at cg0 cg1 cg2 cg3 cg4
      clear bk
      iterate 5 (first | (refine cl_do rfl rfl rfl (by first | rfl | simp [okB, lenV, plainV, Act.eval]) (fun _ _ => ?_); go_wp2_with fail) | (refine cl_yes rfl rfl rfl rfl (by first | rfl | simp [okB, lenV, plainV, Act.eval]) (fun _ _ => ?_); go_wp2_with fail) | (refine cl_no rfl rfl rfl ?_; go_simp))
      clear hbf cf0 cf1 cf2 cf3 cf4 hbg cg0 cg1 cg2 cg3 cg4 hbd cd0
    obtain ⟨Wp, hWp⟩ : ∃ Wp, Wp = w2.alloc (.cells #[.int .i64 (f).op, .string (bs (f).name), .int .i64 (f).cmp, .int .i64 (f).num, .slice y N m, .int .i64 (g).op, .string (bs (g).name), .int .i64 (g).cmp, .int .i64 (g).num, .slice y' N' m'] 24) := ⟨_, rfl⟩
    obtain ⟨yp, hyp⟩ : ∃ yp, yp = w2.heap.size := ⟨_, rfl⟩
    iterate 1 (first | (refine cl_do rfl rfl rfl (by first | rfl | simp [okB, lenV, plainV, Act.eval]) (fun _ _ => ?_); go_wp2_with fail) | (refine cl_yes rfl rfl rfl rfl (by first | rfl | simp [okB, lenV, plainV, Act.eval]) (fun _ _ => ?_); go_wp2_with fail) | (refine cl_no rfl rfl rfl ?_; go_simp))
    rw [← hWp, ← hyp]
    have hbp : Below w2.heap.size w2 Wp := by rw [hWp]; exact (Below.refl _ _).alloc (Nat.le_refl _) _
    have hr : Wp.heap[yp]? = some (.cells (kidCells [(f, .slice y N m), (g, .slice y' N' m')]).toArray 24 (0, 0)) := by
      rw [hWp, hyp]; exact new_heap _ _ _ rfl
    replace HO := Lib.hid (HO.out.below hbp)
    replace HNf := Lib.hid (HNf.out.later hbp)
    have HPr : Hid (IsFm (fun _ => True) Wp (.mk 6 [] 0 0 [f, g]) (.slice (some ⟨yp, 0, none⟩) 2 2)) := Lib.hid (IsFm.row _ hr (by
      intro q hq
      simp only [List.mem_cons, List.not_mem_nil, or_false] at hq
      rcases hq with rfl | rfl
      · exact (HF).out.later HO.out.base
      · exact (HG).out.later HO.out.base) trivial (Nat.le_refl _) 6 [] 0 0)
    clear hWp hyp hbp hr
    first | refine cl_ycall (i := 16) rfl rfl rfl (by first | rfl | simp [okB, lenV, plainV, Act.eval]) (fun K hK => ?_) | refine cl_call (i := 16) rfl rfl (by first | rfl | simp [okB, lenV, plainV, Act.eval]) (fun K hK => ?_)
    go_wp2_with fail
    go_at_call 29
    refine (both_c 6 _ 2 2 Wp).mono ?_
    rintro e w3 ⟨rfl, hb⟩
    replace HPr := Lib.hid (HPr.out.later hb)
    replace HO := Lib.hid (HO.out.below hb)
    replace HNf := Lib.hid (HNf.out.later hb)
    have Hb := Lib.hid hb
    clear hb
    go_wp2_with fail
    refine And.intro Hb.out ?_
    clear Hb
    first | refine cl_ycall (i := 19) rfl rfl rfl (by first | rfl | simp [okB, lenV, plainV, Act.eval]) (fun K hK => ?_) | refine cl_call (i := 19) rfl rfl (by first | rfl | simp [okB, lenV, plainV, Act.eval]) (fun K hK => ?_)
    go_wp2_with fail
    go_at_call 20
    refine (HHo.out w3 (.mk 6 [] 0 0 [f, g]) _ HO.out.base HPr.out (by simp [short, shorts, HS1.out, HS2.out]) (by have := HSz.out; simp [size, sizes]; omega)).mono ?_
    clear HPr
    rintro e w2 ⟨rfl, hb⟩
    rw [HCo.out.2.2.2.2.1]
    replace HO := Lib.hid (HO.out.below hb)
    replace HNf := Lib.hid (HNf.out.later hb)
    have Hb := Lib.hid hb
    clear hb
    go_wp2_with fail
    refine And.intro Hb.out ?_
    clear Hb
    iterate 6 (first | (refine cl_do rfl rfl rfl (by first | rfl | simp [okB, lenV, plainV, Act.eval]) (fun _ _ => ?_); go_wp2_with fail) | (refine cl_yes rfl rfl rfl rfl (by first | rfl | simp [okB, lenV, plainV, Act.eval]) (fun _ _ => ?_); go_wp2_with fail) | (refine cl_no rfl rfl rfl ?_; go_simp))
    refine cl_nil ?_
    go_wp2_with fail
    refine wp_region_walk [11, 13, 16, 20, 22, 25] 29 rfl (by decide +kernel) ?_
    have ho1 := HO.out.drew
    have hn1 := HNf.out.later (Below.refl _ _).drew
    generalize hWd : World.drew _ = wc at ho1 hn1 ⊢
    replace HO := Lib.hid ho1
    replace HNf := Lib.hid hn1
    clear hWd ho1 hn1
    refine cw_step 0 (by decide +kernel) (by decide +kernel) (by decide +kernel) ?_
    (first | (refine cw_do rfl rfl rfl (by first | rfl | simp [okB, lenV, plainV, Act.eval]) (fun _ _ => ?_); go_wp2_with fail) | (refine cw_yes rfl rfl rfl rfl (by first | rfl | simp [okB, lenV, plainV, Act.eval]) (fun _ _ => ?_); go_wp2_with fail))
    refine cw_step 1 (by decide +kernel) (by decide +kernel) (by decide +kernel) ?_
    (first | (refine cw_do rfl rfl rfl (by first | rfl | simp [okB, lenV, plainV, Act.eval]) (fun _ _ => ?_); go_wp2_with fail) | (refine cw_yes rfl rfl rfl rfl (by first | rfl | simp [okB, lenV, plainV, Act.eval]) (fun _ _ => ?_); go_wp2_with fail))
    refine cw_step 2 (by decide +kernel) (by decide +kernel) (by decide +kernel) ?_
    (first | (refine cw_do rfl rfl rfl (by first | rfl | simp [okB, lenV, plainV, Act.eval]) (fun _ _ => ?_); go_wp2_with fail) | (refine cw_yes rfl rfl rfl rfl (by first | rfl | simp [okB, lenV, plainV, Act.eval]) (fun _ _ => ?_); go_wp2_with fail))
    refine cw_step 3 (by decide +kernel) (by decide +kernel) (by decide +kernel) ?_
    (first | (refine cw_do rfl rfl rfl (by first | rfl | simp [okB, lenV, plainV, Act.eval]) (fun _ _ => ?_); go_wp2_with fail) | (refine cw_yes rfl rfl rfl rfl (by first | rfl | simp [okB, lenV, plainV, Act.eval]) (fun _ _ => ?_); go_wp2_with fail))
    refine cw_step 4 (by decide +kernel) (by decide +kernel) (by decide +kernel) ?_
    (first | (refine cw_do rfl rfl rfl (by first | rfl | simp [okB, lenV, plainV, Act.eval]) (fun _ _ => ?_); go_wp2_with fail) | (refine cw_yes rfl rfl rfl rfl (by first | rfl | simp [okB, lenV, plainV, Act.eval]) (fun _ _ => ?_); go_wp2_with fail))
    refine cw_step 5 (by decide +kernel) (by decide +kernel) (by decide +kernel) ?_
    (first | (refine cw_do rfl rfl rfl (by first | rfl | simp [okB, lenV, plainV, Act.eval]) (fun _ _ => ?_); go_wp2_with fail) | (refine cw_yes rfl rfl rfl rfl (by first | rfl | simp [okB, lenV, plainV, Act.eval]) (fun _ _ => ?_); go_wp2_with fail))
    refine cw_step 6 (by decide +kernel) (by decide +kernel) (by decide +kernel) ?_
    (first | (refine cw_do rfl rfl rfl (by first | rfl | simp [okB, lenV, plainV, Act.eval]) (fun _ _ => ?_); go_wp2_with fail) | (refine cw_yes rfl rfl rfl rfl (by first | rfl | simp [okB, lenV, plainV, Act.eval]) (fun _ _ => ?_); go_wp2_with fail))
    refine cw_step 7 (by decide +kernel) (by decide +kernel) (by decide +kernel) ?_
    (first | (refine cw_do rfl rfl rfl (by first | rfl | simp [okB, lenV, plainV, Act.eval]) (fun _ _ => ?_); go_wp2_with fail) | (refine cw_yes rfl rfl rfl rfl (by first | rfl | simp [okB, lenV, plainV, Act.eval]) (fun _ _ => ?_); go_wp2_with fail))
    focus
      -- pieces: f, g, d
      obtain ⟨bk, -⟩ := HO.out.pop.pop.blk
      have hbd := lt_of_block bk
      have cd0 := cell_of_heap bk (i := 0)
      simp only [List.getElem?_toArray, List.getElem?_cons_succ, List.getElem?_cons_zero] at cd0
      clear bk
      obtain ⟨bk, -⟩ := HO.out.blk
      have hbf := lt_of_block bk
      have cf0 := cell_of_heap bk (i := 0)
      have cf1 := cell_of_heap bk (i := 1)
      have cf2 := cell_of_heap bk (i := 2)
      have cf3 := cell_of_heap bk (i := 3)
      have cf4 := cell_of_heap bk (i := 4)
      simp only [List.getElem?_toArray, List.getElem?_cons_succ, List.getElem?_cons_zero] at cf0 cf1 cf2 cf3 cf4
      clear bk
      obtain ⟨bk, -⟩ := HO.out.pop.blk
      have hbg := lt_of_block bk
      have cg0 := cell_of_heap bk (i := 0)
      have cg1 := cell_of_heap bk (i := 1)
      have cg2 := cell_of_heap bk (i := 2)
      have cg3 := cell_of_heap bk (i := 3)
      have cg4 := cell_of_heap bk (i := 4)
      simp only [List.getElem?_toArray, List.getElem?_cons_succ, List.getElem?_cons_zero] at cg0 cg1 cg2 cg3 cg4
      clear bk
      obtain ⟨bk, -⟩ := (HO.out.re [3, 0, 1, 2]).blk
      have hbn := lt_of_block bk
      have cn0 := cell_of_heap bk (i := 0)
      have cn1 := cell_of_heap bk (i := 1)
      have cn2 := cell_of_heap bk (i := 2)
      have cn3 := cell_of_heap bk (i := 3)
      have cn4 := cell_of_heap bk (i := 4)
      simp only [List.getElem?_toArray, List.getElem?_cons_succ, List.getElem?_cons_zero] at cn0 cn1 cn2 cn3 cn4
      clear bk
      refine cw_step 8 (by decide +kernel) (by decide +kernel) (by decide +kernel) ?_
      (first | (refine cw_do rfl rfl rfl (by first | rfl | simp [okB, lenV, plainV, Act.eval]) (fun _ _ => ?_); go_wp2_with fail) | (refine cw_yes rfl rfl rfl rfl (by first | rfl | simp [okB, lenV, plainV, Act.eval]) (fun _ _ => ?_); go_wp2_with fail))
      refine cw_step 9 (by decide +kernel) (by decide +kernel) (by decide +kernel) ?_
      (first | (refine cw_do rfl rfl rfl (by first | rfl | simp [okB, lenV, plainV, Act.eval]) (fun _ _ => ?_); go_wp2_with fail) | (refine cw_yes rfl rfl rfl rfl (by first | rfl | simp [okB, lenV, plainV, Act.eval]) (fun _ _ => ?_); go_wp2_with fail))
      refine cw_step 14 (by decide +kernel) (by decide +kernel) (by decide +kernel) ?_
      (first | (refine cw_do rfl rfl rfl (by first | rfl | simp [okB, lenV, plainV, Act.eval]) (fun _ _ => ?_); go_wp2_with fail) | (refine cw_yes rfl rfl rfl rfl (by first | rfl | simp [okB, lenV, plainV, Act.eval]) (fun _ _ => ?_); go_wp2_with fail))
      refine cw_step 15 (by decide +kernel) (by decide +kernel) (by decide +kernel) ?_
      (first | (refine cw_do rfl rfl rfl (by first | rfl | simp [okB, lenV, plainV, Act.eval]) (fun _ _ => ?_); go_wp2_with fail) | (refine cw_yes rfl rfl rfl rfl (by first | rfl | simp [okB, lenV, plainV, Act.eval]) (fun _ _ => ?_); go_wp2_with fail))
      refine cw_step 17 (by decide +kernel) (by decide +kernel) (by decide +kernel) ?_
      (first | (refine cw_do rfl rfl rfl (by first | rfl | simp [okB, lenV, plainV, Act.eval]) (fun _ _ => ?_); go_wp2_with fail) | (refine cw_yes rfl rfl rfl rfl (by first | rfl | simp [okB, lenV, plainV, Act.eval]) (fun _ _ => ?_); go_wp2_with fail))
      refine cw_step 18 (by decide +kernel) (by decide +kernel) (by decide +kernel) ?_
      (first | (refine cw_do rfl rfl rfl (by first | rfl | simp [okB, lenV, plainV, Act.eval]) (fun _ _ => ?_); go_wp2_with fail) | (refine cw_yes rfl rfl rfl rfl (by first | rfl | simp [okB, lenV, plainV, Act.eval]) (fun _ _ => ?_); go_wp2_with fail))
      refine cw_step 23 (by decide +kernel) (by decide +kernel) (by decide +kernel) ?_
      (first | (refine cw_do rfl rfl rfl (by first | rfl | simp [okB, lenV, plainV, Act.eval]) (fun _ _ => ?_); go_wp2_with fail) | (refine cw_yes rfl rfl rfl rfl (by first | rfl | simp [okB, lenV, plainV, Act.eval]) (fun _ _ => ?_); go_wp2_with fail))
      refine cw_step 24 (by decide +kernel) (by decide +kernel) (by decide +kernel) ?_
      (first | (refine cw_do rfl rfl rfl (by first | rfl | simp [okB, lenV, plainV, Act.eval]) (fun _ _ => ?_); go_wp2_with fail) | (refine cw_yes rfl rfl rfl rfl (by first | rfl | simp [okB, lenV, plainV, Act.eval]) (fun _ _ => ?_); go_wp2_with fail))
      clear hbf cf0 cf1 cf2 cf3 cf4 hbg cg0 cg1 cg2 cg3 cg4 hbd cd0
      clear hbn cn0 cn1 cn2 cn3 cn4
    refine cw_two 10 19 (by decide +kernel) ?_ ?_
    · obtain ⟨wn, hwn⟩ : ∃ wn, wn = wc.alloc (.cells #[.int .i64 (f).op, .string (bs (f).name), .int .i64 (f).cmp, .int .i64 (f).num, .slice y N m, .int .i64 (g).op, .string (bs (g).name), .int .i64 (g).cmp, .int .i64 (g).num, .slice y' N' m'] 24) := ⟨_, rfl⟩
      obtain ⟨yA, hyA⟩ : ∃ yA, yA = wc.heap.size := ⟨_, rfl⟩
      refine cw_yes rfl rfl rfl rfl (by first | rfl | simp [okB, lenV, plainV, Act.eval]) (fun _ _ => ?_)
      go_wp2_with fail
      rw [← hwn, ← hyA]
      have hb : Below wc.heap.size wc wn := by rw [hwn]; exact (Below.refl _ _).alloc (Nat.le_refl _) _
      have hr : wn.heap[yA]? = some (.cells (kidCells [(f, .slice y N m), (g, .slice y' N' m')]).toArray 24 (0, 0)) := by
        rw [hwn, hyA]; exact new_heap _ _ _ rfl
      have HA : Hid (IsFm (fun _ => True) wn (andF f g) (.slice (some ⟨yA, 0, none⟩) 2 2)) := Lib.hid (IsFm.row _ hr (by
        intro q hq
        simp only [List.mem_cons, List.not_mem_nil, or_false] at hq
        rcases hq with rfl | rfl
        · exact HF.out.later (HO.out.below hb).base
        · exact HG.out.later (HO.out.below hb).base) trivial (Nat.le_refl _) 5 [] 0 0)
      replace HO := Lib.hid (HO.out.below hb)
      replace HNf := Lib.hid (HNf.out.later hb)
      try replace HB := Lib.hid (HB.out.later hb)
      try replace HCq := Lib.hid (HCq.out.later hb)
      try replace HDq := Lib.hid (HDq.out.later hb)
      clear hwn hyA hb hr
      obtain ⟨wc, rfl⟩ : ∃ wc, wc = wn := ⟨_, rfl⟩
      refine cw_two 11 19 (by decide +kernel) ?_ ?_
      · refine cw_ycall rfl rfl rfl (by first | rfl | simp [okB, lenV, plainV, Act.eval]) (fun K hK => ?_)
        go_wp2_with fail
        go_at_call 29
        refine (both_c 5 _ 2 2 wc).mono ?_
        rintro e wn ⟨rfl, hb⟩
        replace HO := Lib.hid (HO.out.below hb)
        replace HNf := Lib.hid (HNf.out.later hb)
        try replace HA := Lib.hid (HA.out.later hb)
        try replace HB := Lib.hid (HB.out.later hb)
        try replace HCq := Lib.hid (HCq.out.later hb)
        try replace HDq := Lib.hid (HDq.out.later hb)
        have Hb := Lib.hid hb
        clear hb
        go_wp2_with fail
        refine And.intro Hb.out ?_
        clear Hb
        obtain ⟨wc, rfl⟩ : ∃ wc, wc = wn := ⟨_, rfl⟩
        refine cw_two 12 19 (by decide +kernel) ?_ ?_
        · obtain ⟨wn, hwn⟩ : ∃ wn, wn = wc.alloc (.cells #[.int .i64 5, .string (bs []), .int .i64 0, .int .i64 0, .slice (some ⟨yA, 0, none⟩) 2 2] 24) := ⟨_, rfl⟩
          obtain ⟨yB, hyB⟩ : ∃ yB, yB = wc.heap.size := ⟨_, rfl⟩
          refine cw_yes rfl rfl rfl rfl (by first | rfl | simp [okB, lenV, plainV, Act.eval]) (fun _ _ => ?_)
          go_wp2_with fail
          rw [← hwn, ← hyB]
          have hb : Below wc.heap.size wc wn := by rw [hwn]; exact (Below.refl _ _).alloc (Nat.le_refl _) _
          have hr : wn.heap[yB]? = some (.cells (kidCells [(andF f g, .slice (some ⟨yA, 0, none⟩) 2 2)]).toArray 24 (0, 0)) := by
            rw [hwn, hyB]; exact new_heap _ _ _ rfl
          have HB : Hid (IsFm (fun _ => True) wn (notF (andF f g)) (.slice (some ⟨yB, 0, none⟩) 1 1)) := Lib.hid (IsFm.row _ hr (by
            intro q hq
            simp only [List.mem_singleton] at hq
            subst hq
            exact (HA).out.later hb) trivial (Nat.le_refl _) 4 [] 0 0)
          replace HO := Lib.hid (HO.out.below hb)
          replace HNf := Lib.hid (HNf.out.later hb)
          try replace HA := Lib.hid (HA.out.later hb)
          try replace HCq := Lib.hid (HCq.out.later hb)
          try replace HDq := Lib.hid (HDq.out.later hb)
          clear hwn hyB hb hr
          obtain ⟨wc, rfl⟩ : ∃ wc, wc = wn := ⟨_, rfl⟩
          refine cw_two 13 19 (by decide +kernel) ?_ ?_
          · refine cw_ycall rfl rfl rfl (by first | rfl | simp [okB, lenV, plainV, Act.eval]) (fun K hK => ?_)
            go_wp2_with fail
            go_at_call 29
            refine (both_c 4 _ 1 1 wc).mono ?_
            rintro e wn ⟨rfl, hb⟩
            replace HO := Lib.hid (HO.out.below hb)
            replace HNf := Lib.hid (HNf.out.later hb)
            try replace HA := Lib.hid (HA.out.later hb)
            try replace HB := Lib.hid (HB.out.later hb)
            try replace HCq := Lib.hid (HCq.out.later hb)
            try replace HDq := Lib.hid (HDq.out.later hb)
            have Hb := Lib.hid hb
            clear hb
            go_wp2_with fail
            refine And.intro Hb.out ?_
            clear Hb
            obtain ⟨wc, rfl⟩ : ∃ wc, wc = wn := ⟨_, rfl⟩
            refine cw_two 16 19 (by decide +kernel) ?_ ?_
            · refine cw_ycall rfl rfl rfl (by first | rfl | simp [okB, lenV, plainV, Act.eval]) (fun K hK => ?_)
              go_wp2_with fail
              go_at_call 20
              refine (HHo.out wc (notF (andF f g)) _ HO.out.base HB.out (by simp [short, shorts, HS1.out, HS2.out]) (by have := HSz.out; simp [size, sizes]; omega)).mono ?_
              rintro e wn ⟨rfl, hb⟩
              rw [HCo.out.2.2.2.2.2]
              obtain ⟨X, hX⟩ : ∃ X, X = holdsF d c (orF (notF f) (notF g)) := ⟨_, rfl⟩
              rw [← hX]
              have HXq := Lib.hid hX
              clear hX
              replace HO := Lib.hid (HO.out.below hb)
              replace HNf := Lib.hid (HNf.out.later hb)
              try replace HA := Lib.hid (HA.out.later hb)
              try replace HB := Lib.hid (HB.out.later hb)
              try replace HCq := Lib.hid (HCq.out.later hb)
              try replace HDq := Lib.hid (HDq.out.later hb)
              have Hb := Lib.hid hb
              clear hb
              go_wp2_with fail
              refine And.intro Hb.out ?_
              clear Hb
              obtain ⟨wc, rfl⟩ : ∃ wc, wc = wn := ⟨_, rfl⟩
              refine cw_step 19 (by decide +kernel) (by decide +kernel) (by decide +kernel) ?_
              obtain ⟨wn, hwn⟩ : ∃ wn, wn = wc.alloc (.cells #[.int .i64 (g).op, .string (bs (g).name), .int .i64 (g).cmp, .int .i64 (g).num, .slice y' N' m'] 24) := ⟨_, rfl⟩
              obtain ⟨yC, hyC⟩ : ∃ yC, yC = wc.heap.size := ⟨_, rfl⟩
              refine cw_yes rfl rfl rfl rfl (by first | rfl | simp [okB, lenV, plainV, Act.eval]) (fun _ _ => ?_)
              go_wp2_with fail
              rw [← hwn, ← hyC]
              have hb : Below wc.heap.size wc wn := by rw [hwn]; exact (Below.refl _ _).alloc (Nat.le_refl _) _
              have hr : wn.heap[yC]? = some (.cells (kidCells [(g, .slice y' N' m')]).toArray 24 (0, 0)) := by
                rw [hwn, hyC]; exact new_heap _ _ _ rfl
              have HCq : Hid (IsFm (fun _ => True) wn (notF g) (.slice (some ⟨yC, 0, none⟩) 1 1)) := Lib.hid (IsFm.row _ hr (by
                intro q hq
                simp only [List.mem_singleton] at hq
                subst hq
                exact HG.out.later (HO.out.below hb).base) trivial (Nat.le_refl _) 4 [] 0 0)
              replace HO := Lib.hid (HO.out.below hb)
              replace HNf := Lib.hid (HNf.out.later hb)
              try replace HA := Lib.hid (HA.out.later hb)
              try replace HB := Lib.hid (HB.out.later hb)
              try replace HDq := Lib.hid (HDq.out.later hb)
              clear hwn hyC hb hr
              obtain ⟨wc, rfl⟩ : ∃ wc, wc = wn := ⟨_, rfl⟩
              refine cw_step 20 (by decide +kernel) (by decide +kernel) (by decide +kernel) ?_
              refine cw_ycall rfl rfl rfl (by first | rfl | simp [okB, lenV, plainV, Act.eval]) (fun K hK => ?_)
              go_wp2_with fail
              go_at_call 29
              refine (both_c 4 _ 1 1 wc).mono ?_
              rintro e wn ⟨rfl, hb⟩
              replace HO := Lib.hid (HO.out.below hb)
              replace HNf := Lib.hid (HNf.out.later hb)
              try replace HA := Lib.hid (HA.out.later hb)
              try replace HB := Lib.hid (HB.out.later hb)
              try replace HCq := Lib.hid (HCq.out.later hb)
              try replace HDq := Lib.hid (HDq.out.later hb)
              have Hb := Lib.hid hb
              clear hb
              go_wp2_with fail
              refine And.intro Hb.out ?_
              clear Hb
              obtain ⟨wc, rfl⟩ : ∃ wc, wc = wn := ⟨_, rfl⟩
              refine cw_step 21 (by decide +kernel) (by decide +kernel) (by decide +kernel) ?_
              obtain ⟨wn, hwn⟩ : ∃ wn, wn = wc.alloc (.cells #[.int .i64 4, .string (bs []), .int .i64 0, .int .i64 0, .slice (some ⟨yn, 0, none⟩) 1 1, .int .i64 4, .string (bs []), .int .i64 0, .int .i64 0, .slice (some ⟨yC, 0, none⟩) 1 1] 24) := ⟨_, rfl⟩
              obtain ⟨yD, hyD⟩ : ∃ yD, yD = wc.heap.size := ⟨_, rfl⟩
              refine cw_yes rfl rfl rfl rfl (by first | rfl | simp [okB, lenV, plainV, Act.eval]) (fun _ _ => ?_)
              go_wp2_with fail
              rw [← hwn, ← hyD]
              have hb : Below wc.heap.size wc wn := by rw [hwn]; exact (Below.refl _ _).alloc (Nat.le_refl _) _
              have hr : wn.heap[yD]? = some (.cells (kidCells [(notF f, .slice (some ⟨yn, 0, none⟩) 1 1), (notF g, .slice (some ⟨yC, 0, none⟩) 1 1)]).toArray 24 (0, 0)) := by
                rw [hwn, hyD]; exact new_heap _ _ _ rfl
              have HDq : Hid (IsFm (fun _ => True) wn (orF (notF f) (notF g)) (.slice (some ⟨yD, 0, none⟩) 2 2)) := Lib.hid (IsFm.row _ hr (by
                intro q hq
                simp only [List.mem_cons, List.not_mem_nil, or_false] at hq
                rcases hq with rfl | rfl
                · exact (HNf).out.later hb
                · exact (HCq).out.later hb) trivial (Nat.le_refl _) 6 [] 0 0)
              replace HO := Lib.hid (HO.out.below hb)
              replace HNf := Lib.hid (HNf.out.later hb)
              try replace HA := Lib.hid (HA.out.later hb)
              try replace HB := Lib.hid (HB.out.later hb)
              try replace HCq := Lib.hid (HCq.out.later hb)
              clear hwn hyD hb hr
              obtain ⟨wc, rfl⟩ : ∃ wc, wc = wn := ⟨_, rfl⟩
              refine cw_step 22 (by decide +kernel) (by decide +kernel) (by decide +kernel) ?_
              refine cw_ycall rfl rfl rfl (by first | rfl | simp [okB, lenV, plainV, Act.eval]) (fun K hK => ?_)
              go_wp2_with fail
              go_at_call 29
              refine (both_c 6 _ 2 2 wc).mono ?_
              rintro e wn ⟨rfl, hb⟩
              replace HO := Lib.hid (HO.out.below hb)
              replace HNf := Lib.hid (HNf.out.later hb)
              try replace HA := Lib.hid (HA.out.later hb)
              try replace HB := Lib.hid (HB.out.later hb)
              try replace HCq := Lib.hid (HCq.out.later hb)
              try replace HDq := Lib.hid (HDq.out.later hb)
              have Hb := Lib.hid hb
              clear hb
              go_wp2_with fail
              refine And.intro Hb.out ?_
              clear Hb
              obtain ⟨wc, rfl⟩ : ∃ wc, wc = wn := ⟨_, rfl⟩
              refine cw_step 25 (by decide +kernel) (by decide +kernel) (by decide +kernel) ?_
              refine cw_ycall rfl rfl rfl (by first | rfl | simp [okB, lenV, plainV, Act.eval]) (fun K hK => ?_)
              go_wp2_with fail
              go_at_call 20
              refine (HHo.out wc (orF (notF f) (notF g)) _ HO.out.base HDq.out (by simp [short, shorts, HS1.out, HS2.out]) (by have := HSz.out; simp [size, sizes]; omega)).mono ?_
              rintro e wn ⟨rfl, hb⟩
              rw [← HXq.out]
              replace HO := Lib.hid (HO.out.below hb)
              replace HNf := Lib.hid (HNf.out.later hb)
              try replace HA := Lib.hid (HA.out.later hb)
              try replace HB := Lib.hid (HB.out.later hb)
              try replace HCq := Lib.hid (HCq.out.later hb)
              try replace HDq := Lib.hid (HDq.out.later hb)
              have Hb := Lib.hid hb
              clear hb
              go_wp2_with fail
              refine And.intro Hb.out ?_
              clear Hb
              obtain ⟨wc, rfl⟩ : ∃ wc, wc = wn := ⟨_, rfl⟩
              refine cw_step 26 (by decide +kernel) (by decide +kernel) (by decide +kernel) ?_
              (first | (refine cw_do rfl rfl rfl (by first | rfl | simp [okB, lenV, plainV, Act.eval]) (fun _ _ => ?_); go_wp2_with fail) | (refine cw_yes rfl rfl rfl rfl (by first | rfl | simp [okB, lenV, plainV, Act.eval]) (fun _ _ => ?_); go_wp2_with fail))
              refine cw_step 27 (by decide +kernel) (by decide +kernel) (by decide +kernel) ?_
              (first | (refine cw_do rfl rfl rfl (by first | rfl | simp [okB, lenV, plainV, Act.eval]) (fun _ _ => ?_); go_wp2_with fail) | (refine cw_yes rfl rfl rfl rfl (by first | rfl | simp [okB, lenV, plainV, Act.eval]) (fun _ _ => ?_); go_wp2_with fail))
              refine cw_step 28 (by decide +kernel) (by decide +kernel) (by decide +kernel) ?_
              (first | (refine cw_do rfl rfl rfl (by first | rfl | simp [okB, lenV, plainV, Act.eval]) (fun _ _ => ?_); go_wp2_with fail) | (refine cw_yes rfl rfl rfl rfl (by first | rfl | simp [okB, lenV, plainV, Act.eval]) (fun _ _ => ?_); go_wp2_with fail))
              refine cw_nil (by decide +kernel) ?_
              go_wp2_with fail
              go_ret
              exact ⟨rfl, HO.out.base⟩
            · obtain ⟨wn, hwn⟩ : ∃ wn, wn = wc.alloc (.cells #[.int .i64 (g).op, .string (bs (g).name), .int .i64 (g).cmp, .int .i64 (g).num, .slice y' N' m'] 24) := ⟨_, rfl⟩
              obtain ⟨yC, hyC⟩ : ∃ yC, yC = wc.heap.size := ⟨_, rfl⟩
              refine cw_yes rfl rfl rfl rfl (by first | rfl | simp [okB, lenV, plainV, Act.eval]) (fun _ _ => ?_)
              go_wp2_with fail
              rw [← hwn, ← hyC]
              have hb : Below wc.heap.size wc wn := by rw [hwn]; exact (Below.refl _ _).alloc (Nat.le_refl _) _
              have hr : wn.heap[yC]? = some (.cells (kidCells [(g, .slice y' N' m')]).toArray 24 (0, 0)) := by
                rw [hwn, hyC]; exact new_heap _ _ _ rfl
              have HCq : Hid (IsFm (fun _ => True) wn (notF g) (.slice (some ⟨yC, 0, none⟩) 1 1)) := Lib.hid (IsFm.row _ hr (by
                intro q hq
                simp only [List.mem_singleton] at hq
                subst hq
                exact HG.out.later (HO.out.below hb).base) trivial (Nat.le_refl _) 4 [] 0 0)
              replace HO := Lib.hid (HO.out.below hb)
              replace HNf := Lib.hid (HNf.out.later hb)
              try replace HA := Lib.hid (HA.out.later hb)
              try replace HB := Lib.hid (HB.out.later hb)
              try replace HDq := Lib.hid (HDq.out.later hb)
              clear hwn hyC hb hr
              obtain ⟨wc, rfl⟩ : ∃ wc, wc = wn := ⟨_, rfl⟩
              refine cw_step 16 (by decide +kernel) (by decide +kernel) (by decide +kernel) ?_
              refine cw_ycall rfl rfl rfl (by first | rfl | simp [okB, lenV, plainV, Act.eval]) (fun K hK => ?_)
              go_wp2_with fail
              go_at_call 20
              refine (HHo.out wc (notF (andF f g)) _ HO.out.base HB.out (by simp [short, shorts, HS1.out, HS2.out]) (by have := HSz.out; simp [size, sizes]; omega)).mono ?_
              rintro e wn ⟨rfl, hb⟩
              rw [HCo.out.2.2.2.2.2]
              obtain ⟨X, hX⟩ : ∃ X, X = holdsF d c (orF (notF f) (notF g)) := ⟨_, rfl⟩
              rw [← hX]
              have HXq := Lib.hid hX
              clear hX
              replace HO := Lib.hid (HO.out.below hb)
              replace HNf := Lib.hid (HNf.out.later hb)
              try replace HA := Lib.hid (HA.out.later hb)
              try replace HB := Lib.hid (HB.out.later hb)
              try replace HCq := Lib.hid (HCq.out.later hb)
              try replace HDq := Lib.hid (HDq.out.later hb)
              have Hb := Lib.hid hb
              clear hb
              go_wp2_with fail
              refine And.intro Hb.out ?_
              clear Hb
              obtain ⟨wc, rfl⟩ : ∃ wc, wc = wn := ⟨_, rfl⟩
              refine cw_step 20 (by decide +kernel) (by decide +kernel) (by decide +kernel) ?_
              refine cw_ycall rfl rfl rfl (by first | rfl | simp [okB, lenV, plainV, Act.eval]) (fun K hK => ?_)
              go_wp2_with fail
              go_at_call 29
              refine (both_c 4 _ 1 1 wc).mono ?_
              rintro e wn ⟨rfl, hb⟩
              replace HO := Lib.hid (HO.out.below hb)
              replace HNf := Lib.hid (HNf.out.later hb)
              try replace HA := Lib.hid (HA.out.later hb)
              try replace HB := Lib.hid (HB.out.later hb)
              try replace HCq := Lib.hid (HCq.out.later hb)
              try replace HDq := Lib.hid (HDq.out.later hb)
              have Hb := Lib.hid hb
              clear hb
              go_wp2_with fail
              refine And.intro Hb.out ?_
              clear Hb
              obtain ⟨wc, rfl⟩ : ∃ wc, wc = wn := ⟨_, rfl⟩
              refine cw_step 21 (by decide +kernel) (by decide +kernel) (by decide +kernel) ?_
              obtain ⟨wn, hwn⟩ : ∃ wn, wn = wc.alloc (.cells #[.int .i64 4, .string (bs []), .int .i64 0, .int .i64 0, .slice (some ⟨yn, 0, none⟩) 1 1, .int .i64 4, .string (bs []), .int .i64 0, .int .i64 0, .slice (some ⟨yC, 0, none⟩) 1 1] 24) := ⟨_, rfl⟩
              obtain ⟨yD, hyD⟩ : ∃ yD, yD = wc.heap.size := ⟨_, rfl⟩
              refine cw_yes rfl rfl rfl rfl (by first | rfl | simp [okB, lenV, plainV, Act.eval]) (fun _ _ => ?_)
              go_wp2_with fail
              rw [← hwn, ← hyD]
              have hb : Below wc.heap.size wc wn := by rw [hwn]; exact (Below.refl _ _).alloc (Nat.le_refl _) _
              have hr : wn.heap[yD]? = some (.cells (kidCells [(notF f, .slice (some ⟨yn, 0, none⟩) 1 1), (notF g, .slice (some ⟨yC, 0, none⟩) 1 1)]).toArray 24 (0, 0)) := by
                rw [hwn, hyD]; exact new_heap _ _ _ rfl
              have HDq : Hid (IsFm (fun _ => True) wn (orF (notF f) (notF g)) (.slice (some ⟨yD, 0, none⟩) 2 2)) := Lib.hid (IsFm.row _ hr (by
                intro q hq
                simp only [List.mem_cons, List.not_mem_nil, or_false] at hq
                rcases hq with rfl | rfl
                · exact (HNf).out.later hb
                · exact (HCq).out.later hb) trivial (Nat.le_refl _) 6 [] 0 0)
              replace HO := Lib.hid (HO.out.below hb)
              replace HNf := Lib.hid (HNf.out.later hb)
              try replace HA := Lib.hid (HA.out.later hb)
              try replace HB := Lib.hid (HB.out.later hb)
              try replace HCq := Lib.hid (HCq.out.later hb)
              clear hwn hyD hb hr
              obtain ⟨wc, rfl⟩ : ∃ wc, wc = wn := ⟨_, rfl⟩
              refine cw_step 22 (by decide +kernel) (by decide +kernel) (by decide +kernel) ?_
              refine cw_ycall rfl rfl rfl (by first | rfl | simp [okB, lenV, plainV, Act.eval]) (fun K hK => ?_)
              go_wp2_with fail
              go_at_call 29
              refine (both_c 6 _ 2 2 wc).mono ?_
              rintro e wn ⟨rfl, hb⟩
              replace HO := Lib.hid (HO.out.below hb)
              replace HNf := Lib.hid (HNf.out.later hb)
              try replace HA := Lib.hid (HA.out.later hb)
              try replace HB := Lib.hid (HB.out.later hb)
              try replace HCq := Lib.hid (HCq.out.later hb)
              try replace HDq := Lib.hid (HDq.out.later hb)
              have Hb := Lib.hid hb
              clear hb
              go_wp2_with fail
              refine And.intro Hb.out ?_
              clear Hb
              obtain ⟨wc, rfl⟩ : ∃ wc, wc = wn := ⟨_, rfl⟩
              refine cw_step 25 (by decide +kernel) (by decide +kernel) (by decide +kernel) ?_
              refine cw_ycall rfl rfl rfl (by first | rfl | simp [okB, lenV, plainV, Act.eval]) (fun K hK => ?_)
              go_wp2_with fail
              go_at_call 20
              refine (HHo.out wc (orF (notF f) (notF g)) _ HO.out.base HDq.out (by simp [short, shorts, HS1.out, HS2.out]) (by have := HSz.out; simp [size, sizes]; omega)).mono ?_
              rintro e wn ⟨rfl, hb⟩
              rw [← HXq.out]
              replace HO := Lib.hid (HO.out.below hb)
              replace HNf := Lib.hid (HNf.out.later hb)
              try replace HA := Lib.hid (HA.out.later hb)
              try replace HB := Lib.hid (HB.out.later hb)
              try replace HCq := Lib.hid (HCq.out.later hb)
              try replace HDq := Lib.hid (HDq.out.later hb)
              have Hb := Lib.hid hb
              clear hb
              go_wp2_with fail
              refine And.intro Hb.out ?_
              clear Hb
              obtain ⟨wc, rfl⟩ : ∃ wc, wc = wn := ⟨_, rfl⟩
              refine cw_step 26 (by decide +kernel) (by decide +kernel) (by decide +kernel) ?_
              (first | (refine cw_do rfl rfl rfl (by first | rfl | simp [okB, lenV, plainV, Act.eval]) (fun _ _ => ?_); go_wp2_with fail) | (refine cw_yes rfl rfl rfl rfl (by first | rfl | simp [okB, lenV, plainV, Act.eval]) (fun _ _ => ?_); go_wp2_with fail))
              refine cw_step 27 (by decide +kernel) (by decide +kernel) (by decide +kernel) ?_
              (first | (refine cw_do rfl rfl rfl (by first | rfl | simp [okB, lenV, plainV, Act.eval]) (fun _ _ => ?_); go_wp2_with fail) | (refine cw_yes rfl rfl rfl rfl (by first | rfl | simp [okB, lenV, plainV, Act.eval]) (fun _ _ => ?_); go_wp2_with fail))
              refine cw_step 28 (by decide +kernel) (by decide +kernel) (by decide +kernel) ?_
              (first | (refine cw_do rfl rfl rfl (by first | rfl | simp [okB, lenV, plainV, Act.eval]) (fun _ _ => ?_); go_wp2_with fail) | (refine cw_yes rfl rfl rfl rfl (by first | rfl | simp [okB, lenV, plainV, Act.eval]) (fun _ _ => ?_); go_wp2_with fail))
              refine cw_nil (by decide +kernel) ?_
              go_wp2_with fail
              go_ret
              exact ⟨rfl, HO.out.base⟩
          · obtain ⟨wn, hwn⟩ : ∃ wn, wn = wc.alloc (.cells #[.int .i64 (g).op, .string (bs (g).name), .int .i64 (g).cmp, .int .i64 (g).num, .slice y' N' m'] 24) := ⟨_, rfl⟩
            obtain ⟨yC, hyC⟩ : ∃ yC, yC = wc.heap.size := ⟨_, rfl⟩
            refine cw_yes rfl rfl rfl rfl (by first | rfl | simp [okB, lenV, plainV, Act.eval]) (fun _ _ => ?_)
            go_wp2_with fail
            rw [← hwn, ← hyC]
            have hb : Below wc.heap.size wc wn := by rw [hwn]; exact (Below.refl _ _).alloc (Nat.le_refl _) _
            have hr : wn.heap[yC]? = some (.cells (kidCells [(g, .slice y' N' m')]).toArray 24 (0, 0)) := by
              rw [hwn, hyC]; exact new_heap _ _ _ rfl
            have HCq : Hid (IsFm (fun _ => True) wn (notF g) (.slice (some ⟨yC, 0, none⟩) 1 1)) := Lib.hid (IsFm.row _ hr (by
              intro q hq
              simp only [List.mem_singleton] at hq
              subst hq
              exact HG.out.later (HO.out.below hb).base) trivial (Nat.le_refl _) 4 [] 0 0)
            replace HO := Lib.hid (HO.out.below hb)
            replace HNf := Lib.hid (HNf.out.later hb)
            try replace HA := Lib.hid (HA.out.later hb)
            try replace HB := Lib.hid (HB.out.later hb)
            try replace HDq := Lib.hid (HDq.out.later hb)
            clear hwn hyC hb hr
            obtain ⟨wc, rfl⟩ : ∃ wc, wc = wn := ⟨_, rfl⟩
            refine cw_step 13 (by decide +kernel) (by decide +kernel) (by decide +kernel) ?_
            refine cw_ycall rfl rfl rfl (by first | rfl | simp [okB, lenV, plainV, Act.eval]) (fun K hK => ?_)
            go_wp2_with fail
            go_at_call 29
            refine (both_c 4 _ 1 1 wc).mono ?_
            rintro e wn ⟨rfl, hb⟩
            replace HO := Lib.hid (HO.out.below hb)
            replace HNf := Lib.hid (HNf.out.later hb)
            try replace HA := Lib.hid (HA.out.later hb)
            try replace HB := Lib.hid (HB.out.later hb)
            try replace HCq := Lib.hid (HCq.out.later hb)
            try replace HDq := Lib.hid (HDq.out.later hb)
            have Hb := Lib.hid hb
            clear hb
            go_wp2_with fail
            refine And.intro Hb.out ?_
            clear Hb
            obtain ⟨wc, rfl⟩ : ∃ wc, wc = wn := ⟨_, rfl⟩
            refine cw_step 16 (by decide +kernel) (by decide +kernel) (by decide +kernel) ?_
            refine cw_ycall rfl rfl rfl (by first | rfl | simp [okB, lenV, plainV, Act.eval]) (fun K hK => ?_)
            go_wp2_with fail
            go_at_call 20
            refine (HHo.out wc (notF (andF f g)) _ HO.out.base HB.out (by simp [short, shorts, HS1.out, HS2.out]) (by have := HSz.out; simp [size, sizes]; omega)).mono ?_
            rintro e wn ⟨rfl, hb⟩
            rw [HCo.out.2.2.2.2.2]
            obtain ⟨X, hX⟩ : ∃ X, X = holdsF d c (orF (notF f) (notF g)) := ⟨_, rfl⟩
            rw [← hX]
            have HXq := Lib.hid hX
            clear hX
            replace HO := Lib.hid (HO.out.below hb)
            replace HNf := Lib.hid (HNf.out.later hb)
            try replace HA := Lib.hid (HA.out.later hb)
            try replace HB := Lib.hid (HB.out.later hb)
            try replace HCq := Lib.hid (HCq.out.later hb)
            try replace HDq := Lib.hid (HDq.out.later hb)
            have Hb := Lib.hid hb
            clear hb
            go_wp2_with fail
            refine And.intro Hb.out ?_
            clear Hb
            obtain ⟨wc, rfl⟩ : ∃ wc, wc = wn := ⟨_, rfl⟩
            refine cw_step 20 (by decide +kernel) (by decide +kernel) (by decide +kernel) ?_
            refine cw_ycall rfl rfl rfl (by first | rfl | simp [okB, lenV, plainV, Act.eval]) (fun K hK => ?_)
            go_wp2_with fail
            go_at_call 29
            refine (both_c 4 _ 1 1 wc).mono ?_
            rintro e wn ⟨rfl, hb⟩
            replace HO := Lib.hid (HO.out.below hb)
            replace HNf := Lib.hid (HNf.out.later hb)
            try replace HA := Lib.hid (HA.out.later hb)
            try replace HB := Lib.hid (HB.out.later hb)
            try replace HCq := Lib.hid (HCq.out.later hb)
            try replace HDq := Lib.hid (HDq.out.later hb)
            have Hb := Lib.hid hb
            clear hb
            go_wp2_with fail
            refine And.intro Hb.out ?_
            clear Hb
            obtain ⟨wc, rfl⟩ : ∃ wc, wc = wn := ⟨_, rfl⟩
            refine cw_step 21 (by decide +kernel) (by decide +kernel) (by decide +kernel) ?_
            obtain ⟨wn, hwn⟩ : ∃ wn, wn = wc.alloc (.cells #[.int .i64 4, .string (bs []), .int .i64 0, .int .i64 0, .slice (some ⟨yn, 0, none⟩) 1 1, .int .i64 4, .string (bs []), .int .i64 0, .int .i64 0, .slice (some ⟨yC, 0, none⟩) 1 1] 24) := ⟨_, rfl⟩
            obtain ⟨yD, hyD⟩ : ∃ yD, yD = wc.heap.size := ⟨_, rfl⟩
            refine cw_yes rfl rfl rfl rfl (by first | rfl | simp [okB, lenV, plainV, Act.eval]) (fun _ _ => ?_)
            go_wp2_with fail
            rw [← hwn, ← hyD]
            have hb : Below wc.heap.size wc wn := by rw [hwn]; exact (Below.refl _ _).alloc (Nat.le_refl _) _
            have hr : wn.heap[yD]? = some (.cells (kidCells [(notF f, .slice (some ⟨yn, 0, none⟩) 1 1), (notF g, .slice (some ⟨yC, 0, none⟩) 1 1)]).toArray 24 (0, 0)) := by
              rw [hwn, hyD]; exact new_heap _ _ _ rfl
            have HDq : Hid (IsFm (fun _ => True) wn (orF (notF f) (notF g)) (.slice (some ⟨yD, 0, none⟩) 2 2)) := Lib.hid (IsFm.row _ hr (by
              intro q hq
              simp only [List.mem_cons, List.not_mem_nil, or_false] at hq
              rcases hq with rfl | rfl
              · exact (HNf).out.later hb
              · exact (HCq).out.later hb) trivial (Nat.le_refl _) 6 [] 0 0)
            replace HO := Lib.hid (HO.out.below hb)
            replace HNf := Lib.hid (HNf.out.later hb)
            try replace HA := Lib.hid (HA.out.later hb)
            try replace HB := Lib.hid (HB.out.later hb)
            try replace HCq := Lib.hid (HCq.out.later hb)
            clear hwn hyD hb hr
            obtain ⟨wc, rfl⟩ : ∃ wc, wc = wn := ⟨_, rfl⟩
            refine cw_step 22 (by decide +kernel) (by decide +kernel) (by decide +kernel) ?_
            refine cw_ycall rfl rfl rfl (by first | rfl | simp [okB, lenV, plainV, Act.eval]) (fun K hK => ?_)
            go_wp2_with fail
            go_at_call 29
            refine (both_c 6 _ 2 2 wc).mono ?_
            rintro e wn ⟨rfl, hb⟩
            replace HO := Lib.hid (HO.out.below hb)
            replace HNf := Lib.hid (HNf.out.later hb)
            try replace HA := Lib.hid (HA.out.later hb)
            try replace HB := Lib.hid (HB.out.later hb)
            try replace HCq := Lib.hid (HCq.out.later hb)
            try replace HDq := Lib.hid (HDq.out.later hb)
            have Hb := Lib.hid hb
            clear hb
            go_wp2_with fail
            refine And.intro Hb.out ?_
            clear Hb
            obtain ⟨wc, rfl⟩ : ∃ wc, wc = wn := ⟨_, rfl⟩
            refine cw_step 25 (by decide +kernel) (by decide +kernel) (by decide +kernel) ?_
            refine cw_ycall rfl rfl rfl (by first | rfl | simp [okB, lenV, plainV, Act.eval]) (fun K hK => ?_)
            go_wp2_with fail
            go_at_call 20
            refine (HHo.out wc (orF (notF f) (notF g)) _ HO.out.base HDq.out (by simp [short, shorts, HS1.out, HS2.out]) (by have := HSz.out; simp [size, sizes]; omega)).mono ?_
            rintro e wn ⟨rfl, hb⟩
            rw [← HXq.out]
            replace HO := Lib.hid (HO.out.below hb)
            replace HNf := Lib.hid (HNf.out.later hb)
            try replace HA := Lib.hid (HA.out.later hb)
            try replace HB := Lib.hid (HB.out.later hb)
            try replace HCq := Lib.hid (HCq.out.later hb)
            try replace HDq := Lib.hid (HDq.out.later hb)
            have Hb := Lib.hid hb
            clear hb
            go_wp2_with fail
            refine And.intro Hb.out ?_
            clear Hb
            obtain ⟨wc, rfl⟩ : ∃ wc, wc = wn := ⟨_, rfl⟩
            refine cw_step 26 (by decide +kernel) (by decide +kernel) (by decide +kernel) ?_
            (first | (refine cw_do rfl rfl rfl (by first | rfl | simp [okB, lenV, plainV, Act.eval]) (fun _ _ => ?_); go_wp2_with fail) | (refine cw_yes rfl rfl rfl rfl (by first | rfl | simp [okB, lenV, plainV, Act.eval]) (fun _ _ => ?_); go_wp2_with fail))
            refine cw_step 27 (by decide +kernel) (by decide +kernel) (by decide +kernel) ?_
            (first | (refine cw_do rfl rfl rfl (by first | rfl | simp [okB, lenV, plainV, Act.eval]) (fun _ _ => ?_); go_wp2_with fail) | (refine cw_yes rfl rfl rfl rfl (by first | rfl | simp [okB, lenV, plainV, Act.eval]) (fun _ _ => ?_); go_wp2_with fail))
            refine cw_step 28 (by decide +kernel) (by decide +kernel) (by decide +kernel) ?_
            (first | (refine cw_do rfl rfl rfl (by first | rfl | simp [okB, lenV, plainV, Act.eval]) (fun _ _ => ?_); go_wp2_with fail) | (refine cw_yes rfl rfl rfl rfl (by first | rfl | simp [okB, lenV, plainV, Act.eval]) (fun _ _ => ?_); go_wp2_with fail))
            refine cw_nil (by decide +kernel) ?_
            go_wp2_with fail
            go_ret
            exact ⟨rfl, HO.out.base⟩
        · obtain ⟨wn, hwn⟩ : ∃ wn, wn = wc.alloc (.cells #[.int .i64 (g).op, .string (bs (g).name), .int .i64 (g).cmp, .int .i64 (g).num, .slice y' N' m'] 24) := ⟨_, rfl⟩
          obtain ⟨yC, hyC⟩ : ∃ yC, yC = wc.heap.size := ⟨_, rfl⟩
          refine cw_yes rfl rfl rfl rfl (by first | rfl | simp [okB, lenV, plainV, Act.eval]) (fun _ _ => ?_)
          go_wp2_with fail
          rw [← hwn, ← hyC]
          have hb : Below wc.heap.size wc wn := by rw [hwn]; exact (Below.refl _ _).alloc (Nat.le_refl _) _
          have hr : wn.heap[yC]? = some (.cells (kidCells [(g, .slice y' N' m')]).toArray 24 (0, 0)) := by
            rw [hwn, hyC]; exact new_heap _ _ _ rfl
          have HCq : Hid (IsFm (fun _ => True) wn (notF g) (.slice (some ⟨yC, 0, none⟩) 1 1)) := Lib.hid (IsFm.row _ hr (by
            intro q hq
            simp only [List.mem_singleton] at hq
            subst hq
            exact HG.out.later (HO.out.below hb).base) trivial (Nat.le_refl _) 4 [] 0 0)
          replace HO := Lib.hid (HO.out.below hb)
          replace HNf := Lib.hid (HNf.out.later hb)
          try replace HA := Lib.hid (HA.out.later hb)
          try replace HB := Lib.hid (HB.out.later hb)
          try replace HDq := Lib.hid (HDq.out.later hb)
          clear hwn hyC hb hr
          obtain ⟨wc, rfl⟩ : ∃ wc, wc = wn := ⟨_, rfl⟩
          refine cw_step 12 (by decide +kernel) (by decide +kernel) (by decide +kernel) ?_
          obtain ⟨wn, hwn⟩ : ∃ wn, wn = wc.alloc (.cells #[.int .i64 5, .string (bs []), .int .i64 0, .int .i64 0, .slice (some ⟨yA, 0, none⟩) 2 2] 24) := ⟨_, rfl⟩
          obtain ⟨yB, hyB⟩ : ∃ yB, yB = wc.heap.size := ⟨_, rfl⟩
          refine cw_yes rfl rfl rfl rfl (by first | rfl | simp [okB, lenV, plainV, Act.eval]) (fun _ _ => ?_)
          go_wp2_with fail
          rw [← hwn, ← hyB]
          have hb : Below wc.heap.size wc wn := by rw [hwn]; exact (Below.refl _ _).alloc (Nat.le_refl _) _
          have hr : wn.heap[yB]? = some (.cells (kidCells [(andF f g, .slice (some ⟨yA, 0, none⟩) 2 2)]).toArray 24 (0, 0)) := by
            rw [hwn, hyB]; exact new_heap _ _ _ rfl
          have HB : Hid (IsFm (fun _ => True) wn (notF (andF f g)) (.slice (some ⟨yB, 0, none⟩) 1 1)) := Lib.hid (IsFm.row _ hr (by
            intro q hq
            simp only [List.mem_singleton] at hq
            subst hq
            exact (HA).out.later hb) trivial (Nat.le_refl _) 4 [] 0 0)
          replace HO := Lib.hid (HO.out.below hb)
          replace HNf := Lib.hid (HNf.out.later hb)
          try replace HA := Lib.hid (HA.out.later hb)
          try replace HCq := Lib.hid (HCq.out.later hb)
          try replace HDq := Lib.hid (HDq.out.later hb)
          clear hwn hyB hb hr
          obtain ⟨wc, rfl⟩ : ∃ wc, wc = wn := ⟨_, rfl⟩
          refine cw_step 13 (by decide +kernel) (by decide +kernel) (by decide +kernel) ?_
          refine cw_ycall rfl rfl rfl (by first | rfl | simp [okB, lenV, plainV, Act.eval]) (fun K hK => ?_)
          go_wp2_with fail
          go_at_call 29
          refine (both_c 4 _ 1 1 wc).mono ?_
          rintro e wn ⟨rfl, hb⟩
          replace HO := Lib.hid (HO.out.below hb)
          replace HNf := Lib.hid (HNf.out.later hb)
          try replace HA := Lib.hid (HA.out.later hb)
          try replace HB := Lib.hid (HB.out.later hb)
          try replace HCq := Lib.hid (HCq.out.later hb)
          try replace HDq := Lib.hid (HDq.out.later hb)
          have Hb := Lib.hid hb
          clear hb
          go_wp2_with fail
          refine And.intro Hb.out ?_
          clear Hb
          obtain ⟨wc, rfl⟩ : ∃ wc, wc = wn := ⟨_, rfl⟩
          refine cw_step 16 (by decide +kernel) (by decide +kernel) (by decide +kernel) ?_
          refine cw_ycall rfl rfl rfl (by first | rfl | simp [okB, lenV, plainV, Act.eval]) (fun K hK => ?_)
          go_wp2_with fail
          go_at_call 20
          refine (HHo.out wc (notF (andF f g)) _ HO.out.base HB.out (by simp [short, shorts, HS1.out, HS2.out]) (by have := HSz.out; simp [size, sizes]; omega)).mono ?_
          rintro e wn ⟨rfl, hb⟩
          rw [HCo.out.2.2.2.2.2]
          obtain ⟨X, hX⟩ : ∃ X, X = holdsF d c (orF (notF f) (notF g)) := ⟨_, rfl⟩
          rw [← hX]
          have HXq := Lib.hid hX
          clear hX
          replace HO := Lib.hid (HO.out.below hb)
          replace HNf := Lib.hid (HNf.out.later hb)
          try replace HA := Lib.hid (HA.out.later hb)
          try replace HB := Lib.hid (HB.out.later hb)
          try replace HCq := Lib.hid (HCq.out.later hb)
          try replace HDq := Lib.hid (HDq.out.later hb)
          have Hb := Lib.hid hb
          clear hb
          go_wp2_with fail
          refine And.intro Hb.out ?_
          clear Hb
          obtain ⟨wc, rfl⟩ : ∃ wc, wc = wn := ⟨_, rfl⟩
          refine cw_step 20 (by decide +kernel) (by decide +kernel) (by decide +kernel) ?_
          refine cw_ycall rfl rfl rfl (by first | rfl | simp [okB, lenV, plainV, Act.eval]) (fun K hK => ?_)
          go_wp2_with fail
          go_at_call 29
          refine (both_c 4 _ 1 1 wc).mono ?_
          rintro e wn ⟨rfl, hb⟩
          replace HO := Lib.hid (HO.out.below hb)
          replace HNf := Lib.hid (HNf.out.later hb)
          try replace HA := Lib.hid (HA.out.later hb)
          try replace HB := Lib.hid (HB.out.later hb)
          try replace HCq := Lib.hid (HCq.out.later hb)
          try replace HDq := Lib.hid (HDq.out.later hb)
          have Hb := Lib.hid hb
          clear hb
          go_wp2_with fail
          refine And.intro Hb.out ?_
          clear Hb
          obtain ⟨wc, rfl⟩ : ∃ wc, wc = wn := ⟨_, rfl⟩
          refine cw_step 21 (by decide +kernel) (by decide +kernel) (by decide +kernel) ?_
          obtain ⟨wn, hwn⟩ : ∃ wn, wn = wc.alloc (.cells #[.int .i64 4, .string (bs []), .int .i64 0, .int .i64 0, .slice (some ⟨yn, 0, none⟩) 1 1, .int .i64 4, .string (bs []), .int .i64 0, .int .i64 0, .slice (some ⟨yC, 0, none⟩) 1 1] 24) := ⟨_, rfl⟩
          obtain ⟨yD, hyD⟩ : ∃ yD, yD = wc.heap.size := ⟨_, rfl⟩
          refine cw_yes rfl rfl rfl rfl (by first | rfl | simp [okB, lenV, plainV, Act.eval]) (fun _ _ => ?_)
          go_wp2_with fail
          rw [← hwn, ← hyD]
          have hb : Below wc.heap.size wc wn := by rw [hwn]; exact (Below.refl _ _).alloc (Nat.le_refl _) _
          have hr : wn.heap[yD]? = some (.cells (kidCells [(notF f, .slice (some ⟨yn, 0, none⟩) 1 1), (notF g, .slice (some ⟨yC, 0, none⟩) 1 1)]).toArray 24 (0, 0)) := by
            rw [hwn, hyD]; exact new_heap _ _ _ rfl
          have HDq : Hid (IsFm (fun _ => True) wn (orF (notF f) (notF g)) (.slice (some ⟨yD, 0, none⟩) 2 2)) := Lib.hid (IsFm.row _ hr (by
            intro q hq
            simp only [List.mem_cons, List.not_mem_nil, or_false] at hq
            rcases hq with rfl | rfl
            · exact (HNf).out.later hb
            · exact (HCq).out.later hb) trivial (Nat.le_refl _) 6 [] 0 0)
          replace HO := Lib.hid (HO.out.below hb)
          replace HNf := Lib.hid (HNf.out.later hb)
          try replace HA := Lib.hid (HA.out.later hb)
          try replace HB := Lib.hid (HB.out.later hb)
          try replace HCq := Lib.hid (HCq.out.later hb)
          clear hwn hyD hb hr
          obtain ⟨wc, rfl⟩ : ∃ wc, wc = wn := ⟨_, rfl⟩
          refine cw_step 22 (by decide +kernel) (by decide +kernel) (by decide +kernel) ?_
          refine cw_ycall rfl rfl rfl (by first | rfl | simp [okB, lenV, plainV, Act.eval]) (fun K hK => ?_)
          go_wp2_with fail
          go_at_call 29
          refine (both_c 6 _ 2 2 wc).mono ?_
          rintro e wn ⟨rfl, hb⟩
          replace HO := Lib.hid (HO.out.below hb)
          replace HNf := Lib.hid (HNf.out.later hb)
          try replace HA := Lib.hid (HA.out.later hb)
          try replace HB := Lib.hid (HB.out.later hb)
          try replace HCq := Lib.hid (HCq.out.later hb)
          try replace HDq := Lib.hid (HDq.out.later hb)
          have Hb := Lib.hid hb
          clear hb
          go_wp2_with fail
          refine And.intro Hb.out ?_
          clear Hb
          obtain ⟨wc, rfl⟩ : ∃ wc, wc = wn := ⟨_, rfl⟩
          refine cw_step 25 (by decide +kernel) (by decide +kernel) (by decide +kernel) ?_
          refine cw_ycall rfl rfl rfl (by first | rfl | simp [okB, lenV, plainV, Act.eval]) (fun K hK => ?_)
          go_wp2_with fail
          go_at_call 20
          refine (HHo.out wc (orF (notF f) (notF g)) _ HO.out.base HDq.out (by simp [short, shorts, HS1.out, HS2.out]) (by have := HSz.out; simp [size, sizes]; omega)).mono ?_
          rintro e wn ⟨rfl, hb⟩
          rw [← HXq.out]
          replace HO := Lib.hid (HO.out.below hb)
          replace HNf := Lib.hid (HNf.out.later hb)
          try replace HA := Lib.hid (HA.out.later hb)
          try replace HB := Lib.hid (HB.out.later hb)
          try replace HCq := Lib.hid (HCq.out.later hb)
          try replace HDq := Lib.hid (HDq.out.later hb)
          have Hb := Lib.hid hb
          clear hb
          go_wp2_with fail
          refine And.intro Hb.out ?_
          clear Hb
          obtain ⟨wc, rfl⟩ : ∃ wc, wc = wn := ⟨_, rfl⟩
          refine cw_step 26 (by decide +kernel) (by decide +kernel) (by decide +kernel) ?_
          (first | (refine cw_do rfl rfl rfl (by first | rfl | simp [okB, lenV, plainV, Act.eval]) (fun _ _ => ?_); go_wp2_with fail) | (refine cw_yes rfl rfl rfl rfl (by first | rfl | simp [okB, lenV, plainV, Act.eval]) (fun _ _ => ?_); go_wp2_with fail))
          refine cw_step 27 (by decide +kernel) (by decide +kernel) (by decide +kernel) ?_
          (first | (refine cw_do rfl rfl rfl (by first | rfl | simp [okB, lenV, plainV, Act.eval]) (fun _ _ => ?_); go_wp2_with fail) | (refine cw_yes rfl rfl rfl rfl (by first | rfl | simp [okB, lenV, plainV, Act.eval]) (fun _ _ => ?_); go_wp2_with fail))
          refine cw_step 28 (by decide +kernel) (by decide +kernel) (by decide +kernel) ?_
          (first | (refine cw_do rfl rfl rfl (by first | rfl | simp [okB, lenV, plainV, Act.eval]) (fun _ _ => ?_); go_wp2_with fail) | (refine cw_yes rfl rfl rfl rfl (by first | rfl | simp [okB, lenV, plainV, Act.eval]) (fun _ _ => ?_); go_wp2_with fail))
          refine cw_nil (by decide +kernel) ?_
          go_wp2_with fail
          go_ret
          exact ⟨rfl, HO.out.base⟩
      · obtain ⟨wn, hwn⟩ : ∃ wn, wn = wc.alloc (.cells #[.int .i64 (g).op, .string (bs (g).name), .int .i64 (g).cmp, .int .i64 (g).num, .slice y' N' m'] 24) := ⟨_, rfl⟩
        obtain ⟨yC, hyC⟩ : ∃ yC, yC = wc.heap.size := ⟨_, rfl⟩
        refine cw_yes rfl rfl rfl rfl (by first | rfl | simp [okB, lenV, plainV, Act.eval]) (fun _ _ => ?_)
        go_wp2_with fail
        rw [← hwn, ← hyC]
        have hb : Below wc.heap.size wc wn := by rw [hwn]; exact (Below.refl _ _).alloc (Nat.le_refl _) _
        have hr : wn.heap[yC]? = some (.cells (kidCells [(g, .slice y' N' m')]).toArray 24 (0, 0)) := by
          rw [hwn, hyC]; exact new_heap _ _ _ rfl
        have HCq : Hid (IsFm (fun _ => True) wn (notF g) (.slice (some ⟨yC, 0, none⟩) 1 1)) := Lib.hid (IsFm.row _ hr (by
          intro q hq
          simp only [List.mem_singleton] at hq
          subst hq
          exact HG.out.later (HO.out.below hb).base) trivial (Nat.le_refl _) 4 [] 0 0)
        replace HO := Lib.hid (HO.out.below hb)
        replace HNf := Lib.hid (HNf.out.later hb)
        try replace HA := Lib.hid (HA.out.later hb)
        try replace HB := Lib.hid (HB.out.later hb)
        try replace HDq := Lib.hid (HDq.out.later hb)
        clear hwn hyC hb hr
        obtain ⟨wc, rfl⟩ : ∃ wc, wc = wn := ⟨_, rfl⟩
        refine cw_step 11 (by decide +kernel) (by decide +kernel) (by decide +kernel) ?_
        refine cw_ycall rfl rfl rfl (by first | rfl | simp [okB, lenV, plainV, Act.eval]) (fun K hK => ?_)
        go_wp2_with fail
        go_at_call 29
        refine (both_c 5 _ 2 2 wc).mono ?_
        rintro e wn ⟨rfl, hb⟩
        replace HO := Lib.hid (HO.out.below hb)
        replace HNf := Lib.hid (HNf.out.later hb)
        try replace HA := Lib.hid (HA.out.later hb)
        try replace HB := Lib.hid (HB.out.later hb)
        try replace HCq := Lib.hid (HCq.out.later hb)
        try replace HDq := Lib.hid (HDq.out.later hb)
        have Hb := Lib.hid hb
        clear hb
        go_wp2_with fail
        refine And.intro Hb.out ?_
        clear Hb
        obtain ⟨wc, rfl⟩ : ∃ wc, wc = wn := ⟨_, rfl⟩
        refine cw_step 12 (by decide +kernel) (by decide +kernel) (by decide +kernel) ?_
        obtain ⟨wn, hwn⟩ : ∃ wn, wn = wc.alloc (.cells #[.int .i64 5, .string (bs []), .int .i64 0, .int .i64 0, .slice (some ⟨yA, 0, none⟩) 2 2] 24) := ⟨_, rfl⟩
        obtain ⟨yB, hyB⟩ : ∃ yB, yB = wc.heap.size := ⟨_, rfl⟩
        refine cw_yes rfl rfl rfl rfl (by first | rfl | simp [okB, lenV, plainV, Act.eval]) (fun _ _ => ?_)
        go_wp2_with fail
        rw [← hwn, ← hyB]
        have hb : Below wc.heap.size wc wn := by rw [hwn]; exact (Below.refl _ _).alloc (Nat.le_refl _) _
        have hr : wn.heap[yB]? = some (.cells (kidCells [(andF f g, .slice (some ⟨yA, 0, none⟩) 2 2)]).toArray 24 (0, 0)) := by
          rw [hwn, hyB]; exact new_heap _ _ _ rfl
        have HB : Hid (IsFm (fun _ => True) wn (notF (andF f g)) (.slice (some ⟨yB, 0, none⟩) 1 1)) := Lib.hid (IsFm.row _ hr (by
          intro q hq
          simp only [List.mem_singleton] at hq
          subst hq
          exact (HA).out.later hb) trivial (Nat.le_refl _) 4 [] 0 0)
        replace HO := Lib.hid (HO.out.below hb)
        replace HNf := Lib.hid (HNf.out.later hb)
        try replace HA := Lib.hid (HA.out.later hb)
        try replace HCq := Lib.hid (HCq.out.later hb)
        try replace HDq := Lib.hid (HDq.out.later hb)
        clear hwn hyB hb hr
        obtain ⟨wc, rfl⟩ : ∃ wc, wc = wn := ⟨_, rfl⟩
        refine cw_step 13 (by decide +kernel) (by decide +kernel) (by decide +kernel) ?_
        refine cw_ycall rfl rfl rfl (by first | rfl | simp [okB, lenV, plainV, Act.eval]) (fun K hK => ?_)
        go_wp2_with fail
        go_at_call 29
        refine (both_c 4 _ 1 1 wc).mono ?_
        rintro e wn ⟨rfl, hb⟩
        replace HO := Lib.hid (HO.out.below hb)
        replace HNf := Lib.hid (HNf.out.later hb)
        try replace HA := Lib.hid (HA.out.later hb)
        try replace HB := Lib.hid (HB.out.later hb)
        try replace HCq := Lib.hid (HCq.out.later hb)
        try replace HDq := Lib.hid (HDq.out.later hb)
        have Hb := Lib.hid hb
        clear hb
        go_wp2_with fail
        refine And.intro Hb.out ?_
        clear Hb
        obtain ⟨wc, rfl⟩ : ∃ wc, wc = wn := ⟨_, rfl⟩
        refine cw_step 16 (by decide +kernel) (by decide +kernel) (by decide +kernel) ?_
        refine cw_ycall rfl rfl rfl (by first | rfl | simp [okB, lenV, plainV, Act.eval]) (fun K hK => ?_)
        go_wp2_with fail
        go_at_call 20
        refine (HHo.out wc (notF (andF f g)) _ HO.out.base HB.out (by simp [short, shorts, HS1.out, HS2.out]) (by have := HSz.out; simp [size, sizes]; omega)).mono ?_
        rintro e wn ⟨rfl, hb⟩
        rw [HCo.out.2.2.2.2.2]
        obtain ⟨X, hX⟩ : ∃ X, X = holdsF d c (orF (notF f) (notF g)) := ⟨_, rfl⟩
        rw [← hX]
        have HXq := Lib.hid hX
        clear hX
        replace HO := Lib.hid (HO.out.below hb)
        replace HNf := Lib.hid (HNf.out.later hb)
        try replace HA := Lib.hid (HA.out.later hb)
        try replace HB := Lib.hid (HB.out.later hb)
        try replace HCq := Lib.hid (HCq.out.later hb)
        try replace HDq := Lib.hid (HDq.out.later hb)
        have Hb := Lib.hid hb
        clear hb
        go_wp2_with fail
        refine And.intro Hb.out ?_
        clear Hb
        obtain ⟨wc, rfl⟩ : ∃ wc, wc = wn := ⟨_, rfl⟩
        refine cw_step 20 (by decide +kernel) (by decide +kernel) (by decide +kernel) ?_
        refine cw_ycall rfl rfl rfl (by first | rfl | simp [okB, lenV, plainV, Act.eval]) (fun K hK => ?_)
        go_wp2_with fail
        go_at_call 29
        refine (both_c 4 _ 1 1 wc).mono ?_
        rintro e wn ⟨rfl, hb⟩
        replace HO := Lib.hid (HO.out.below hb)
        replace HNf := Lib.hid (HNf.out.later hb)
        try replace HA := Lib.hid (HA.out.later hb)
        try replace HB := Lib.hid (HB.out.later hb)
        try replace HCq := Lib.hid (HCq.out.later hb)
        try replace HDq := Lib.hid (HDq.out.later hb)
        have Hb := Lib.hid hb
        clear hb
        go_wp2_with fail
        refine And.intro Hb.out ?_
        clear Hb
        obtain ⟨wc, rfl⟩ : ∃ wc, wc = wn := ⟨_, rfl⟩
        refine cw_step 21 (by decide +kernel) (by decide +kernel) (by decide +kernel) ?_
        obtain ⟨wn, hwn⟩ : ∃ wn, wn = wc.alloc (.cells #[.int .i64 4, .string (bs []), .int .i64 0, .int .i64 0, .slice (some ⟨yn, 0, none⟩) 1 1, .int .i64 4, .string (bs []), .int .i64 0, .int .i64 0, .slice (some ⟨yC, 0, none⟩) 1 1] 24) := ⟨_, rfl⟩
        obtain ⟨yD, hyD⟩ : ∃ yD, yD = wc.heap.size := ⟨_, rfl⟩
        refine cw_yes rfl rfl rfl rfl (by first | rfl | simp [okB, lenV, plainV, Act.eval]) (fun _ _ => ?_)
        go_wp2_with fail
        rw [← hwn, ← hyD]
        have hb : Below wc.heap.size wc wn := by rw [hwn]; exact (Below.refl _ _).alloc (Nat.le_refl _) _
        have hr : wn.heap[yD]? = some (.cells (kidCells [(notF f, .slice (some ⟨yn, 0, none⟩) 1 1), (notF g, .slice (some ⟨yC, 0, none⟩) 1 1)]).toArray 24 (0, 0)) := by
          rw [hwn, hyD]; exact new_heap _ _ _ rfl
        have HDq : Hid (IsFm (fun _ => True) wn (orF (notF f) (notF g)) (.slice (some ⟨yD, 0, none⟩) 2 2)) := Lib.hid (IsFm.row _ hr (by
          intro q hq
          simp only [List.mem_cons, List.not_mem_nil, or_false] at hq
          rcases hq with rfl | rfl
          · exact (HNf).out.later hb
          · exact (HCq).out.later hb) trivial (Nat.le_refl _) 6 [] 0 0)
        replace HO := Lib.hid (HO.out.below hb)
        replace HNf := Lib.hid (HNf.out.later hb)
        try replace HA := Lib.hid (HA.out.later hb)
        try replace HB := Lib.hid (HB.out.later hb)
        try replace HCq := Lib.hid (HCq.out.later hb)
        clear hwn hyD hb hr
        obtain ⟨wc, rfl⟩ : ∃ wc, wc = wn := ⟨_, rfl⟩
        refine cw_step 22 (by decide +kernel) (by decide +kernel) (by decide +kernel) ?_
        refine cw_ycall rfl rfl rfl (by first | rfl | simp [okB, lenV, plainV, Act.eval]) (fun K hK => ?_)
        go_wp2_with fail
        go_at_call 29
        refine (both_c 6 _ 2 2 wc).mono ?_
        rintro e wn ⟨rfl, hb⟩
        replace HO := Lib.hid (HO.out.below hb)
        replace HNf := Lib.hid (HNf.out.later hb)
        try replace HA := Lib.hid (HA.out.later hb)
        try replace HB := Lib.hid (HB.out.later hb)
        try replace HCq := Lib.hid (HCq.out.later hb)
        try replace HDq := Lib.hid (HDq.out.later hb)
        have Hb := Lib.hid hb
        clear hb
        go_wp2_with fail
        refine And.intro Hb.out ?_
        clear Hb
        obtain ⟨wc, rfl⟩ : ∃ wc, wc = wn := ⟨_, rfl⟩
        refine cw_step 25 (by decide +kernel) (by decide +kernel) (by decide +kernel) ?_
        refine cw_ycall rfl rfl rfl (by first | rfl | simp [okB, lenV, plainV, Act.eval]) (fun K hK => ?_)
        go_wp2_with fail
        go_at_call 20
        refine (HHo.out wc (orF (notF f) (notF g)) _ HO.out.base HDq.out (by simp [short, shorts, HS1.out, HS2.out]) (by have := HSz.out; simp [size, sizes]; omega)).mono ?_
        rintro e wn ⟨rfl, hb⟩
        rw [← HXq.out]
        replace HO := Lib.hid (HO.out.below hb)
        replace HNf := Lib.hid (HNf.out.later hb)
        try replace HA := Lib.hid (HA.out.later hb)
        try replace HB := Lib.hid (HB.out.later hb)
        try replace HCq := Lib.hid (HCq.out.later hb)
        try replace HDq := Lib.hid (HDq.out.later hb)
        have Hb := Lib.hid hb
        clear hb
        go_wp2_with fail
        refine And.intro Hb.out ?_
        clear Hb
        obtain ⟨wc, rfl⟩ : ∃ wc, wc = wn := ⟨_, rfl⟩
        refine cw_step 26 (by decide +kernel) (by decide +kernel) (by decide +kernel) ?_
        (first | (refine cw_do rfl rfl rfl (by first | rfl | simp [okB, lenV, plainV, Act.eval]) (fun _ _ => ?_); go_wp2_with fail) | (refine cw_yes rfl rfl rfl rfl (by first | rfl | simp [okB, lenV, plainV, Act.eval]) (fun _ _ => ?_); go_wp2_with fail))
        refine cw_step 27 (by decide +kernel) (by decide +kernel) (by decide +kernel) ?_
        (first | (refine cw_do rfl rfl rfl (by first | rfl | simp [okB, lenV, plainV, Act.eval]) (fun _ _ => ?_); go_wp2_with fail) | (refine cw_yes rfl rfl rfl rfl (by first | rfl | simp [okB, lenV, plainV, Act.eval]) (fun _ _ => ?_); go_wp2_with fail))
        refine cw_step 28 (by decide +kernel) (by decide +kernel) (by decide +kernel) ?_
        (first | (refine cw_do rfl rfl rfl (by first | rfl | simp [okB, lenV, plainV, Act.eval]) (fun _ _ => ?_); go_wp2_with fail) | (refine cw_yes rfl rfl rfl rfl (by first | rfl | simp [okB, lenV, plainV, Act.eval]) (fun _ _ => ?_); go_wp2_with fail))
        refine cw_nil (by decide +kernel) ?_
        go_wp2_with fail
        go_ret
        exact ⟨rfl, HO.out.base⟩
    · obtain ⟨wn, hwn⟩ : ∃ wn, wn = wc.alloc (.cells #[.int .i64 (g).op, .string (bs (g).name), .int .i64 (g).cmp, .int .i64 (g).num, .slice y' N' m'] 24) := ⟨_, rfl⟩
      obtain ⟨yC, hyC⟩ : ∃ yC, yC = wc.heap.size := ⟨_, rfl⟩
      refine cw_yes rfl rfl rfl rfl (by first | rfl | simp [okB, lenV, plainV, Act.eval]) (fun _ _ => ?_)
      go_wp2_with fail
      rw [← hwn, ← hyC]
      have hb : Below wc.heap.size wc wn := by rw [hwn]; exact (Below.refl _ _).alloc (Nat.le_refl _) _
      have hr : wn.heap[yC]? = some (.cells (kidCells [(g, .slice y' N' m')]).toArray 24 (0, 0)) := by
        rw [hwn, hyC]; exact new_heap _ _ _ rfl
      have HCq : Hid (IsFm (fun _ => True) wn (notF g) (.slice (some ⟨yC, 0, none⟩) 1 1)) := Lib.hid (IsFm.row _ hr (by
        intro q hq
        simp only [List.mem_singleton] at hq
        subst hq
        exact HG.out.later (HO.out.below hb).base) trivial (Nat.le_refl _) 4 [] 0 0)
      replace HO := Lib.hid (HO.out.below hb)
      replace HNf := Lib.hid (HNf.out.later hb)
      try replace HA := Lib.hid (HA.out.later hb)
      try replace HB := Lib.hid (HB.out.later hb)
      try replace HDq := Lib.hid (HDq.out.later hb)
      clear hwn hyC hb hr
      obtain ⟨wc, rfl⟩ : ∃ wc, wc = wn := ⟨_, rfl⟩
      refine cw_step 10 (by decide +kernel) (by decide +kernel) (by decide +kernel) ?_
      obtain ⟨wn, hwn⟩ : ∃ wn, wn = wc.alloc (.cells #[.int .i64 (f).op, .string (bs (f).name), .int .i64 (f).cmp, .int .i64 (f).num, .slice y N m, .int .i64 (g).op, .string (bs (g).name), .int .i64 (g).cmp, .int .i64 (g).num, .slice y' N' m'] 24) := ⟨_, rfl⟩
      obtain ⟨yA, hyA⟩ : ∃ yA, yA = wc.heap.size := ⟨_, rfl⟩
      refine cw_yes rfl rfl rfl rfl (by first | rfl | simp [okB, lenV, plainV, Act.eval]) (fun _ _ => ?_)
      go_wp2_with fail
      rw [← hwn, ← hyA]
      have hb : Below wc.heap.size wc wn := by rw [hwn]; exact (Below.refl _ _).alloc (Nat.le_refl _) _
      have hr : wn.heap[yA]? = some (.cells (kidCells [(f, .slice y N m), (g, .slice y' N' m')]).toArray 24 (0, 0)) := by
        rw [hwn, hyA]; exact new_heap _ _ _ rfl
      have HA : Hid (IsFm (fun _ => True) wn (andF f g) (.slice (some ⟨yA, 0, none⟩) 2 2)) := Lib.hid (IsFm.row _ hr (by
        intro q hq
        simp only [List.mem_cons, List.not_mem_nil, or_false] at hq
        rcases hq with rfl | rfl
        · exact HF.out.later (HO.out.below hb).base
        · exact HG.out.later (HO.out.below hb).base) trivial (Nat.le_refl _) 5 [] 0 0)
      replace HO := Lib.hid (HO.out.below hb)
      replace HNf := Lib.hid (HNf.out.later hb)
      try replace HB := Lib.hid (HB.out.later hb)
      try replace HCq := Lib.hid (HCq.out.later hb)
      try replace HDq := Lib.hid (HDq.out.later hb)
      clear hwn hyA hb hr
      obtain ⟨wc, rfl⟩ : ∃ wc, wc = wn := ⟨_, rfl⟩
      refine cw_step 11 (by decide +kernel) (by decide +kernel) (by decide +kernel) ?_
      refine cw_ycall rfl rfl rfl (by first | rfl | simp [okB, lenV, plainV, Act.eval]) (fun K hK => ?_)
      go_wp2_with fail
      go_at_call 29
      refine (both_c 5 _ 2 2 wc).mono ?_
      rintro e wn ⟨rfl, hb⟩
      replace HO := Lib.hid (HO.out.below hb)
      replace HNf := Lib.hid (HNf.out.later hb)
      try replace HA := Lib.hid (HA.out.later hb)
      try replace HB := Lib.hid (HB.out.later hb)
      try replace HCq := Lib.hid (HCq.out.later hb)
      try replace HDq := Lib.hid (HDq.out.later hb)
      have Hb := Lib.hid hb
      clear hb
      go_wp2_with fail
      refine And.intro Hb.out ?_
      clear Hb
      obtain ⟨wc, rfl⟩ : ∃ wc, wc = wn := ⟨_, rfl⟩
      refine cw_step 12 (by decide +kernel) (by decide +kernel) (by decide +kernel) ?_
      obtain ⟨wn, hwn⟩ : ∃ wn, wn = wc.alloc (.cells #[.int .i64 5, .string (bs []), .int .i64 0, .int .i64 0, .slice (some ⟨yA, 0, none⟩) 2 2] 24) := ⟨_, rfl⟩
      obtain ⟨yB, hyB⟩ : ∃ yB, yB = wc.heap.size := ⟨_, rfl⟩
      refine cw_yes rfl rfl rfl rfl (by first | rfl | simp [okB, lenV, plainV, Act.eval]) (fun _ _ => ?_)
      go_wp2_with fail
      rw [← hwn, ← hyB]
      have hb : Below wc.heap.size wc wn := by rw [hwn]; exact (Below.refl _ _).alloc (Nat.le_refl _) _
      have hr : wn.heap[yB]? = some (.cells (kidCells [(andF f g, .slice (some ⟨yA, 0, none⟩) 2 2)]).toArray 24 (0, 0)) := by
        rw [hwn, hyB]; exact new_heap _ _ _ rfl
      have HB : Hid (IsFm (fun _ => True) wn (notF (andF f g)) (.slice (some ⟨yB, 0, none⟩) 1 1)) := Lib.hid (IsFm.row _ hr (by
        intro q hq
        simp only [List.mem_singleton] at hq
        subst hq
        exact (HA).out.later hb) trivial (Nat.le_refl _) 4 [] 0 0)
      replace HO := Lib.hid (HO.out.below hb)
      replace HNf := Lib.hid (HNf.out.later hb)
      try replace HA := Lib.hid (HA.out.later hb)
      try replace HCq := Lib.hid (HCq.out.later hb)
      try replace HDq := Lib.hid (HDq.out.later hb)
      clear hwn hyB hb hr
      obtain ⟨wc, rfl⟩ : ∃ wc, wc = wn := ⟨_, rfl⟩
      refine cw_step 13 (by decide +kernel) (by decide +kernel) (by decide +kernel) ?_
      refine cw_ycall rfl rfl rfl (by first | rfl | simp [okB, lenV, plainV, Act.eval]) (fun K hK => ?_)
      go_wp2_with fail
      go_at_call 29
      refine (both_c 4 _ 1 1 wc).mono ?_
      rintro e wn ⟨rfl, hb⟩
      replace HO := Lib.hid (HO.out.below hb)
      replace HNf := Lib.hid (HNf.out.later hb)
      try replace HA := Lib.hid (HA.out.later hb)
      try replace HB := Lib.hid (HB.out.later hb)
      try replace HCq := Lib.hid (HCq.out.later hb)
      try replace HDq := Lib.hid (HDq.out.later hb)
      have Hb := Lib.hid hb
      clear hb
      go_wp2_with fail
      refine And.intro Hb.out ?_
      clear Hb
      obtain ⟨wc, rfl⟩ : ∃ wc, wc = wn := ⟨_, rfl⟩
      refine cw_step 16 (by decide +kernel) (by decide +kernel) (by decide +kernel) ?_
      refine cw_ycall rfl rfl rfl (by first | rfl | simp [okB, lenV, plainV, Act.eval]) (fun K hK => ?_)
      go_wp2_with fail
      go_at_call 20
      refine (HHo.out wc (notF (andF f g)) _ HO.out.base HB.out (by simp [short, shorts, HS1.out, HS2.out]) (by have := HSz.out; simp [size, sizes]; omega)).mono ?_
      rintro e wn ⟨rfl, hb⟩
      rw [HCo.out.2.2.2.2.2]
      obtain ⟨X, hX⟩ : ∃ X, X = holdsF d c (orF (notF f) (notF g)) := ⟨_, rfl⟩
      rw [← hX]
      have HXq := Lib.hid hX
      clear hX
      replace HO := Lib.hid (HO.out.below hb)
      replace HNf := Lib.hid (HNf.out.later hb)
      try replace HA := Lib.hid (HA.out.later hb)
      try replace HB := Lib.hid (HB.out.later hb)
      try replace HCq := Lib.hid (HCq.out.later hb)
      try replace HDq := Lib.hid (HDq.out.later hb)
      have Hb := Lib.hid hb
      clear hb
      go_wp2_with fail
      refine And.intro Hb.out ?_
      clear Hb
      obtain ⟨wc, rfl⟩ : ∃ wc, wc = wn := ⟨_, rfl⟩
      refine cw_step 20 (by decide +kernel) (by decide +kernel) (by decide +kernel) ?_
      refine cw_ycall rfl rfl rfl (by first | rfl | simp [okB, lenV, plainV, Act.eval]) (fun K hK => ?_)
      go_wp2_with fail
      go_at_call 29
      refine (both_c 4 _ 1 1 wc).mono ?_
      rintro e wn ⟨rfl, hb⟩
      replace HO := Lib.hid (HO.out.below hb)
      replace HNf := Lib.hid (HNf.out.later hb)
      try replace HA := Lib.hid (HA.out.later hb)
      try replace HB := Lib.hid (HB.out.later hb)
      try replace HCq := Lib.hid (HCq.out.later hb)
      try replace HDq := Lib.hid (HDq.out.later hb)
      have Hb := Lib.hid hb
      clear hb
      go_wp2_with fail
      refine And.intro Hb.out ?_
      clear Hb
      obtain ⟨wc, rfl⟩ : ∃ wc, wc = wn := ⟨_, rfl⟩
      refine cw_step 21 (by decide +kernel) (by decide +kernel) (by decide +kernel) ?_
      obtain ⟨wn, hwn⟩ : ∃ wn, wn = wc.alloc (.cells #[.int .i64 4, .string (bs []), .int .i64 0, .int .i64 0, .slice (some ⟨yn, 0, none⟩) 1 1, .int .i64 4, .string (bs []), .int .i64 0, .int .i64 0, .slice (some ⟨yC, 0, none⟩) 1 1] 24) := ⟨_, rfl⟩
      obtain ⟨yD, hyD⟩ : ∃ yD, yD = wc.heap.size := ⟨_, rfl⟩
      refine cw_yes rfl rfl rfl rfl (by first | rfl | simp [okB, lenV, plainV, Act.eval]) (fun _ _ => ?_)
      go_wp2_with fail
      rw [← hwn, ← hyD]
      have hb : Below wc.heap.size wc wn := by rw [hwn]; exact (Below.refl _ _).alloc (Nat.le_refl _) _
      have hr : wn.heap[yD]? = some (.cells (kidCells [(notF f, .slice (some ⟨yn, 0, none⟩) 1 1), (notF g, .slice (some ⟨yC, 0, none⟩) 1 1)]).toArray 24 (0, 0)) := by
        rw [hwn, hyD]; exact new_heap _ _ _ rfl
      have HDq : Hid (IsFm (fun _ => True) wn (orF (notF f) (notF g)) (.slice (some ⟨yD, 0, none⟩) 2 2)) := Lib.hid (IsFm.row _ hr (by
        intro q hq
        simp only [List.mem_cons, List.not_mem_nil, or_false] at hq
        rcases hq with rfl | rfl
        · exact (HNf).out.later hb
        · exact (HCq).out.later hb) trivial (Nat.le_refl _) 6 [] 0 0)
      replace HO := Lib.hid (HO.out.below hb)
      replace HNf := Lib.hid (HNf.out.later hb)
      try replace HA := Lib.hid (HA.out.later hb)
      try replace HB := Lib.hid (HB.out.later hb)
      try replace HCq := Lib.hid (HCq.out.later hb)
      clear hwn hyD hb hr
      obtain ⟨wc, rfl⟩ : ∃ wc, wc = wn := ⟨_, rfl⟩
      refine cw_step 22 (by decide +kernel) (by decide +kernel) (by decide +kernel) ?_
      refine cw_ycall rfl rfl rfl (by first | rfl | simp [okB, lenV, plainV, Act.eval]) (fun K hK => ?_)
      go_wp2_with fail
      go_at_call 29
      refine (both_c 6 _ 2 2 wc).mono ?_
      rintro e wn ⟨rfl, hb⟩
      replace HO := Lib.hid (HO.out.below hb)
      replace HNf := Lib.hid (HNf.out.later hb)
      try replace HA := Lib.hid (HA.out.later hb)
      try replace HB := Lib.hid (HB.out.later hb)
      try replace HCq := Lib.hid (HCq.out.later hb)
      try replace HDq := Lib.hid (HDq.out.later hb)
      have Hb := Lib.hid hb
      clear hb
      go_wp2_with fail
      refine And.intro Hb.out ?_
      clear Hb
      obtain ⟨wc, rfl⟩ : ∃ wc, wc = wn := ⟨_, rfl⟩
      refine cw_step 25 (by decide +kernel) (by decide +kernel) (by decide +kernel) ?_
      refine cw_ycall rfl rfl rfl (by first | rfl | simp [okB, lenV, plainV, Act.eval]) (fun K hK => ?_)
      go_wp2_with fail
      go_at_call 20
      refine (HHo.out wc (orF (notF f) (notF g)) _ HO.out.base HDq.out (by simp [short, shorts, HS1.out, HS2.out]) (by have := HSz.out; simp [size, sizes]; omega)).mono ?_
      rintro e wn ⟨rfl, hb⟩
      rw [← HXq.out]
      replace HO := Lib.hid (HO.out.below hb)
      replace HNf := Lib.hid (HNf.out.later hb)
      try replace HA := Lib.hid (HA.out.later hb)
      try replace HB := Lib.hid (HB.out.later hb)
      try replace HCq := Lib.hid (HCq.out.later hb)
      try replace HDq := Lib.hid (HDq.out.later hb)
      have Hb := Lib.hid hb
      clear hb
      go_wp2_with fail
      refine And.intro Hb.out ?_
      clear Hb
      obtain ⟨wc, rfl⟩ : ∃ wc, wc = wn := ⟨_, rfl⟩
      refine cw_step 26 (by decide +kernel) (by decide +kernel) (by decide +kernel) ?_
      (first | (refine cw_do rfl rfl rfl (by first | rfl | simp [okB, lenV, plainV, Act.eval]) (fun _ _ => ?_); go_wp2_with fail) | (refine cw_yes rfl rfl rfl rfl (by first | rfl | simp [okB, lenV, plainV, Act.eval]) (fun _ _ => ?_); go_wp2_with fail))
      refine cw_step 27 (by decide +kernel) (by decide +kernel) (by decide +kernel) ?_
      (first | (refine cw_do rfl rfl rfl (by first | rfl | simp [okB, lenV, plainV, Act.eval]) (fun _ _ => ?_); go_wp2_with fail) | (refine cw_yes rfl rfl rfl rfl (by first | rfl | simp [okB, lenV, plainV, Act.eval]) (fun _ _ => ?_); go_wp2_with fail))
      refine cw_step 28 (by decide +kernel) (by decide +kernel) (by decide +kernel) ?_
      (first | (refine cw_do rfl rfl rfl (by first | rfl | simp [okB, lenV, plainV, Act.eval]) (fun _ _ => ?_); go_wp2_with fail) | (refine cw_yes rfl rfl rfl rfl (by first | rfl | simp [okB, lenV, plainV, Act.eval]) (fun _ _ => ?_); go_wp2_with fail))
      refine cw_nil (by decide +kernel) ?_
      go_wp2_with fail
      go_ret
      exact ⟨rfl, HO.out.base⟩
end Go.Proofs.YtagoefnibgobcaaGreatDoor
