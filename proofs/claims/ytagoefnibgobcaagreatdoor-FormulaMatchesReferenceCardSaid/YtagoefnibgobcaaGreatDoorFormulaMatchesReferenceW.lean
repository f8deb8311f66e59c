/-
  'FormulaMatchesReference' returns true: the walk.
-/
import Derived.Test.YtagoefnibgobcaaGreatDoorFmFew
import Derived.Test.YtagoefnibgobcaaGreatDoorFmValue
import Derived.Test.YtagoefnibgobcaaGreatDoorFmSame
namespace Go.Proofs.YtagoefnibgobcaaGreatDoor
open Go.RowKit Go.Cz Go.Cz.Lx Go.Cz.Fo
set_option linter.unusedSimpArgs false
set_option linter.unusedVariables false
attribute [local go_sem] bs_size bs_extract bs_append bs_toList
attribute [local irreducible] cList cPlan
set_option maxRecDepth 100000 in
set_option maxHeartbeats 8000000 in
theorem FormulaMatchesReference_walk (w : World) (hs : Std w) (f : Fm) (kv : Value) (hf : IsFm (fun _ => True) w f kv) (g : Fm) (gv : Value) (hg : IsFm (fun _ => True) w g gv) (d : List Fact) (v : Value) (hd : IsD w d v) (hn : d.length ≤ 9223372036854775807) (c : List Int) (u : Value) (hc : IsC w c u) (hm : c.length ≤ 9223372036854775807) :
    Calls Tryz.prog 3 #[fval f kv, fval g gv, .agg #[v], u] w fun e w' => e = .returned (.bool true) ∧ Below w.heap.size w w' := by
  have HS := Lib.hid hs
  have HD := Lib.hid hd
  have HC := Lib.hid hc
  have HDn := Lib.hid hn
  have HCn := Lib.hid hm
  clear hs hd hc hn hm
  obtain ⟨yd, md, hv⟩ := HD.out.form
  subst hv
  obtain ⟨M, hM⟩ : ∃ M, M = d.length := ⟨_, rfl⟩
  rw [← hM] at HD ⊢
  obtain ⟨yc, mc, hv⟩ := HC.out.form
  subst hv
  obtain ⟨Mc, hMc⟩ : ∃ Mc, Mc = c.length := ⟨_, rfl⟩
  rw [← hMc] at HC ⊢
  clear hM hMc
  obtain ⟨y, m, rfl⟩ := hf.form
  obtain ⟨N, hN⟩ : ∃ N, N = f.kids.length := ⟨_, rfl⟩
  rw [← hN] at hf ⊢
  have HF := Lib.hid hf
  obtain ⟨y', m', rfl⟩ := hg.form
  obtain ⟨N', hN'⟩ : ∃ N', N' = g.kids.length := ⟨_, rfl⟩
  rw [← hN'] at hg ⊢
  have HG := Lib.hid hg
  clear hN hf hN' hg
  obtain ⟨W1, hW1⟩ : ∃ W1, W1 = ((w.alloc (fobj f (.slice y N m))).alloc (fobj g (.slice y' N' m'))).alloc (.cells #[.slice yd M md] 27) := ⟨_, rfl⟩
  obtain ⟨bf, hbf⟩ : ∃ bf, bf = w.heap.size := ⟨_, rfl⟩
  obtain ⟨bg, hbg⟩ : ∃ bg, bg = w.heap.size + 1 := ⟨_, rfl⟩
  obtain ⟨bd, hbd⟩ : ∃ bd, bd = w.heap.size + 1 + 1 := ⟨_, rfl⟩
  have HO : Hid (Owns w W1 [blk bf (fobj f (.slice y N m)), blk bg (fobj g (.slice y' N' m')), blk bd (.cells #[.slice yd M md] 27 (0, 0))]) := by
    rw [hW1, hbf, hbg, hbd]
    have h := (((Owns.start w).box (fobj f (.slice y N m))).box (fobj g (.slice y' N' m'))).box (.cells #[.slice yd M md] 27 (0, 0))
    simp only [World.size_alloc] at h
    exact Lib.hid (h.re [2, 1, 0])
  go_enter Tryz.func3, Tryz.ntmps3
  go_wp2_with fail
  rw [← hW1]
  try rw [← hbd]
  try rw [← hbg]
  try rw [← hbf]
  clear hW1 hbf hbg hbd
  go_at_call 12
  refine (head_c W1 (HS.out.below HO.out.base)).mono ?_
  rintro e W2 ⟨rfl, hb⟩
  replace HO := Lib.hid (HO.out.below hb)
  clear hb
  focus
    obtain ⟨bk, -⟩ := HO.out.blk
    have hbf := lt_of_block bk
    have cb0 := cell_of_heap bk (i := 0)
    have cb1 := cell_of_heap bk (i := 1)
    have cb2 := cell_of_heap bk (i := 2)
    have cb3 := cell_of_heap bk (i := 3)
    have cb4 := cell_of_heap bk (i := 4)
    obtain ⟨bk, -⟩ := HO.out.pop.blk
    have hbg := lt_of_block bk
    have cg0 := cell_of_heap bk (i := 0)
    have cg1 := cell_of_heap bk (i := 1)
    have cg2 := cell_of_heap bk (i := 2)
    have cg3 := cell_of_heap bk (i := 3)
    have cg4 := cell_of_heap bk (i := 4)
    obtain ⟨bk, -⟩ := HO.out.pop.pop.blk
    have hbd := lt_of_block bk
    have cd0 := cell_of_heap bk (i := 0)
    simp only [List.getElem?_toArray, List.getElem?_cons_succ, List.getElem?_cons_zero] at cb0 cb1 cb2 cb3 cb4 cg0 cg1 cg2 cg3 cg4 cd0
    clear bk
    go_wp2_with fail
    clear cb0 cb1 cb2 cb3 cb4 hbf cg0 cg1 cg2 cg3 cg4 hbg cd0 hbd
  go_at_call 13
  refine (Small_c f W2 _ 300 (HF.out.later HO.out.base) (by omega)).mono ?_
  rintro e W3 ⟨rfl, hb⟩
  replace HO := Lib.hid (HO.out.below hb)
  obtain ⟨b, hb0⟩ : ∃ b, b = decide (size f ≤ 300) := ⟨_, rfl⟩
  have HB1 := Lib.hid hb0
  rw [← hb0]
  clear hb0 hb
  cases b
  · go_wp2_with fail
    go_ret
    exact ⟨rfl, HO.out.base⟩
  focus
    obtain ⟨bk, -⟩ := HO.out.blk
    have hbf := lt_of_block bk
    have cb0 := cell_of_heap bk (i := 0)
    have cb1 := cell_of_heap bk (i := 1)
    have cb2 := cell_of_heap bk (i := 2)
    have cb3 := cell_of_heap bk (i := 3)
    have cb4 := cell_of_heap bk (i := 4)
    obtain ⟨bk, -⟩ := HO.out.pop.blk
    have hbg := lt_of_block bk
    have cg0 := cell_of_heap bk (i := 0)
    have cg1 := cell_of_heap bk (i := 1)
    have cg2 := cell_of_heap bk (i := 2)
    have cg3 := cell_of_heap bk (i := 3)
    have cg4 := cell_of_heap bk (i := 4)
    obtain ⟨bk, -⟩ := HO.out.pop.pop.blk
    have hbd := lt_of_block bk
    have cd0 := cell_of_heap bk (i := 0)
    simp only [List.getElem?_toArray, List.getElem?_cons_succ, List.getElem?_cons_zero] at cb0 cb1 cb2 cb3 cb4 cg0 cg1 cg2 cg3 cg4 cd0
    clear bk
    go_wp2_with fail
    clear cb0 cb1 cb2 cb3 cb4 hbf cg0 cg1 cg2 cg3 cg4 hbg cd0 hbd
  have hz : size f ≤ 300 := of_decide_eq_true HB1.out.symm
  have HZ : Hid (size f ≤ 900000) := by show _ ≤ _; omega
  have HZk : Hid (sizes f.kids ≤ 900000) := by show _ ≤ _; rw [size_kids] at hz; omega
  go_at_call 13
  refine (Small_c g W3 _ 300 (HG.out.later HO.out.base) (by omega)).mono ?_
  rintro e W4 ⟨rfl, hb⟩
  clear hz
  replace HO := Lib.hid (HO.out.below hb)
  obtain ⟨b, hb0⟩ : ∃ b, b = decide (size g ≤ 300) := ⟨_, rfl⟩
  have HB2 := Lib.hid hb0
  rw [← hb0]
  clear hb0 hb
  cases b
  · go_wp2_with fail
    go_ret
    exact ⟨rfl, HO.out.base⟩
  focus
    obtain ⟨bk, -⟩ := HO.out.blk
    have hbf := lt_of_block bk
    have cb0 := cell_of_heap bk (i := 0)
    have cb1 := cell_of_heap bk (i := 1)
    have cb2 := cell_of_heap bk (i := 2)
    have cb3 := cell_of_heap bk (i := 3)
    have cb4 := cell_of_heap bk (i := 4)
    obtain ⟨bk, -⟩ := HO.out.pop.blk
    have hbg := lt_of_block bk
    have cg0 := cell_of_heap bk (i := 0)
    have cg1 := cell_of_heap bk (i := 1)
    have cg2 := cell_of_heap bk (i := 2)
    have cg3 := cell_of_heap bk (i := 3)
    have cg4 := cell_of_heap bk (i := 4)
    obtain ⟨bk, -⟩ := HO.out.pop.pop.blk
    have hbd := lt_of_block bk
    have cd0 := cell_of_heap bk (i := 0)
    simp only [List.getElem?_toArray, List.getElem?_cons_succ, List.getElem?_cons_zero] at cb0 cb1 cb2 cb3 cb4 cg0 cg1 cg2 cg3 cg4 cd0
    clear bk
    go_wp2_with fail
    clear cb0 cb1 cb2 cb3 cb4 hbf cg0 cg1 cg2 cg3 cg4 hbg cd0 hbd
  have hz : size g ≤ 300 := of_decide_eq_true HB2.out.symm
  have HZ2 : Hid (size g ≤ 900000) := by show _ ≤ _; omega
  have HZk2 : Hid (sizes g.kids ≤ 900000) := by show _ ≤ _; rw [size_kids] at hz; omega
  go_at_call 14
  refine (few_c d c _ _ W4 (HD.out.later HO.out.base) (HC.out.later HO.out.base) HDn.out).mono ?_
  rintro e W5 ⟨rfl, hb⟩
  clear hz
  replace HO := Lib.hid (HO.out.below hb)
  obtain ⟨b, hb0⟩ : ∃ b, b = fewB d c := ⟨_, rfl⟩
  have HB3 := Lib.hid hb0
  rw [← hb0]
  clear hb0 hb
  cases b
  · go_wp2_with fail
    go_ret
    exact ⟨rfl, HO.out.base⟩
  focus
    obtain ⟨bk, -⟩ := HO.out.blk
    have hbf := lt_of_block bk
    have cb0 := cell_of_heap bk (i := 0)
    have cb1 := cell_of_heap bk (i := 1)
    have cb2 := cell_of_heap bk (i := 2)
    have cb3 := cell_of_heap bk (i := 3)
    have cb4 := cell_of_heap bk (i := 4)
    obtain ⟨bk, -⟩ := HO.out.pop.blk
    have hbg := lt_of_block bk
    have cg0 := cell_of_heap bk (i := 0)
    have cg1 := cell_of_heap bk (i := 1)
    have cg2 := cell_of_heap bk (i := 2)
    have cg3 := cell_of_heap bk (i := 3)
    have cg4 := cell_of_heap bk (i := 4)
    obtain ⟨bk, -⟩ := HO.out.pop.pop.blk
    have hbd := lt_of_block bk
    have cd0 := cell_of_heap bk (i := 0)
    simp only [List.getElem?_toArray, List.getElem?_cons_succ, List.getElem?_cons_zero] at cb0 cb1 cb2 cb3 cb4 cg0 cg1 cg2 cg3 cg4 cd0
    clear bk
    go_wp2_with fail
    clear cb0 cb1 cb2 cb3 cb4 hbf cg0 cg1 cg2 cg3 cg4 hbg cd0 hbd
  have HFw := Lib.hid (few_names HB3.out.symm)
  have HX : Hid (∀ x ∈ d, x.name.length ≤ 140737488355328) := fun x hx => by have := HFw.out.1 x hx; omega
  have HDm : Hid (d.length ≤ 1000000) := by have := HFw.out.2.1; show _ ≤ _; omega
  have HCm : Hid (c.length ≤ 1000000) := by have := HFw.out.2.2; show _ ≤ _; omega
  go_at_call 15
  refine (short_c f W5 _ (HF.out.later HO.out.base) HZk.out).mono ?_
  rintro e W6 ⟨rfl, hb⟩
  replace HO := Lib.hid (HO.out.below hb)
  obtain ⟨b, hb0⟩ : ∃ b, b = short 60 f := ⟨_, rfl⟩
  have HB4 := Lib.hid hb0
  rw [← hb0]
  clear hb0 hb
  cases b
  · go_wp2_with fail
    go_ret
    exact ⟨rfl, HO.out.base⟩
  focus
    obtain ⟨bk, -⟩ := HO.out.blk
    have hbf := lt_of_block bk
    have cb0 := cell_of_heap bk (i := 0)
    have cb1 := cell_of_heap bk (i := 1)
    have cb2 := cell_of_heap bk (i := 2)
    have cb3 := cell_of_heap bk (i := 3)
    have cb4 := cell_of_heap bk (i := 4)
    obtain ⟨bk, -⟩ := HO.out.pop.blk
    have hbg := lt_of_block bk
    have cg0 := cell_of_heap bk (i := 0)
    have cg1 := cell_of_heap bk (i := 1)
    have cg2 := cell_of_heap bk (i := 2)
    have cg3 := cell_of_heap bk (i := 3)
    have cg4 := cell_of_heap bk (i := 4)
    obtain ⟨bk, -⟩ := HO.out.pop.pop.blk
    have hbd := lt_of_block bk
    have cd0 := cell_of_heap bk (i := 0)
    simp only [List.getElem?_toArray, List.getElem?_cons_succ, List.getElem?_cons_zero] at cb0 cb1 cb2 cb3 cb4 cg0 cg1 cg2 cg3 cg4 cd0
    clear bk
    go_wp2_with fail
    clear cb0 cb1 cb2 cb3 cb4 hbf cg0 cg1 cg2 cg3 cg4 hbg cd0 hbd
  go_at_call 15
  refine (short_c g W6 _ (HG.out.later HO.out.base) HZk2.out).mono ?_
  rintro e W7 ⟨rfl, hb⟩
  replace HO := Lib.hid (HO.out.below hb)
  obtain ⟨b, hb0⟩ : ∃ b, b = short 60 g := ⟨_, rfl⟩
  have HB5 := Lib.hid hb0
  rw [← hb0]
  clear hb0 hb
  cases b
  · go_wp2_with fail
    go_ret
    exact ⟨rfl, HO.out.base⟩
  focus
    obtain ⟨bk, -⟩ := HO.out.blk
    have hbf := lt_of_block bk
    have cb0 := cell_of_heap bk (i := 0)
    have cb1 := cell_of_heap bk (i := 1)
    have cb2 := cell_of_heap bk (i := 2)
    have cb3 := cell_of_heap bk (i := 3)
    have cb4 := cell_of_heap bk (i := 4)
    obtain ⟨bk, -⟩ := HO.out.pop.blk
    have hbg := lt_of_block bk
    have cg0 := cell_of_heap bk (i := 0)
    have cg1 := cell_of_heap bk (i := 1)
    have cg2 := cell_of_heap bk (i := 2)
    have cg3 := cell_of_heap bk (i := 3)
    have cg4 := cell_of_heap bk (i := 4)
    obtain ⟨bk, -⟩ := HO.out.pop.pop.blk
    have hbd := lt_of_block bk
    have cd0 := cell_of_heap bk (i := 0)
    simp only [List.getElem?_toArray, List.getElem?_cons_succ, List.getElem?_cons_zero] at cb0 cb1 cb2 cb3 cb4 cg0 cg1 cg2 cg3 cg4 cd0
    clear bk
    go_wp2_with fail
    clear cb0 cb1 cb2 cb3 cb4 hbf cg0 cg1 cg2 cg3 cg4 hbg cd0 hbd
  go_at_call 16
  refine (Size_c f W7 _ (HF.out.later HO.out.base) HZ.out).mono ?_
  rintro e W8 ⟨rfl, hb⟩
  replace HO := Lib.hid (HO.out.below hb)
  clear hb
  obtain ⟨sz, hsz⟩ : ∃ sz, sz = size f := ⟨_, rfl⟩
  obtain ⟨dp, hdp⟩ : ∃ dp, dp = depth f := ⟨_, rfl⟩
  have HSz := Lib.hid hsz
  have HDp := Lib.hid hdp
  rw [← hsz, ← hdp]
  clear hsz hdp
  focus
    obtain ⟨bk, -⟩ := HO.out.blk
    have hbf := lt_of_block bk
    have cb0 := cell_of_heap bk (i := 0)
    have cb1 := cell_of_heap bk (i := 1)
    have cb2 := cell_of_heap bk (i := 2)
    have cb3 := cell_of_heap bk (i := 3)
    have cb4 := cell_of_heap bk (i := 4)
    obtain ⟨bk, -⟩ := HO.out.pop.blk
    have hbg := lt_of_block bk
    have cg0 := cell_of_heap bk (i := 0)
    have cg1 := cell_of_heap bk (i := 1)
    have cg2 := cell_of_heap bk (i := 2)
    have cg3 := cell_of_heap bk (i := 3)
    have cg4 := cell_of_heap bk (i := 4)
    obtain ⟨bk, -⟩ := HO.out.pop.pop.blk
    have hbd := lt_of_block bk
    have cd0 := cell_of_heap bk (i := 0)
    simp only [List.getElem?_toArray, List.getElem?_cons_succ, List.getElem?_cons_zero] at cb0 cb1 cb2 cb3 cb4 cg0 cg1 cg2 cg3 cg4 cd0
    clear bk
    go_wp2_with fail
    clear cb0 cb1 cb2 cb3 cb4 hbf cg0 cg1 cg2 cg3 cg4 hbg cd0 hbd
  go_at_call 17
  refine (rSize_c f W8 _ (HF.out.later HO.out.base) HZ.out).mono ?_
  rintro e W9 ⟨rfl, hb⟩
  replace HO := Lib.hid (HO.out.below hb)
  clear hb
  rw [← HSz.out, ← HDp.out]
  go_wp2_with fail
  refine wp_region_can [4, 7, 14, 18, 34, 37] [0, 1, 2, 3, 5, 6, 4, 7, 8, 9, 10, 11, 12, 13, 15, 16, 17, 14, 18, 19, 20, 21, 22, 23, 24, 25, 26, 27, 28, 29, 30, 31, 32, 33, 35, 36, 34, 37, 38, 39, 40] (by decide +kernel) (by decide +kernel) ?_
  replace HO := Lib.hid HO.out.drew
  generalize hWd : World.drew _ = W10 at HO ⊢
  clear hWd
  focus
    obtain ⟨bk, -⟩ := HO.out.blk
    have hbf := lt_of_block bk
    have cb0 := cell_of_heap bk (i := 0)
    have cb1 := cell_of_heap bk (i := 1)
    have cb2 := cell_of_heap bk (i := 2)
    have cb3 := cell_of_heap bk (i := 3)
    have cb4 := cell_of_heap bk (i := 4)
    obtain ⟨bk, -⟩ := HO.out.pop.blk
    have hbg := lt_of_block bk
    have cg0 := cell_of_heap bk (i := 0)
    have cg1 := cell_of_heap bk (i := 1)
    have cg2 := cell_of_heap bk (i := 2)
    have cg3 := cell_of_heap bk (i := 3)
    have cg4 := cell_of_heap bk (i := 4)
    obtain ⟨bk, -⟩ := HO.out.pop.pop.blk
    have hbd := lt_of_block bk
    have cd0 := cell_of_heap bk (i := 0)
    simp only [List.getElem?_toArray, List.getElem?_cons_succ, List.getElem?_cons_zero] at cb0 cb1 cb2 cb3 cb4 cg0 cg1 cg2 cg3 cg4 cd0
    clear bk
    iterate 6 (first | (refine cl_do rfl rfl rfl (by first | rfl | simp [okB, lenV, plainV, Act.eval]) (fun _ _ => ?_); go_wp2_with fail) | (refine cl_yes rfl rfl rfl rfl (by first | rfl | simp [okB, lenV, plainV, Act.eval]) (fun _ _ => ?_); go_wp2_with fail))
    clear cb0 cb1 cb2 cb3 cb4 hbf cg0 cg1 cg2 cg3 cg4 hbg cd0 hbd
  refine cl_ycall (i := 4) rfl rfl rfl (by first | rfl | simp [okB, lenV, plainV, Act.eval]) (fun K hK => ?_)
  go_wp2_with fail
  go_at_call 18
  refine (Check_c f W10 _ d _ (HF.out.later HO.out.base) (HD.out.later HO.out.base) HDm.out HX.out (lim := 60) (by omega) HB4.out.symm HZ.out).mono ?_
  rintro e w2 ⟨rfl, hb⟩
  obtain ⟨z, hz⟩ : ∃ z, z = checkF d f := ⟨_, rfl⟩
  rw [← hz]
  have HZ4 := Lib.hid hz
  replace HO := Lib.hid (HO.out.below hb)
  have Hb := Lib.hid hb
  clear hz hb
  go_wp2_with fail
  refine And.intro Hb.out ?_
  clear Hb
  refine cl_ycall (i := 7) rfl rfl rfl (by first | rfl | simp [okB, lenV, plainV, Act.eval]) (fun K hK => ?_)
  go_wp2_with fail
  go_at_call 19
  refine (rCheck_c f _ _ d _ (HF.out.later HO.out.base) (HD.out.later HO.out.base) HDm.out HX.out (lim := 60) (by omega) HB4.out.symm HZ.out).mono ?_
  rintro e w3 ⟨rfl, hb⟩
  rw [← HZ4.out]
  replace HO := Lib.hid (HO.out.below hb)
  have Hb := Lib.hid hb
  clear hb
  go_wp2_with fail
  refine And.intro Hb.out ?_
  clear Hb
  iterate 3 (first | (refine cl_do rfl rfl rfl (by first | rfl | simp [okB, lenV, plainV, Act.eval]) (fun _ _ => ?_); go_wp2_with fail) | (refine cl_yes rfl rfl rfl rfl (by first | rfl | simp [okB, lenV, plainV, Act.eval]) (fun _ _ => ?_); go_wp2_with fail))
  focus
    obtain ⟨bk, -⟩ := HO.out.blk
    have hbf := lt_of_block bk
    have cb0 := cell_of_heap bk (i := 0)
    have cb1 := cell_of_heap bk (i := 1)
    have cb2 := cell_of_heap bk (i := 2)
    have cb3 := cell_of_heap bk (i := 3)
    have cb4 := cell_of_heap bk (i := 4)
    obtain ⟨bk, -⟩ := HO.out.pop.blk
    have hbg := lt_of_block bk
    have cg0 := cell_of_heap bk (i := 0)
    have cg1 := cell_of_heap bk (i := 1)
    have cg2 := cell_of_heap bk (i := 2)
    have cg3 := cell_of_heap bk (i := 3)
    have cg4 := cell_of_heap bk (i := 4)
    obtain ⟨bk, -⟩ := HO.out.pop.pop.blk
    have hbd := lt_of_block bk
    have cd0 := cell_of_heap bk (i := 0)
    simp only [List.getElem?_toArray, List.getElem?_cons_succ, List.getElem?_cons_zero] at cb0 cb1 cb2 cb3 cb4 cg0 cg1 cg2 cg3 cg4 cd0
    clear bk
    iterate 6 (first | (refine cl_do rfl rfl rfl (by first | rfl | simp [okB, lenV, plainV, Act.eval]) (fun _ _ => ?_); go_wp2_with fail) | (refine cl_yes rfl rfl rfl rfl (by first | rfl | simp [okB, lenV, plainV, Act.eval]) (fun _ _ => ?_); go_wp2_with fail))
    clear cb0 cb1 cb2 cb3 cb4 hbf cg0 cg1 cg2 cg3 cg4 hbg cd0 hbd
  refine cl_ycall (i := 14) rfl rfl rfl (by first | rfl | simp [okB, lenV, plainV, Act.eval]) (fun K hK => ?_)
  go_wp2_with fail
  go_at_call 20
  refine (Holds_c f _ _ d _ c _ (HF.out.later HO.out.base) (HD.out.later HO.out.base) (HC.out.later HO.out.base) HDm.out HCm.out HX.out (lim := 60) (by omega) HB4.out.symm HZ.out).mono ?_
  rintro e w2 ⟨rfl, hb⟩
  obtain ⟨z, hz⟩ : ∃ z, z = holdsF d c f := ⟨_, rfl⟩
  rw [← hz]
  have HZ14 := Lib.hid hz
  replace HO := Lib.hid (HO.out.below hb)
  have Hb := Lib.hid hb
  clear hz hb
  go_wp2_with fail
  refine And.intro Hb.out ?_
  clear Hb
  refine cl_ycall (i := 18) rfl rfl rfl (by first | rfl | simp [okB, lenV, plainV, Act.eval]) (fun K hK => ?_)
  go_wp2_with fail
  go_at_call 21
  refine (rHolds_c f _ _ d _ c _ (HF.out.later HO.out.base) (HD.out.later HO.out.base) (HC.out.later HO.out.base) HDm.out HCm.out HX.out (lim := 60) (by omega) HB4.out.symm HZ.out).mono ?_
  rintro e w3 ⟨rfl, hb⟩
  rw [← HZ14.out]
  replace HO := Lib.hid (HO.out.below hb)
  have Hb := Lib.hid hb
  clear hb
  go_wp2_with fail
  refine And.intro Hb.out ?_
  clear Hb
  iterate 13 (first | (refine cl_do rfl rfl rfl (by first | rfl | simp [okB, lenV, plainV, Act.eval]) (fun _ _ => ?_); go_wp2_with fail) | (refine cl_yes rfl rfl rfl rfl (by first | rfl | simp [okB, lenV, plainV, Act.eval]) (fun _ _ => ?_); go_wp2_with fail))
  focus
    obtain ⟨bk, -⟩ := HO.out.blk
    have hbf := lt_of_block bk
    have cb0 := cell_of_heap bk (i := 0)
    have cb1 := cell_of_heap bk (i := 1)
    have cb2 := cell_of_heap bk (i := 2)
    have cb3 := cell_of_heap bk (i := 3)
    have cb4 := cell_of_heap bk (i := 4)
    obtain ⟨bk, -⟩ := HO.out.pop.blk
    have hbg := lt_of_block bk
    have cg0 := cell_of_heap bk (i := 0)
    have cg1 := cell_of_heap bk (i := 1)
    have cg2 := cell_of_heap bk (i := 2)
    have cg3 := cell_of_heap bk (i := 3)
    have cg4 := cell_of_heap bk (i := 4)
    obtain ⟨bk, -⟩ := HO.out.pop.pop.blk
    have hbd := lt_of_block bk
    have cd0 := cell_of_heap bk (i := 0)
    simp only [List.getElem?_toArray, List.getElem?_cons_succ, List.getElem?_cons_zero] at cb0 cb1 cb2 cb3 cb4 cg0 cg1 cg2 cg3 cg4 cd0
    clear bk
    iterate 4 (first | (refine cl_do rfl rfl rfl (by first | rfl | simp [okB, lenV, plainV, Act.eval]) (fun _ _ => ?_); go_wp2_with fail) | (refine cl_yes rfl rfl rfl rfl (by first | rfl | simp [okB, lenV, plainV, Act.eval]) (fun _ _ => ?_); go_wp2_with fail))
    clear cb0 cb1 cb2 cb3 cb4 hbf cg0 cg1 cg2 cg3 cg4 hbg cd0 hbd
  refine cl_ycall (i := 34) rfl rfl rfl (by first | rfl | simp [okB, lenV, plainV, Act.eval]) (fun K hK => ?_)
  go_wp2_with fail
  go_at_call 22
  refine (Same_c (p := fun _ => True) _ f g _ _ _ (Below.refl _ _) (HF.out.later HO.out.base) (HG.out.later HO.out.base) HZ.out HZ2.out).mono ?_
  rintro e w2 ⟨rfl, hb⟩
  obtain ⟨z, hz⟩ : ∃ z, z = sameF f g := ⟨_, rfl⟩
  rw [← hz]
  have HZ34 := Lib.hid hz
  replace HO := Lib.hid (HO.out.below hb)
  have Hb := Lib.hid hb
  clear hz hb
  go_wp2_with fail
  refine And.intro Hb.out ?_
  clear Hb
  refine cl_ycall (i := 37) rfl rfl rfl (by first | rfl | simp [okB, lenV, plainV, Act.eval]) (fun K hK => ?_)
  go_wp2_with fail
  go_at_call 23
  refine (rSame_c (p := fun _ => True) _ f g _ _ _ (Below.refl _ _) (HF.out.later HO.out.base) (HG.out.later HO.out.base) HZ.out HZ2.out).mono ?_
  rintro e w3 ⟨rfl, hb⟩
  rw [← HZ34.out]
  replace HO := Lib.hid (HO.out.below hb)
  have Hb := Lib.hid hb
  clear hb
  go_wp2_with fail
  refine And.intro Hb.out ?_
  clear Hb
  iterate 3 (first | (refine cl_do rfl rfl rfl (by first | rfl | simp [okB, lenV, plainV, Act.eval]) (fun _ _ => ?_); go_wp2_with fail) | (refine cl_yes rfl rfl rfl rfl (by first | rfl | simp [okB, lenV, plainV, Act.eval]) (fun _ _ => ?_); go_wp2_with fail))
  refine cl_nil ?_
  go_wp2_with fail
  go_ret
  exact ⟨rfl, HO.out.base⟩
end Go.Proofs.YtagoefnibgobcaaGreatDoor
