/-
  'FormulaParts' returns true: the walk.
-/
import Derived.Test.YtagoefnibgobcaaGreatDoorFmFew
import Derived.Test.YtagoefnibgobcaaGreatDoorFmLaw2
import Derived.Test.YtagoefnibgobcaaGreatDoorFmHdL
namespace Go.Cz.Fo
open Go.Cz.Lx
theorem good_of {d : List Fact} {c : List Int} {f : Fm} (h : goodB d c f = true) : Good d c f ∧ short 60 f = true ∧ fewB d c = true := by
  unfold goodB at h
  simp only [Bool.and_eq_true, decide_eq_true_eq] at h
  exact ⟨⟨h.1, h.2.2.2.2.1, h.2.2.2.1, h.2.2.2.2.2⟩, h.2.1, h.2.2.1⟩
end Go.Cz.Fo
namespace Go.Proofs.YtagoefnibgobcaaGreatDoor
open Go.RowKit Go.Cz Go.Cz.Lx Go.Cz.Fo
set_option linter.unusedSimpArgs false
set_option linter.unusedVariables false
attribute [local go_sem] bs_size bs_extract bs_append bs_toList
attribute [local irreducible] cList cPlan
set_option maxRecDepth 100000 in
set_option maxHeartbeats 8000000 in
theorem FormulaParts_walk (w : World) (hs : Std w) (f : Fm) (kv : Value) (hf : IsFm (fun _ => True) w f kv) (d : List Fact) (v : Value) (hd : IsD w d v) (hn : d.length ≤ 9223372036854775807) (c : List Int) (u : Value) (hc : IsC w c u) (hm : c.length ≤ 9223372036854775807) (op : Int) (hop : (Lit.int .i64 op).wf = true) :
    Calls Tryz.prog 9 #[fval f kv, .agg #[v], u, .int .i64 op] w fun e w' => e = .returned (.bool true) ∧ Below w.heap.size w w' := by
  have HS := Lib.hid hs
  have HD := Lib.hid hd
  have HC := Lib.hid hc
  have HDn := Lib.hid hn
  clear hs hd hc hn hm hop
  obtain ⟨yd, md, hv⟩ := HD.out.form
  subst hv
  obtain ⟨M, hM⟩ : ∃ M, M = d.length := ⟨_, rfl⟩
  rw [← hM] at HD ⊢
  obtain ⟨yc, mc, hv⟩ := HC.out.form
  subst hv
  obtain ⟨Mc, hMc⟩ : ∃ Mc, Mc = c.length := ⟨_, rfl⟩
  rw [← hMc] at HC ⊢
  clear hM hMc
  obtain ⟨y, m, rfl⟩ := hf.form
  obtain ⟨N, hN⟩ : ∃ N, N = f.kids.length := ⟨_, rfl⟩
  have HN := Lib.hid hN
  rw [← hN] at hf ⊢
  have HF := Lib.hid hf
  clear hN hf
  obtain ⟨W1, hW1⟩ : ∃ W1, W1 = (w.alloc (fobj f (.slice y N m))).alloc (.cells #[.slice yd M md] 27) := ⟨_, rfl⟩
  obtain ⟨bf, hbf⟩ : ∃ bf, bf = w.heap.size := ⟨_, rfl⟩
  obtain ⟨bd, hbd⟩ : ∃ bd, bd = w.heap.size + 1 := ⟨_, rfl⟩
  have HO : Hid (Owns w W1 [blk bf (fobj f (.slice y N m)), blk bd (.cells #[.slice yd M md] 27 (0, 0))]) := by
    rw [hW1, hbf, hbd]
    have h := ((Owns.start w).box (fobj f (.slice y N m))).box (.cells #[.slice yd M md] 27 (0, 0))
    simp only [World.size_alloc] at h
    exact Lib.hid h.swap
  go_enter Tryz.func9, Tryz.ntmps9
  go_wp2_with fail
  rw [← hW1]
  try rw [← hbd]
  try rw [← hbf]
  clear hW1 hbf hbd
  go_at_call 12
  refine (head_c W1 (HS.out.below HO.out.base)).mono ?_
  rintro e W2 ⟨rfl, hb⟩
  replace HO := Lib.hid (HO.out.below hb)
  clear hb
  focus
    obtain ⟨bk, -⟩ := HO.out.blk
    have hbf := lt_of_block bk
    have cb0 := cell_of_heap bk (i := 0)
    have cb1 := cell_of_heap bk (i := 1)
    have cb2 := cell_of_heap bk (i := 2)
    have cb3 := cell_of_heap bk (i := 3)
    have cb4 := cell_of_heap bk (i := 4)
    obtain ⟨bk, -⟩ := HO.out.pop.blk
    have hbd := lt_of_block bk
    have cd0 := cell_of_heap bk (i := 0)
    simp only [List.getElem?_toArray, List.getElem?_cons_succ, List.getElem?_cons_zero] at cb0 cb1 cb2 cb3 cb4 cd0
    clear bk
    go_wp2_with fail
    clear cb0 cb1 cb2 cb3 cb4 hbf cd0 hbd
  go_at_call 28
  refine (good_c f W2 _ d _ c _ (HF.out.later HO.out.base) (HD.out.later HO.out.base) (HC.out.later HO.out.base) HDn.out).mono ?_
  rintro e W3 ⟨rfl, hb⟩
  replace HO := Lib.hid (HO.out.below hb)
  clear hb
  obtain ⟨b, hb0⟩ : ∃ b, b = goodB d c f := ⟨_, rfl⟩
  have HB := Lib.hid hb0
  rw [← hb0]
  clear hb0
  cases b
  · go_wp2_with fail
    go_ret
    exact ⟨rfl, HO.out.base⟩
  obtain ⟨hG, hsh, hfe⟩ := good_of HB.out.symm
  have HG := Lib.hid hG
  have HSh := Lib.hid hsh
  have HFw := Lib.hid (few_names hfe)
  have HX : Hid (∀ x ∈ d, x.name.length ≤ 140737488355328) := fun x hx => by have := HFw.out.1 x hx; omega
  have HDm : Hid (d.length ≤ 1000000) := by have := HFw.out.2.1; show _ ≤ _; omega
  have HCm : Hid (c.length ≤ 1000000) := by have := HFw.out.2.2; show _ ≤ _; omega
  have HZ : Hid (size f ≤ 60) := Lib.hid hG.small
  have hN9 : N ≤ 1000 := by have := HN.out; have h1 := length_sizes f.kids; have h2 := hG.small; rw [size_kids] at h2; omega
  clear hG hsh hfe
  go_wp2_with fail
  have HO0 := HO
  clear HO
  go_loopg [10] N (fun gk i wr => ∃ k : Nat, gk = N - k ∧ k ≤ N ∧ i = .int .i64 (k : Int) ∧ Hid (Owns w wr [blk bf (fobj f (.slice y N m)), blk bd (.cells #[.slice yd M md] 27 (0, 0))]))
  case atStart => exact ⟨0, rfl, Nat.zero_le _, rfl, HO0⟩
  case round =>
    rename_i J1 K1 hJ1 hK1
    clear HO0
    obtain ⟨k, rfl, hk, rfl, HO⟩ := hrel
    by_cases hlt : k < N
    · obtain ⟨q, hq⟩ : ∃ q, f.kids[k]? = some q := ⟨_, List.getElem?_eq_getElem (by rw [← HN.out]; exact hlt)⟩
      focus
        obtain ⟨bk, -⟩ := HO.out.blk
        have hbf := lt_of_block bk
        have cb0 := cell_of_heap bk (i := 0)
        have cb1 := cell_of_heap bk (i := 1)
        have cb2 := cell_of_heap bk (i := 2)
        have cb3 := cell_of_heap bk (i := 3)
        have cb4 := cell_of_heap bk (i := 4)
        obtain ⟨bk, -⟩ := HO.out.pop.blk
        have hbd := lt_of_block bk
        have cd0 := cell_of_heap bk (i := 0)
        simp only [List.getElem?_toArray, List.getElem?_cons_succ, List.getElem?_cons_zero] at cb0 cb1 cb2 cb3 cb4 cd0
        clear bk
        go_wp2_with fail
        clear cb0 cb1 cb2 cb3 cb4 hbf cd0 hbd
      refine wp_region_can [6] (List.range 8) (by decide +kernel) (by decide +kernel) ?_
      replace HO := Lib.hid HO.out.drew
      obtain ⟨W5, hW5⟩ : ∃ W5, W5 = wr.drew := ⟨_, rfl⟩
      rw [← hW5] at HO ⊢
      clear hW5
      obtain ⟨g, off, kv, rfl, hg, hkv, c0, c1, c2, c3, c4⟩ := HF.out.old HO.out.base hq
      obtain ⟨y2, m2, rfl⟩ := hkv.form
      have HQ := Lib.hid hq
      have HK := Lib.hid hkv
      clear hq hkv
      obtain ⟨N2, hN2⟩ : ∃ N2, N2 = q.kids.length := ⟨_, rfl⟩
      rw [← hN2] at c4 HK
      clear hN2
      focus
        obtain ⟨bk, -⟩ := HO.out.blk
        have hbf := lt_of_block bk
        have cb0 := cell_of_heap bk (i := 0)
        have cb1 := cell_of_heap bk (i := 1)
        have cb2 := cell_of_heap bk (i := 2)
        have cb3 := cell_of_heap bk (i := 3)
        have cb4 := cell_of_heap bk (i := 4)
        obtain ⟨bk, -⟩ := HO.out.pop.blk
        have hbd := lt_of_block bk
        have cd0 := cell_of_heap bk (i := 0)
        simp only [List.getElem?_toArray, List.getElem?_cons_succ, List.getElem?_cons_zero] at cb0 cb1 cb2 cb3 cb4 cd0
        clear bk
        iterate 6 (first | (refine cl_do rfl rfl rfl (by first | rfl | simp [okB, lenV, plainV, Act.eval]) (fun _ _ => ?_); go_wp2_with fail) | (refine cl_yes rfl rfl rfl rfl (by first | rfl | simp [okB, lenV, plainV, Act.eval]) (fun _ _ => ?_); go_wp2_with fail))
        clear cb0 cb1 cb2 cb3 cb4 hbf cd0 hbd
        clear c0 c1 c2 c3 c4 hg
      refine cl_call (i := 6) rfl rfl (by first | rfl | simp [okB, lenV, plainV, Act.eval]) (fun K hK => ?_)
      go_wp2_with fail
      go_at_call 18
      have hmq := List.mem_of_getElem? HQ.out
      refine (Check_c q W5 _ d _ (HK.out.later HO.out.base) (HD.out.later HO.out.base) HDm.out HX.out (lim := 60) (by omega) (short_kid HSh.out hmq) (by have := HZ.out; rw [size_kids] at this; have := size_mem hmq; omega)).mono ?_
      rintro e W6 ⟨rfl, hb⟩
      rw [part_kid HG.out.check hmq]
      replace HO := Lib.hid (HO.out.below hb)
      have Hb := Lib.hid hb
      clear hb hmq
      go_wp2_with fail
      refine And.intro Hb.out ?_
      clear Hb
      iterate 1 (first | (refine cl_do rfl rfl rfl (by first | rfl | simp [okB, lenV, plainV, Act.eval]) (fun _ _ => ?_); go_wp2_with fail) | (refine cl_yes rfl rfl rfl rfl (by first | rfl | simp [okB, lenV, plainV, Act.eval]) (fun _ _ => ?_); go_wp2_with fail))
      refine cl_nil ?_
      go_wp2_with fail
      go_roundg (N - (k + 1))
      case measure => omega
      case rel => exact ⟨k + 1, rfl, by omega, by go_num, HO⟩
    · obtain rfl : k = N := by omega
      clear hJ1 hK1 hlt
      -- the node beside
      obtain ⟨W7, hW7⟩ : ∃ W7, W7 = wr.alloc (.cells #[.int .i64 f.op, .string (bs f.name), .int .i64 f.cmp, .int .i64 f.num, .slice y k m, .int .i64 op, .string ⟨#[]⟩, .int .i64 7, .int .i64 0, .slice none 0 0] 24) := ⟨_, rfl⟩
      obtain ⟨yb, hyb⟩ : ∃ yb, yb = wr.heap.size := ⟨_, rfl⟩
      focus
        obtain ⟨bk, -⟩ := HO.out.blk
        have hbf := lt_of_block bk
        have cb0 := cell_of_heap bk (i := 0)
        have cb1 := cell_of_heap bk (i := 1)
        have cb2 := cell_of_heap bk (i := 2)
        have cb3 := cell_of_heap bk (i := 3)
        have cb4 := cell_of_heap bk (i := 4)
        obtain ⟨bk, -⟩ := HO.out.pop.blk
        have hbd := lt_of_block bk
        have cd0 := cell_of_heap bk (i := 0)
        simp only [List.getElem?_toArray, List.getElem?_cons_succ, List.getElem?_cons_zero] at cb0 cb1 cb2 cb3 cb4 cd0
        clear bk
        go_wp2_with fail
        rw [← hW7, ← hyb]
        clear cb0 cb1 cb2 cb3 cb4 hbf cd0 hbd
      have hb7 : Below wr.heap.size wr W7 := by rw [hW7]; exact (Below.refl _ _).alloc (Nat.le_refl _) _
      have hr : W7.heap[yb]? = some (.cells (kidCells [(f, .slice y k m), (.mk op [] 7 0 [], .slice none 0 0)]).toArray 24 (0, 0)) := by
        rw [hW7, hyb]; exact new_heap _ _ _ rfl
      have hf7 : IsFm (fun _ => True) W7 f (.slice y k m) := HF.out.later (HO.out.below hb7).base
      have HFB : Hid (IsFm (fun _ => True) W7 (.mk 6 [] 0 0 [f, .mk op [] 7 0 []]) (.slice (some ⟨yb, 0, none⟩) 2 2)) := Lib.hid (IsFm.row _ hr (by
        intro q hq
        simp only [List.mem_cons, List.not_mem_nil, or_false] at hq
        rcases hq with rfl | rfl
        · exact hf7
        · exact .leaf _ _ _ _ _ _) trivial (Nat.le_refl _) 6 [] 0 0)
      replace HO := Lib.hid (HO.out.below hb7)
      clear hW7 hyb hb7 hr hf7
      go_at_call 29
      refine (both_c 6 _ 2 2 W7).mono ?_
      rintro e W8 ⟨rfl, hb⟩
      replace HO := Lib.hid (HO.out.below hb)
      replace HFB := Lib.hid (HFB.out.later hb)
      clear hb
      obtain ⟨W9, hW9⟩ : ∃ W9, W9 = W8.alloc (.cells #[.int .i64 6, .string (bs []), .int .i64 0, .int .i64 0, .slice (some ⟨yb, 0, none⟩) 2 2] 24) := ⟨_, rfl⟩
      obtain ⟨b11, hb11⟩ : ∃ b11, b11 = W8.heap.size := ⟨_, rfl⟩
      have hb9 : Below W8.heap.size W8 W9 := by rw [hW9]; exact (Below.refl _ _).alloc (Nat.le_refl _) _
      have HB11 : Hid (W9.heap[b11]? = some (.cells #[.int .i64 6, .string (bs []), .int .i64 0, .int .i64 0, .slice (some ⟨yb, 0, none⟩) 2 2] 24 (0, 0))) := by
        rw [hW9, hb11]; exact Lib.hid (new_heap _ _ _ rfl)
      have HO8 := HO
      replace HO := Lib.hid (HO.out.below hb9)
      replace HFB := Lib.hid (HFB.out.later hb9)
      focus
        obtain ⟨bk, -⟩ := HO8.out.pop.blk
        have hbd := lt_of_block bk
        have cd0 := cell_of_heap bk (i := 0)
        simp only [List.getElem?_toArray, List.getElem?_cons_succ, List.getElem?_cons_zero] at cd0
        clear bk HO8
        go_wp2_with fail
        rw [← hW9]
        try rw [← hb11]
        clear hW9 hb9 hb11 hbd cd0
      go_at_call 18
      refine (Check_c _ W9 _ d _ HFB.out (HD.out.later HO.out.base) HDm.out HX.out (lim := 60) (by omega) (by have := HSh.out; simp [short, shorts, this]) (by have := HZ.out; simp [size, sizes]; omega)).mono ?_
      rintro e W10 ⟨rfl, hb⟩
      rw [part_beside HG.out op]
      have HBe : Hid (checkF d (.mk 6 [] 0 0 [f, .mk op [] 7 0 []]) = 1) := Lib.hid (part_beside HG.out op)
      replace HO := Lib.hid (HO.out.below hb)
      replace HFB := Lib.hid (HFB.out.later hb)
      replace HB11 : Hid (W10.heap[b11]? = some (.cells #[.int .i64 6, .string (bs []), .int .i64 0, .int .i64 0, .slice (some ⟨yb, 0, none⟩) 2 2] 24 (0, 0))) := Lib.hid ((hb.block _ (lt_of_block HB11.out)).trans HB11.out)
      clear hb
      focus
        obtain ⟨bk, -⟩ := HO.out.blk
        have hbf := lt_of_block bk
        have cb0 := cell_of_heap bk (i := 0)
        have cb1 := cell_of_heap bk (i := 1)
        have cb2 := cell_of_heap bk (i := 2)
        have cb3 := cell_of_heap bk (i := 3)
        have cb4 := cell_of_heap bk (i := 4)
        obtain ⟨bk, -⟩ := HO.out.pop.blk
        have hbd := lt_of_block bk
        have cd0 := cell_of_heap bk (i := 0)
        simp only [List.getElem?_toArray, List.getElem?_cons_succ, List.getElem?_cons_zero] at cb0 cb1 cb2 cb3 cb4 cd0
        clear bk
        have c0 := cell_of_heap HB11.out (i := 0)
        have c1 := cell_of_heap HB11.out (i := 1)
        have c2 := cell_of_heap HB11.out (i := 2)
        have c3 := cell_of_heap HB11.out (i := 3)
        have c4 := cell_of_heap HB11.out (i := 4)
        simp only [List.getElem?_toArray, List.getElem?_cons_succ, List.getElem?_cons_zero] at c0 c1 c2 c3 c4
        go_wp2_with fail
        clear cb0 cb1 cb2 cb3 cb4 hbf cd0 hbd
        clear c0 c1 c2 c3 c4
      go_at_call 20
      refine (Holds_c _ W10 _ d _ c _ HFB.out (HD.out.later HO.out.base) (HC.out.later HO.out.base) HDm.out HCm.out HX.out (lim := 60) (by omega) (by have := HSh.out; simp [short, shorts, this]) (by have := HZ.out; simp [size, sizes]; omega)).mono ?_
      rintro e W11 ⟨rfl, hb⟩
      rw [holds_check HBe.out]
      replace HO := Lib.hid (HO.out.below hb)
      clear hb HFB HB11 HBe
      by_cases h3 : f.op = 3
      · have h3' : (f.op == 3) = true := by simpa using h3
        have HP := Lib.hid (part_test HG.out h3)
        have H3 := Lib.hid h3
        clear h3
        focus
          obtain ⟨bk, -⟩ := HO.out.blk
          have hbf := lt_of_block bk
          have cb0 := cell_of_heap bk (i := 0)
          have cb1 := cell_of_heap bk (i := 1)
          have cb2 := cell_of_heap bk (i := 2)
          have cb3 := cell_of_heap bk (i := 3)
          have cb4 := cell_of_heap bk (i := 4)
          obtain ⟨bk, -⟩ := HO.out.pop.blk
          have hbd := lt_of_block bk
          have cd0 := cell_of_heap bk (i := 0)
          simp only [List.getElem?_toArray, List.getElem?_cons_succ, List.getElem?_cons_zero] at cb0 cb1 cb2 cb3 cb4 cd0
          clear bk
          go_wp2_with fail
          clear cb0 cb1 cb2 cb3 cb4 hbf cd0 hbd
        obtain ⟨W12, hW12⟩ : ∃ W12, W12 = (W11.alloc (.cells #[.int .i64 f.op, .string (bs f.name), .int .i64 f.cmp, .int .i64 f.num, .slice (some ⟨W11.heap.size + 1, 0, none⟩) 1 1] 24)).alloc (.cells #[.int .i64 1, .string ⟨#[]⟩, .int .i64 0, .int .i64 0, .slice none 0 0] 24) := ⟨_, rfl⟩
        obtain ⟨y1, hy1⟩ : ∃ y1, y1 = W11.heap.size + 1 := ⟨_, rfl⟩
        have hb12 : Below W11.heap.size W11 W12 := by rw [hW12]; exact ((Below.refl _ _).alloc (Nat.le_refl _) _).alloc (by simp) _
        have hr : W12.heap[y1]? = some (.cells (kidCells [(.mk 1 [] 0 0 [], .slice none 0 0)]).toArray 24 (0, 0)) := by
          rw [hW12, hy1]; exact new_heap _ _ _ (by simp)
        have HFK : Hid (IsFm (fun _ => True) W12 (.mk f.op f.name f.cmp f.num [.mk 1 [] 0 0 []]) (.slice (some ⟨y1, 0, none⟩) 1 1)) := Lib.hid (IsFm.row _ hr (by simp; exact .leaf _ _ _ _ _ _) trivial (Nat.le_refl _) f.op f.name f.cmp f.num)
        replace HO := Lib.hid (HO.out.below hb12)
        rw [← hW12, ← hy1]
        clear hW12 hy1 hb12 hr
        go_at_call 18
        refine (Check_c _ W12 _ d _ HFK.out (HD.out.later HO.out.base) HDm.out HX.out (lim := 60) (by omega) (by have := short_name HSh.out; simp [short, shorts, this]) (by simp [size, sizes])).mono ?_
        rintro e W13 ⟨rfl, hb⟩
        rw [show checkF d (.mk f.op f.name f.cmp f.num [.mk 1 [] 0 0 []]) = 1 by rw [H3.out]; exact HP.out]
        replace HO := Lib.hid (HO.out.below hb)
        clear hb
        go_wp2_with fail
        go_ret
        exact ⟨rfl, HO.out.base⟩
      · have h3' : (f.op == 3) = false := by simpa using h3
        have HP1 := Lib.hid (part_name HG.out h3)
        have HP2 := Lib.hid (part_num HG.out h3)
        clear h3
        focus
          obtain ⟨bk, -⟩ := HO.out.blk
          have hbf := lt_of_block bk
          have cb0 := cell_of_heap bk (i := 0)
          have cb1 := cell_of_heap bk (i := 1)
          have cb2 := cell_of_heap bk (i := 2)
          have cb3 := cell_of_heap bk (i := 3)
          have cb4 := cell_of_heap bk (i := 4)
          obtain ⟨bk, -⟩ := HO.out.pop.blk
          have hbd := lt_of_block bk
          have cd0 := cell_of_heap bk (i := 0)
          simp only [List.getElem?_toArray, List.getElem?_cons_succ, List.getElem?_cons_zero] at cb0 cb1 cb2 cb3 cb4 cd0
          clear bk
          go_wp2_with fail
          clear cb0 cb1 cb2 cb3 cb4 hbf cd0 hbd
        obtain ⟨W12, hW12⟩ : ∃ W12, W12 = (W11.alloc (.cells #[.int .i64 f.op, .string ⟨#[97]⟩, .int .i64 f.cmp, .int .i64 f.num, .slice y k m] 24)).alloc (.cells #[.int .i64 f.op, .string (bs f.name), .int .i64 f.cmp, .int .i64 1, .slice y k m] 24) := ⟨_, rfl⟩
        obtain ⟨b14, hb14⟩ : ∃ b14, b14 = W11.heap.size + 1 := ⟨_, rfl⟩
        have hb12 : Below W11.heap.size W11 W12 := by rw [hW12]; exact ((Below.refl _ _).alloc (Nat.le_refl _) _).alloc (by simp) _
        have HB14 : Hid (W12.heap[b14]? = some (.cells #[.int .i64 f.op, .string (bs f.name), .int .i64 f.cmp, .int .i64 1, .slice y k m] 24 (0, 0))) := by
          rw [hW12, hb14]; exact Lib.hid (new_heap _ _ _ (by simp))
        replace HO := Lib.hid (HO.out.below hb12)
        have hzz : sizes f.kids ≤ 60 := by have := HZ.out; rw [size_kids] at this; omega
        have hss : shorts 60 f.kids = true := by have := HSh.out; rw [short_kids, Bool.and_eq_true] at this; exact this.1
        have hsn := short_name HSh.out
        have HA : Hid (sizes f.kids ≤ 60 ∧ shorts 60 f.kids = true ∧ f.name.length ≤ 60) := ⟨hzz, hss, hsn⟩
        rw [← hW12]
        try rw [← hb14]
        clear hW12 hb14 hb12 hzz hss hsn
        go_at_call 18
        refine (Check_c (.mk f.op [97] f.cmp f.num f.kids) W12 _ d _ (IsFm.head (HF.out.later HO.out.base)) (HD.out.later HO.out.base) HDm.out HX.out (lim := 60) (by omega) (by rw [short, HA.out.2.1]; rfl) (by rw [size]; have := HA.out.1; omega)).mono ?_
        rintro e W13 ⟨rfl, hb⟩
        rw [HP1.out]
        replace HO := Lib.hid (HO.out.below hb)
        replace HB14 : Hid (W13.heap[b14]? = some (.cells #[.int .i64 f.op, .string (bs f.name), .int .i64 f.cmp, .int .i64 1, .slice y k m] 24 (0, 0))) := Lib.hid ((hb.block _ (lt_of_block HB14.out)).trans HB14.out)
        clear hb
        focus
          obtain ⟨bk, -⟩ := HO.out.blk
          have hbf := lt_of_block bk
          have cb0 := cell_of_heap bk (i := 0)
          have cb1 := cell_of_heap bk (i := 1)
          have cb2 := cell_of_heap bk (i := 2)
          have cb3 := cell_of_heap bk (i := 3)
          have cb4 := cell_of_heap bk (i := 4)
          obtain ⟨bk, -⟩ := HO.out.pop.blk
          have hbd := lt_of_block bk
          have cd0 := cell_of_heap bk (i := 0)
          simp only [List.getElem?_toArray, List.getElem?_cons_succ, List.getElem?_cons_zero] at cb0 cb1 cb2 cb3 cb4 cd0
          clear bk
          have c0 := cell_of_heap HB14.out (i := 0)
          have c1 := cell_of_heap HB14.out (i := 1)
          have c2 := cell_of_heap HB14.out (i := 2)
          have c3 := cell_of_heap HB14.out (i := 3)
          have c4 := cell_of_heap HB14.out (i := 4)
          have hb14 := lt_of_block HB14.out
          simp only [List.getElem?_toArray, List.getElem?_cons_succ, List.getElem?_cons_zero] at c0 c1 c2 c3 c4
          go_wp2_with fail
          clear cb0 cb1 cb2 cb3 cb4 hbf cd0 hbd
          clear c0 c1 c2 c3 c4 hb14
        go_at_call 18
        refine (Check_c (.mk f.op f.name f.cmp 1 f.kids) W13 _ d _ (IsFm.head (HF.out.later HO.out.base)) (HD.out.later HO.out.base) HDm.out HX.out (lim := 60) (by omega) (by rw [short, HA.out.2.1, decide_eq_true HA.out.2.2]; rfl) (by rw [size]; have := HA.out.1; omega)).mono ?_
        rintro e W14 ⟨rfl, hb⟩
        rw [HP2.out]
        replace HO := Lib.hid (HO.out.below hb)
        clear hb
        go_wp2_with fail
        go_ret
        exact ⟨rfl, HO.out.base⟩
end Go.Proofs.YtagoefnibgobcaaGreatDoor
