/-
  'VerdictFurther' returns true: the walk.
-/
import Derived.Test.YtakadfdnhlfijaaGreatDoorVdAppend
namespace Go.Proofs.YtakadfdnhlfijaaGreatDoor
open Go.RowKit Go.Cz Go.Cz.Lx Go.Cz.Fo Go.Cz.Vd
set_option linter.unusedSimpArgs false
set_option linter.unusedVariables false
attribute [local go_sem] bs_size bs_extract bs_append bs_toList
attribute [local irreducible] cList cPlan
set_option maxRecDepth 100000 in
set_option maxHeartbeats 16000000 in
theorem VerdictFurther_walk (w : World) (l : List Me) (lv : Value) (hl : MeBig w l lv) (m : Me) (kv : Value) (hm : MIn w m kv) (s : Sc) (vd va vz vc : Value) (hs : ScIn w s vd va vz vc) :
    Calls Tryz.prog 6 #[lv, mval m kv, sval s vd va vz vc] w fun e w' => e = .returned (.bool true) ∧ Below w.heap.size w w' := by
  have HML := Lib.hid hl
  have HMm := Lib.hid hm
  obtain ⟨y, c, rfl⟩ := hl.inn.row.form
  obtain ⟨N, hN⟩ : ∃ N, N = l.length := ⟨_, rfl⟩
  have HN := Lib.hid hN
  obtain ⟨ky, kc, rfl⟩ := hm.fm.form
  obtain ⟨nk, hnk⟩ : ∃ n, n = m.cond.kids.length := ⟨_, rfl⟩
  rw [← hnk] at HMm ⊢
  clear hl hm hnk
  obtain ⟨yd, md, rfl⟩ := hs.sc.dom.form
  obtain ⟨ya, ma, rfl⟩ := hs.sc.auths.form
  obtain ⟨yz, mz, rfl⟩ := hs.sc.zones.form
  obtain ⟨yc, mc, rfl⟩ := hs.sc.cases.form
  have HS := Lib.hid hs
  have HSs := Lib.hid hs.sc
  obtain ⟨ND, hND⟩ : ∃ n, n = s.dom.length := ⟨_, rfl⟩
  obtain ⟨NA, hNA⟩ : ∃ n, n = s.auths.length := ⟨_, rfl⟩
  obtain ⟨NZ, hNZ⟩ : ∃ n, n = s.zones.length := ⟨_, rfl⟩
  obtain ⟨NC, hNC⟩ : ∃ n, n = s.cases.length := ⟨_, rfl⟩
  rw [← hND, ← hNA, ← hNZ, ← hNC] at HS HSs ⊢
  clear hs
  rw [← hN] at HML ⊢
  clear hN hND hNA hNZ hNC
  obtain ⟨W1, hW1⟩ : ∃ W1, W1 = (w.alloc (mobj m (.slice ky nk kc))).alloc (sobj s (.slice yd ND md) (.slice ya NA ma) (.slice yz NZ mz) (.slice yc NC mc)) := ⟨_, rfl⟩
  obtain ⟨bm, hbm⟩ : ∃ b, b = w.heap.size := ⟨_, rfl⟩
  obtain ⟨bx, hbx⟩ : ∃ b, b = bm + 1 := ⟨_, rfl⟩
  have HO : Hid (Owns w W1 [blk bx (sobj s (.slice yd ND md) (.slice ya NA ma) (.slice yz NZ mz) (.slice yc NC mc)), blk bm (mobj m (.slice ky nk kc))]) := by
    rw [hW1, hbx, hbm]
    have := ((Owns.start w).box (mobj m (.slice ky nk kc))).box (sobj s (.slice yd ND md) (.slice ya NA ma) (.slice yz NZ mz) (.slice yc NC mc))
    rw [World.size_alloc] at this
    exact Lib.hid this
  go_enter Tryz.func6, Tryz.ntmps6
  go_wp2_with fail
  rw [← hW1, ← hbm, ← hbx]
  clear hW1 hbm hbx
  go_at_call 9
  refine (head_c W1).mono ?_
  rintro e W2 ⟨rfl, hb⟩
  replace HO := Lib.hid (HO.out.below hb)
  clear hb
  go_wp2_with fail
  apply cut3v (Hyp := fun b c u v W => Hid (∃ LL : List (Me × Value), LL.map Prod.fst = l ++ [m] ∧ (∀ p ∈ LL, IsFm (fun _ => True) w p.1.cond p.2) ∧ Owns w W [meP v LL, blk bx (sobj s (.slice yd ND md) (.slice ya NA ma) (.slice yz NZ mz) (.slice yc NC mc)), blk bm (mobj m (.slice ky nk kc))]))
  focus
    intro key
    refine wp_region_plan [] (.step 1 (.fork 0 (.fork 2 (.step 3 (.step 4 (.step 5 (.step 6 .done)))) 3 (.fork 2 (.step 4 (.step 5 (.step 6 .done))) 4 (.step 2 (.step 5 (.step 6 .done))))) 3 (.fork 0 (.fork 2 (.step 4 (.step 5 (.step 6 .done))) 4 (.step 2 (.step 5 (.step 6 .done)))) 4 (.step 0 (.step 2 (.step 5 (.step 6 .done))))))) (by decide +kernel) (by decide +kernel) ?_
    replace HO := Lib.hid HO.out.drew
    obtain ⟨W3, hW3⟩ : ∃ W, W = W2.drew := ⟨_, rfl⟩
    rw [← hW3] at HO ⊢
    clear hW3
    refine cp_do rfl rfl rfl rfl (fun _ _ => ?_)
    go_wp2_with fail
    refine cp_fork ?_ ?_
    focus
      refine cp_do rfl rfl rfl rfl (fun _ _ => ?_)
      have hoA := Owns.meLit0 HO.out
      obtain ⟨g0, hg0⟩ : ∃ g, g = (W3).heap.size := ⟨_, rfl⟩
      obtain ⟨W4, hWn⟩ : ∃ W, W = (W3).alloc (.cells #[] 46) := ⟨_, rfl⟩
      rw [← hWn, ← hg0] at hoA
      replace HO := Lib.hid hoA
      clear hoA
      go_wp2_with fail
      rw [← hWn, ← hg0]
      clear hWn hg0
      refine cp_fork ?_ ?_
      focus
        refine cp_do rfl rfl rfl rfl (fun K hK => ?_)
        refine wp_append_mes (.tmp 16) (.tmp 17) (by rfl) _ (by rfl) (Owns.meRow HO.out) l _ (by rfl) w HML.out.inn.row HO.out.base HML.out.big ?_
        intro L hL hLf v' W5 hrow hgrow hblk
        have ho2 := Owns.meGrew (L' := L) HO.out hrow hgrow hblk
        replace HO := Lib.hid ho2
        have HLL := Lib.hid hL
        have HLf := Lib.hid hLf
        clear ho2 hrow hgrow hblk hL hLf
        go_wp2_with fail
        obtain ⟨bk, -⟩ := (Owns.drop HO.out 2).blk
        have h8 := lt_of_block bk
        have d0 := cell_of_heap bk (i := 0)
        have d1 := cell_of_heap bk (i := 1)
        have d2 := cell_of_heap bk (i := 2)
        have d3 := cell_of_heap bk (i := 3)
        have d4 := cell_of_heap bk (i := 4)
        have d5 := cell_of_heap bk (i := 5)
        have d6 := cell_of_heap bk (i := 6)
        have d7 := cell_of_heap bk (i := 7)
        have d8 := cell_of_heap bk (i := 8)
        have d9 := cell_of_heap bk (i := 9)
        have d10 := cell_of_heap bk (i := 10)
        have d11 := cell_of_heap bk (i := 11)
        simp only [List.getElem?_toArray, List.getElem?_cons_succ, List.getElem?_cons_zero] at d0 d1 d2 d3 d4 d5 d6 d7 d8 d9 d10 d11
        clear bk
        refine cp_do rfl rfl rfl rfl (fun _ _ => ?_)
        go_wp2_with fail
        clear h8 d0 d1 d2 d3 d4 d5 d6 d7 d8 d9 d10 d11
        refine cp_do rfl rfl rfl rfl (fun _ _ => ?_)
        have hoA := HO.out.box (mobj m (.slice ky nk kc))
        obtain ⟨g1, hg1⟩ : ∃ g, g = (W5).heap.size := ⟨_, rfl⟩
        obtain ⟨W6, hWn⟩ : ∃ W, W = (W5).alloc (mobj m (.slice ky nk kc)) := ⟨_, rfl⟩
        rw [← hWn, ← hg1] at hoA
        replace HO := Lib.hid hoA
        clear hoA
        go_wp2_with fail
        rw [← hWn, ← hg1]
        clear hWn hg1
        replace HO := Lib.hid HO.out.swap
        have hLl : L.length = l.length := by rw [← HLL.out, List.length_map]
        have hbig := HML.out.big
        refine cp_do rfl rfl rfl rfl (fun K hK => ?_)
        refine wp_append (.tmp 18) (.tmp 20) 22 (by rfl) 46 _ 12 144 Tryz.underlying22 info_me (by rfl) (by omega) _ L.length _ (by rfl) (Owns.meRow HO.out) g1 1 1 (mcl (m, .slice ky nk kc)) (by rfl) (by rfl) 46 (by exact (Owns.blk (Owns.drop HO.out 1)).1) (by simp [mcl, Value.oneCell']) (by omega) (by omega) ?_
        intro v2 w9 hrow hgrow hblk
        have ho2 := Owns.meGrew (L' := L ++ [(m, Value.slice ky nk kc)]) HO.out (by simpa using hrow) hgrow hblk
        clear hrow hgrow hblk
        go_wp2_with fail
        refine cp_do rfl rfl rfl rfl (fun _ _ => ?_)
        go_wp2_with fail
        refine cp_nil ?_
        exact key g0 g1 v' v2 w9 (Lib.hid ⟨L ++ [(m, Value.slice ky nk kc)], by rw [List.map_append, HLL.out]; rfl, fun p hp => by
          rcases List.mem_append.1 hp with hp | hp
          · exact HLf.out p hp
          · obtain rfl : p = (m, Value.slice ky nk kc) := by simpa using hp
            exact HMm.out.fm, (ho2.re [1, 0]).pop⟩)
      focus
        obtain ⟨bk, -⟩ := (Owns.drop HO.out 2).blk
        have h8 := lt_of_block bk
        have d0 := cell_of_heap bk (i := 0)
        have d1 := cell_of_heap bk (i := 1)
        have d2 := cell_of_heap bk (i := 2)
        have d3 := cell_of_heap bk (i := 3)
        have d4 := cell_of_heap bk (i := 4)
        have d5 := cell_of_heap bk (i := 5)
        have d6 := cell_of_heap bk (i := 6)
        have d7 := cell_of_heap bk (i := 7)
        have d8 := cell_of_heap bk (i := 8)
        have d9 := cell_of_heap bk (i := 9)
        have d10 := cell_of_heap bk (i := 10)
        have d11 := cell_of_heap bk (i := 11)
        simp only [List.getElem?_toArray, List.getElem?_cons_succ, List.getElem?_cons_zero] at d0 d1 d2 d3 d4 d5 d6 d7 d8 d9 d10 d11
        clear bk
        refine cp_do rfl rfl rfl rfl (fun _ _ => ?_)
        go_wp2_with fail
        clear h8 d0 d1 d2 d3 d4 d5 d6 d7 d8 d9 d10 d11
        refine cp_fork ?_ ?_
        focus
          refine cp_do rfl rfl rfl rfl (fun K hK => ?_)
          refine wp_append_mes (.tmp 16) (.tmp 17) (by rfl) _ (by rfl) (Owns.meRow HO.out) l _ (by rfl) w HML.out.inn.row HO.out.base HML.out.big ?_
          intro L hL hLf v' W5 hrow hgrow hblk
          have ho2 := Owns.meGrew (L' := L) HO.out hrow hgrow hblk
          replace HO := Lib.hid ho2
          have HLL := Lib.hid hL
          have HLf := Lib.hid hLf
          clear ho2 hrow hgrow hblk hL hLf
          go_wp2_with fail
          refine cp_do rfl rfl rfl rfl (fun _ _ => ?_)
          have hoA := HO.out.box (mobj m (.slice ky nk kc))
          obtain ⟨g1, hg1⟩ : ∃ g, g = (W5).heap.size := ⟨_, rfl⟩
          obtain ⟨W6, hWn⟩ : ∃ W, W = (W5).alloc (mobj m (.slice ky nk kc)) := ⟨_, rfl⟩
          rw [← hWn, ← hg1] at hoA
          replace HO := Lib.hid hoA
          clear hoA
          go_wp2_with fail
          rw [← hWn, ← hg1]
          clear hWn hg1
          replace HO := Lib.hid HO.out.swap
          have hLl : L.length = l.length := by rw [← HLL.out, List.length_map]
          have hbig := HML.out.big
          refine cp_do rfl rfl rfl rfl (fun K hK => ?_)
          refine wp_append (.tmp 18) (.tmp 20) 22 (by rfl) 46 _ 12 144 Tryz.underlying22 info_me (by rfl) (by omega) _ L.length _ (by rfl) (Owns.meRow HO.out) g1 1 1 (mcl (m, .slice ky nk kc)) (by rfl) (by rfl) 46 (by exact (Owns.blk (Owns.drop HO.out 1)).1) (by simp [mcl, Value.oneCell']) (by omega) (by omega) ?_
          intro v2 w9 hrow hgrow hblk
          have ho2 := Owns.meGrew (L' := L ++ [(m, Value.slice ky nk kc)]) HO.out (by simpa using hrow) hgrow hblk
          clear hrow hgrow hblk
          go_wp2_with fail
          refine cp_do rfl rfl rfl rfl (fun _ _ => ?_)
          go_wp2_with fail
          refine cp_nil ?_
          exact key g0 g1 v' v2 w9 (Lib.hid ⟨L ++ [(m, Value.slice ky nk kc)], by rw [List.map_append, HLL.out]; rfl, fun p hp => by
            rcases List.mem_append.1 hp with hp | hp
            · exact HLf.out p hp
            · obtain rfl : p = (m, Value.slice ky nk kc) := by simpa using hp
              exact HMm.out.fm, (ho2.re [1, 0]).pop⟩)
        focus
          refine cp_do rfl rfl rfl rfl (fun _ _ => ?_)
          have hoA := HO.out.box (mobj m (.slice ky nk kc))
          obtain ⟨g1, hg1⟩ : ∃ g, g = (W4).heap.size := ⟨_, rfl⟩
          obtain ⟨W5, hWn⟩ : ∃ W, W = (W4).alloc (mobj m (.slice ky nk kc)) := ⟨_, rfl⟩
          rw [← hWn, ← hg1] at hoA
          replace HO := Lib.hid hoA
          clear hoA
          go_wp2_with fail
          rw [← hWn, ← hg1]
          clear hWn hg1
          replace HO := Lib.hid HO.out.swap
          refine cp_do rfl rfl rfl rfl (fun K hK => ?_)
          refine wp_append_mes (.tmp 16) (.tmp 17) (by rfl) _ (by rfl) (Owns.meRow HO.out) l _ (by rfl) w HML.out.inn.row HO.out.base HML.out.big ?_
          intro L hL hLf v' W6 hrow hgrow hblk
          have ho2 := Owns.meGrew (L' := L) HO.out hrow hgrow hblk
          replace HO := Lib.hid ho2
          have HLL := Lib.hid hL
          have HLf := Lib.hid hLf
          clear ho2 hrow hgrow hblk hL hLf
          go_wp2_with fail
          have hLl : L.length = l.length := by rw [← HLL.out, List.length_map]
          have hbig := HML.out.big
          refine cp_do rfl rfl rfl rfl (fun K hK => ?_)
          refine wp_append (.tmp 18) (.tmp 20) 22 (by rfl) 46 _ 12 144 Tryz.underlying22 info_me (by rfl) (by omega) _ L.length _ (by rfl) (Owns.meRow HO.out) g1 1 1 (mcl (m, .slice ky nk kc)) (by rfl) (by rfl) 46 (by exact (Owns.blk (Owns.drop HO.out 1)).1) (by simp [mcl, Value.oneCell']) (by omega) (by omega) ?_
          intro v2 w9 hrow hgrow hblk
          have ho2 := Owns.meGrew (L' := L ++ [(m, Value.slice ky nk kc)]) HO.out (by simpa using hrow) hgrow hblk
          clear hrow hgrow hblk
          go_wp2_with fail
          refine cp_do rfl rfl rfl rfl (fun _ _ => ?_)
          go_wp2_with fail
          refine cp_nil ?_
          exact key g0 g1 v' v2 w9 (Lib.hid ⟨L ++ [(m, Value.slice ky nk kc)], by rw [List.map_append, HLL.out]; rfl, fun p hp => by
            rcases List.mem_append.1 hp with hp | hp
            · exact HLf.out p hp
            · obtain rfl : p = (m, Value.slice ky nk kc) := by simpa using hp
              exact HMm.out.fm, (ho2.re [1, 0]).pop⟩)
    focus
      obtain ⟨bk, -⟩ := (Owns.drop HO.out 1).blk
      have h8 := lt_of_block bk
      have d0 := cell_of_heap bk (i := 0)
      have d1 := cell_of_heap bk (i := 1)
      have d2 := cell_of_heap bk (i := 2)
      have d3 := cell_of_heap bk (i := 3)
      have d4 := cell_of_heap bk (i := 4)
      have d5 := cell_of_heap bk (i := 5)
      have d6 := cell_of_heap bk (i := 6)
      have d7 := cell_of_heap bk (i := 7)
      have d8 := cell_of_heap bk (i := 8)
      have d9 := cell_of_heap bk (i := 9)
      have d10 := cell_of_heap bk (i := 10)
      have d11 := cell_of_heap bk (i := 11)
      simp only [List.getElem?_toArray, List.getElem?_cons_succ, List.getElem?_cons_zero] at d0 d1 d2 d3 d4 d5 d6 d7 d8 d9 d10 d11
      clear bk
      refine cp_do rfl rfl rfl rfl (fun _ _ => ?_)
      go_wp2_with fail
      clear h8 d0 d1 d2 d3 d4 d5 d6 d7 d8 d9 d10 d11
      refine cp_fork ?_ ?_
      focus
        refine cp_do rfl rfl rfl rfl (fun _ _ => ?_)
        have hoA := Owns.meLit0 HO.out
        obtain ⟨g0, hg0⟩ : ∃ g, g = (W3).heap.size := ⟨_, rfl⟩
        obtain ⟨W4, hWn⟩ : ∃ W, W = (W3).alloc (.cells #[] 46) := ⟨_, rfl⟩
        rw [← hWn, ← hg0] at hoA
        replace HO := Lib.hid hoA
        clear hoA
        go_wp2_with fail
        rw [← hWn, ← hg0]
        clear hWn hg0
        refine cp_fork ?_ ?_
        focus
          refine cp_do rfl rfl rfl rfl (fun K hK => ?_)
          refine wp_append_mes (.tmp 16) (.tmp 17) (by rfl) _ (by rfl) (Owns.meRow HO.out) l _ (by rfl) w HML.out.inn.row HO.out.base HML.out.big ?_
          intro L hL hLf v' W5 hrow hgrow hblk
          have ho2 := Owns.meGrew (L' := L) HO.out hrow hgrow hblk
          replace HO := Lib.hid ho2
          have HLL := Lib.hid hL
          have HLf := Lib.hid hLf
          clear ho2 hrow hgrow hblk hL hLf
          go_wp2_with fail
          refine cp_do rfl rfl rfl rfl (fun _ _ => ?_)
          have hoA := HO.out.box (mobj m (.slice ky nk kc))
          obtain ⟨g1, hg1⟩ : ∃ g, g = (W5).heap.size := ⟨_, rfl⟩
          obtain ⟨W6, hWn⟩ : ∃ W, W = (W5).alloc (mobj m (.slice ky nk kc)) := ⟨_, rfl⟩
          rw [← hWn, ← hg1] at hoA
          replace HO := Lib.hid hoA
          clear hoA
          go_wp2_with fail
          rw [← hWn, ← hg1]
          clear hWn hg1
          replace HO := Lib.hid HO.out.swap
          have hLl : L.length = l.length := by rw [← HLL.out, List.length_map]
          have hbig := HML.out.big
          refine cp_do rfl rfl rfl rfl (fun K hK => ?_)
          refine wp_append (.tmp 18) (.tmp 20) 22 (by rfl) 46 _ 12 144 Tryz.underlying22 info_me (by rfl) (by omega) _ L.length _ (by rfl) (Owns.meRow HO.out) g1 1 1 (mcl (m, .slice ky nk kc)) (by rfl) (by rfl) 46 (by exact (Owns.blk (Owns.drop HO.out 1)).1) (by simp [mcl, Value.oneCell']) (by omega) (by omega) ?_
          intro v2 w9 hrow hgrow hblk
          have ho2 := Owns.meGrew (L' := L ++ [(m, Value.slice ky nk kc)]) HO.out (by simpa using hrow) hgrow hblk
          clear hrow hgrow hblk
          go_wp2_with fail
          refine cp_do rfl rfl rfl rfl (fun _ _ => ?_)
          go_wp2_with fail
          refine cp_nil ?_
          exact key g0 g1 v' v2 w9 (Lib.hid ⟨L ++ [(m, Value.slice ky nk kc)], by rw [List.map_append, HLL.out]; rfl, fun p hp => by
            rcases List.mem_append.1 hp with hp | hp
            · exact HLf.out p hp
            · obtain rfl : p = (m, Value.slice ky nk kc) := by simpa using hp
              exact HMm.out.fm, (ho2.re [1, 0]).pop⟩)
        focus
          refine cp_do rfl rfl rfl rfl (fun _ _ => ?_)
          have hoA := HO.out.box (mobj m (.slice ky nk kc))
          obtain ⟨g1, hg1⟩ : ∃ g, g = (W4).heap.size := ⟨_, rfl⟩
          obtain ⟨W5, hWn⟩ : ∃ W, W = (W4).alloc (mobj m (.slice ky nk kc)) := ⟨_, rfl⟩
          rw [← hWn, ← hg1] at hoA
          replace HO := Lib.hid hoA
          clear hoA
          go_wp2_with fail
          rw [← hWn, ← hg1]
          clear hWn hg1
          replace HO := Lib.hid HO.out.swap
          refine cp_do rfl rfl rfl rfl (fun K hK => ?_)
          refine wp_append_mes (.tmp 16) (.tmp 17) (by rfl) _ (by rfl) (Owns.meRow HO.out) l _ (by rfl) w HML.out.inn.row HO.out.base HML.out.big ?_
          intro L hL hLf v' W6 hrow hgrow hblk
          have ho2 := Owns.meGrew (L' := L) HO.out hrow hgrow hblk
          replace HO := Lib.hid ho2
          have HLL := Lib.hid hL
          have HLf := Lib.hid hLf
          clear ho2 hrow hgrow hblk hL hLf
          go_wp2_with fail
          have hLl : L.length = l.length := by rw [← HLL.out, List.length_map]
          have hbig := HML.out.big
          refine cp_do rfl rfl rfl rfl (fun K hK => ?_)
          refine wp_append (.tmp 18) (.tmp 20) 22 (by rfl) 46 _ 12 144 Tryz.underlying22 info_me (by rfl) (by omega) _ L.length _ (by rfl) (Owns.meRow HO.out) g1 1 1 (mcl (m, .slice ky nk kc)) (by rfl) (by rfl) 46 (by exact (Owns.blk (Owns.drop HO.out 1)).1) (by simp [mcl, Value.oneCell']) (by omega) (by omega) ?_
          intro v2 w9 hrow hgrow hblk
          have ho2 := Owns.meGrew (L' := L ++ [(m, Value.slice ky nk kc)]) HO.out (by simpa using hrow) hgrow hblk
          clear hrow hgrow hblk
          go_wp2_with fail
          refine cp_do rfl rfl rfl rfl (fun _ _ => ?_)
          go_wp2_with fail
          refine cp_nil ?_
          exact key g0 g1 v' v2 w9 (Lib.hid ⟨L ++ [(m, Value.slice ky nk kc)], by rw [List.map_append, HLL.out]; rfl, fun p hp => by
            rcases List.mem_append.1 hp with hp | hp
            · exact HLf.out p hp
            · obtain rfl : p = (m, Value.slice ky nk kc) := by simpa using hp
              exact HMm.out.fm, (ho2.re [1, 0]).pop⟩)
      focus
        refine cp_do rfl rfl rfl rfl (fun _ _ => ?_)
        have hoA := HO.out.box (mobj m (.slice ky nk kc))
        obtain ⟨g1, hg1⟩ : ∃ g, g = (W3).heap.size := ⟨_, rfl⟩
        obtain ⟨W4, hWn⟩ : ∃ W, W = (W3).alloc (mobj m (.slice ky nk kc)) := ⟨_, rfl⟩
        rw [← hWn, ← hg1] at hoA
        replace HO := Lib.hid hoA
        clear hoA
        go_wp2_with fail
        rw [← hWn, ← hg1]
        clear hWn hg1
        refine cp_do rfl rfl rfl rfl (fun _ _ => ?_)
        have hoA := Owns.meLit0 HO.out
        obtain ⟨g0, hg0⟩ : ∃ g, g = (W4).heap.size := ⟨_, rfl⟩
        obtain ⟨W5, hWn⟩ : ∃ W, W = (W4).alloc (.cells #[] 46) := ⟨_, rfl⟩
        rw [← hWn, ← hg0] at hoA
        replace HO := Lib.hid hoA
        clear hoA
        go_wp2_with fail
        rw [← hWn, ← hg0]
        clear hWn hg0
        refine cp_do rfl rfl rfl rfl (fun K hK => ?_)
        refine wp_append_mes (.tmp 16) (.tmp 17) (by rfl) _ (by rfl) (Owns.meRow HO.out) l _ (by rfl) w HML.out.inn.row HO.out.base HML.out.big ?_
        intro L hL hLf v' W6 hrow hgrow hblk
        have ho2 := Owns.meGrew (L' := L) HO.out hrow hgrow hblk
        replace HO := Lib.hid ho2
        have HLL := Lib.hid hL
        have HLf := Lib.hid hLf
        clear ho2 hrow hgrow hblk hL hLf
        go_wp2_with fail
        have hLl : L.length = l.length := by rw [← HLL.out, List.length_map]
        have hbig := HML.out.big
        refine cp_do rfl rfl rfl rfl (fun K hK => ?_)
        refine wp_append (.tmp 18) (.tmp 20) 22 (by rfl) 46 _ 12 144 Tryz.underlying22 info_me (by rfl) (by omega) _ L.length _ (by rfl) (Owns.meRow HO.out) g1 1 1 (mcl (m, .slice ky nk kc)) (by rfl) (by rfl) 46 (by exact (Owns.blk (Owns.drop HO.out 1)).1) (by simp [mcl, Value.oneCell']) (by omega) (by omega) ?_
        intro v2 w9 hrow hgrow hblk
        have ho2 := Owns.meGrew (L' := L ++ [(m, Value.slice ky nk kc)]) HO.out (by simpa using hrow) hgrow hblk
        clear hrow hgrow hblk
        go_wp2_with fail
        refine cp_do rfl rfl rfl rfl (fun _ _ => ?_)
        go_wp2_with fail
        refine cp_nil ?_
        exact key g0 g1 v' v2 w9 (Lib.hid ⟨L ++ [(m, Value.slice ky nk kc)], by rw [List.map_append, HLL.out]; rfl, fun p hp => by
          rcases List.mem_append.1 hp with hp | hp
          · exact HLf.out p hp
          · obtain rfl : p = (m, Value.slice ky nk kc) := by simpa using hp
            exact HMm.out.fm, (ho2.re [1, 0]).pop⟩)
  intro g0 g1 u v W4 hyp
  clear HO
  obtain ⟨LL, hLL, hLf, ho⟩ := hyp.out
  have HO := Lib.hid ho
  have HLL := Lib.hid hLL
  have HLf := Lib.hid hLf
  clear hyp ho hLL hLf
  obtain ⟨ly, lc, rfl⟩ := Owns.meForm HO.out
  obtain ⟨nl, hnl⟩ : ∃ n, n = LL.length := ⟨_, rfl⟩
  rw [← hnl] at HO ⊢
  have HNl := Lib.hid hnl
  have hnl9 : nl * 144 ≤ 140737488351232 + 144 := by
    have h1 := congrArg List.length HLL.out
    rw [List.length_map, List.length_append, ← hnl] at h1
    have := HML.out.big
    simp at h1
    omega
  clear hnl
  have HMore : Hid (MeIn W4 (l ++ [m]) (.slice ly nl lc)) := by
    refine ⟨?_, ?_, fun x hx => ?_⟩
    · rw [← HLL.out]
      exact Owns.meIs HO.out fun p hp => (HLf.out p hp).later HO.out.base
    · have := HML.out.big
      rw [List.length_append]
      simp
      omega
    · rcases List.mem_append.1 hx with hx | hx
      · exact HML.out.inn.each x hx
      · obtain rfl : x = m := by simpa using hx
        exact ⟨HMm.out.len.id, HMm.out.len.auth, HMm.out.len.target, HMm.out.names⟩
  have HMoreW := HMore
  have HOb := Lib.hid HO.out.base
  have HFew := Lib.hid (fewV_c (l ++ [m]) s (.slice ly nl lc) (.slice yd ND md) (.slice ya NA ma) (.slice yz NZ mz) (.slice yc NC mc) W4 HMore.out.row (HSs.out.later HO.out.base) HMore.out.len (fun x hx => ⟨(HMore.out.each x hx).1, (HMore.out.each x hx).2.1, (HMore.out.each x hx).2.2.1⟩) HS.out.dom HS.out.auths HS.out.zones HS.out.cases)
  obtain ⟨bk, -⟩ := HO.out.pop.blk
  have hbx := lt_of_block bk
  have x0 := cell_of_heap bk (i := 0)
  have x1 := cell_of_heap bk (i := 1)
  have x2 := cell_of_heap bk (i := 2)
  have x3 := cell_of_heap bk (i := 3)
  have x4 := cell_of_heap bk (i := 4)
  have x5 := cell_of_heap bk (i := 5)
  simp only [List.getElem?_toArray, List.getElem?_cons_succ, List.getElem?_cons_zero] at x0 x1 x2 x3 x4 x5
  clear bk
  go_wp2_with fail
  clear hbx x0 x1 x2 x3 x4 x5
  go_at_call 10
  refine HFew.out.mono ?_
  rintro e W5 ⟨rfl, hb⟩
  replace HO := Lib.hid (HO.out.below hb)
  replace HMore := Lib.hid (show IsMeR W5 (l ++ [m]) _ from HMore.out.row.later hb)
  clear hb HFew
  have HIn := Lib.hid fun h : fewV (l ++ [m]) s = true => few_in (w := W4) h HMoreW.out ⟨HSs.out.later HOb.out, HS.out.dom, HS.out.names, HS.out.auths, HS.out.texts, HS.out.zones, HS.out.cases⟩
  obtain ⟨q, hq⟩ : ∃ q, q = fewV (l ++ [m]) s := ⟨_, rfl⟩
  rw [← hq]
  have HQ := Lib.hid hq
  clear hq
  cases q
  · go_wp2_with fail
    go_ret
    exact ⟨rfl, HO.out.base⟩
  have HI := Lib.hid (HIn.out HQ.out.symm)
  clear HIn HQ HMoreW HOb
  have HMs : Hid (MsLen l) := ⟨by have := HI.out.ms.len; rw [List.length_append] at this; omega, fun x hx => HI.out.ms.each x (List.mem_append.2 (.inl hx))⟩
  have HMmm : Hid (MeLen m ∧ CoLen m.cond) := Lib.hid (HI.out.ms.each m (List.mem_append.2 (.inr (by simp))))
  have HTx1 := Lib.hid (ve_tx (l := l) (s := s) (cov := []) HMs.out)
  rw [show licensedV l s [] = decideV l s from rfl] at HTx1
  have HTx2 := Lib.hid (ve_tx (l := l ++ [m]) (s := s) (cov := []) HI.out.ms)
  rw [show licensedV (l ++ [m]) s [] = decideV (l ++ [m]) s from rfl] at HTx2
  have HLaw := Lib.hid (further_law (l := l) (s := s) (m := m))
  have HZ := Lib.hid fun h : (decideV l s).2 = 0 => (Go.Cz.Vd.check_zero.1 (decide_forbids h).1).1
  obtain ⟨r1, hr1⟩ : ∃ r, r = decideV l s := ⟨_, rfl⟩
  rw [← hr1] at HTx1 HLaw HZ
  have HR1 := Lib.hid hr1.symm
  clear hr1
  obtain ⟨⟨k1, fl1, bl1⟩, q1⟩ := r1
  obtain ⟨r2, hr2⟩ : ∃ r, r = decideV (l ++ [m]) s := ⟨_, rfl⟩
  rw [← hr2] at HTx2 HLaw
  have HR2 := Lib.hid hr2.symm
  clear hr2
  obtain ⟨⟨k2, fl2, bl2⟩, q2⟩ := r2
  dsimp only at HTx1 HTx2 HLaw HZ
  obtain ⟨bk, -⟩ := HO.out.pop.blk
  have hbx := lt_of_block bk
  have x0 := cell_of_heap bk (i := 0)
  have x1 := cell_of_heap bk (i := 1)
  have x2 := cell_of_heap bk (i := 2)
  have x3 := cell_of_heap bk (i := 3)
  have x4 := cell_of_heap bk (i := 4)
  have x5 := cell_of_heap bk (i := 5)
  simp only [List.getElem?_toArray, List.getElem?_cons_succ, List.getElem?_cons_zero] at x0 x1 x2 x3 x4 x5
  clear bk
  go_wp2_with fail
  clear hbx x0 x1 x2 x3 x4 x5
  go_at_call 13
  refine (decide_c l s _ _ _ _ _ W5 (HML.out.inn.row.later HO.out.base) (HSs.out.later HO.out.base) HMs.out HI.out.sc HI.out.a HI.out.z HI.out.c).mono ?_
  rintro e V1a ⟨f1, g1, rfl, h1⟩
  rw [HR1.out] at h1 ⊢
  dsimp only at h1 ⊢
  have HOn := Lib.hid (Owns.app HO.out h1)
  clear h1 HO
  obtain ⟨fy1, fc1, rfl, -⟩ := HOn.out.txIs
  obtain ⟨by1, bc1, rfl, -⟩ := HOn.out.pop.txIs
  obtain ⟨nf1, hnf⟩ : ∃ n, n = fl1.length := ⟨_, rfl⟩
  obtain ⟨nb1, hnb⟩ : ∃ n, n = bl1.length := ⟨_, rfl⟩
  rw [← hnf, ← hnb] at HOn ⊢
  have HNf1 := Lib.hid hnf
  have HNb1 := Lib.hid hnb
  clear hnf hnb
  obtain ⟨b1, hb1⟩ : ∃ b, b = V1a.heap.size := ⟨_, rfl⟩
  obtain ⟨V1, hV1⟩ : ∃ W, W = V1a.alloc (vobj k1 (.slice fy1 nf1 fc1) (.slice by1 nb1 bc1)) := ⟨_, rfl⟩
  have HO : Hid (Owns w V1 [blk b1 (vobj k1 (.slice fy1 nf1 fc1) (.slice by1 nb1 bc1)), txP (.slice fy1 nf1 fc1) fl1, txP (.slice by1 nb1 bc1) bl1, meP (.slice ly nl lc) LL, blk bx (sobj s (.slice yd ND md) (.slice ya NA ma) (.slice yz NZ mz) (.slice yc NC mc)), blk bm (mobj m (.slice ky nk kc))]) := by
    rw [hV1, hb1]
    exact Lib.hid (HOn.out.box _)
  clear HOn
  obtain ⟨bk, -⟩ := (Owns.drop HO.out 4).blk
  have hbx := lt_of_block bk
  have x0 := cell_of_heap bk (i := 0)
  have x1 := cell_of_heap bk (i := 1)
  have x2 := cell_of_heap bk (i := 2)
  have x3 := cell_of_heap bk (i := 3)
  have x4 := cell_of_heap bk (i := 4)
  have x5 := cell_of_heap bk (i := 5)
  simp only [List.getElem?_toArray, List.getElem?_cons_succ, List.getElem?_cons_zero] at x0 x1 x2 x3 x4 x5
  clear bk
  rw [hV1] at hbx x0 x1 x2 x3 x4 x5
  have HMo1 : Hid (IsMeR V1 (l ++ [m]) (.slice ly nl lc)) := by
    rw [← HLL.out]
    exact Lib.hid (Owns.meIs (Owns.drop HO.out 3) fun p hp => (HLf.out p hp).later HO.out.base)
  go_wp2_with fail
  rw [← hV1, ← hb1]
  clear hV1 hb1
  clear hbx x0 x1 x2 x3 x4 x5
  go_at_call 13
  refine (decide_c (l ++ [m]) s _ _ _ _ _ V1 HMo1.out (HSs.out.later HO.out.base) HI.out.ms HI.out.sc HI.out.a HI.out.z HI.out.c).mono ?_
  rintro e V2a ⟨f2, g2, rfl, h1⟩
  rw [HR2.out] at h1 ⊢
  dsimp only at h1 ⊢
  have HOn := Lib.hid (Owns.app HO.out h1)
  clear h1 HO
  obtain ⟨fy2, fc2, rfl, -⟩ := HOn.out.txIs
  obtain ⟨by2, bc2, rfl, -⟩ := HOn.out.pop.txIs
  obtain ⟨nf2, hnf⟩ : ∃ n, n = fl2.length := ⟨_, rfl⟩
  obtain ⟨nb2, hnb⟩ : ∃ n, n = bl2.length := ⟨_, rfl⟩
  rw [← hnf, ← hnb] at HOn ⊢
  have HNf2 := Lib.hid hnf
  have HNb2 := Lib.hid hnb
  clear hnf hnb
  obtain ⟨b2, hb2⟩ : ∃ b, b = V2a.heap.size := ⟨_, rfl⟩
  obtain ⟨V2, hV2⟩ : ∃ W, W = V2a.alloc (vobj k2 (.slice fy2 nf2 fc2) (.slice by2 nb2 bc2)) := ⟨_, rfl⟩
  have HO : Hid (Owns w V2 [blk b2 (vobj k2 (.slice fy2 nf2 fc2) (.slice by2 nb2 bc2)), txP (.slice fy2 nf2 fc2) fl2, txP (.slice by2 nb2 bc2) bl2, blk b1 (vobj k1 (.slice fy1 nf1 fc1) (.slice by1 nb1 bc1)), txP (.slice fy1 nf1 fc1) fl1, txP (.slice by1 nb1 bc1) bl1, meP (.slice ly nl lc) LL, blk bx (sobj s (.slice yd ND md) (.slice ya NA ma) (.slice yz NZ mz) (.slice yc NC mc)), blk bm (mobj m (.slice ky nk kc))]) := by
    rw [hV2, hb2]
    exact Lib.hid (HOn.out.box _)
  clear HOn
  clear HR1 HR2 HMore HMo1 HLL HLf HML
  by_cases hq1 : q1 = 0
  rotate_left
  · have hq1' : ((q1 : Int) != 0) = true := by simp; omega
    have hq1'' : ((q1 : Int) == 0) = false := by simp; omega
    have hq2 : ((q2 : Int) != 0) = true := by have := HLaw.out.1 hq1; simp; omega
    clear hq1
    go_wp2_with fail
    go_ret
    exact ⟨rfl, by rw [← hV2]; exact HO.out.base⟩
  have hq1' : ((q1 : Int) != 0) = false := by simp; omega
  have hq1'' : ((q1 : Int) == 0) = true := by simp; omega
  by_cases hq2 : q2 = 0
  rotate_left
  · have hq2' : ((q2 : Int) != 0) = true := by simp; omega
    clear hq1 hq2
    go_wp2_with fail
    go_ret
    exact ⟨rfl, by rw [← hV2]; exact HO.out.base⟩
  have hq2' : ((q2 : Int) != 0) = false := by simp; omega
  replace HLaw := Lib.hid (HLaw.out.2 hq1 hq2)
  replace HZ := Lib.hid (HZ.out hq1)
  clear hq1 hq2
  obtain ⟨bk, -⟩ := (Owns.drop HO.out 7).blk
  have hbx := lt_of_block bk
  have x0 := cell_of_heap bk (i := 0)
  have x1 := cell_of_heap bk (i := 1)
  have x2 := cell_of_heap bk (i := 2)
  have x3 := cell_of_heap bk (i := 3)
  have x4 := cell_of_heap bk (i := 4)
  have x5 := cell_of_heap bk (i := 5)
  simp only [List.getElem?_toArray, List.getElem?_cons_succ, List.getElem?_cons_zero] at x0 x1 x2 x3 x4 x5
  clear bk
  obtain ⟨bk, -⟩ := (Owns.drop HO.out 8).blk
  have h8 := lt_of_block bk
  have d0 := cell_of_heap bk (i := 0)
  have d1 := cell_of_heap bk (i := 1)
  have d2 := cell_of_heap bk (i := 2)
  have d3 := cell_of_heap bk (i := 3)
  have d4 := cell_of_heap bk (i := 4)
  have d5 := cell_of_heap bk (i := 5)
  have d6 := cell_of_heap bk (i := 6)
  have d7 := cell_of_heap bk (i := 7)
  have d8 := cell_of_heap bk (i := 8)
  have d9 := cell_of_heap bk (i := 9)
  have d10 := cell_of_heap bk (i := 10)
  have d11 := cell_of_heap bk (i := 11)
  simp only [List.getElem?_toArray, List.getElem?_cons_succ, List.getElem?_cons_zero] at d0 d1 d2 d3 d4 d5 d6 d7 d8 d9 d10 d11
  clear bk
  rw [hV2] at hbx x0 x1 x2 x3 x4 x5 h8 d0 d1 d2 d3 d4 d5 d6 d7 d8 d9 d10 d11
  go_wp2_with fail
  rw [← hV2, ← hb2]
  clear hV2 hb2 hq1' hq1'' hq2'
  clear hbx x0 x1 x2 x3 x4 x5
  clear h8 d0 d1 d2 d3 d4 d5 d6 d7 d8 d9 d10 d11
  go_at_call 18
  refine (counts_c m _ s _ _ _ _ V2 (HMm.out.fm.later HO.out.base) HMmm.out.1 HMmm.out.2 (HSs.out.later HO.out.base) HI.out.sc HZ.out).mono ?_
  rintro e W9 ⟨rfl, hb⟩
  replace HO : Hid (Owns w W9 [blk b2 (vobj k2 (.slice fy2 nf2 fc2) (.slice by2 nb2 bc2)), txP (.slice fy2 nf2 fc2) fl2, txP (.slice by2 nb2 bc2) bl2, blk b1 (vobj k1 (.slice fy1 nf1 fc1) (.slice by1 nb1 bc1)), txP (.slice fy1 nf1 fc1) fl1, txP (.slice by1 nb1 bc1) bl1, meP (.slice ly nl lc) LL, blk bx (sobj s (.slice yd ND md) (.slice ya NA ma) (.slice yz NZ mz) (.slice yc NC mc)), blk bm (mobj m (.slice ky nk kc))]) := Lib.hid (HO.out.below hb)
  clear hb
  obtain ⟨q, hq⟩ : ∃ q, q = countsB s m := ⟨_, rfl⟩
  rw [← hq] at HLaw ⊢
  clear hq
  obtain ⟨bk, -⟩ := Owns.blk HO.out
  have hbv := lt_of_block bk
  have ev0 := cell_of_heap bk (i := 0)
  have ev1 := cell_of_heap bk (i := 1)
  have ev2 := cell_of_heap bk (i := 2)
  simp only [List.getElem?_toArray, List.getElem?_cons_succ, List.getElem?_cons_zero] at ev0 ev1 ev2
  clear bk
  obtain ⟨bk, -⟩ := Owns.blk (Owns.drop HO.out 3)
  have hbu := lt_of_block bk
  have eu0 := cell_of_heap bk (i := 0)
  have eu1 := cell_of_heap bk (i := 1)
  have eu2 := cell_of_heap bk (i := 2)
  simp only [List.getElem?_toArray, List.getElem?_cons_succ, List.getElem?_cons_zero] at eu0 eu1 eu2
  clear bk
  cases q
  · have hv := HLaw.out.1 rfl
    go_wp2_with fail
    clear hbv ev0 ev1 ev2 hbu eu0 eu1 eu2
    go_at_call 17
    refine (same_c ⟨k1, fl1, bl1⟩ ⟨k2, fl2, bl2⟩ _ _ _ _ W9 (Owns.drop HO.out 4).txIs (Owns.drop HO.out 5).txIs HO.out.pop.txIs HO.out.pop.pop.txIs HTx1.out.1 HTx1.out.2 HTx2.out.1 HTx2.out.2).mono ?_
    rintro e W10 ⟨rfl, hb⟩
    replace HO := Lib.hid (HO.out.below hb)
    clear hb
    rw [sameV_iff.2 hv.symm]
    go_wp2_with fail
    go_ret
    exact ⟨rfl, HO.out.base⟩
  have HA := Lib.hid HLaw.out.2.1
  have HB := Lib.hid HLaw.out.2.2
  clear HLaw
  have hnf1 : nf1 ≤ 1000000 := by rw [HNf1.out]; exact HTx1.out.1.len
  have hnf2 : nf2 ≤ 1000000 := by rw [HNf2.out]; exact HTx2.out.1.len
  go_wp2_with fail
  clear hbv ev0 ev1 ev2 hbu eu0 eu1 eu2
  go_loopg [13] nf1 (fun gk i wr => ∃ k : Nat, gk = nf1 - k ∧ k ≤ nf1 ∧ i = .int .i64 (k : Int) ∧ Hid (Owns w wr [blk b2 (vobj k2 (.slice fy2 nf2 fc2) (.slice by2 nb2 bc2)), txP (.slice fy2 nf2 fc2) fl2, txP (.slice by2 nb2 bc2) bl2, blk b1 (vobj k1 (.slice fy1 nf1 fc1) (.slice by1 nb1 bc1)), txP (.slice fy1 nf1 fc1) fl1, txP (.slice by1 nb1 bc1) bl1, meP (.slice ly nl lc) LL, blk bx (sobj s (.slice yd ND md) (.slice ya NA ma) (.slice yz NZ mz) (.slice yc NC mc)), blk bm (mobj m (.slice ky nk kc))]))
  case atStart => exact ⟨0, rfl, Nat.zero_le _, rfl, HO⟩
  case round =>
    rename_i J1 K1 hJ1 hK1
    clear HO
    obtain ⟨k, rfl, hk, rfl, HO⟩ := hrel
    obtain ⟨bk, -⟩ := Owns.blk (Owns.drop HO.out 3)
    have hbu := lt_of_block bk
    have eu0 := cell_of_heap bk (i := 0)
    have eu1 := cell_of_heap bk (i := 1)
    have eu2 := cell_of_heap bk (i := 2)
    simp only [List.getElem?_toArray, List.getElem?_cons_succ, List.getElem?_cons_zero] at eu0 eu1 eu2
    clear bk
    by_cases hlt : k < nf1
    · obtain ⟨x, hx⟩ : ∃ x, fl1[k]? = some x := ⟨_, List.getElem?_eq_getElem (by rw [← HNf1.out]; exact hlt)⟩
      have HX := Lib.hid hx
      clear hx
      go_wp2_with fail
      clear hbu eu0 eu1 eu2
      refine wp_region_can [11] (List.range 14) (by decide +kernel) (by decide +kernel) ?_
      replace HO := Lib.hid HO.out.drew
      obtain ⟨WA, hWA⟩ : ∃ W, W = wr.drew := ⟨_, rfl⟩
      rw [← hWA] at HO ⊢
      clear hWA
      obtain ⟨bk, -⟩ := (Owns.drop HO.out 8).blk
      have h8 := lt_of_block bk
      have d0 := cell_of_heap bk (i := 0)
      have d1 := cell_of_heap bk (i := 1)
      have d2 := cell_of_heap bk (i := 2)
      have d3 := cell_of_heap bk (i := 3)
      have d4 := cell_of_heap bk (i := 4)
      have d5 := cell_of_heap bk (i := 5)
      have d6 := cell_of_heap bk (i := 6)
      have d7 := cell_of_heap bk (i := 7)
      have d8 := cell_of_heap bk (i := 8)
      have d9 := cell_of_heap bk (i := 9)
      have d10 := cell_of_heap bk (i := 10)
      have d11 := cell_of_heap bk (i := 11)
      simp only [List.getElem?_toArray, List.getElem?_cons_succ, List.getElem?_cons_zero] at d0 d1 d2 d3 d4 d5 d6 d7 d8 d9 d10 d11
      clear bk
      by_cases hk2 : m.kind = 2
      · have hk2' : (m.kind != 2) = false := by simpa using hk2
        clear hk2
        iterate 14 (first | (refine cl_do rfl rfl rfl rfl (fun _ _ => ?_); go_wp2_with fail) | (refine cl_yes rfl rfl rfl rfl (by first | rfl | simp [okB, lenV, plainV, Act.eval]) (fun _ _ => ?_); go_wp2_with fail) | (refine cl_no rfl rfl rfl ?_; go_simp))
        clear hk2'
        clear h8 d0 d1 d2 d3 d4 d5 d6 d7 d8 d9 d10 d11
        refine cl_nil ?_
        go_wp2_with fail
        go_roundg (nf1 - (k + 1))
        case measure => omega
        case rel => exact ⟨k + 1, rfl, by omega, by go_num, HO⟩
      have hk2' : (m.kind != 2) = true := by simpa using hk2
      have HC : Hid (fl2.contains x = true) := Lib.hid (List.contains_iff_mem.2 (HA.out hk2 x (List.mem_of_getElem? HX.out)))
      clear hk2
      obtain ⟨bk, -⟩ := Owns.blk (Owns.drop HO.out 3)
      have hbu := lt_of_block bk
      have eu0 := cell_of_heap bk (i := 0)
      have eu1 := cell_of_heap bk (i := 1)
      have eu2 := cell_of_heap bk (i := 2)
      simp only [List.getElem?_toArray, List.getElem?_cons_succ, List.getElem?_cons_zero] at eu0 eu1 eu2
      clear bk
      obtain ⟨bk, -⟩ := Owns.blk HO.out
      have hbv := lt_of_block bk
      have ev0 := cell_of_heap bk (i := 0)
      have ev1 := cell_of_heap bk (i := 1)
      have ev2 := cell_of_heap bk (i := 2)
      simp only [List.getElem?_toArray, List.getElem?_cons_succ, List.getElem?_cons_zero] at ev0 ev1 ev2
      clear bk
      obtain ⟨g, off, rfl, hg, cx⟩ := (Owns.drop HO.out 4).txIs.get (Below.refl _ _) HX.out
      iterate 11 (first | (refine cl_do rfl rfl rfl rfl (fun _ _ => ?_); go_wp2_with fail) | (refine cl_yes rfl rfl rfl rfl (by first | rfl | simp [okB, lenV, plainV, Act.eval]) (fun _ _ => ?_); go_wp2_with fail) | (refine cl_no rfl rfl rfl ?_; go_simp))
      clear hk2' hbv ev0 ev1 ev2 hbu eu0 eu1 eu2 hg cx
      clear h8 d0 d1 d2 d3 d4 d5 d6 d7 d8 d9 d10 d11
      refine cl_ycall (i := 11) rfl rfl rfl rfl (fun K hK => ?_)
      go_wp2_with fail
      go_at_call 19
      refine (has_c fl2 x _ WA HO.out.pop.txIs (by have := HTx2.out.1.len; omega)).mono ?_
      rintro e WB ⟨rfl, hw⟩
      subst hw
      rw [HC.out]
      go_wp2_with fail
      refine And.intro (Below.refl _ _) ?_
      iterate 2 (first | (refine cl_do rfl rfl rfl rfl (fun _ _ => ?_); go_wp2_with fail) | (refine cl_yes rfl rfl rfl rfl (by first | rfl | simp [okB, lenV, plainV, Act.eval]) (fun _ _ => ?_); go_wp2_with fail) | (refine cl_no rfl rfl rfl ?_; go_simp))
      refine cl_nil ?_
      go_wp2_with fail
      go_roundg (nf1 - (k + 1))
      case measure => omega
      case rel => exact ⟨k + 1, rfl, by omega, by go_num, HO⟩
    · obtain rfl : k = nf1 := by omega
      clear hJ1 hK1 hlt
      go_wp2_with fail
      clear hbu eu0 eu1 eu2
      go_loopg [14] nf2 (fun gk i wr => ∃ kk : Nat, gk = nf2 - kk ∧ kk ≤ nf2 ∧ i = .int .i64 (kk : Int) ∧ Hid (Owns w wr [blk b2 (vobj k2 (.slice fy2 nf2 fc2) (.slice by2 nb2 bc2)), txP (.slice fy2 nf2 fc2) fl2, txP (.slice by2 nb2 bc2) bl2, blk b1 (vobj k1 (.slice fy1 k fc1) (.slice by1 nb1 bc1)), txP (.slice fy1 k fc1) fl1, txP (.slice by1 nb1 bc1) bl1, meP (.slice ly nl lc) LL, blk bx (sobj s (.slice yd ND md) (.slice ya NA ma) (.slice yz NZ mz) (.slice yc NC mc)), blk bm (mobj m (.slice ky nk kc))]))
      case atStart => exact ⟨0, rfl, Nat.zero_le _, rfl, HO⟩
      case round =>
        rename_i J2 K2 hJ2 hK2
        clear HO
        obtain ⟨kk, rfl, hkk, rfl, HO⟩ := hrel
        obtain ⟨bk, -⟩ := Owns.blk HO.out
        have hbv := lt_of_block bk
        have ev0 := cell_of_heap bk (i := 0)
        have ev1 := cell_of_heap bk (i := 1)
        have ev2 := cell_of_heap bk (i := 2)
        simp only [List.getElem?_toArray, List.getElem?_cons_succ, List.getElem?_cons_zero] at ev0 ev1 ev2
        clear bk
        by_cases hlt : kk < nf2
        · obtain ⟨x, hx⟩ : ∃ x, fl2[kk]? = some x := ⟨_, List.getElem?_eq_getElem (by rw [← HNf2.out]; exact hlt)⟩
          have HX := Lib.hid hx
          clear hx
          go_wp2_with fail
          clear hbv ev0 ev1 ev2
          refine wp_region_can [11] (List.range 14) (by decide +kernel) (by decide +kernel) ?_
          replace HO := Lib.hid HO.out.drew
          obtain ⟨WA, hWA⟩ : ∃ W, W = wr.drew := ⟨_, rfl⟩
          rw [← hWA] at HO ⊢
          clear hWA
          obtain ⟨bk, -⟩ := (Owns.drop HO.out 8).blk
          have h8 := lt_of_block bk
          have d0 := cell_of_heap bk (i := 0)
          have d1 := cell_of_heap bk (i := 1)
          have d2 := cell_of_heap bk (i := 2)
          have d3 := cell_of_heap bk (i := 3)
          have d4 := cell_of_heap bk (i := 4)
          have d5 := cell_of_heap bk (i := 5)
          have d6 := cell_of_heap bk (i := 6)
          have d7 := cell_of_heap bk (i := 7)
          have d8 := cell_of_heap bk (i := 8)
          have d9 := cell_of_heap bk (i := 9)
          have d10 := cell_of_heap bk (i := 10)
          have d11 := cell_of_heap bk (i := 11)
          simp only [List.getElem?_toArray, List.getElem?_cons_succ, List.getElem?_cons_zero] at d0 d1 d2 d3 d4 d5 d6 d7 d8 d9 d10 d11
          clear bk
          by_cases hk2 : m.kind = 1
          · have hk2' : (m.kind != 1) = false := by simpa using hk2
            clear hk2
            iterate 14 (first | (refine cl_do rfl rfl rfl rfl (fun _ _ => ?_); go_wp2_with fail) | (refine cl_yes rfl rfl rfl rfl (by first | rfl | simp [okB, lenV, plainV, Act.eval]) (fun _ _ => ?_); go_wp2_with fail) | (refine cl_no rfl rfl rfl ?_; go_simp))
            clear hk2'
            clear h8 d0 d1 d2 d3 d4 d5 d6 d7 d8 d9 d10 d11
            refine cl_nil ?_
            go_wp2_with fail
            go_roundg (nf2 - (kk + 1))
            case measure => omega
            case rel => exact ⟨kk + 1, rfl, by omega, by go_num, HO⟩
          have hk2' : (m.kind != 1) = true := by simpa using hk2
          have HC : Hid (fl1.contains x = true) := Lib.hid (List.contains_iff_mem.2 (HB.out hk2 x (List.mem_of_getElem? HX.out)))
          clear hk2
          obtain ⟨bk, -⟩ := Owns.blk (Owns.drop HO.out 3)
          have hbu := lt_of_block bk
          have eu0 := cell_of_heap bk (i := 0)
          have eu1 := cell_of_heap bk (i := 1)
          have eu2 := cell_of_heap bk (i := 2)
          simp only [List.getElem?_toArray, List.getElem?_cons_succ, List.getElem?_cons_zero] at eu0 eu1 eu2
          clear bk
          obtain ⟨bk, -⟩ := Owns.blk HO.out
          have hbv := lt_of_block bk
          have ev0 := cell_of_heap bk (i := 0)
          have ev1 := cell_of_heap bk (i := 1)
          have ev2 := cell_of_heap bk (i := 2)
          simp only [List.getElem?_toArray, List.getElem?_cons_succ, List.getElem?_cons_zero] at ev0 ev1 ev2
          clear bk
          obtain ⟨g, off, rfl, hg, cx⟩ := HO.out.pop.txIs.get (Below.refl _ _) HX.out
          iterate 11 (first | (refine cl_do rfl rfl rfl rfl (fun _ _ => ?_); go_wp2_with fail) | (refine cl_yes rfl rfl rfl rfl (by first | rfl | simp [okB, lenV, plainV, Act.eval]) (fun _ _ => ?_); go_wp2_with fail) | (refine cl_no rfl rfl rfl ?_; go_simp))
          clear hk2' hbv ev0 ev1 ev2 hbu eu0 eu1 eu2 hg cx
          clear h8 d0 d1 d2 d3 d4 d5 d6 d7 d8 d9 d10 d11
          refine cl_ycall (i := 11) rfl rfl rfl rfl (fun K hK => ?_)
          go_wp2_with fail
          go_at_call 19
          refine (has_c fl1 x _ WA (Owns.drop HO.out 4).txIs (by have := HTx1.out.1.len; omega)).mono ?_
          rintro e WB ⟨rfl, hw⟩
          subst hw
          rw [HC.out]
          go_wp2_with fail
          refine And.intro (Below.refl _ _) ?_
          iterate 2 (first | (refine cl_do rfl rfl rfl rfl (fun _ _ => ?_); go_wp2_with fail) | (refine cl_yes rfl rfl rfl rfl (by first | rfl | simp [okB, lenV, plainV, Act.eval]) (fun _ _ => ?_); go_wp2_with fail) | (refine cl_no rfl rfl rfl ?_; go_simp))
          refine cl_nil ?_
          go_wp2_with fail
          go_roundg (nf2 - (kk + 1))
          case measure => omega
          case rel => exact ⟨kk + 1, rfl, by omega, by go_num, HO⟩
        · obtain rfl : kk = nf2 := by omega
          clear hJ2 hK2 hlt
          go_wp2_with fail
          go_ret
          exact ⟨rfl, HO.out.base⟩
end Go.Proofs.YtakadfdnhlfijaaGreatDoor
