/-
  'VerdictOrder' returns true: the walk.
-/
import Derived.Test.YtakadfdnhlfijaaGreatDoorVdLaw
namespace Go.Proofs.YtakadfdnhlfijaaGreatDoor
open Go.RowKit Go.Cz Go.Cz.Lx Go.Cz.Fo Go.Cz.Vd
set_option linter.unusedSimpArgs false
set_option linter.unusedVariables false
attribute [local go_sem] bs_size bs_extract bs_append bs_toList
attribute [local irreducible] cList cPlan
set_option maxRecDepth 100000 in
set_option maxHeartbeats 8000000 in
theorem VerdictOrder_walk (w : World) (l : List Me) (lv : Value) (hl : MeIn w l lv) (s : Sc) (vd va vz vc : Value) (hs : ScIn w s vd va vz vc) (cov : List Bytes) (cv : Value) (hv : TxIn w cov cv) :
    Calls Tryz.prog 5 #[lv, sval s vd va vz vc, cv] w fun e w' => e = .returned (.bool true) ∧ Below w.heap.size w w' := by
  have HFew := Lib.hid (few_c2 hl hs)
  have HML := Lib.hid hl
  have HSL := Lib.hid hs
  have HIn := Lib.hid fun h : fewV l s = true => few_in h hl hs
  obtain ⟨y, c, rfl⟩ := hl.row.form
  obtain ⟨N, hN⟩ : ∃ N, N = l.length := ⟨_, rfl⟩
  have HN := Lib.hid hN
  have HCv := Lib.hid hv
  obtain ⟨yk, mk, rfl⟩ := hv.row.form
  obtain ⟨NK, hNK⟩ : ∃ N, N = cov.length := ⟨_, rfl⟩
  rw [← hNK] at HCv ⊢
  clear hl hv hNK
  obtain ⟨yd, md, rfl⟩ := hs.sc.dom.form
  obtain ⟨ya, ma, rfl⟩ := hs.sc.auths.form
  obtain ⟨yz, mz, rfl⟩ := hs.sc.zones.form
  obtain ⟨yc, mc, rfl⟩ := hs.sc.cases.form
  have HS := Lib.hid hs
  have HSs := Lib.hid hs.sc
  obtain ⟨ND, hND⟩ : ∃ n, n = s.dom.length := ⟨_, rfl⟩
  obtain ⟨NA, hNA⟩ : ∃ n, n = s.auths.length := ⟨_, rfl⟩
  obtain ⟨NZ, hNZ⟩ : ∃ n, n = s.zones.length := ⟨_, rfl⟩
  obtain ⟨NC, hNC⟩ : ∃ n, n = s.cases.length := ⟨_, rfl⟩
  rw [← hND, ← hNA, ← hNZ, ← hNC] at HS HSs ⊢
  clear hs
  rw [← hN] at HML HFew ⊢
  rw [← hND, ← hNA, ← hNZ, ← hNC] at HFew
  clear hN hND hNA hNZ hNC HSL
  obtain ⟨W1, hW1⟩ : ∃ W1, W1 = w.alloc (sobj s (.slice yd ND md) (.slice ya NA ma) (.slice yz NZ mz) (.slice yc NC mc)) := ⟨_, rfl⟩
  obtain ⟨bx, hbx⟩ : ∃ b, b = w.heap.size := ⟨_, rfl⟩
  have HO : Hid (Owns w W1 [blk bx (sobj s (.slice yd ND md) (.slice ya NA ma) (.slice yz NZ mz) (.slice yc NC mc))]) := by
    rw [hW1, hbx]
    exact Lib.hid ((Owns.start w).box _)
  go_enter Tryz.func5, Tryz.ntmps5
  go_wp2_with fail
  rw [← hW1, ← hbx]
  clear hW1 hbx
  go_at_call 9
  refine (head_c W1).mono ?_
  rintro e W2 ⟨rfl, hb⟩
  replace HO := Lib.hid (HO.out.below hb)
  clear hb
  obtain ⟨bk, -⟩ := HO.out.blk
  have hbx := lt_of_block bk
  have x0 := cell_of_heap bk (i := 0)
  have x1 := cell_of_heap bk (i := 1)
  have x2 := cell_of_heap bk (i := 2)
  have x3 := cell_of_heap bk (i := 3)
  have x4 := cell_of_heap bk (i := 4)
  have x5 := cell_of_heap bk (i := 5)
  simp only [List.getElem?_toArray, List.getElem?_cons_succ, List.getElem?_cons_zero] at x0 x1 x2 x3 x4 x5
  clear bk
  go_wp2_with fail
  clear hbx x0 x1 x2 x3 x4 x5
  go_at_call 10
  refine (HFew.out W2 HO.out.base).mono ?_
  rintro e W3 ⟨rfl, hb⟩
  replace HO := Lib.hid (HO.out.below hb)
  clear hb HFew
  obtain ⟨q, hq⟩ : ∃ q, q = fewV l s := ⟨_, rfl⟩
  rw [← hq]
  have HQ := Lib.hid hq
  clear hq
  cases q
  · go_wp2_with fail
    go_ret
    exact ⟨rfl, HO.out.base⟩
  have HI := Lib.hid (HIn.out HQ.out.symm)
  clear HIn HQ
  by_cases h10 : 10 < NK
  · have h10' : (10 : Int) < (NK : Int) := by omega
    clear h10
    go_wp2_with fail
    go_ret
    exact ⟨rfl, HO.out.base⟩
  have h10' : ¬ (10 : Int) < (NK : Int) := by omega
  clear h10
  have hN8 : N ≤ 8 := by rw [HN.out]; exact HI.out.ms8
  go_wp2_with fail
  clear h10'
  have HT : Hid (Owns w W3 [meP (.slice none 0 0) [], blk bx (sobj s (.slice yd ND md) (.slice ya NA ma) (.slice yz NZ mz) (.slice yc NC mc))]) := Lib.hid (Owns.meNew HO.out)
  have HL0 : Hid ((([] : List (Me × Value)).map Prod.fst) = (l.drop N).reverse ∧ ∀ p ∈ ([] : List (Me × Value)), IsFm (fun _ => True) w p.1.cond p.2) := by
    refine ⟨?_, by simp⟩
    rw [HN.out, List.drop_length]; rfl
  clear HO
  go_loopg [8, 9] N (fun gk v i wr => ∃ (k : Nat) (L : List (Me × Value)), k = gk ∧ k ≤ N ∧ i = .int .i64 ((k : Int) - 1) ∧ Hid (L.map Prod.fst = (l.drop k).reverse ∧ ∀ p ∈ L, IsFm (fun _ => True) w p.1.cond p.2) ∧ Hid (Owns w wr [meP v L, blk bx (sobj s (.slice yd ND md) (.slice ya NA ma) (.slice yz NZ mz) (.slice yc NC mc))]))
  case atStart => exact ⟨N, [], rfl, Nat.le_refl _, by go_num, HL0, HT⟩
  case round =>
    rename_i J1 K1 hJ1 hK1
    clear HT HL0
    obtain ⟨k, L, rfl, hk, rfl, HL, HO⟩ := hrel
    rcases k with _ | k
    · have HLr : Hid (L.map Prod.fst = l.reverse) := Lib.hid HL.out.1
      obtain ⟨ly, lc2, rfl⟩ := Owns.meForm HO.out
      clear hJ1 hK1
      obtain ⟨bk, -⟩ := HO.out.pop.blk
      have hbx := lt_of_block bk
      have x0 := cell_of_heap bk (i := 0)
      have x1 := cell_of_heap bk (i := 1)
      have x2 := cell_of_heap bk (i := 2)
      have x3 := cell_of_heap bk (i := 3)
      have x4 := cell_of_heap bk (i := 4)
      have x5 := cell_of_heap bk (i := 5)
      simp only [List.getElem?_toArray, List.getElem?_cons_succ, List.getElem?_cons_zero] at x0 x1 x2 x3 x4 x5
      clear bk
      go_wp2_with fail
      clear hbx x0 x1 x2 x3 x4 x5
      go_at_call 11
      refine (licensed_c l s cov _ _ _ _ _ _ wr (HML.out.row.later HO.out.base) (HSs.out.later HO.out.base) (HCv.out.row.later HO.out.base) HI.out.ms HI.out.sc HI.out.a HI.out.z HI.out.c HCv.out.each HCv.out.len).mono ?_
      rintro e W4 ⟨f1, b1, rfl, h1⟩
      have HTx1 := Lib.hid (ve_tx (l := l) (s := s) (cov := cov) HI.out.ms)
      obtain ⟨r1, hr1⟩ : ∃ r, r = licensedV l s cov := ⟨_, rfl⟩
      rw [← hr1] at h1 HTx1 ⊢
      have HR1 := Lib.hid hr1
      obtain ⟨⟨k1, fl1, bl1⟩, q1⟩ := r1
      dsimp only at h1 HTx1 ⊢
      have HO2 := Lib.hid (Owns.app HO.out h1)
      clear h1 hr1 HO
      obtain ⟨fy1, fc1, rfl, -⟩ := HO2.out.txIs
      obtain ⟨by1, bc1, rfl, -⟩ := HO2.out.pop.txIs
      obtain ⟨b10, hb10⟩ : ∃ b, b = W4.heap.size := ⟨_, rfl⟩
      obtain ⟨W5, hW5⟩ : ∃ W, W = W4.alloc (vobj k1 (.slice fy1 fl1.length fc1) (.slice by1 bl1.length bc1)) := ⟨_, rfl⟩
      have HO3 : Hid (Owns w W5 [blk b10 (vobj k1 (.slice fy1 fl1.length fc1) (.slice by1 bl1.length bc1)), txP (.slice fy1 fl1.length fc1) fl1, txP (.slice by1 bl1.length bc1) bl1, meP (.slice ly L.length lc2) L, blk bx (sobj s (.slice yd ND md) (.slice ya NA ma) (.slice yz NZ mz) (.slice yc NC mc))]) := by
        rw [hW5, hb10]
        exact Lib.hid (HO2.out.box _)
      clear HO2
      obtain ⟨bk, -⟩ := (HO3.out.re [4, 0, 1, 2, 3]).blk
      have hbx := lt_of_block bk
      have x0 := cell_of_heap bk (i := 0)
      have x1 := cell_of_heap bk (i := 1)
      have x2 := cell_of_heap bk (i := 2)
      have x3 := cell_of_heap bk (i := 3)
      have x4 := cell_of_heap bk (i := 4)
      have x5 := cell_of_heap bk (i := 5)
      simp only [List.getElem?_toArray, List.getElem?_cons_succ, List.getElem?_cons_zero] at x0 x1 x2 x3 x4 x5
      clear bk
      rw [hW5] at hbx x0 x1 x2 x3 x4 x5
      go_wp2_with fail
      rw [← hW5, ← hb10]
      clear hW5 hb10
      clear hbx x0 x1 x2 x3 x4 x5
      go_at_call 11
      have HMr : Hid (IsMeR W5 l.reverse (.slice ly L.length lc2)) := by
        rw [← HLr.out]
        exact Lib.hid (Owns.meIs (Owns.drop HO3.out 3) fun p hp => (HL.out.2 p hp).later HO3.out.base)
      have HIr : Hid (MsLen l.reverse) := ⟨by rw [List.length_reverse]; exact HI.out.ms.len, fun m hm => HI.out.ms.each m (List.mem_reverse.1 hm)⟩
      refine (licensed_c l.reverse s cov _ _ _ _ _ _ W5 HMr.out (HSs.out.later HO3.out.base) (HCv.out.row.later HO3.out.base) HIr.out HI.out.sc HI.out.a HI.out.z HI.out.c HCv.out.each HCv.out.len).mono ?_
      rintro e W6 ⟨f2, b2, rfl, h2⟩
      have HTx2 := Lib.hid (ve_tx (l := l.reverse) (s := s) (cov := cov) HIr.out)
      have HLw := Lib.hid (order_law (l := l) (s := s) (cov := cov))
      rw [← HR1.out] at HLw
      obtain ⟨r2, hr2⟩ : ∃ r, r = licensedV l.reverse s cov := ⟨_, rfl⟩
      rw [← hr2] at h2 HTx2 HLw ⊢
      obtain ⟨⟨k2, fl2, bl2⟩, q2⟩ := r2
      dsimp only at h2 HTx2 HLw ⊢
      have HO4 := Lib.hid (Owns.app HO3.out h2)
      clear h2 hr2 HO3 HR1 HMr HIr HL HLr
      obtain ⟨fy2, fc2, rfl, -⟩ := HO4.out.txIs
      obtain ⟨by2, bc2, rfl, -⟩ := HO4.out.pop.txIs
      obtain ⟨b12, hb12⟩ : ∃ b, b = W6.heap.size := ⟨_, rfl⟩
      obtain ⟨W7, hW7⟩ : ∃ W, W = W6.alloc (vobj k2 (.slice fy2 fl2.length fc2) (.slice by2 bl2.length bc2)) := ⟨_, rfl⟩
      have HO : Hid (Owns w W7 [blk b12 (vobj k2 (.slice fy2 fl2.length fc2) (.slice by2 bl2.length bc2)), txP (.slice fy2 fl2.length fc2) fl2, txP (.slice by2 bl2.length bc2) bl2, blk b10 (vobj k1 (.slice fy1 fl1.length fc1) (.slice by1 bl1.length bc1)), txP (.slice fy1 fl1.length fc1) fl1, txP (.slice by1 bl1.length bc1) bl1, meP (.slice ly L.length lc2) L, blk bx (sobj s (.slice yd ND md) (.slice ya NA ma) (.slice yz NZ mz) (.slice yc NC mc))]) := by
        rw [hW7, hb12]
        exact Lib.hid (HO4.out.box _)
      clear HO4
      by_cases hq1 : q1 = 0
      rotate_left
      · have hq1' : ((q1 : Int) != 0) = true := by simp; omega
        have hq2 : ((q2 : Int) != 0) = true := by have := HLw.out.1 hq1; simp; omega
        clear hq1
        go_wp2_with fail
        go_ret
        exact ⟨rfl, by rw [← hW7]; exact HO.out.base⟩
      have hq1' : ((q1 : Int) != 0) = false := by simp; omega
      obtain ⟨hq0, hve⟩ := HLw.out.2 hq1
      have hq2 : ((q2 : Int) == 0) = true := by simp; omega
      have HVe := Lib.hid hve
      clear hq1 hq0 hve HLw
      go_wp2_with fail
      rw [← hW7, ← hb12]
      clear hW7 hb12 hq1'
      refine wp_region_can [11, 14, 16] [0, 1, 2, 3, 4, 5, 6, 7, 8, 9, 10, 12, 13, 11, 14, 15, 16, 17, 18] (by decide +kernel) (by decide +kernel) ?_
      replace HO := Lib.hid HO.out.drew
      obtain ⟨W8, hW8⟩ : ∃ W, W = W7.drew := ⟨_, rfl⟩
      rw [← hW8] at HO ⊢
      clear hW8
      obtain ⟨bk, -⟩ := Owns.blk HO.out
      have hbp := lt_of_block bk
      have ep0 := cell_of_heap bk (i := 0)
      have ep1 := cell_of_heap bk (i := 1)
      have ep2 := cell_of_heap bk (i := 2)
      simp only [List.getElem?_toArray, List.getElem?_cons_succ, List.getElem?_cons_zero] at ep0 ep1 ep2
      clear bk
      obtain ⟨bk, -⟩ := Owns.blk (Owns.drop HO.out 3)
      have hbr := lt_of_block bk
      have er0 := cell_of_heap bk (i := 0)
      have er1 := cell_of_heap bk (i := 1)
      have er2 := cell_of_heap bk (i := 2)
      simp only [List.getElem?_toArray, List.getElem?_cons_succ, List.getElem?_cons_zero] at er0 er1 er2
      clear bk
      iterate 13 (first | (refine cl_do rfl rfl rfl rfl (fun _ _ => ?_); go_wp2_with fail) | (refine cl_yes rfl rfl rfl rfl (by first | rfl | simp [okB, lenV, plainV, Act.eval]) (fun _ _ => ?_); go_wp2_with fail) | (refine cl_no rfl rfl rfl ?_; go_simp))
      clear hbp ep0 ep1 ep2 hbr er0 er1 er2 hq2 HI HN
      refine cl_ycall (i := 11) rfl rfl rfl rfl (fun K hK => ?_)
      go_wp2_with fail
      go_at_call 20
      refine (back_c fl2 _ W8 HO.out.pop.txIs HTx2.out.1.len).mono ?_
      rintro e W9 ⟨v1, rfl, ho⟩
      have HOa := Lib.hid (Owns.app HO.out ho)
      have Hb := Lib.hid ho.base
      clear ho HO
      obtain ⟨ry, rc, rfl, -⟩ := HOa.out.txIs
      obtain ⟨nr, hnr⟩ : ∃ n, n = fl2.reverse.length := ⟨_, rfl⟩
      rw [← hnr] at HOa ⊢
      clear hnr
      go_wp2_with fail
      refine And.intro Hb.out ?_
      clear Hb
      refine cl_ycall (i := 14) rfl rfl rfl rfl (fun K hK => ?_)
      go_wp2_with fail
      go_at_call 20
      refine (back_c bl2 _ W9 (Owns.drop HOa.out 3).txIs HTx2.out.2.len).mono ?_
      rintro e W10 ⟨v2, rfl, ho⟩
      have HO := Lib.hid (Owns.app HOa.out ho)
      have Hb := Lib.hid ho.base
      clear ho HOa
      obtain ⟨qy, qc, rfl, -⟩ := HO.out.txIs
      obtain ⟨nq, hnq⟩ : ∃ n, n = bl2.reverse.length := ⟨_, rfl⟩
      rw [← hnq] at HO ⊢
      clear hnq
      go_wp2_with fail
      refine And.intro Hb.out ?_
      clear Hb
      iterate 1 (first | (refine cl_do rfl rfl rfl rfl (fun _ _ => ?_); go_wp2_with fail) | (refine cl_yes rfl rfl rfl rfl (by first | rfl | simp [okB, lenV, plainV, Act.eval]) (fun _ _ => ?_); go_wp2_with fail) | (refine cl_no rfl rfl rfl ?_; go_simp))
      refine cl_ycall (i := 16) rfl rfl rfl rfl (fun K hK => ?_)
      go_wp2_with fail
      go_at_call 17
      refine (same_c ⟨k1, fl1, bl1⟩ ⟨k2, fl2.reverse, bl2.reverse⟩ _ _ _ _ W10 (Owns.drop HO.out 6).txIs (Owns.drop HO.out 7).txIs HO.out.pop.txIs HO.out.txIs HTx1.out.1 HTx1.out.2 HTx2.out.1.rev HTx2.out.2.rev).mono ?_
      rintro e W11 ⟨rfl, hb⟩
      replace HO := Lib.hid (HO.out.below hb)
      have Hb := Lib.hid hb
      clear hb
      rw [sameV_iff.2 HVe.out]
      go_wp2_with fail
      refine And.intro Hb.out ?_
      iterate 2 (first | (refine cl_do rfl rfl rfl rfl (fun _ _ => ?_); go_wp2_with fail) | (refine cl_yes rfl rfl rfl rfl (by first | rfl | simp [okB, lenV, plainV, Act.eval]) (fun _ _ => ?_); go_wp2_with fail) | (refine cl_no rfl rfl rfl ?_; go_simp))
      refine cl_nil ?_
      go_wp2_with fail
      go_ret
      exact ⟨rfl, HO.out.base⟩
    · obtain ⟨m, hx⟩ : ∃ x, l[k]? = some x := ⟨_, List.getElem?_eq_getElem (by rw [← HN.out]; omega)⟩
      obtain ⟨g, off, kv, rfl, hgw, hm, hf⟩ := HML.out.row.get (Below.refl _ _) hx
      have HX := Lib.hid hx
      obtain ⟨ky, kn, rfl⟩ := hf.form
      obtain ⟨n2, hn2⟩ : ∃ n, n = m.cond.kids.length := ⟨_, rfl⟩
      rw [← hn2] at hm hf
      have HFm := Lib.hid hf
      have hmr := hm.later hgw HO.out.base
      have hg : g < wr.heap.size := Nat.lt_of_lt_of_le hgw HO.out.base.size
      clear hx hf hn2 hm hgw
      obtain ⟨c0, c1, c2, c3, c4, c5, c6, c7, c8, c9, c10, c11⟩ := hmr
      have hk1 : ((k + 1 : Nat) : Int) - 1 = (k : Int) := by omega
      rw [hk1]
      obtain ⟨sa, sc, rfl⟩ := Owns.meForm HO.out
      have HW := Lib.hid (HO.out.alloc (mobj m (.slice ky n2 kn)))
      have e1 : Hid ((l.drop k).reverse = (l.drop (k + 1)).reverse ++ [m]) := by
        show _ = _
        obtain ⟨h1, rfl⟩ := List.getElem?_eq_some_iff.1 HX.out
        rw [List.drop_eq_getElem_cons h1, List.reverse_cons]
      have hLl : L.length ≤ 8 := by
        have := congrArg List.length HL.out.1
        rw [List.length_map, List.length_reverse, List.length_drop] at this
        have := HN.out
        omega
      obtain ⟨nl, hnl⟩ : ∃ n, n = L.length := ⟨_, rfl⟩
      have HNl := Lib.hid hnl
      go_wp2_with (refine wpList_plain rfl fun K hK => wp_append (.tmp 32) (.tmp 37) 22 (by rfl) 46 _ 12 144 Tryz.underlying22 info_me (by rfl) (by omega) _ L.length _ (by rfl) (Owns.meRow HW.out) wr.heap.size 1 1 (mcl (m, .slice ky n2 kn)) (by rfl) (by rfl) 46 (by exact new_heap wr _ _ rfl) (by simp [mcl, Value.oneCell']) (by omega) (by omega) ?_; intro v' w2 hrow hgrow hblk; have ho14 := (Owns.meGrew (L' := L ++ [(m, Value.slice ky n2 kn)]) HW.out (by simpa using hrow) hgrow hblk); have HO14 := Lib.hid ho14; clear ho14 hrow hgrow hblk)
      have HL2 : Hid ((L ++ [(m, Value.slice ky n2 kn)]).map Prod.fst = (l.drop k).reverse ∧ ∀ p ∈ L ++ [(m, Value.slice ky n2 kn)], IsFm (fun _ => True) w p.1.cond p.2) := by
        refine ⟨by rw [e1.out, ← HL.out.1]; simp, fun p hp => ?_⟩
        rcases List.mem_append.1 hp with hp | hp
        · exact HL.out.2 p hp
        · obtain rfl : p = (m, Value.slice ky n2 kn) := by simpa using hp
          exact HFm.out
      clear HW HO hg c0 c1 c2 c3 c4 c5 c6 c7 c8 c9 c10 c11 HX HFm hk1 e1 HNl hnl HL
      go_roundg k
      case measure => omega
      case rel => exact ⟨k, L ++ [(m, Value.slice ky n2 kn)], rfl, by omega, by go_num, HL2, HO14⟩
end Go.Proofs.YtakadfdnhlfijaaGreatDoor
