/-
  'VerdictMatchesReference' returns true: the walk.
-/
import Derived.Test.YtakadfdnhlfijaaGreatDoorVdF
import Derived.Test.YtakadfdnhlfijaaGreatDoorVdRB
import Derived.Deep.DeepCutAuto
namespace Go.Proofs.YtakadfdnhlfijaaGreatDoor
open Go.RowKit Go.Cz Go.Cz.Lx Go.Cz.Fo Go.Cz.Vd
set_option linter.unusedSimpArgs false
set_option linter.unusedVariables false
attribute [local go_sem] bs_size bs_extract bs_append bs_toList
attribute [local irreducible] cList cPlan
set_option maxRecDepth 100000 in
set_option maxHeartbeats 16000000 in
theorem VerdictMatchesReference_walk (w : World) (l : List Me) (lv : Value) (hl : MeIn w l lv) (s : Sc) (vd va vz vc : Value) (hs : ScIn w s vd va vz vc) (cov : List Bytes) (cv : Value) (hv : TxIn w cov cv) :
    Calls Tryz.prog 3 #[lv, sval s vd va vz vc, cv] w fun e w' => e = .returned (.bool true) ∧ Below w.heap.size w w' := by
  have HFew := Lib.hid (few_c2 hl hs)
  have HML := Lib.hid hl
  have HSL := Lib.hid hs
  have HIn := Lib.hid fun h : fewV l s = true => few_in h hl hs
  obtain ⟨y, c, rfl⟩ := hl.row.form
  obtain ⟨N, hN⟩ : ∃ N, N = l.length := ⟨_, rfl⟩
  have HN := Lib.hid hN
  have HCv := Lib.hid hv
  obtain ⟨yk, mk, rfl⟩ := hv.row.form
  obtain ⟨NK, hNK⟩ : ∃ N, N = cov.length := ⟨_, rfl⟩
  rw [← hNK] at HCv ⊢
  clear hl hv hNK
  obtain ⟨yd, md, rfl⟩ := hs.sc.dom.form
  obtain ⟨ya, ma, rfl⟩ := hs.sc.auths.form
  obtain ⟨yz, mz, rfl⟩ := hs.sc.zones.form
  obtain ⟨yc, mc, rfl⟩ := hs.sc.cases.form
  have HS := Lib.hid hs
  have HSs := Lib.hid hs.sc
  obtain ⟨ND, hND⟩ : ∃ n, n = s.dom.length := ⟨_, rfl⟩
  obtain ⟨NA, hNA⟩ : ∃ n, n = s.auths.length := ⟨_, rfl⟩
  obtain ⟨NZ, hNZ⟩ : ∃ n, n = s.zones.length := ⟨_, rfl⟩
  obtain ⟨NC, hNC⟩ : ∃ n, n = s.cases.length := ⟨_, rfl⟩
  rw [← hND, ← hNA, ← hNZ, ← hNC] at HS HSs ⊢
  clear hs
  rw [← hN] at HML HFew ⊢
  rw [← hND, ← hNA, ← hNZ, ← hNC] at HFew
  clear hN hND hNA hNZ hNC HSL
  obtain ⟨W1, hW1⟩ : ∃ W1, W1 = w.alloc (sobj s (.slice yd ND md) (.slice ya NA ma) (.slice yz NZ mz) (.slice yc NC mc)) := ⟨_, rfl⟩
  obtain ⟨bx, hbx⟩ : ∃ b, b = w.heap.size := ⟨_, rfl⟩
  have HO : Hid (Owns w W1 [blk bx (sobj s (.slice yd ND md) (.slice ya NA ma) (.slice yz NZ mz) (.slice yc NC mc))]) := by
    rw [hW1, hbx]
    exact Lib.hid ((Owns.start w).box _)
  go_enter Tryz.func3, Tryz.ntmps3
  go_wp2_with fail
  rw [← hW1, ← hbx]
  clear hW1 hbx
  go_at_call 9
  refine (head_c W1).mono ?_
  rintro e W2 ⟨rfl, hb⟩
  replace HO := Lib.hid (HO.out.below hb)
  clear hb
  obtain ⟨bk, -⟩ := HO.out.blk
  have hbx := lt_of_block bk
  have x0 := cell_of_heap bk (i := 0)
  have x1 := cell_of_heap bk (i := 1)
  have x2 := cell_of_heap bk (i := 2)
  have x3 := cell_of_heap bk (i := 3)
  have x4 := cell_of_heap bk (i := 4)
  have x5 := cell_of_heap bk (i := 5)
  simp only [List.getElem?_toArray, List.getElem?_cons_succ, List.getElem?_cons_zero] at x0 x1 x2 x3 x4 x5
  clear bk
  go_wp2_with fail
  clear hbx x0 x1 x2 x3 x4 x5
  go_at_call 10
  refine (HFew.out W2 HO.out.base).mono ?_
  rintro e W3 ⟨rfl, hb⟩
  replace HO := Lib.hid (HO.out.below hb)
  clear hb HFew
  obtain ⟨q, hq⟩ : ∃ q, q = fewV l s := ⟨_, rfl⟩
  rw [← hq]
  have HQ := Lib.hid hq
  clear hq
  cases q
  · go_wp2_with fail
    go_ret
    exact ⟨rfl, HO.out.base⟩
  have HI := Lib.hid (HIn.out HQ.out.symm)
  clear HIn HQ
  by_cases h10 : 10 < NK
  · have h10' : (10 : Int) < (NK : Int) := by omega
    clear h10
    go_wp2_with fail
    go_ret
    exact ⟨rfl, HO.out.base⟩
  have h10' : ¬ (10 : Int) < (NK : Int) := by omega
  clear h10
  obtain ⟨bk, -⟩ := HO.out.blk
  have hbx := lt_of_block bk
  have x0 := cell_of_heap bk (i := 0)
  have x1 := cell_of_heap bk (i := 1)
  have x2 := cell_of_heap bk (i := 2)
  have x3 := cell_of_heap bk (i := 3)
  have x4 := cell_of_heap bk (i := 4)
  have x5 := cell_of_heap bk (i := 5)
  simp only [List.getElem?_toArray, List.getElem?_cons_succ, List.getElem?_cons_zero] at x0 x1 x2 x3 x4 x5
  clear bk
  go_wp2_with fail
  clear hbx x0 x1 x2 x3 x4 x5
  have HC10 : Hid (cov.length ≤ 10) := by
    obtain ⟨_, _, e, -⟩ := HCv.out.row
    injection e with _ e2 _
    show _ ≤ _
    omega
  clear h10'
  have HTx1 := Lib.hid (ve_tx (l := l) (s := s) (cov := cov) HI.out.ms)
  obtain ⟨r1, hr1⟩ : ∃ r, r = licensedV l s cov := ⟨_, rfl⟩
  rw [← hr1] at HTx1
  have HR1 := Lib.hid hr1.symm
  clear hr1
  obtain ⟨⟨k1, fl1, bl1⟩, q1⟩ := r1
  have HTx2 := Lib.hid (ve_tx (l := l) (s := s) (cov := []) HI.out.ms)
  rw [show licensedV l s [] = decideV l s from rfl] at HTx2
  obtain ⟨r2, hr2⟩ : ∃ r, r = decideV l s := ⟨_, rfl⟩
  rw [← hr2] at HTx2
  have HR2 := Lib.hid hr2.symm
  clear hr2
  obtain ⟨⟨k2, fl2, bl2⟩, q2⟩ := r2
  dsimp only at HTx1 HTx2
  have HCt := Lib.hid HCv.out.each
  go_at_call 11
  refine (licensed_c l s cov _ _ _ _ _ _ W3 (HML.out.row.later HO.out.base) (HSs.out.later HO.out.base) (HCv.out.row.later HO.out.base) HI.out.ms HI.out.sc HI.out.a HI.out.z HI.out.c HCt.out (by have := HC10.out; omega)).mono ?_
  rintro e V1a ⟨f1, g1, rfl, h1⟩
  rw [HR1.out] at h1 ⊢
  dsimp only at h1 ⊢
  have HOn := Lib.hid (Owns.app HO.out h1)
  clear h1 HO
  obtain ⟨fy1, fc1, rfl, -⟩ := HOn.out.txIs
  obtain ⟨by1, bc1, rfl, -⟩ := HOn.out.pop.txIs
  obtain ⟨b1, hb1⟩ : ∃ b, b = V1a.heap.size := ⟨_, rfl⟩
  obtain ⟨nf1, hnf⟩ : ∃ n, n = fl1.length := ⟨_, rfl⟩
  obtain ⟨nb1, hnb⟩ : ∃ n, n = bl1.length := ⟨_, rfl⟩
  have HNf1 := Lib.hid hnf
  have HNb1 := Lib.hid hnb
  rw [← hnf, ← hnb] at HOn ⊢
  clear hnf hnb
  obtain ⟨V1, hV1⟩ : ∃ W, W = V1a.alloc (vobj k1 (.slice fy1 nf1 fc1) (.slice by1 nb1 bc1)) := ⟨_, rfl⟩
  have HO : Hid (Owns w V1 (blk b1 (vobj k1 (.slice fy1 nf1 fc1) (.slice by1 nb1 bc1)) :: txP (.slice fy1 nf1 fc1) fl1 :: txP (.slice by1 nb1 bc1) bl1 :: blk bx (sobj s (.slice yd ND md) (.slice ya NA ma) (.slice yz NZ mz) (.slice yc NC mc)) :: [])) := by
    rw [hV1, hb1]
    exact Lib.hid (HOn.out.box _)
  clear HOn
  go_upto_region 5 with fail
  rw [← hV1, ← hb1]
  clear hV1 hb1
  obtain ⟨bk, -⟩ := (Owns.drop HO.out 3).blk
  have hbx := lt_of_block bk
  have x0 := cell_of_heap bk (i := 0)
  have x1 := cell_of_heap bk (i := 1)
  have x2 := cell_of_heap bk (i := 2)
  have x3 := cell_of_heap bk (i := 3)
  have x4 := cell_of_heap bk (i := 4)
  have x5 := cell_of_heap bk (i := 5)
  simp only [List.getElem?_toArray, List.getElem?_cons_succ, List.getElem?_cons_zero] at x0 x1 x2 x3 x4 x5
  clear bk
  go_wp2_with fail
  clear hbx x0 x1 x2 x3 x4 x5
  go_at_call 12
  refine (rlicensed_c l s cov _ _ _ _ _ _ V1 (HML.out.row.later HO.out.base) (HSs.out.later HO.out.base) (HCv.out.row.later HO.out.base) HI.out.ms HI.out.sc HI.out.a HI.out.z HI.out.c (by have := HC10.out; omega)).mono ?_
  rintro e V2a ⟨f2, g2, rfl, h1⟩
  rw [HR1.out] at h1 ⊢
  dsimp only at h1 ⊢
  have HOn := Lib.hid (Owns.app HO.out h1)
  clear h1 HO
  obtain ⟨fy2, fc2, rfl, -⟩ := HOn.out.txIs
  obtain ⟨by2, bc2, rfl, -⟩ := HOn.out.pop.txIs
  obtain ⟨b2, hb2⟩ : ∃ b, b = V2a.heap.size := ⟨_, rfl⟩
  rw [← HNf1.out, ← HNb1.out] at HOn ⊢
  obtain ⟨V2, hV2⟩ : ∃ W, W = V2a.alloc (vobj k1 (.slice fy2 nf1 fc2) (.slice by2 nb1 bc2)) := ⟨_, rfl⟩
  have HO : Hid (Owns w V2 (blk b2 (vobj k1 (.slice fy2 nf1 fc2) (.slice by2 nb1 bc2)) :: txP (.slice fy2 nf1 fc2) fl1 :: txP (.slice by2 nb1 bc2) bl1 :: blk b1 (vobj k1 (.slice fy1 nf1 fc1) (.slice by1 nb1 bc1)) :: txP (.slice fy1 nf1 fc1) fl1 :: txP (.slice by1 nb1 bc1) bl1 :: blk bx (sobj s (.slice yd ND md) (.slice ya NA ma) (.slice yz NZ mz) (.slice yc NC mc)) :: [])) := by
    rw [hV2, hb2]
    exact Lib.hid (HOn.out.box _)
  clear HOn
  go_upto_region 6 with fail
  rw [← hV2, ← hb2]
  clear hV2 hb2
  obtain ⟨bk, -⟩ := (Owns.drop HO.out 6).blk
  have hbx := lt_of_block bk
  have x0 := cell_of_heap bk (i := 0)
  have x1 := cell_of_heap bk (i := 1)
  have x2 := cell_of_heap bk (i := 2)
  have x3 := cell_of_heap bk (i := 3)
  have x4 := cell_of_heap bk (i := 4)
  have x5 := cell_of_heap bk (i := 5)
  simp only [List.getElem?_toArray, List.getElem?_cons_succ, List.getElem?_cons_zero] at x0 x1 x2 x3 x4 x5
  clear bk
  go_wp2_with fail
  clear hbx x0 x1 x2 x3 x4 x5
  go_at_call 13
  refine (decide_c l s _ _ _ _ _ V2 (HML.out.row.later HO.out.base) (HSs.out.later HO.out.base) HI.out.ms HI.out.sc HI.out.a HI.out.z HI.out.c).mono ?_
  rintro e V3a ⟨f3, g3, rfl, h1⟩
  rw [HR2.out] at h1 ⊢
  dsimp only at h1 ⊢
  have HOn := Lib.hid (Owns.app HO.out h1)
  clear h1 HO
  obtain ⟨fy3, fc3, rfl, -⟩ := HOn.out.txIs
  obtain ⟨by3, bc3, rfl, -⟩ := HOn.out.pop.txIs
  obtain ⟨b3, hb3⟩ : ∃ b, b = V3a.heap.size := ⟨_, rfl⟩
  obtain ⟨nf2, hnf⟩ : ∃ n, n = fl2.length := ⟨_, rfl⟩
  obtain ⟨nb2, hnb⟩ : ∃ n, n = bl2.length := ⟨_, rfl⟩
  have HNf2 := Lib.hid hnf
  have HNb2 := Lib.hid hnb
  rw [← hnf, ← hnb] at HOn ⊢
  clear hnf hnb
  obtain ⟨V3, hV3⟩ : ∃ W, W = V3a.alloc (vobj k2 (.slice fy3 nf2 fc3) (.slice by3 nb2 bc3)) := ⟨_, rfl⟩
  have HO : Hid (Owns w V3 (blk b3 (vobj k2 (.slice fy3 nf2 fc3) (.slice by3 nb2 bc3)) :: txP (.slice fy3 nf2 fc3) fl2 :: txP (.slice by3 nb2 bc3) bl2 :: blk b2 (vobj k1 (.slice fy2 nf1 fc2) (.slice by2 nb1 bc2)) :: txP (.slice fy2 nf1 fc2) fl1 :: txP (.slice by2 nb1 bc2) bl1 :: blk b1 (vobj k1 (.slice fy1 nf1 fc1) (.slice by1 nb1 bc1)) :: txP (.slice fy1 nf1 fc1) fl1 :: txP (.slice by1 nb1 bc1) bl1 :: blk bx (sobj s (.slice yd ND md) (.slice ya NA ma) (.slice yz NZ mz) (.slice yc NC mc)) :: [])) := by
    rw [hV3, hb3]
    exact Lib.hid (HOn.out.box _)
  clear HOn
  go_upto_region 7 with fail
  rw [← hV3, ← hb3]
  clear hV3 hb3
  obtain ⟨bk, -⟩ := (Owns.drop HO.out 9).blk
  have hbx := lt_of_block bk
  have x0 := cell_of_heap bk (i := 0)
  have x1 := cell_of_heap bk (i := 1)
  have x2 := cell_of_heap bk (i := 2)
  have x3 := cell_of_heap bk (i := 3)
  have x4 := cell_of_heap bk (i := 4)
  have x5 := cell_of_heap bk (i := 5)
  simp only [List.getElem?_toArray, List.getElem?_cons_succ, List.getElem?_cons_zero] at x0 x1 x2 x3 x4 x5
  clear bk
  go_wp2_with fail
  clear hbx x0 x1 x2 x3 x4 x5
  go_at_call 14
  refine (rdecide_c l s _ _ _ _ _ V3 (HML.out.row.later HO.out.base) (HSs.out.later HO.out.base) HI.out.ms HI.out.sc HI.out.a HI.out.z HI.out.c).mono ?_
  rintro e V4a ⟨f4, g4, rfl, h1⟩
  rw [HR2.out] at h1 ⊢
  dsimp only at h1 ⊢
  have HOn := Lib.hid (Owns.app HO.out h1)
  clear h1 HO
  obtain ⟨fy4, fc4, rfl, -⟩ := HOn.out.txIs
  obtain ⟨by4, bc4, rfl, -⟩ := HOn.out.pop.txIs
  obtain ⟨b4, hb4⟩ : ∃ b, b = V4a.heap.size := ⟨_, rfl⟩
  rw [← HNf2.out, ← HNb2.out] at HOn ⊢
  obtain ⟨V4, hV4⟩ : ∃ W, W = V4a.alloc (vobj k2 (.slice fy4 nf2 fc4) (.slice by4 nb2 bc4)) := ⟨_, rfl⟩
  have HO : Hid (Owns w V4 (blk b4 (vobj k2 (.slice fy4 nf2 fc4) (.slice by4 nb2 bc4)) :: txP (.slice fy4 nf2 fc4) fl2 :: txP (.slice by4 nb2 bc4) bl2 :: blk b3 (vobj k2 (.slice fy3 nf2 fc3) (.slice by3 nb2 bc3)) :: txP (.slice fy3 nf2 fc3) fl2 :: txP (.slice by3 nb2 bc3) bl2 :: blk b2 (vobj k1 (.slice fy2 nf1 fc2) (.slice by2 nb1 bc2)) :: txP (.slice fy2 nf1 fc2) fl1 :: txP (.slice by2 nb1 bc2) bl1 :: blk b1 (vobj k1 (.slice fy1 nf1 fc1) (.slice by1 nb1 bc1)) :: txP (.slice fy1 nf1 fc1) fl1 :: txP (.slice by1 nb1 bc1) bl1 :: blk bx (sobj s (.slice yd ND md) (.slice ya NA ma) (.slice yz NZ mz) (.slice yc NC mc)) :: [])) := by
    rw [hV4, hb4]
    exact Lib.hid (HOn.out.box _)
  clear HOn
  go_wp2_with fail
  rw [← hV4, ← hb4]
  clear hV4 hb4
  replace HO := Lib.hid HO.out.drew
  refine wp_region_can [3, 5, 16, 26] [0, 1, 2, 4, 3, 5, 6, 7, 8, 9, 10, 11, 12, 13, 14, 15, 16, 17, 18, 19, 20, 21, 22, 23, 24, 25, 26, 27, 28] (by decide +kernel) (by decide +kernel) ?_
  obtain ⟨W5, hW5⟩ : ∃ W, W = World.drew V4 := ⟨_, rfl⟩
  rw [← hW5] at HO ⊢
  clear hW5
  obtain ⟨bk, -⟩ := (Owns.drop HO.out 12).blk
  have hbx := lt_of_block bk
  have x0 := cell_of_heap bk (i := 0)
  have x1 := cell_of_heap bk (i := 1)
  have x2 := cell_of_heap bk (i := 2)
  have x3 := cell_of_heap bk (i := 3)
  have x4 := cell_of_heap bk (i := 4)
  have x5 := cell_of_heap bk (i := 5)
  simp only [List.getElem?_toArray, List.getElem?_cons_succ, List.getElem?_cons_zero] at x0 x1 x2 x3 x4 x5
  clear bk
  iterate 4 (first | (refine cl_do rfl rfl rfl rfl (fun _ _ => ?_); go_wp2_with fail) | (refine cl_yes rfl rfl rfl rfl (by first | rfl | simp [okB, lenV, plainV, Act.eval]) (fun _ _ => ?_); go_wp2_with fail) | (refine cl_no rfl rfl rfl ?_; go_simp))
  clear hbx x0 x1 x2 x3 x4 x5
  refine cl_ycall (i := 3) rfl rfl rfl rfl (fun K hK => ?_)
  go_wp2_with fail
  go_at_call 15
  refine (proper_c s _ _ _ _ W5 (HSs.out.later HO.out.base) HI.out.sc HI.out.a HI.out.z HI.out.c).mono ?_
  rintro e W6 ⟨rfl, hb⟩
  replace HO := Lib.hid (HO.out.below hb)
  have Hb := Lib.hid hb
  clear hb
  obtain ⟨q, hq⟩ : ∃ q, q = properB s := ⟨_, rfl⟩
  rw [← hq]
  have HQ := Lib.hid hq
  clear hq
  go_wp2_with fail
  refine And.intro Hb.out ?_
  clear Hb
  refine cl_ycall (i := 5) rfl rfl rfl rfl (fun K hK => ?_)
  go_wp2_with fail
  go_at_call 16
  refine (rProper_c s _ _ _ _ W6 (HSs.out.later HO.out.base) HI.out.sc HI.out.a HI.out.z HI.out.c).mono ?_
  rintro e W7 ⟨rfl, hb⟩
  replace HO := Lib.hid (HO.out.below hb)
  have Hb := Lib.hid hb
  clear hb
  rw [← HQ.out]
  have hqq : (q == q) = true := by cases q <;> rfl
  clear HQ
  go_wp2_with fail
  refine And.intro Hb.out ?_
  clear Hb
  have hq1 : ((q1 : Int) == (q1 : Int)) = true := by simp
  have hq2 : ((q2 : Int) == (q2 : Int)) = true := by simp
  iterate 1 (first | (refine cl_do rfl rfl rfl rfl (fun _ _ => ?_); go_wp2_with fail) | (refine cl_yes rfl rfl rfl rfl (by first | rfl | simp [okB, lenV, plainV, Act.eval]) (fun _ _ => ?_); go_wp2_with fail) | (refine cl_no rfl rfl rfl ?_; go_simp))
  (try rw [hqq])
  iterate 5 (first | (refine cl_do rfl rfl rfl rfl (fun _ _ => ?_); go_wp2_with fail) | (refine cl_yes rfl rfl rfl rfl (by first | rfl | simp [okB, lenV, plainV, Act.eval]) (fun _ _ => ?_); go_wp2_with fail) | (refine cl_no rfl rfl rfl ?_; go_simp))
  (try rw [hq1])
  obtain ⟨bk, -⟩ := (Owns.drop HO.out 9).blk
  have hba := lt_of_block bk
  have ea0 := cell_of_heap bk (i := 0)
  have ea1 := cell_of_heap bk (i := 1)
  have ea2 := cell_of_heap bk (i := 2)
  simp only [List.getElem?_toArray, List.getElem?_cons_succ, List.getElem?_cons_zero] at ea0 ea1 ea2
  clear bk
  obtain ⟨bk, -⟩ := (Owns.drop HO.out 6).blk
  have hbb := lt_of_block bk
  have eb0 := cell_of_heap bk (i := 0)
  have eb1 := cell_of_heap bk (i := 1)
  have eb2 := cell_of_heap bk (i := 2)
  simp only [List.getElem?_toArray, List.getElem?_cons_succ, List.getElem?_cons_zero] at eb0 eb1 eb2
  clear bk
  iterate 4 (first | (refine cl_do rfl rfl rfl rfl (fun _ _ => ?_); go_wp2_with fail) | (refine cl_yes rfl rfl rfl rfl (by first | rfl | simp [okB, lenV, plainV, Act.eval]) (fun _ _ => ?_); go_wp2_with fail) | (refine cl_no rfl rfl rfl ?_; go_simp))
  clear hba ea0 ea1 ea2 hbb eb0 eb1 eb2
  refine cl_ycall (i := 16) rfl rfl rfl rfl (fun K hK => ?_)
  go_wp2_with fail
  go_at_call 17
  refine (same_c ⟨k1, fl1, bl1⟩ ⟨k1, fl1, bl1⟩ _ _ _ _ W7 (Owns.drop HO.out 10).txIs (Owns.drop HO.out 11).txIs (Owns.drop HO.out 7).txIs (Owns.drop HO.out 8).txIs HTx1.out.1 HTx1.out.2 HTx1.out.1 HTx1.out.2).mono ?_
  rintro e W8 ⟨rfl, hb⟩
  replace HO := Lib.hid (HO.out.below hb)
  have Hb := Lib.hid hb
  clear hb
  rw [sameV_iff.2 rfl]
  go_wp2_with fail
  refine And.intro Hb.out ?_
  clear Hb
  iterate 5 (first | (refine cl_do rfl rfl rfl rfl (fun _ _ => ?_); go_wp2_with fail) | (refine cl_yes rfl rfl rfl rfl (by first | rfl | simp [okB, lenV, plainV, Act.eval]) (fun _ _ => ?_); go_wp2_with fail) | (refine cl_no rfl rfl rfl ?_; go_simp))
  (try rw [hq2])
  obtain ⟨bk, -⟩ := (Owns.drop HO.out 3).blk
  have hba := lt_of_block bk
  have ea0 := cell_of_heap bk (i := 0)
  have ea1 := cell_of_heap bk (i := 1)
  have ea2 := cell_of_heap bk (i := 2)
  simp only [List.getElem?_toArray, List.getElem?_cons_succ, List.getElem?_cons_zero] at ea0 ea1 ea2
  clear bk
  obtain ⟨bk, -⟩ := HO.out.blk
  have hbb := lt_of_block bk
  have eb0 := cell_of_heap bk (i := 0)
  have eb1 := cell_of_heap bk (i := 1)
  have eb2 := cell_of_heap bk (i := 2)
  simp only [List.getElem?_toArray, List.getElem?_cons_succ, List.getElem?_cons_zero] at eb0 eb1 eb2
  clear bk
  iterate 4 (first | (refine cl_do rfl rfl rfl rfl (fun _ _ => ?_); go_wp2_with fail) | (refine cl_yes rfl rfl rfl rfl (by first | rfl | simp [okB, lenV, plainV, Act.eval]) (fun _ _ => ?_); go_wp2_with fail) | (refine cl_no rfl rfl rfl ?_; go_simp))
  clear hba ea0 ea1 ea2 hbb eb0 eb1 eb2
  refine cl_ycall (i := 26) rfl rfl rfl rfl (fun K hK => ?_)
  go_wp2_with fail
  go_at_call 17
  refine (same_c ⟨k2, fl2, bl2⟩ ⟨k2, fl2, bl2⟩ _ _ _ _ W8 (Owns.drop HO.out 4).txIs (Owns.drop HO.out 5).txIs (Owns.drop HO.out 1).txIs (Owns.drop HO.out 2).txIs HTx2.out.1 HTx2.out.2 HTx2.out.1 HTx2.out.2).mono ?_
  rintro e W9 ⟨rfl, hb⟩
  replace HO := Lib.hid (HO.out.below hb)
  have Hb := Lib.hid hb
  clear hb
  rw [sameV_iff.2 rfl]
  go_wp2_with fail
  refine And.intro Hb.out ?_
  clear Hb
  iterate 2 (first | (refine cl_do rfl rfl rfl rfl (fun _ _ => ?_); go_wp2_with fail) | (refine cl_yes rfl rfl rfl rfl (by first | rfl | simp [okB, lenV, plainV, Act.eval]) (fun _ _ => ?_); go_wp2_with fail) | (refine cl_no rfl rfl rfl ?_; go_simp))
  refine cl_nil ?_
  go_wp2_with fail
  go_ret
  exact ⟨rfl, HO.out.base⟩
end Go.Proofs.YtakadfdnhlfijaaGreatDoor
