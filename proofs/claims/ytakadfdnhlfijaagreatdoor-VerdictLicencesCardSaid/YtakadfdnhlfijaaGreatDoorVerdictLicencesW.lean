/-
  'VerdictLicences' returns true: the walk.
-/
import Derived.Test.YtakadfdnhlfijaaGreatDoorVdLaw
import Derived.Deep.DeepCutAuto
namespace Go.Proofs.YtakadfdnhlfijaaGreatDoor
open Go.RowKit Go.Cz Go.Cz.Lx Go.Cz.Fo Go.Cz.Vd
set_option linter.unusedSimpArgs false
set_option linter.unusedVariables false
attribute [local go_sem] bs_size bs_extract bs_append bs_toList
attribute [local irreducible] cList cPlan
/-- What the three calls answer. -/
structure Lic (k1 : Int) (fl1 bl1 : List Bytes) (q1 : Nat) (k2 : Int) (fl2 bl2 : List Bytes) (q2 : Nat) (k3 : Int) (fl3 bl3 : List Bytes) (q3 : Nat) (cov : List Bytes) : Prop where
  z2 : q2 = 0
  z3 : q3 = 0
  b2 : bl2 = []
  f2 : fl2 = fl1
  kk : (k1 = 1 ∧ k2 = 1) ∨ (k1 ≠ 1 ∧ k2 = 4)
  same : (fl1.filter fun x => !cov.contains x).length = fl1.length → k3 = k1 ∧ fl3 = fl1 ∧ bl3 = bl1
  none : (fl1.filter fun x => !cov.contains x).length ≠ fl1.length → (fl1.filter fun x => !cov.contains x).length = 0 → k3 = 4 ∧ fl3 = fl1
  part : (fl1.filter fun x => !cov.contains x).length ≠ fl1.length → (fl1.filter fun x => !cov.contains x).length ≠ 0 → (∀ x ∈ bl3, x ∈ bl1) ∧ fl3 = (fl1.filter fun x => !cov.contains x) ∧ ((k3 = 3 ∧ 0 < bl3.length) ∨ (k3 = 2 ∧ bl3.length = 0))
theorem lic_of {l : List Me} {s : Sc} {cov : List Bytes} {k1 k2 k3 : Int} {fl1 bl1 fl2 bl2 fl3 bl3 : List Bytes} {q1 q2 q3 : Nat} (h1 : decideV l s = (⟨k1, fl1, bl1⟩, q1)) (h2 : licensedV l s fl1 = (⟨k2, fl2, bl2⟩, q2)) (h3 : licensedV l s cov = (⟨k3, fl3, bl3⟩, q3)) (h0 : q1 = 0) : Lic k1 fl1 bl1 q1 k2 fl2 bl2 q2 k3 fl3 bl3 q3 cov := by
  have h := licences_law (l := l) (s := s) (cov := cov) (by rw [h1]; exact h0)
  simp only [h1, h2, h3] at h
  obtain ⟨a1, a2, a3, a4, a5, a6, a7, a8, a9⟩ := h
  refine ⟨a1, a2, a3, a4, ?_, fun h => ?_, a8, fun h h' => ?_⟩
  · by_cases hk : k1 = 1
    · exact .inl ⟨hk, a5.1 hk⟩
    · exact .inr ⟨hk, a6.1 hk⟩
  · have := a7 h
    simp only [Ve.mk.injEq] at this
    exact this
  · obtain ⟨b1, b2, b3, b4⟩ := a9 h h'
    refine ⟨b1, b2, ?_⟩
    rcases b4 with b4 | b4
    · exact .inl ⟨b4, b3.1 b4⟩
    · refine .inr ⟨b4, ?_⟩
      have : ¬ 0 < bl3.length := fun h => by have := b3.2 h; omega
      omega
set_option maxRecDepth 100000 in
set_option maxHeartbeats 16000000 in
theorem VerdictLicences_walk (w : World) (l : List Me) (lv : Value) (hl : MeIn w l lv) (s : Sc) (vd va vz vc : Value) (hs : ScIn w s vd va vz vc) (cov : List Bytes) (cv : Value) (hv : TxIn w cov cv) :
    Calls Tryz.prog 7 #[lv, sval s vd va vz vc, cv] w fun e w' => e = .returned (.bool true) ∧ Below w.heap.size w w' := by
  have HFew := Lib.hid (few_c2 hl hs)
  have HML := Lib.hid hl
  have HSL := Lib.hid hs
  have HIn := Lib.hid fun h : fewV l s = true => few_in h hl hs
  obtain ⟨y, c, rfl⟩ := hl.row.form
  obtain ⟨N, hN⟩ : ∃ N, N = l.length := ⟨_, rfl⟩
  have HN := Lib.hid hN
  have HCv := Lib.hid hv
  obtain ⟨yk, mk, rfl⟩ := hv.row.form
  obtain ⟨NK, hNK⟩ : ∃ N, N = cov.length := ⟨_, rfl⟩
  rw [← hNK] at HCv ⊢
  clear hl hv hNK
  obtain ⟨yd, md, rfl⟩ := hs.sc.dom.form
  obtain ⟨ya, ma, rfl⟩ := hs.sc.auths.form
  obtain ⟨yz, mz, rfl⟩ := hs.sc.zones.form
  obtain ⟨yc, mc, rfl⟩ := hs.sc.cases.form
  have HS := Lib.hid hs
  have HSs := Lib.hid hs.sc
  obtain ⟨ND, hND⟩ : ∃ n, n = s.dom.length := ⟨_, rfl⟩
  obtain ⟨NA, hNA⟩ : ∃ n, n = s.auths.length := ⟨_, rfl⟩
  obtain ⟨NZ, hNZ⟩ : ∃ n, n = s.zones.length := ⟨_, rfl⟩
  obtain ⟨NC, hNC⟩ : ∃ n, n = s.cases.length := ⟨_, rfl⟩
  rw [← hND, ← hNA, ← hNZ, ← hNC] at HS HSs ⊢
  clear hs
  rw [← hN] at HML HFew ⊢
  rw [← hND, ← hNA, ← hNZ, ← hNC] at HFew
  clear hN hND hNA hNZ hNC HSL
  obtain ⟨W1, hW1⟩ : ∃ W1, W1 = w.alloc (sobj s (.slice yd ND md) (.slice ya NA ma) (.slice yz NZ mz) (.slice yc NC mc)) := ⟨_, rfl⟩
  obtain ⟨bx, hbx⟩ : ∃ b, b = w.heap.size := ⟨_, rfl⟩
  have HO : Hid (Owns w W1 [blk bx (sobj s (.slice yd ND md) (.slice ya NA ma) (.slice yz NZ mz) (.slice yc NC mc))]) := by
    rw [hW1, hbx]
    exact Lib.hid ((Owns.start w).box _)
  go_enter Tryz.func7, Tryz.ntmps7
  go_wp2_with fail
  rw [← hW1, ← hbx]
  clear hW1 hbx
  go_at_call 9
  refine (head_c W1).mono ?_
  rintro e W2 ⟨rfl, hb⟩
  replace HO := Lib.hid (HO.out.below hb)
  clear hb
  obtain ⟨bk, -⟩ := HO.out.blk
  have hbx := lt_of_block bk
  have x0 := cell_of_heap bk (i := 0)
  have x1 := cell_of_heap bk (i := 1)
  have x2 := cell_of_heap bk (i := 2)
  have x3 := cell_of_heap bk (i := 3)
  have x4 := cell_of_heap bk (i := 4)
  have x5 := cell_of_heap bk (i := 5)
  simp only [List.getElem?_toArray, List.getElem?_cons_succ, List.getElem?_cons_zero] at x0 x1 x2 x3 x4 x5
  clear bk
  go_wp2_with fail
  clear hbx x0 x1 x2 x3 x4 x5
  go_at_call 10
  refine (HFew.out W2 HO.out.base).mono ?_
  rintro e W3 ⟨rfl, hb⟩
  replace HO := Lib.hid (HO.out.below hb)
  clear hb HFew
  obtain ⟨q, hq⟩ : ∃ q, q = fewV l s := ⟨_, rfl⟩
  rw [← hq]
  have HQ := Lib.hid hq
  clear hq
  cases q
  · go_wp2_with fail
    go_ret
    exact ⟨rfl, HO.out.base⟩
  have HI := Lib.hid (HIn.out HQ.out.symm)
  clear HIn HQ
  by_cases h10 : 10 < NK
  · have h10' : (10 : Int) < (NK : Int) := by omega
    clear h10
    go_wp2_with fail
    go_ret
    exact ⟨rfl, HO.out.base⟩
  have h10' : ¬ (10 : Int) < (NK : Int) := by omega
  clear h10
  obtain ⟨bk, -⟩ := HO.out.blk
  have hbx := lt_of_block bk
  have x0 := cell_of_heap bk (i := 0)
  have x1 := cell_of_heap bk (i := 1)
  have x2 := cell_of_heap bk (i := 2)
  have x3 := cell_of_heap bk (i := 3)
  have x4 := cell_of_heap bk (i := 4)
  have x5 := cell_of_heap bk (i := 5)
  simp only [List.getElem?_toArray, List.getElem?_cons_succ, List.getElem?_cons_zero] at x0 x1 x2 x3 x4 x5
  clear bk
  go_wp2_with fail
  clear hbx x0 x1 x2 x3 x4 x5
  have HC10 : Hid (cov.length ≤ 10) := by
    obtain ⟨_, _, e, -⟩ := HCv.out.row
    injection e with _ e2 _
    show _ ≤ _
    omega
  clear h10'
  have HTx1 := Lib.hid (ve_tx (l := l) (s := s) (cov := []) HI.out.ms)
  rw [show licensedV l s [] = decideV l s from rfl] at HTx1
  obtain ⟨r1, hr1⟩ : ∃ r, r = decideV l s := ⟨_, rfl⟩
  rw [← hr1] at HTx1
  have HR1 := Lib.hid hr1.symm
  clear hr1
  obtain ⟨⟨k1, fl1, bl1⟩, q1⟩ := r1
  have HTx2 := Lib.hid (ve_tx (l := l) (s := s) (cov := fl1) HI.out.ms)
  obtain ⟨r2, hr2⟩ : ∃ r, r = licensedV l s fl1 := ⟨_, rfl⟩
  rw [← hr2] at HTx2
  have HR2 := Lib.hid hr2.symm
  clear hr2
  obtain ⟨⟨k2, fl2, bl2⟩, q2⟩ := r2
  have HTx3 := Lib.hid (ve_tx (l := l) (s := s) (cov := cov) HI.out.ms)
  obtain ⟨r3, hr3⟩ : ∃ r, r = licensedV l s cov := ⟨_, rfl⟩
  rw [← hr3] at HTx3
  have HR3 := Lib.hid hr3.symm
  clear hr3
  obtain ⟨⟨k3, fl3, bl3⟩, q3⟩ := r3
  dsimp only at HTx1 HTx2 HTx3
  have HLic := Lib.hid fun h => lic_of HR1.out HR2.out HR3.out h
  go_at_call 13
  refine (decide_c l s _ _ _ _ _ W3 (HML.out.row.later HO.out.base) (HSs.out.later HO.out.base) HI.out.ms HI.out.sc HI.out.a HI.out.z HI.out.c).mono ?_
  rintro e V1a ⟨f1, g1, rfl, h1⟩
  rw [HR1.out] at h1 ⊢
  dsimp only at h1 ⊢
  have HOn := Lib.hid (Owns.app HO.out h1)
  clear h1 HO
  obtain ⟨fy1, fc1, rfl, -⟩ := HOn.out.txIs
  obtain ⟨by1, bc1, rfl, -⟩ := HOn.out.pop.txIs
  obtain ⟨nf1, hnf⟩ : ∃ n, n = fl1.length := ⟨_, rfl⟩
  obtain ⟨nb1, hnb⟩ : ∃ n, n = bl1.length := ⟨_, rfl⟩
  rw [← hnf, ← hnb] at HOn ⊢
  have HNf1 := Lib.hid hnf
  have HNb1 := Lib.hid hnb
  clear hnf hnb
  obtain ⟨b1, hb1⟩ : ∃ b, b = V1a.heap.size := ⟨_, rfl⟩
  obtain ⟨V1, hV1⟩ : ∃ W, W = V1a.alloc (vobj k1 (.slice fy1 nf1 fc1) (.slice by1 nb1 bc1)) := ⟨_, rfl⟩
  have HO : Hid (Owns w V1 [blk b1 (vobj k1 (.slice fy1 nf1 fc1) (.slice by1 nb1 bc1)), txP (.slice fy1 nf1 fc1) fl1, txP (.slice by1 nb1 bc1) bl1, blk bx (sobj s (.slice yd ND md) (.slice ya NA ma) (.slice yz NZ mz) (.slice yc NC mc))]) := by
    rw [hV1, hb1]
    exact Lib.hid (HOn.out.box _)
  clear HOn
  by_cases hq0 : q1 = 0
  rotate_left
  · have hq1 : ((q1 : Int) != 0) = true := by simp; omega
    clear hq0
    go_wp2_with fail
    go_ret
    exact ⟨rfl, by rw [← hV1]; exact HO.out.base⟩
  have hq1 : ((q1 : Int) != 0) = false := by simp; omega
  replace HLic := Lib.hid (HLic.out hq0)
  clear hq0
  obtain ⟨bk, -⟩ := (Owns.drop HO.out 3).blk
  have hbx := lt_of_block bk
  have x0 := cell_of_heap bk (i := 0)
  have x1 := cell_of_heap bk (i := 1)
  have x2 := cell_of_heap bk (i := 2)
  have x3 := cell_of_heap bk (i := 3)
  have x4 := cell_of_heap bk (i := 4)
  have x5 := cell_of_heap bk (i := 5)
  simp only [List.getElem?_toArray, List.getElem?_cons_succ, List.getElem?_cons_zero] at x0 x1 x2 x3 x4 x5
  clear bk
  obtain ⟨bk, -⟩ := Owns.blk HO.out
  have hbv := lt_of_block bk
  have ev0 := cell_of_heap bk (i := 0)
  have ev1 := cell_of_heap bk (i := 1)
  have ev2 := cell_of_heap bk (i := 2)
  simp only [List.getElem?_toArray, List.getElem?_cons_succ, List.getElem?_cons_zero] at ev0 ev1 ev2
  clear bk
  rw [hV1] at hbx x0 x1 x2 x3 x4 x5 hbv ev0 ev1 ev2
  rw [hb1] at hbv ev0 ev1 ev2
  go_wp2_with fail
  rw [← hV1, ← hb1]
  clear hV1 hb1 hq1 hbv ev0 ev1 ev2
  clear hbx x0 x1 x2 x3 x4 x5
  go_at_call 11
  refine (licensed_c l s fl1 _ _ _ _ _ _ V1 (HML.out.row.later HO.out.base) (HSs.out.later HO.out.base) HO.out.pop.txIs HI.out.ms HI.out.sc HI.out.a HI.out.z HI.out.c HTx1.out.1.each (by have := HTx1.out.1.len; omega)).mono ?_
  rintro e V2a ⟨f2, g2, rfl, h1⟩
  rw [HR2.out] at h1 ⊢
  dsimp only at h1 ⊢
  have HOn := Lib.hid (Owns.app HO.out h1)
  clear h1 HO
  obtain ⟨fy2, fc2, rfl, -⟩ := HOn.out.txIs
  obtain ⟨by2, bc2, rfl, -⟩ := HOn.out.pop.txIs
  obtain ⟨nf2, hnf⟩ : ∃ n, n = fl2.length := ⟨_, rfl⟩
  obtain ⟨nb2, hnb⟩ : ∃ n, n = bl2.length := ⟨_, rfl⟩
  rw [← hnf, ← hnb] at HOn ⊢
  have HNf2 := Lib.hid hnf
  have HNb2 := Lib.hid hnb
  clear hnf hnb
  obtain ⟨b2, hb2⟩ : ∃ b, b = V2a.heap.size := ⟨_, rfl⟩
  obtain ⟨V2, hV2⟩ : ∃ W, W = V2a.alloc (vobj k2 (.slice fy2 nf2 fc2) (.slice by2 nb2 bc2)) := ⟨_, rfl⟩
  have HO : Hid (Owns w V2 [blk b2 (vobj k2 (.slice fy2 nf2 fc2) (.slice by2 nb2 bc2)), txP (.slice fy2 nf2 fc2) fl2, txP (.slice by2 nb2 bc2) bl2, blk b1 (vobj k1 (.slice fy1 nf1 fc1) (.slice by1 nb1 bc1)), txP (.slice fy1 nf1 fc1) fl1, txP (.slice by1 nb1 bc1) bl1, blk bx (sobj s (.slice yd ND md) (.slice ya NA ma) (.slice yz NZ mz) (.slice yc NC mc))]) := by
    rw [hV2, hb2]
    exact Lib.hid (HOn.out.box _)
  clear HOn
  obtain ⟨bk, -⟩ := (Owns.drop HO.out 6).blk
  have hbx := lt_of_block bk
  have x0 := cell_of_heap bk (i := 0)
  have x1 := cell_of_heap bk (i := 1)
  have x2 := cell_of_heap bk (i := 2)
  have x3 := cell_of_heap bk (i := 3)
  have x4 := cell_of_heap bk (i := 4)
  have x5 := cell_of_heap bk (i := 5)
  simp only [List.getElem?_toArray, List.getElem?_cons_succ, List.getElem?_cons_zero] at x0 x1 x2 x3 x4 x5
  clear bk
  rw [hV2] at hbx x0 x1 x2 x3 x4 x5
  go_wp2_with fail
  rw [← hV2, ← hb2]
  clear hV2 hb2
  clear hbx x0 x1 x2 x3 x4 x5
  go_at_call 11
  refine (licensed_c l s cov _ _ _ _ _ _ V2 (HML.out.row.later HO.out.base) (HSs.out.later HO.out.base) (HCv.out.row.later HO.out.base) HI.out.ms HI.out.sc HI.out.a HI.out.z HI.out.c HCv.out.each HCv.out.len).mono ?_
  rintro e V3a ⟨f3, g3, rfl, h1⟩
  rw [HR3.out] at h1 ⊢
  dsimp only at h1 ⊢
  have HOn := Lib.hid (Owns.app HO.out h1)
  clear h1 HO
  obtain ⟨fy3, fc3, rfl, -⟩ := HOn.out.txIs
  obtain ⟨by3, bc3, rfl, -⟩ := HOn.out.pop.txIs
  obtain ⟨nf3, hnf⟩ : ∃ n, n = fl3.length := ⟨_, rfl⟩
  obtain ⟨nb3, hnb⟩ : ∃ n, n = bl3.length := ⟨_, rfl⟩
  rw [← hnf, ← hnb] at HOn ⊢
  have HNf3 := Lib.hid hnf
  have HNb3 := Lib.hid hnb
  clear hnf hnb
  obtain ⟨b3, hb3⟩ : ∃ b, b = V3a.heap.size := ⟨_, rfl⟩
  obtain ⟨V3, hV3⟩ : ∃ W, W = V3a.alloc (vobj k3 (.slice fy3 nf3 fc3) (.slice by3 nb3 bc3)) := ⟨_, rfl⟩
  have HO : Hid (Owns w V3 [blk b3 (vobj k3 (.slice fy3 nf3 fc3) (.slice by3 nb3 bc3)), txP (.slice fy3 nf3 fc3) fl3, txP (.slice by3 nb3 bc3) bl3, blk b2 (vobj k2 (.slice fy2 nf2 fc2) (.slice by2 nb2 bc2)), txP (.slice fy2 nf2 fc2) fl2, txP (.slice by2 nb2 bc2) bl2, blk b1 (vobj k1 (.slice fy1 nf1 fc1) (.slice by1 nb1 bc1)), txP (.slice fy1 nf1 fc1) fl1, txP (.slice by1 nb1 bc1) bl1, blk bx (sobj s (.slice yd ND md) (.slice ya NA ma) (.slice yz NZ mz) (.slice yc NC mc))]) := by
    rw [hV3, hb3]
    exact Lib.hid (HOn.out.box _)
  clear HOn
  have hq2 : ((q2 : Int) != 0) = false := by have := HLic.out.z2; simp; omega
  have hq3 : ((q3 : Int) != 0) = false := by have := HLic.out.z3; simp; omega
  obtain rfl : fl2 = fl1 := HLic.out.f2
  obtain rfl : bl2 = [] := HLic.out.b2
  have z2 : nb2 = 0 := HNb2.out
  subst z2
  obtain ⟨bk, -⟩ := Owns.blk HO.out
  have hbv := lt_of_block bk
  have ev0 := cell_of_heap bk (i := 0)
  have ev1 := cell_of_heap bk (i := 1)
  have ev2 := cell_of_heap bk (i := 2)
  simp only [List.getElem?_toArray, List.getElem?_cons_succ, List.getElem?_cons_zero] at ev0 ev1 ev2
  clear bk
  obtain ⟨bk, -⟩ := Owns.blk (Owns.drop HO.out 3)
  have hbu := lt_of_block bk
  have eu0 := cell_of_heap bk (i := 0)
  have eu1 := cell_of_heap bk (i := 1)
  have eu2 := cell_of_heap bk (i := 2)
  simp only [List.getElem?_toArray, List.getElem?_cons_succ, List.getElem?_cons_zero] at eu0 eu1 eu2
  clear bk
  obtain ⟨bk, -⟩ := Owns.blk (Owns.drop HO.out 6)
  have hbt := lt_of_block bk
  have et0 := cell_of_heap bk (i := 0)
  have et1 := cell_of_heap bk (i := 1)
  have et2 := cell_of_heap bk (i := 2)
  simp only [List.getElem?_toArray, List.getElem?_cons_succ, List.getElem?_cons_zero] at et0 et1 et2
  clear bk
  rw [hV3] at hbv ev0 ev1 ev2 hbu eu0 eu1 eu2 hbt et0 et1 et2
  rw [hb3] at hbv ev0 ev1 ev2
  go_wp2_with fail
  rw [← hV3, ← hb3]
  clear hV3 hb3 hq2 hq3 hbv ev0 ev1 ev2 hbu eu0 eu1 eu2 hbt et0 et1 et2 HR1 HR2 HR3 HI HTx2
  go_at_call 21
  refine (texts_c fl2 fl2 _ _ V3 (Owns.drop HO.out 4).txIs (Owns.drop HO.out 7).txIs (by have := HTx1.out.1.len; omega) (by have := HTx1.out.1.len; omega) HTx1.out.1.each HTx1.out.1.each).mono ?_
  rintro e W5 ⟨rfl, hb⟩
  replace HO : Hid (Owns w W5 [blk b3 (vobj k3 (.slice fy3 nf3 fc3) (.slice by3 nb3 bc3)), txP (.slice fy3 nf3 fc3) fl3, txP (.slice by3 nb3 bc3) bl3, blk b2 (vobj k2 (.slice fy2 nf2 fc2) (.slice by2 0 bc2)), txP (.slice fy2 nf2 fc2) fl2, txP (.slice by2 0 bc2) [], blk b1 (vobj k1 (.slice fy1 nf1 fc1) (.slice by1 nb1 bc1)), txP (.slice fy1 nf1 fc1) fl2, txP (.slice by1 nb1 bc1) bl1, blk bx (sobj s (.slice yd ND md) (.slice ya NA ma) (.slice yz NZ mz) (.slice yc NC mc))]) := Lib.hid (HO.out.below hb)
  clear hb
  rw [decide_eq_true (rfl : fl2 = fl2)]
  obtain ⟨bk, -⟩ := Owns.blk (Owns.drop HO.out 3)
  have hbu := lt_of_block bk
  have eu0 := cell_of_heap bk (i := 0)
  have eu1 := cell_of_heap bk (i := 1)
  have eu2 := cell_of_heap bk (i := 2)
  simp only [List.getElem?_toArray, List.getElem?_cons_succ, List.getElem?_cons_zero] at eu0 eu1 eu2
  clear bk
  obtain ⟨bk, -⟩ := Owns.blk (Owns.drop HO.out 6)
  have hbt := lt_of_block bk
  have et0 := cell_of_heap bk (i := 0)
  have et1 := cell_of_heap bk (i := 1)
  have et2 := cell_of_heap bk (i := 2)
  simp only [List.getElem?_toArray, List.getElem?_cons_succ, List.getElem?_cons_zero] at et0 et1 et2
  clear bk
  go_upto_region 11 with fail
  go_cut [87] (fun v wx => v = .bool false ∧ Hid (Owns w wx [blk b3 (vobj k3 (.slice fy3 nf3 fc3) (.slice by3 nb3 bc3)), txP (.slice fy3 nf3 fc3) fl3, txP (.slice by3 nb3 bc3) bl3, blk b2 (vobj k2 (.slice fy2 nf2 fc2) (.slice by2 0 bc2)), txP (.slice fy2 nf2 fc2) fl2, txP (.slice by2 0 bc2) [], blk b1 (vobj k1 (.slice fy1 nf1 fc1) (.slice by1 nb1 bc1)), txP (.slice fy1 nf1 fc1) fl2, txP (.slice by1 nb1 bc1) bl1, blk bx (sobj s (.slice yd ND md) (.slice ya NA ma) (.slice yz NZ mz) (.slice yc NC mc))]))
  case first =>
    rcases HLic.out.kk with ⟨rfl, rfl⟩ | ⟨hk, rfl⟩
    · go_wp2_with fail
      go_meet
      exact ⟨rfl, HO⟩
    · have hk1 : (k1 == 1) = false := by simpa using hk
      have hk2 : (k1 != 1) = true := by simpa using hk
      clear hk
      go_wp2_with fail
      go_meet
      exact ⟨by first | rfl | (rw [hk2]; rfl), HO⟩
  case rest =>
    clear HO hbu eu0 eu1 eu2 hbt et0 et1 et2
    obtain ⟨rfl, HO⟩ := hcut
    go_wp2_with fail
    have HT : Hid (Owns w wc [txP (.slice none 0 0) ((fl2.take 0).filter fun x => !cov.contains x), blk b3 (vobj k3 (.slice fy3 nf3 fc3) (.slice by3 nb3 bc3)), txP (.slice fy3 nf3 fc3) fl3, txP (.slice by3 nb3 bc3) bl3, blk b2 (vobj k2 (.slice fy2 nf2 fc2) (.slice by2 0 bc2)), txP (.slice fy2 nf2 fc2) fl2, txP (.slice by2 0 bc2) [], blk b1 (vobj k1 (.slice fy1 nf1 fc1) (.slice by1 nb1 bc1)), txP (.slice fy1 nf1 fc1) fl2, txP (.slice by1 nb1 bc1) bl1, blk bx (sobj s (.slice yd ND md) (.slice ya NA ma) (.slice yz NZ mz) (.slice yc NC mc))]) := Lib.hid HO.out.txNew
    clear HO
    have hnf9 : nf1 ≤ 1000000 := by rw [HNf1.out]; exact HTx1.out.1.len
    go_loopg [14, 15] nf1 (fun gk v i wr => ∃ k : Nat, gk = nf1 - k ∧ k ≤ nf1 ∧ i = .int .i64 (k : Int) ∧ Hid (Owns w wr [txP v ((fl2.take k).filter fun x => !cov.contains x), blk b3 (vobj k3 (.slice fy3 nf3 fc3) (.slice by3 nb3 bc3)), txP (.slice fy3 nf3 fc3) fl3, txP (.slice by3 nb3 bc3) bl3, blk b2 (vobj k2 (.slice fy2 nf2 fc2) (.slice by2 0 bc2)), txP (.slice fy2 nf2 fc2) fl2, txP (.slice by2 0 bc2) [], blk b1 (vobj k1 (.slice fy1 nf1 fc1) (.slice by1 nb1 bc1)), txP (.slice fy1 nf1 fc1) fl2, txP (.slice by1 nb1 bc1) bl1, blk bx (sobj s (.slice yd ND md) (.slice ya NA ma) (.slice yz NZ mz) (.slice yc NC mc))]))
    case atStart => exact ⟨0, rfl, Nat.zero_le _, rfl, HT⟩
    case round =>
      rename_i J1 K1 hJ1 hK1
      clear HT
      obtain ⟨k, rfl, hk, rfl, HO⟩ := hrel
      obtain ⟨bk, -⟩ := Owns.blk (Owns.drop HO.out 7)
      have hbt := lt_of_block bk
      have et0 := cell_of_heap bk (i := 0)
      have et1 := cell_of_heap bk (i := 1)
      have et2 := cell_of_heap bk (i := 2)
      simp only [List.getElem?_toArray, List.getElem?_cons_succ, List.getElem?_cons_zero] at et0 et1 et2
      clear bk
      by_cases hlt : k < nf1
      · obtain ⟨x, hx⟩ : ∃ x, fl2[k]? = some x := ⟨_, List.getElem?_eq_getElem (by rw [← HNf1.out]; exact hlt)⟩
        obtain ⟨g, off, rfl, hg, cx⟩ := (Owns.drop HO.out 8).txIs.get (Below.refl _ _) hx
        have HX := Lib.hid hx
        clear hx
        go_wp2_with fail
        go_at_call 19
        refine (has_c cov x _ wr (HCv.out.row.later HO.out.base) (by have := HC10.out; omega)).mono ?_
        rintro e W6 ⟨rfl, hw⟩
        subst hw
        obtain ⟨q, hq⟩ : ∃ q, q = cov.contains x := ⟨_, rfl⟩
        rw [← hq]
        have HQ := Lib.hid hq
        clear hq
        cases q
        rotate_left
        · have e1 : Hid ((fl2.take (k + 1)).filter (fun x => !cov.contains x) = (fl2.take k).filter fun x => !cov.contains x) := by
            show _ = _
            rw [filter_next HX.out, ← HQ.out]; simp
          go_wp2_with fail
          clear hg cx hbt et0 et1 et2
          go_roundg (nf1 - (k + 1))
          case measure => omega
          case rel => exact ⟨k + 1, rfl, by omega, by go_num, by rw [e1.out]; exact HO⟩
        have e1 : Hid ((fl2.take (k + 1)).filter (fun x => !cov.contains x) = ((fl2.take k).filter fun x => !cov.contains x) ++ [x]) := by
          show _ = _
          rw [filter_next HX.out, ← HQ.out]; simp
        obtain ⟨D, hD⟩ : ∃ D, D = (fl2.take k).filter fun x => !cov.contains x := ⟨_, rfl⟩
        have hDl : D.length ≤ 1000000 := by rw [hD]; have := List.length_filter_le (fun x => !cov.contains x) (fl2.take k); rw [List.length_take] at this; omega
        rw [← hD] at HO e1
        clear hD
        obtain ⟨sa, sn, sc, rfl⟩ : ∃ a n c, u14 = .slice a n c := by obtain ⟨y, c, e, -⟩ := HO.out.txIs; exact ⟨y, _, c, e⟩
        have HW := Lib.hid (HO.out.alloc (.cells #[.string (bs x)] 9))
        go_wp2_with (refine wpList_plain rfl fun K hK => wp_append (.tmp 103) (.tmp 109) 26 (by rfl) 9 _ 1 16 Tryz.underlying26 info_txt (by rfl) (by omega) _ D.length _ (by rfl) (Owns.txRow HW.out) W6.heap.size 1 1 [.string (bs x)] (by rfl) (by rfl) 9 (by exact new_heap W6 _ _ rfl) (by simp [Value.oneCell']) (by omega) (by omega) ?_; intro v' w2 hrow hgrow hblk; have ho14 := (Owns.txGrew (l' := D ++ [x]) HW.out (by simpa [txs] using hrow) hgrow hblk); have HO14 := Lib.hid ho14; clear ho14 hrow hgrow hblk)
        clear hg cx hbt et0 et1 et2 HW HO HX
        go_roundg (nf1 - (k + 1))
        case measure => omega
        case rel => exact ⟨k + 1, rfl, by omega, by go_num, by rw [e1.out]; exact HO14⟩
      · obtain rfl : k = nf1 := by omega
        obtain ⟨L, hL⟩ : ∃ L, L = fl2.filter fun x => !cov.contains x := ⟨_, rfl⟩
        have hL0 : (fl2.take k).filter (fun x => !cov.contains x) = L := by rw [hL, HNf1.out, List.take_length]
        rw [hL0] at HO
        have HLc := Lib.hid HLic.out
        have hLs := HLic.out.same
        have hLn := HLic.out.none
        have hLp := HLic.out.part
        rw [← hL] at hLs hLn hLp
        have HLt : Hid (TxLen L) := ⟨by rw [hL]; have := List.length_filter_le (fun x => !cov.contains x) fl2; have := HTx1.out.1.len; omega, fun x hx => HTx1.out.1.each x (by rw [hL] at hx; exact (List.mem_filter.1 hx).1)⟩
        obtain ⟨ly, lc2, rfl, -⟩ := HO.out.txIs
        obtain ⟨nl, hnl⟩ : ∃ n, n = L.length := ⟨_, rfl⟩
        rw [← hnl, ← HNf1.out] at hLs hLn hLp
        rw [← hnl] at HO ⊢
        clear hL hL0 hnl hJ1 hK1 hlt
        obtain ⟨bk, -⟩ := Owns.blk (Owns.drop HO.out 1)
        have hbv := lt_of_block bk
        have ev0 := cell_of_heap bk (i := 0)
        have ev1 := cell_of_heap bk (i := 1)
        have ev2 := cell_of_heap bk (i := 2)
        simp only [List.getElem?_toArray, List.getElem?_cons_succ, List.getElem?_cons_zero] at ev0 ev1 ev2
        clear bk
        by_cases hs1 : nl = k
        · have hs1' : ((nl : Int) == (k : Int)) = true := by simp; omega
          obtain ⟨rfl, rfl, rfl⟩ := hLs hs1
          clear hLs hLn hLp hs1
          go_wp2_with fail
          clear hbv ev0 ev1 ev2 hbt et0 et1 et2
          go_at_call 17
          refine (same_c ⟨k3, fl3, bl3⟩ ⟨k3, fl3, bl3⟩ _ _ _ _ wr (Owns.drop HO.out 2).txIs (Owns.drop HO.out 3).txIs (Owns.drop HO.out 8).txIs (Owns.drop HO.out 9).txIs HTx1.out.1 HTx1.out.2 HTx1.out.1 HTx1.out.2).mono ?_
          rintro e W7 ⟨rfl, hb⟩
          replace HO := Lib.hid (HO.out.below hb)
          clear hb
          rw [sameV_iff.2 rfl]
          go_wp2_with fail
          go_ret
          exact ⟨rfl, HO.out.base⟩
        have hs1' : ((nl : Int) == (k : Int)) = false := by simp; omega
        by_cases hs2 : nl = 0
        · have hs2' : ((nl : Int) == 0) = true := by simp; omega
          obtain ⟨rfl, rfl⟩ := hLn hs1 hs2
          clear hLs hLn hLp hs1 hs2
          go_wp2_with fail
          clear hbv ev0 ev1 ev2 hbt et0 et1 et2
          go_at_call 21
          refine (texts_c fl3 fl3 _ _ wr (Owns.drop HO.out 2).txIs (Owns.drop HO.out 8).txIs (by have := HTx1.out.1.len; omega) (by have := HTx1.out.1.len; omega) HTx1.out.1.each HTx1.out.1.each).mono ?_
          rintro e W7 ⟨rfl, hb⟩
          replace HO := Lib.hid (HO.out.below hb)
          clear hb
          rw [decide_eq_true (rfl : fl3 = fl3)]
          go_wp2_with fail
          go_ret
          exact ⟨rfl, HO.out.base⟩
        have hs2' : ((nl : Int) == 0) = false := by simp; omega
        obtain ⟨hp1, rfl, hp3⟩ := hLp hs1 hs2
        have HP1 := Lib.hid hp1
        have HP3 := Lib.hid hp3
        clear hLs hLn hLp hs1 hs2 hp1 hp3
        go_wp2_with fail
        have hnb9 : nb3 ≤ 1000000 := by rw [HNb3.out]; exact HTx3.out.2.len
        clear hbv ev0 ev1 ev2 hbt et0 et1 et2
        go_loopg [16] nb3 (fun gk i wr => ∃ kk : Nat, gk = nb3 - kk ∧ kk ≤ nb3 ∧ i = .int .i64 (kk : Int) ∧ Hid (Owns w wr [txP (.slice ly nl lc2) fl3, blk b3 (vobj k3 (.slice fy3 nf3 fc3) (.slice by3 nb3 bc3)), txP (.slice fy3 nf3 fc3) fl3, txP (.slice by3 nb3 bc3) bl3, blk b2 (vobj k2 (.slice fy2 nf2 fc2) (.slice by2 0 bc2)), txP (.slice fy2 nf2 fc2) fl2, txP (.slice by2 0 bc2) [], blk b1 (vobj k1 (.slice fy1 k fc1) (.slice by1 nb1 bc1)), txP (.slice fy1 k fc1) fl2, txP (.slice by1 nb1 bc1) bl1, blk bx (sobj s (.slice yd ND md) (.slice ya NA ma) (.slice yz NZ mz) (.slice yc NC mc))]))
        case atStart => exact ⟨0, rfl, Nat.zero_le _, rfl, HO⟩
        case round =>
          rename_i J2 K2 hJ2 hK2
          clear HO
          obtain ⟨k2', rfl, hk2, rfl, HO⟩ := hrel
          obtain ⟨bk, -⟩ := Owns.blk (Owns.drop HO.out 1)
          have hbv := lt_of_block bk
          have ev0 := cell_of_heap bk (i := 0)
          have ev1 := cell_of_heap bk (i := 1)
          have ev2 := cell_of_heap bk (i := 2)
          simp only [List.getElem?_toArray, List.getElem?_cons_succ, List.getElem?_cons_zero] at ev0 ev1 ev2
          clear bk
          obtain ⟨bk, -⟩ := Owns.blk (Owns.drop HO.out 7)
          have hbt := lt_of_block bk
          have et0 := cell_of_heap bk (i := 0)
          have et1 := cell_of_heap bk (i := 1)
          have et2 := cell_of_heap bk (i := 2)
          simp only [List.getElem?_toArray, List.getElem?_cons_succ, List.getElem?_cons_zero] at et0 et1 et2
          clear bk
          by_cases hlt : k2' < nb3
          · obtain ⟨x, hx⟩ : ∃ x, bl3[k2']? = some x := ⟨_, List.getElem?_eq_getElem (by rw [← HNb3.out]; exact hlt)⟩
            have HC : Hid (bl1.contains x = true) := Lib.hid (List.contains_iff_mem.2 (HP1.out x (List.mem_of_getElem? hx)))
            go_wp2_with fail
            refine wp_region_can [7] (List.range 9) (by decide +kernel) (by decide +kernel) ?_
            replace HO := Lib.hid HO.out.drew
            obtain ⟨W8, hW8⟩ : ∃ W, W = World.drew wr := ⟨_, rfl⟩
            rw [← hW8] at HO ⊢
            clear hW8 hbv ev0 ev1 ev2 hbt et0 et1 et2
            obtain ⟨bk, -⟩ := Owns.blk (Owns.drop HO.out 1)
            have hbv := lt_of_block bk
            have ev0 := cell_of_heap bk (i := 0)
            have ev1 := cell_of_heap bk (i := 1)
            have ev2 := cell_of_heap bk (i := 2)
            simp only [List.getElem?_toArray, List.getElem?_cons_succ, List.getElem?_cons_zero] at ev0 ev1 ev2
            clear bk
            obtain ⟨bk, -⟩ := Owns.blk (Owns.drop HO.out 7)
            have hbt := lt_of_block bk
            have et0 := cell_of_heap bk (i := 0)
            have et1 := cell_of_heap bk (i := 1)
            have et2 := cell_of_heap bk (i := 2)
            simp only [List.getElem?_toArray, List.getElem?_cons_succ, List.getElem?_cons_zero] at et0 et1 et2
            clear bk
            obtain ⟨g, off, rfl, hg, cx⟩ := (Owns.drop HO.out 3).txIs.get (Below.refl _ _) hx
            clear hx
            iterate 7 (first | (refine cl_do rfl rfl rfl rfl (fun _ _ => ?_); go_wp2_with fail) | (refine cl_yes rfl rfl rfl rfl (by first | rfl | simp [okB, lenV, plainV, Act.eval]) (fun _ _ => ?_); go_wp2_with fail) | (refine cl_no rfl rfl rfl ?_; go_simp))
            clear hg cx hbv ev0 ev1 ev2 hbt et0 et1 et2
            refine cl_call (i := 7) rfl rfl rfl (fun K hK => ?_)
            go_wp2_with fail
            go_at_call 19
            refine (has_c bl1 x _ W8 (Owns.drop HO.out 9).txIs (by have := HTx1.out.2.len; omega)).mono ?_
            rintro e W9 ⟨rfl, hw⟩
            subst hw
            rw [HC.out]
            go_wp2_with fail
            refine And.intro (Below.refl _ _) ?_
            iterate 1 (first | (refine cl_do rfl rfl rfl rfl (fun _ _ => ?_); go_wp2_with fail) | (refine cl_yes rfl rfl rfl rfl (by first | rfl | simp [okB, lenV, plainV, Act.eval]) (fun _ _ => ?_); go_wp2_with fail) | (refine cl_no rfl rfl rfl ?_; go_simp))
            refine cl_nil ?_
            go_wp2_with fail
            go_roundg (nb3 - (k2' + 1))
            case measure => omega
            case rel => exact ⟨k2' + 1, rfl, by omega, by go_num, HO⟩
          · obtain rfl : k2' = nb3 := by omega
            clear hJ2 hK2 hlt
            go_wp2_with fail
            clear hbv ev0 ev1 ev2 hbt et0 et1 et2
            go_at_call 21
            refine (texts_c fl3 fl3 _ _ _ (Owns.drop HO.out 2).txIs HO.out.txIs (by have := HTx3.out.1.len; omega) (by have := HTx3.out.1.len; omega) HTx3.out.1.each HTx3.out.1.each).mono ?_
            rintro e W7 ⟨rfl, hb⟩
            replace HO := Lib.hid (HO.out.below hb)
            clear hb
            rw [decide_eq_true (rfl : fl3 = fl3)]
            obtain ⟨bk, -⟩ := Owns.blk (Owns.drop HO.out 1)
            have hbv := lt_of_block bk
            have ev0 := cell_of_heap bk (i := 0)
            have ev1 := cell_of_heap bk (i := 1)
            have ev2 := cell_of_heap bk (i := 2)
            simp only [List.getElem?_toArray, List.getElem?_cons_succ, List.getElem?_cons_zero] at ev0 ev1 ev2
            clear bk
            have h3 := HP3.out
            rw [← HNb3.out] at h3
            rcases h3 with ⟨rfl, h4⟩ | ⟨rfl, h4⟩
            · have h5 : (0 : Int) < (k2' : Int) := by omega
              clear h4
              go_wp2_with fail
              go_ret
              exact ⟨rfl, HO.out.base⟩
            · have h5 : ¬ (0 : Int) < (k2' : Int) := by omega
              clear h4
              go_wp2_with fail
              go_ret
              exact ⟨rfl, HO.out.base⟩
end Go.Proofs.YtakadfdnhlfijaaGreatDoor
