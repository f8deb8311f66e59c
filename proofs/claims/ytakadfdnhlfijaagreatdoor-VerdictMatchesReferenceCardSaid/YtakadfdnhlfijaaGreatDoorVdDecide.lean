/-
  'Decide'; lists of texts; what the laws ask of them.
-/
import Derived.Test.YtakadfdnhlfijaaGreatDoorVdLicensed
namespace Go.Proofs.YtakadfdnhlfijaaGreatDoor
open Go.RowKit Go.Cz Go.Cz.Lx Go.Cz.Fo Go.Cz.Vd
open Go.WideMaps (keyOf_string_mk)
open Go.Cz.Ck (Shift validB)
set_option linter.unusedSimpArgs false
set_option linter.unusedVariables false
attribute [local go_sem] bs_size bs_extract bs_append bs_toList
attribute [local irreducible] cList cPlan
set_option maxRecDepth 100000 in
set_option maxHeartbeats 4000000 in
theorem decide_c (l : List Me) (s : Sc) (lv vd va vz vc : Value) (w : World) (hr : IsMeR w l lv) (hs : IsSc w s vd va vz vc) (hm : MsLen l) (hl : ScLen s) (hA : s.auths.length ≤ 1000000) (hZ : s.zones.length ≤ 1000000) (hC : s.cases.length ≤ 1000000) :
    Calls Tryz.prog 13 #[lv, sval s vd va vz vc] w (LicP w (decideV l s)) := by
  obtain ⟨W1, hW1⟩ : ∃ W1, W1 = (w.alloc (sobj s vd va vz vc)).alloc (vobj 0 (.slice none 0 0) (.slice none 0 0)) := ⟨_, rfl⟩
  obtain ⟨bx, hbx⟩ : ∃ b, b = w.heap.size := ⟨_, rfl⟩
  obtain ⟨br, hbr⟩ : ∃ b, b = bx + 1 := ⟨_, rfl⟩
  have HO : Hid (Owns w W1 [blk br (vobj 0 (.slice none 0 0) (.slice none 0 0)), blk bx (sobj s vd va vz vc)]) := by
    rw [hW1, hbr, hbx]
    have := ((Owns.start w).box (sobj s vd va vz vc)).box (vobj 0 (.slice none 0 0) (.slice none 0 0))
    rw [World.size_alloc] at this
    exact Lib.hid this
  have HL := Lib.hid (licensed_c l s [] lv vd va vz vc (.slice none 0 0) W1 (hr.later HO.out.base) (hs.later HO.out.base) (no_texts _) hm hl hA hZ hC (by simp) (by simp))
  obtain ⟨yd, md, rfl⟩ := hs.dom.form
  obtain ⟨ya, ma, rfl⟩ := hs.auths.form
  obtain ⟨yz, mz, rfl⟩ := hs.zones.form
  obtain ⟨yc, mc, rfl⟩ := hs.cases.form
  clear hr hs hm hl
  go_enter Tryz.func13, Tryz.ntmps13
  go_wp2_with fail
  rw [← hW1, ← hbx, ← hbr]
  clear hW1 hbx hbr
  go_at_call 11
  refine HL.out.mono ?_
  rintro e W2 ⟨fv, bv, rfl, h1⟩
  have HDv : Hid (licensedV l s [] = decideV l s) := Lib.hid rfl
  rw [HDv.out] at h1 ⊢
  obtain ⟨r, hr⟩ : ∃ r, r = decideV l s := ⟨_, rfl⟩
  have Hr := Lib.hid hr
  rw [← hr] at h1 ⊢
  obtain ⟨⟨k, fl, bl⟩, q⟩ := r
  dsimp only at h1 ⊢
  replace HO : Hid (Owns w W2 (blk br (vobj 0 (.slice none 0 0) (.slice none 0 0)) :: txP fv fl :: txP bv bl :: blk bx (sobj s (.slice yd s.dom.length md) (.slice ya s.auths.length ma) (.slice yz s.zones.length mz) (.slice yc s.cases.length mc)) :: [])) := Lib.hid ((Owns.app HO.out h1).re [2, 0, 1, 3])
  clear h1 HL HDv hr
  obtain ⟨fy, fc, rfl, -⟩ := HO.out.pop.txIs
  obtain ⟨gy, gc, rfl, -⟩ := HO.out.pop.pop.txIs
  obtain ⟨nf, hnf⟩ : ∃ n, n = fl.length := ⟨_, rfl⟩
  obtain ⟨nb, hnb⟩ : ∃ n, n = bl.length := ⟨_, rfl⟩
  rw [← hnf, ← hnb] at HO ⊢
  clear hnf hnb
  obtain ⟨bk, -⟩ := Owns.blk (HO.out)
  have hb0 := lt_of_block bk
  have e0 := cell_of_heap bk (i := 0)
  have e1 := cell_of_heap bk (i := 1)
  have e2 := cell_of_heap bk (i := 2)
  simp only [List.getElem?_toArray, List.getElem?_cons_succ, List.getElem?_cons_zero] at e0 e1 e2
  have f0 := free_of_heap bk (i := 0)
  have f1 := free_of_heap bk (i := 1)
  have f2 := free_of_heap bk (i := 2)
  clear bk
  go_wp2_with fail
  have ho := ((HO.out.store (i := 0) (.int .i64 k)).store (i := 1) (.slice fy nf fc)).store (i := 2) (.slice gy nb gc)
  replace ho : Owns w (((W2.setCell ⟨br, 0, none⟩ (.int .i64 k)).setCell ⟨br, 1, none⟩ (.slice fy nf fc)).setCell ⟨br, 2, none⟩ (.slice gy nb gc)) (blk br (vobj k (.slice fy nf fc) (.slice gy nb gc)) :: _) := ho
  clear hb0 e0 e1 e2 f0 f1 f2
  obtain ⟨W9, hW9⟩ : ∃ W9, W9 = ((W2.setCell ⟨br, 0, none⟩ (.int .i64 k)).setCell ⟨br, 1, none⟩ (.slice fy nf fc)).setCell ⟨br, 2, none⟩ (.slice gy nb gc) := ⟨_, rfl⟩
  rw [← hW9] at ho ⊢
  clear hW9
  obtain ⟨bk, -⟩ := Owns.blk (ho)
  have hb0 := lt_of_block bk
  have e0 := cell_of_heap bk (i := 0)
  have e1 := cell_of_heap bk (i := 1)
  have e2 := cell_of_heap bk (i := 2)
  simp only [List.getElem?_toArray, List.getElem?_cons_succ, List.getElem?_cons_zero] at e0 e1 e2
  have f0 := free_of_heap bk (i := 0)
  have f1 := free_of_heap bk (i := 1)
  have f2 := free_of_heap bk (i := 2)
  clear bk
  refine bodyPost_ret (v := .tuple #[.agg #[.int .i64 k, .slice fy nf fc, .slice gy nb gc], .int .i64 (q : Nat)]) (by simp [results, Tryz.results13, go_sem, e0, e1, e2]) rfl ?_
  refine ⟨_, _, by rw [← Hr.out], ?_⟩
  rw [← Hr.out]
  exact Owns.cut (ps := [_, _]) ho.pop
section
variable {w : World}
/-- Two lists of texts are equal. -/
theorem texts_c (a b : List Bytes) (va vb : Value) (w : World) (ha : IsTxR w a va) (hb : IsTxR w b vb) (h9 : a.length ≤ 9223372036854775806) (h8 : b.length ≤ 9223372036854775806) (hl : ∀ x ∈ a, x.length ≤ 140737488355328) (hm : ∀ x ∈ b, x.length ≤ 140737488355328) :
    Calls Tryz.prog 21 #[va, vb] w fun e w' => e = .returned (.bool (decide (a = b))) ∧ Below w.heap.size w w' := by
  have HA := Lib.hid ha
  have HB := Lib.hid hb
  have HAl := Lib.hid hl
  have HBl := Lib.hid hm
  obtain ⟨ya, ca, rfl⟩ := ha.form
  obtain ⟨yb, cb, rfl⟩ := hb.form
  obtain ⟨n, hn⟩ : ∃ n, n = a.length := ⟨_, rfl⟩
  obtain ⟨m, hm'⟩ : ∃ n, n = b.length := ⟨_, rfl⟩
  have HN := Lib.hid hn
  have HM := Lib.hid hm'
  rw [← hn] at HA h9 ⊢
  rw [← hm'] at HB h8 ⊢
  clear ha hb hn hm' hl hm
  by_cases hnm : n = m
  rotate_left
  · have h1 : ((n : Int) != (m : Int)) = true := by simp; omega
    have HE : Hid (decide (a = b) = false) := by show _ = _; rw [decide_eq_false]; intro h; exact hnm (by rw [HN.out, HM.out, h])
    clear hnm
    go_enter Tryz.func21, Tryz.ntmps21
    go_wp2_with fail
    go_ret
    exact ⟨by rw [HE.out]; rfl, Below.refl _ _⟩
  subst hnm
  have h1 : ((n : Int) != (n : Int)) = false := by simp
  go_enter Tryz.func21, Tryz.ntmps21
  go_wp2_with fail
  have HT : Hid (a.take 0 = b.take 0) := Lib.hid rfl
  have HW : Hid (Below w.heap.size w w) := Lib.hid (Below.refl _ _)
  go_loopg [5] n (fun gk i wr => ∃ k : Nat, gk = n - k ∧ k ≤ n ∧ i = .int .i64 (k : Int) ∧ Hid (a.take k = b.take k) ∧ Hid (Below w.heap.size w wr))
  case atStart => exact ⟨0, rfl, Nat.zero_le _, rfl, HT, HW⟩
  case round =>
    rename_i J1 K1 hJ1 hK1
    clear HT HW
    obtain ⟨k, rfl, hk, rfl, HT, HW⟩ := hrel
    by_cases hlt : k < n
    · obtain ⟨x, hx⟩ : ∃ x, a[k]? = some x := ⟨_, List.getElem?_eq_getElem (by rw [← HN.out]; exact hlt)⟩
      obtain ⟨z, hz⟩ : ∃ x, b[k]? = some x := ⟨_, List.getElem?_eq_getElem (by rw [← HM.out]; exact hlt)⟩
      obtain ⟨g, off, rfl, hg, cx⟩ := HA.out.get HW.out hx
      obtain ⟨g2, off2, rfl, hg2, cz⟩ := HB.out.get HW.out hz
      have hxl := HAl.out x (List.mem_of_getElem? hx)
      have hzl := HBl.out z (List.mem_of_getElem? hz)
      have HX := Lib.hid hx
      have HZ := Lib.hid hz
      clear hx hz
      go_wp2_with fail
      refine wp_region_can [] (List.range 9) (by decide +kernel) (by decide +kernel) ?_
      replace HW := Lib.hid (HW.out.trans (Below.mono (Below.refl _ wr).drew HW.out.size))
      iterate 8 (refine cl_do rfl rfl rfl rfl (fun _ _ => ?_); go_wp2_with fail)
      by_cases hxz : x = z
      rotate_left
      · have h2 : (!(x == z)) = true := by simpa using hxz
        have HE : Hid (decide (a = b) = false) := by
          show _ = _
          rw [decide_eq_false]
          rintro rfl
          rw [HX.out] at HZ
          exact hxz (by simpa using HZ.out)
        clear hxz hJ1 hK1
        refine cl_do rfl rfl rfl rfl (fun _ _ => ?_)
        go_wp2_with fail
        refine cl_nil ?_
        go_wp2_with fail
        go_ret
        exact ⟨by rw [HE.out]; rfl, HW.out⟩
      have h2 : (!(x == z)) = false := by simpa using hxz
      have HT2 : Hid (a.take (k + 1) = b.take (k + 1)) := by
        show _ = _
        rw [List.take_add_one, List.take_add_one, HX.out, HZ.out, HT.out, hxz]
      refine cl_do rfl rfl rfl rfl (fun _ _ => ?_)
      go_wp2_with fail
      refine cl_nil ?_
      go_wp2_with fail
      clear h2 hg cx hg2 cz HX HZ hxz
      go_roundg (n - (k + 1))
      case measure => omega
      case rel => exact ⟨k + 1, rfl, by omega, by go_num, HT2, HW⟩
    · obtain rfl : k = n := by omega
      have HE : Hid (decide (a = b) = true) := by
        show _ = _
        rw [decide_eq_true]
        have := HT.out
        rw [HN.out, List.take_length, ← HN.out, HM.out, List.take_length] at this
        exact this
      clear hJ1 hK1 hlt
      go_wp2_with fail
      go_ret
      exact ⟨by rw [HE.out]; rfl, HW.out⟩
end
end Go.Proofs.YtakadfdnhlfijaaGreatDoor
