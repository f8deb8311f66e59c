/-
  'FormulaMatters' returns true: the walk.
-/
import Derived.Test.YtagoefnibgobcaaGreatDoorFmMix
import Derived.Test.YtagoefnibgobcaaGreatDoorFmLaw2
import Derived.Test.YtagoefnibgobcaaGreatDoorFmHdL
namespace Go.Proofs.YtagoefnibgobcaaGreatDoor
open Go.RowKit Go.Cz Go.Cz.Lx Go.Cz.Fo
set_option linter.unusedSimpArgs false
set_option linter.unusedVariables false
attribute [local go_sem] bs_size bs_extract bs_append bs_toList
attribute [local irreducible] cList cPlan
set_option maxRecDepth 100000 in
set_option maxHeartbeats 8000000 in
theorem FormulaMatters_walk (w : World) (hs : Std w) (f : Fm) (kv : Value) (hf : IsFm (fun _ => True) w f kv) (d : List Fact) (v : Value) (hd : IsD w d v) (hn : d.length ≤ 9223372036854775807) (a : List Int) (u : Value) (ha : IsC w a u) (hma : a.length ≤ 9223372036854775807) (b : List Int) (u' : Value) (hb' : IsC w b u') (hmb : b.length ≤ 9223372036854775807) :
    Calls Tryz.prog 7 #[fval f kv, .agg #[v], u, u'] w fun e w' => e = .returned (.bool true) ∧ Below w.heap.size w w' := by
  have HS := Lib.hid hs
  have HD := Lib.hid hd
  have HA := Lib.hid ha
  have HB := Lib.hid hb'
  have HDn := Lib.hid hn
  have HBn := Lib.hid hmb
  clear hs hd ha hb' hn hma hmb
  obtain ⟨yd, md, hv⟩ := HD.out.form
  subst hv
  obtain ⟨M, hM⟩ : ∃ M, M = d.length := ⟨_, rfl⟩
  have HM0 := Lib.hid hM
  rw [← hM] at HD ⊢
  obtain ⟨ya, ma, hv⟩ := HA.out.form
  subst hv
  obtain ⟨Ma, hMa⟩ : ∃ Ma, Ma = a.length := ⟨_, rfl⟩
  have HMa := Lib.hid hMa
  rw [← hMa] at HA ⊢
  obtain ⟨yb, mb, hv⟩ := HB.out.form
  subst hv
  obtain ⟨Mb, hMb⟩ : ∃ Mb, Mb = b.length := ⟨_, rfl⟩
  have HMb := Lib.hid hMb
  rw [← hMb] at HB ⊢
  clear hM hMa hMb
  obtain ⟨y, m, rfl⟩ := hf.form
  obtain ⟨N, hN⟩ : ∃ N, N = f.kids.length := ⟨_, rfl⟩
  rw [← hN] at hf ⊢
  have HF := Lib.hid hf
  clear hN hf
  obtain ⟨W1, hW1⟩ : ∃ W1, W1 = (w.alloc (fobj f (.slice y N m))).alloc (.cells #[.slice yd M md] 27) := ⟨_, rfl⟩
  obtain ⟨bf, hbf⟩ : ∃ bf, bf = w.heap.size := ⟨_, rfl⟩
  obtain ⟨bd, hbd⟩ : ∃ bd, bd = w.heap.size + 1 := ⟨_, rfl⟩
  have HO : Hid (Owns w W1 [blk bf (fobj f (.slice y N m)), blk bd (.cells #[.slice yd M md] 27 (0, 0))]) := by
    rw [hW1, hbf, hbd]
    have h := ((Owns.start w).box (fobj f (.slice y N m))).box (.cells #[.slice yd M md] 27 (0, 0))
    simp only [World.size_alloc] at h
    exact Lib.hid h.swap
  go_enter Tryz.func7, Tryz.ntmps7
  go_wp2_with fail
  rw [← hW1]
  try rw [← hbd]
  try rw [← hbf]
  clear hW1 hbf hbd
  go_at_call 12
  refine (head_c W1 (HS.out.below HO.out.base)).mono ?_
  rintro e W2 ⟨rfl, hb⟩
  replace HO := Lib.hid (HO.out.below hb)
  clear hb
  focus
    obtain ⟨bk, -⟩ := HO.out.blk
    have hbf := lt_of_block bk
    have cf0 := cell_of_heap bk (i := 0)
    have cf1 := cell_of_heap bk (i := 1)
    have cf2 := cell_of_heap bk (i := 2)
    have cf3 := cell_of_heap bk (i := 3)
    have cf4 := cell_of_heap bk (i := 4)
    simp only [List.getElem?_toArray, List.getElem?_cons_succ, List.getElem?_cons_zero] at cf0 cf1 cf2 cf3 cf4
    clear bk
    obtain ⟨bk, -⟩ := HO.out.pop.blk
    have hbd := lt_of_block bk
    have cd0 := cell_of_heap bk (i := 0)
    simp only [List.getElem?_toArray, List.getElem?_cons_succ, List.getElem?_cons_zero] at cd0
    clear bk
    go_wp2_with fail
    clear hbf cf0 cf1 cf2 cf3 cf4 hbd cd0
  go_at_call 28
  refine (good_c f W2 _ d _ a _ (HF.out.later HO.out.base) (HD.out.later HO.out.base) (HA.out.later HO.out.base) HDn.out).mono ?_
  rintro e W3 ⟨rfl, hb⟩
  replace HO := Lib.hid (HO.out.below hb)
  obtain ⟨q, hq⟩ : ∃ q, q = goodB d a f := ⟨_, rfl⟩
  have HB1 := Lib.hid hq
  rw [← hq]
  clear hq hb
  cases q
  · go_wp2_with fail
    go_ret
    exact ⟨rfl, HO.out.base⟩
  obtain ⟨hG, hs1, hfe⟩ := good_of3 HB1.out.symm
  have HG := Lib.hid hG
  have HS1 := Lib.hid hs1
  have HFw := Lib.hid (few_names hfe)
  have HX : Hid (∀ x ∈ d, x.name.length ≤ 140737488355328) := fun x hx => by have := HFw.out.1 x hx; omega
  have HDm : Hid (d.length ≤ 1000000) := by have := HFw.out.2.1; show _ ≤ _; omega
  have HAm : Hid (a.length ≤ 1000000) := by have := HFw.out.2.2; show _ ≤ _; omega
  have hM70 : M ≤ 70 := by have := HFw.out.2.1; have := HM0.out; omega
  clear hG hs1 hfe
  focus
    obtain ⟨bk, -⟩ := HO.out.blk
    have hbf := lt_of_block bk
    have cf0 := cell_of_heap bk (i := 0)
    have cf1 := cell_of_heap bk (i := 1)
    have cf2 := cell_of_heap bk (i := 2)
    have cf3 := cell_of_heap bk (i := 3)
    have cf4 := cell_of_heap bk (i := 4)
    simp only [List.getElem?_toArray, List.getElem?_cons_succ, List.getElem?_cons_zero] at cf0 cf1 cf2 cf3 cf4
    clear bk
    obtain ⟨bk, -⟩ := HO.out.pop.blk
    have hbd := lt_of_block bk
    have cd0 := cell_of_heap bk (i := 0)
    simp only [List.getElem?_toArray, List.getElem?_cons_succ, List.getElem?_cons_zero] at cd0
    clear bk
    go_wp2_with fail
    clear hbf cf0 cf1 cf2 cf3 cf4 hbd cd0
  go_at_call 30
  refine (FitsX_c d b _ _ W3 (HD.out.later HO.out.base) (HB.out.later HO.out.base) HDm.out HBn.out HX.out).mono ?_
  rintro e W4 ⟨rfl, hb⟩
  replace HO := Lib.hid (HO.out.below hb)
  obtain ⟨q, hq⟩ : ∃ q, q = fitsB d b := ⟨_, rfl⟩
  have HB2 := Lib.hid hq
  rw [← hq]
  clear hq hb
  cases q
  · go_wp2_with fail
    go_ret
    exact ⟨rfl, HO.out.base⟩
  have HFb : Hid (fitsB d b = true) := Lib.hid HB2.out.symm
  have HLa : Hid (a.length = d.length) := Lib.hid (fits_valid HG.out.fits).2.1
  have HLb : Hid (b.length = d.length) := Lib.hid (fits_valid HFb.out).2.1
  have HBm : Hid (b.length ≤ 1000000) := by show _ ≤ _; rw [HLb.out]; exact HDm.out
  obtain rfl : Ma = M := by rw [HMa.out, HM0.out, HLa.out]
  obtain rfl : Mb = Ma := by rw [HMb.out, HM0.out, HLb.out]
  have HR0 : Hid (ORow 3 1 W4 (W4.alloc (.cells #[] 3)) (.slice (some ⟨W4.heap.size, 0, none⟩) 0 0) 0 []) := Lib.hid (ORow.lit0 W4 3 1)
  have HB5 : Hid (IsC (W4.alloc (.cells #[] 3)) b (.slice yb Mb mb)) := Lib.hid (HB.out.later (HO.out.base.trans (((Below.refl W4.heap.size W4).alloc (Nat.le_refl _) _).mono HO.out.base.size)))
  go_wp2_with (refine wpList_plain rfl fun K hK => wp_append_case (.tmp 25) (.tmp 26) (by rfl) _ (by rfl) HR0.out.row b _ (by rfl) HB5.out HBm.out ?_; intro v' w5 hrow hgrow hblk; have hr5 := HR0.out.step hrow hgrow hblk; have HR := Lib.hid hr5; clear hrow hgrow hblk hr5)
  have hnil : (([] : List Value) ++ ints b) = ints b := rfl
  obtain ⟨V, hV⟩ : ∃ V, V = v' := ⟨_, rfl⟩
  rw [← hV] at HR
  try rw [← hV]
  clear hV HR0 HB5
  have HO5 : Hid (Owns w w5 (irow V b :: [blk bf (fobj f (.slice y N m)), blk bd (.cells #[.slice yd Mb md] 27 (0, 0))])) := Lib.hid (HO.out.irow HR.out)
  clear HR
  have hb64 : b.length = Mb := HMb.out.symm
  go_wp2_with fail
  go_loopg [11] Mb (fun gk i wr => ∃ (k : Nat) (L : List Int), gk = Mb - k ∧ k ≤ Mb ∧ i = .int .i64 (k : Int) ∧ L.length = Mb ∧ Hid (∀ j, j < Mb → L[j]? = some (mixV f d a b k j)) ∧ Hid (Owns w wr (irow V L :: [blk bf (fobj f (.slice y N m)), blk bd (.cells #[.slice yd Mb md] 27 (0, 0))])))
  case atStart =>
    refine ⟨0, b, rfl, Nat.zero_le _, rfl, HMb.out.symm, Lib.hid fun j hj => ?_, HO5⟩
    rw [mixV, if_neg (by omega), List.getD_eq_getElem?_getD, List.getElem?_eq_getElem (by rw [← HMb.out]; exact hj)]
    rfl
  case round =>
    rename_i J1 K1 hJ1 hK1
    clear HO5 HO
    obtain ⟨k, L, rfl, hk, rfl, hLl, HC, HO⟩ := hrel
    by_cases hlt : k < Mb
    · obtain ⟨x, hx⟩ : ∃ x, d[k]? = some x := ⟨_, List.getElem?_eq_getElem (by rw [← HM0.out]; exact hlt)⟩
      obtain ⟨z, hz⟩ : ∃ z, a[k]? = some z := ⟨_, List.getElem?_eq_getElem (by rw [← HMa.out]; exact hlt)⟩
      have HXd := Lib.hid hx
      have HZa := Lib.hid hz
      have hxl : x.name.length ≤ 60 := HFw.out.1 x (List.mem_of_getElem? hx)
      have HXl := Lib.hid hxl
      obtain ⟨gx, offx, rfl, hgx, c0, c1, c2, c3⟩ := HD.out.get HO.out.base hx
      clear hx hz hxl hgx c0 c1 c2 c3
      focus
        obtain ⟨bk, -⟩ := HO.out.pop.blk
        have hbf := lt_of_block bk
        have cf0 := cell_of_heap bk (i := 0)
        have cf1 := cell_of_heap bk (i := 1)
        have cf2 := cell_of_heap bk (i := 2)
        have cf3 := cell_of_heap bk (i := 3)
        have cf4 := cell_of_heap bk (i := 4)
        simp only [List.getElem?_toArray, List.getElem?_cons_succ, List.getElem?_cons_zero] at cf0 cf1 cf2 cf3 cf4
        clear bk
        obtain ⟨bk, -⟩ := HO.out.pop.pop.blk
        have hbd := lt_of_block bk
        have cd0 := cell_of_heap bk (i := 0)
        simp only [List.getElem?_toArray, List.getElem?_cons_succ, List.getElem?_cons_zero] at cd0
        clear bk
        go_wp2_with fail
        clear hbf cf0 cf1 cf2 cf3 cf4 hbd cd0
      refine wp_region_can [7] (List.range 8) (by decide +kernel) (by decide +kernel) ?_
      replace HO := Lib.hid HO.out.drew
      generalize hWd : World.drew _ = w8 at HO ⊢
      clear hWd
      focus
        obtain ⟨bk, -⟩ := HO.out.pop.blk
        have hbf := lt_of_block bk
        have cf0 := cell_of_heap bk (i := 0)
        have cf1 := cell_of_heap bk (i := 1)
        have cf2 := cell_of_heap bk (i := 2)
        have cf3 := cell_of_heap bk (i := 3)
        have cf4 := cell_of_heap bk (i := 4)
        simp only [List.getElem?_toArray, List.getElem?_cons_succ, List.getElem?_cons_zero] at cf0 cf1 cf2 cf3 cf4
        clear bk
        obtain ⟨bk, -⟩ := HO.out.pop.pop.blk
        have hbd := lt_of_block bk
        have cd0 := cell_of_heap bk (i := 0)
        simp only [List.getElem?_toArray, List.getElem?_cons_succ, List.getElem?_cons_zero] at cd0
        clear bk
        obtain ⟨hgx, c0, c1, c2, c3⟩ := getD3 HD.out HO.out.base HXd.out
        iterate 7 (first | (refine cl_do rfl rfl rfl (by first | rfl | simp [okB, lenV, plainV, Act.eval]) (fun _ _ => ?_); go_wp2_with fail) | (refine cl_yes rfl rfl rfl rfl (by first | rfl | simp [okB, lenV, plainV, Act.eval]) (fun _ _ => ?_); go_wp2_with fail))
        clear hbf cf0 cf1 cf2 cf3 cf4 hbd cd0
        clear hgx c0 c1 c2 c3
      refine cl_call (i := 7) rfl rfl (by first | rfl | simp [okB, lenV, plainV, Act.eval]) (fun K hK => ?_)
      go_wp2_with fail
      go_at_call 33
      refine (named_c x.name (by have := HXl.out; omega) f w8 _ (HF.out.later HO.out.base) (by have := HG.out.small; rw [size_kids] at this; omega)).mono ?_
      rintro e w9 ⟨rfl, hb⟩
      obtain ⟨q, hq⟩ : ∃ q, q = namedF x.name f := ⟨_, rfl⟩
      have HQ : Hid (nmF f d k = q) := by show _ = _; rw [nmF, HXd.out, hq]
      rw [← hq]
      clear hq
      replace HO := Lib.hid (HO.out.below hb)
      have Hb := Lib.hid hb
      clear hb
      go_wp2_with fail
      refine And.intro Hb.out ?_
      clear Hb
      refine cl_nil ?_
      cases q
      · have HC2 : Hid (∀ j, j < Mb → L[j]? = some (mixV f d a b (k + 1) j)) := Lib.hid fun j hj => by
          rw [HC.out j hj, mixV, mixV]
          by_cases hjk : j = k
          · subst hjk
            rw [HQ.out]
            simp
          · have : j < k + 1 ↔ j < k := by omega
            simp only [this]
        clear HC HQ
        go_wp2_with fail
        go_roundg (Mb - (k + 1))
        case measure => omega
        case rel => exact ⟨k + 1, L, rfl, by omega, by go_num, hLl, HC2, HO⟩
      · obtain ⟨g, c, hV, hgc, hgl, ⟨x0, cw⟩, fw⟩ := HO.out.irow_at (j := k) (by rw [hLl]; exact hlt)
        rw [hLl] at hgc hV
        subst hV
        obtain ⟨ga, offa, rfl, hga, ca⟩ := HA.out.get HO.out.base HZa.out
        have HC2 : Hid (∀ j, j < Mb → (L.set k z)[j]? = some (mixV f d a b (k + 1) j)) := Lib.hid fun j hj => by
          by_cases hjk : j = k
          · subst hjk
            rw [List.getElem?_set_self (by rw [hLl]; exact hj), mixV, HQ.out]
            simp [List.getD_eq_getElem?_getD, HZa.out]
          · rw [List.getElem?_set_ne (by omega), HC.out j hj, mixV, mixV]
            have : j < k + 1 ↔ j < k := by omega
            simp only [this]
        have HO9 : Hid (Owns w (w9.setCell ⟨g, k, none⟩ (.int .i64 z)) (irow (.slice (some ⟨g, 0, none⟩) Mb c) (L.set k z) :: [blk bf (fobj f (.slice y N m)), blk bd (.cells #[.slice (some ⟨gx, offx, none⟩) Mb md] 27 (0, 0))])) := by
          have h := HO.out
          show Owns _ _ _
          rw [← hLl] at h ⊢
          exact h.irow_store z
        have hl2 : (L.set k z).length = Mb := by rw [List.length_set]; exact hLl
        clear HC HQ HO
        go_wp2_with fail
        go_roundg (Mb - (k + 1))
        case measure => omega
        case rel => exact ⟨k + 1, L.set k z, rfl, by omega, by go_num, hl2, HC2, HO9⟩
    · obtain rfl : k = Mb := by omega
      have HLm : Hid (L = mixF f d a b) := by
        show _ = _
        refine List.ext_getElem? fun j => ?_
        rcases Nat.lt_or_ge j k with h | h
        · obtain ⟨x, hx⟩ : ∃ x, d[j]? = some x := ⟨_, List.getElem?_eq_getElem (by rw [← HM0.out]; exact h)⟩
          have h1 := mixV_last (f := f) HLa.out HLb.out hx
          rw [HC.out j h, ← HM0.out] at *
          rw [h1, List.getD_eq_getElem?_getD, List.getElem?_eq_getElem (by rw [mix_length, ← HMb.out]; exact h)]
          rfl
        · rw [List.getElem?_eq_none (by omega), List.getElem?_eq_none (by rw [mix_length, ← HMb.out]; exact h)]
      have HM : Hid (IsC wr (mixF f d a b) V) := by
        have h := HO.out.irow_case
        rw [HLm.out] at h
        exact Lib.hid h
      replace HO := Lib.hid HO.out.pop
      clear HC HLm hLl hJ1 hK1 hlt
      focus
        obtain ⟨bk, -⟩ := HO.out.blk
        have hbf := lt_of_block bk
        have cf0 := cell_of_heap bk (i := 0)
        have cf1 := cell_of_heap bk (i := 1)
        have cf2 := cell_of_heap bk (i := 2)
        have cf3 := cell_of_heap bk (i := 3)
        have cf4 := cell_of_heap bk (i := 4)
        simp only [List.getElem?_toArray, List.getElem?_cons_succ, List.getElem?_cons_zero] at cf0 cf1 cf2 cf3 cf4
        clear bk
        obtain ⟨bk, -⟩ := HO.out.pop.blk
        have hbd := lt_of_block bk
        have cd0 := cell_of_heap bk (i := 0)
        simp only [List.getElem?_toArray, List.getElem?_cons_succ, List.getElem?_cons_zero] at cd0
        clear bk
        go_wp2_with fail
        clear hbf cf0 cf1 cf2 cf3 cf4 hbd cd0
      -- HM : IsC of the mixed case in the world wr
      refine wp_region_can [5, 9] [0, 1, 2, 3, 4, 6, 7, 8, 5, 9, 10, 11, 12] (by decide +kernel) (by decide +kernel) ?_
      replace HM := Lib.hid (HM.out.later (Below.refl _ _).drew)
      replace HO := Lib.hid HO.out.drew
      generalize hWd : World.drew _ = w8 at HO HM ⊢
      clear hWd
      focus
        obtain ⟨bk, -⟩ := HO.out.blk
        have hbf := lt_of_block bk
        have cf0 := cell_of_heap bk (i := 0)
        have cf1 := cell_of_heap bk (i := 1)
        have cf2 := cell_of_heap bk (i := 2)
        have cf3 := cell_of_heap bk (i := 3)
        have cf4 := cell_of_heap bk (i := 4)
        simp only [List.getElem?_toArray, List.getElem?_cons_succ, List.getElem?_cons_zero] at cf0 cf1 cf2 cf3 cf4
        clear bk
        obtain ⟨bk, -⟩ := HO.out.pop.blk
        have hbd := lt_of_block bk
        have cd0 := cell_of_heap bk (i := 0)
        simp only [List.getElem?_toArray, List.getElem?_cons_succ, List.getElem?_cons_zero] at cd0
        clear bk
        iterate 8 (first | (refine cl_do rfl rfl rfl (by first | rfl | simp [okB, lenV, plainV, Act.eval]) (fun _ _ => ?_); go_wp2_with fail) | (refine cl_yes rfl rfl rfl rfl (by first | rfl | simp [okB, lenV, plainV, Act.eval]) (fun _ _ => ?_); go_wp2_with fail))
        clear hbf cf0 cf1 cf2 cf3 cf4 hbd cd0
      first | refine cl_ycall (i := 5) rfl rfl rfl (by first | rfl | simp [okB, lenV, plainV, Act.eval]) (fun K hK => ?_) | refine cl_call (i := 5) rfl rfl (by first | rfl | simp [okB, lenV, plainV, Act.eval]) (fun K hK => ?_)
      go_wp2_with fail
      go_at_call 20
      refine (Holds_c f w8 _ d _ a _ (HF.out.later HO.out.base) (HD.out.later HO.out.base) (HA.out.later HO.out.base) HDm.out (HAm.out) HX.out (lim := 60) (by omega) HS1.out (by have := HG.out.small; omega)).mono ?_
      rintro e w9 ⟨rfl, hb⟩
      replace HM := Lib.hid (HM.out.later hb)
      replace HO := Lib.hid (HO.out.below hb)
      have Hb := Lib.hid hb
      clear hb
      go_wp2_with fail
      refine And.intro Hb.out ?_
      clear Hb
      obtain ⟨q, hq⟩ : ∃ q, q = holdsF d a f := ⟨_, rfl⟩
      have HQ : Hid (holdsF d (mixF f d a b) f = q) := by
        show _ = _
        rw [hq]
        exact (mix_holds HG.out HFb.out).symm
      rw [← hq]
      clear hq
      first | refine cl_ycall (i := 9) rfl rfl rfl (by first | rfl | simp [okB, lenV, plainV, Act.eval]) (fun K hK => ?_) | refine cl_call (i := 9) rfl rfl (by first | rfl | simp [okB, lenV, plainV, Act.eval]) (fun K hK => ?_)
      go_wp2_with fail
      go_at_call 20
      refine (Holds_c f w9 _ d _ (mixF f d a b) _ (HF.out.later HO.out.base) (HD.out.later HO.out.base) (HM.out) HDm.out (by rw [mix_length]; exact HBm.out) HX.out (lim := 60) (by omega) HS1.out (by have := HG.out.small; omega)).mono ?_
      rintro e w10 ⟨rfl, hb⟩
      rw [HQ.out]
      replace HO := Lib.hid (HO.out.below hb)
      have Hb := Lib.hid hb
      clear hb
      go_wp2_with fail
      refine And.intro Hb.out ?_
      clear Hb
      iterate 3 (first | (refine cl_do rfl rfl rfl (by first | rfl | simp [okB, lenV, plainV, Act.eval]) (fun _ _ => ?_); go_wp2_with fail) | (refine cl_yes rfl rfl rfl rfl (by first | rfl | simp [okB, lenV, plainV, Act.eval]) (fun _ _ => ?_); go_wp2_with fail))
      refine cl_nil ?_
      go_wp2_with fail
      go_ret
      exact ⟨rfl, HO.out.base⟩
end Go.Proofs.YtagoefnibgobcaaGreatDoor
