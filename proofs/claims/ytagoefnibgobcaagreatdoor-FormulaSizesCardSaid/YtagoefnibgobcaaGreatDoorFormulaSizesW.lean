/-
  'FormulaSizes' returns true: the walk.
-/
import Derived.Test.YtagoefnibgobcaaGreatDoorFmFew
import Derived.Test.YtagoefnibgobcaaGreatDoorFmLaw2
import Derived.Test.YtagoefnibgobcaaGreatDoorFmSame
namespace Go.Proofs.YtagoefnibgobcaaGreatDoor
open Go.RowKit Go.Cz Go.Cz.Lx Go.Cz.Fo
set_option linter.unusedSimpArgs false
set_option linter.unusedVariables false
attribute [local go_sem] bs_size bs_extract bs_append bs_toList
attribute [local irreducible] cList cPlan
theorem same_symm (f g : Fm) : sameF f g = sameF g f := by rw [Bool.eq_iff_iff, sameF_iff, sameF_iff]; exact eq_comm
set_option maxRecDepth 100000 in
set_option maxHeartbeats 8000000 in
theorem FormulaSizes_walk (w : World) (hs : Std w) (f : Fm) (kv : Value) (hf : IsFm (fun _ => True) w f kv) (g : Fm) (gv : Value) (hg : IsFm (fun _ => True) w g gv) :
    Calls Tryz.prog 8 #[fval f kv, fval g gv] w fun e w' => e = .returned (.bool true) ∧ Below w.heap.size w w' := by
  have HS := Lib.hid hs
  clear hs
  obtain ⟨y, m, rfl⟩ := hf.form
  obtain ⟨N, hN⟩ : ∃ N, N = f.kids.length := ⟨_, rfl⟩
  have HN := Lib.hid hN
  rw [← hN] at hf ⊢
  have HF := Lib.hid hf
  obtain ⟨y', m', rfl⟩ := hg.form
  obtain ⟨N', hN'⟩ : ∃ N', N' = g.kids.length := ⟨_, rfl⟩
  have HN' := Lib.hid hN'
  rw [← hN'] at hg ⊢
  have HG := Lib.hid hg
  clear hN hf hN' hg
  obtain ⟨W1, hW1⟩ : ∃ W1, W1 = (w.alloc (fobj f (.slice y N m))).alloc (fobj g (.slice y' N' m')) := ⟨_, rfl⟩
  obtain ⟨bf, hbf⟩ : ∃ bf, bf = w.heap.size := ⟨_, rfl⟩
  obtain ⟨bg, hbg⟩ : ∃ bg, bg = w.heap.size + 1 := ⟨_, rfl⟩
  have HO : Hid (Owns w W1 [blk bf (fobj f (.slice y N m)), blk bg (fobj g (.slice y' N' m'))]) := by
    rw [hW1, hbf, hbg]
    have h := ((Owns.start w).box (fobj f (.slice y N m))).box (fobj g (.slice y' N' m'))
    simp only [World.size_alloc] at h
    exact Lib.hid h.swap
  go_enter Tryz.func8, Tryz.ntmps8
  go_wp2_with fail
  rw [← hW1]
  try rw [← hbg]
  try rw [← hbf]
  clear hW1 hbf hbg
  go_at_call 12
  refine (head_c W1 (HS.out.below HO.out.base)).mono ?_
  rintro e W2 ⟨rfl, hb⟩
  replace HO := Lib.hid (HO.out.below hb)
  clear hb
  focus
    obtain ⟨bk, -⟩ := HO.out.blk
    have hbf := lt_of_block bk
    have cf0 := cell_of_heap bk (i := 0)
    have cf1 := cell_of_heap bk (i := 1)
    have cf2 := cell_of_heap bk (i := 2)
    have cf3 := cell_of_heap bk (i := 3)
    have cf4 := cell_of_heap bk (i := 4)
    simp only [List.getElem?_toArray, List.getElem?_cons_succ, List.getElem?_cons_zero] at cf0 cf1 cf2 cf3 cf4
    clear bk
    obtain ⟨bk, -⟩ := HO.out.pop.blk
    have hbg := lt_of_block bk
    have cg0 := cell_of_heap bk (i := 0)
    have cg1 := cell_of_heap bk (i := 1)
    have cg2 := cell_of_heap bk (i := 2)
    have cg3 := cell_of_heap bk (i := 3)
    have cg4 := cell_of_heap bk (i := 4)
    simp only [List.getElem?_toArray, List.getElem?_cons_succ, List.getElem?_cons_zero] at cg0 cg1 cg2 cg3 cg4
    clear bk
    go_wp2_with fail
    clear hbf cf0 cf1 cf2 cf3 cf4 hbg cg0 cg1 cg2 cg3 cg4
  go_at_call 13
  refine (Small_c f W2 _ 200 (HF.out.later HO.out.base) (by omega)).mono ?_
  rintro e W3 ⟨rfl, hb⟩
  replace HO := Lib.hid (HO.out.below hb)
  obtain ⟨b, hb0⟩ : ∃ b, b = decide (size f ≤ 200) := ⟨_, rfl⟩
  have HB1 := Lib.hid hb0
  rw [← hb0]
  clear hb0 hb
  cases b
  · go_wp2_with fail
    go_ret
    exact ⟨rfl, HO.out.base⟩
  focus
    obtain ⟨bk, -⟩ := HO.out.blk
    have hbf := lt_of_block bk
    have cf0 := cell_of_heap bk (i := 0)
    have cf1 := cell_of_heap bk (i := 1)
    have cf2 := cell_of_heap bk (i := 2)
    have cf3 := cell_of_heap bk (i := 3)
    have cf4 := cell_of_heap bk (i := 4)
    simp only [List.getElem?_toArray, List.getElem?_cons_succ, List.getElem?_cons_zero] at cf0 cf1 cf2 cf3 cf4
    clear bk
    obtain ⟨bk, -⟩ := HO.out.pop.blk
    have hbg := lt_of_block bk
    have cg0 := cell_of_heap bk (i := 0)
    have cg1 := cell_of_heap bk (i := 1)
    have cg2 := cell_of_heap bk (i := 2)
    have cg3 := cell_of_heap bk (i := 3)
    have cg4 := cell_of_heap bk (i := 4)
    simp only [List.getElem?_toArray, List.getElem?_cons_succ, List.getElem?_cons_zero] at cg0 cg1 cg2 cg3 cg4
    clear bk
    go_wp2_with fail
    clear hbf cf0 cf1 cf2 cf3 cf4 hbg cg0 cg1 cg2 cg3 cg4
  have hz : size f ≤ 200 := of_decide_eq_true HB1.out.symm
  have HZ : Hid (size f ≤ 900000) := by show _ ≤ _; omega
  have HZk : Hid (sizes f.kids ≤ 900000) := by show _ ≤ _; rw [size_kids] at hz; omega
  have hN9 : N ≤ 1000 := by have := HN.out; have h1 := length_sizes f.kids; rw [size_kids] at hz; omega
  have HZ3 : Hid (sizes f.kids ≤ 200) := by show _ ≤ _; rw [size_kids] at hz; omega
  go_at_call 13
  refine (Small_c g W3 _ 200 (HG.out.later HO.out.base) (by omega)).mono ?_
  rintro e W4 ⟨rfl, hb⟩
  clear hz
  replace HO := Lib.hid (HO.out.below hb)
  obtain ⟨b, hb0⟩ : ∃ b, b = decide (size g ≤ 200) := ⟨_, rfl⟩
  have HB2 := Lib.hid hb0
  rw [← hb0]
  clear hb0 hb
  cases b
  · go_wp2_with fail
    go_ret
    exact ⟨rfl, HO.out.base⟩
  focus
    obtain ⟨bk, -⟩ := HO.out.blk
    have hbf := lt_of_block bk
    have cf0 := cell_of_heap bk (i := 0)
    have cf1 := cell_of_heap bk (i := 1)
    have cf2 := cell_of_heap bk (i := 2)
    have cf3 := cell_of_heap bk (i := 3)
    have cf4 := cell_of_heap bk (i := 4)
    simp only [List.getElem?_toArray, List.getElem?_cons_succ, List.getElem?_cons_zero] at cf0 cf1 cf2 cf3 cf4
    clear bk
    obtain ⟨bk, -⟩ := HO.out.pop.blk
    have hbg := lt_of_block bk
    have cg0 := cell_of_heap bk (i := 0)
    have cg1 := cell_of_heap bk (i := 1)
    have cg2 := cell_of_heap bk (i := 2)
    have cg3 := cell_of_heap bk (i := 3)
    have cg4 := cell_of_heap bk (i := 4)
    simp only [List.getElem?_toArray, List.getElem?_cons_succ, List.getElem?_cons_zero] at cg0 cg1 cg2 cg3 cg4
    clear bk
    go_wp2_with fail
    clear hbf cf0 cf1 cf2 cf3 cf4 hbg cg0 cg1 cg2 cg3 cg4
  have hz : size g ≤ 200 := of_decide_eq_true HB2.out.symm
  have HZ2 : Hid (size g ≤ 900000) := by show _ ≤ _; omega
  have HZk2 : Hid (sizes g.kids ≤ 900000) := by show _ ≤ _; rw [size_kids] at hz; omega
  go_at_call 15
  refine (short_c f W4 _ (HF.out.later HO.out.base) HZk.out).mono ?_
  rintro e W5 ⟨rfl, hb⟩
  clear hz
  replace HO := Lib.hid (HO.out.below hb)
  obtain ⟨b, hb0⟩ : ∃ b, b = short 60 f := ⟨_, rfl⟩
  have HB3 := Lib.hid hb0
  rw [← hb0]
  clear hb0 hb
  cases b
  · go_wp2_with fail
    go_ret
    exact ⟨rfl, HO.out.base⟩
  focus
    obtain ⟨bk, -⟩ := HO.out.blk
    have hbf := lt_of_block bk
    have cf0 := cell_of_heap bk (i := 0)
    have cf1 := cell_of_heap bk (i := 1)
    have cf2 := cell_of_heap bk (i := 2)
    have cf3 := cell_of_heap bk (i := 3)
    have cf4 := cell_of_heap bk (i := 4)
    simp only [List.getElem?_toArray, List.getElem?_cons_succ, List.getElem?_cons_zero] at cf0 cf1 cf2 cf3 cf4
    clear bk
    obtain ⟨bk, -⟩ := HO.out.pop.blk
    have hbg := lt_of_block bk
    have cg0 := cell_of_heap bk (i := 0)
    have cg1 := cell_of_heap bk (i := 1)
    have cg2 := cell_of_heap bk (i := 2)
    have cg3 := cell_of_heap bk (i := 3)
    have cg4 := cell_of_heap bk (i := 4)
    simp only [List.getElem?_toArray, List.getElem?_cons_succ, List.getElem?_cons_zero] at cg0 cg1 cg2 cg3 cg4
    clear bk
    go_wp2_with fail
    clear hbf cf0 cf1 cf2 cf3 cf4 hbg cg0 cg1 cg2 cg3 cg4
  go_at_call 15
  refine (short_c g W5 _ (HG.out.later HO.out.base) HZk2.out).mono ?_
  rintro e W6 ⟨rfl, hb⟩
  replace HO := Lib.hid (HO.out.below hb)
  obtain ⟨b, hb0⟩ : ∃ b, b = short 60 g := ⟨_, rfl⟩
  have HB4 := Lib.hid hb0
  rw [← hb0]
  clear hb0 hb
  cases b
  · go_wp2_with fail
    go_ret
    exact ⟨rfl, HO.out.base⟩
  focus
    obtain ⟨bk, -⟩ := HO.out.blk
    have hbf := lt_of_block bk
    have cf0 := cell_of_heap bk (i := 0)
    have cf1 := cell_of_heap bk (i := 1)
    have cf2 := cell_of_heap bk (i := 2)
    have cf3 := cell_of_heap bk (i := 3)
    have cf4 := cell_of_heap bk (i := 4)
    simp only [List.getElem?_toArray, List.getElem?_cons_succ, List.getElem?_cons_zero] at cf0 cf1 cf2 cf3 cf4
    clear bk
    obtain ⟨bk, -⟩ := HO.out.pop.blk
    have hbg := lt_of_block bk
    have cg0 := cell_of_heap bk (i := 0)
    have cg1 := cell_of_heap bk (i := 1)
    have cg2 := cell_of_heap bk (i := 2)
    have cg3 := cell_of_heap bk (i := 3)
    have cg4 := cell_of_heap bk (i := 4)
    simp only [List.getElem?_toArray, List.getElem?_cons_succ, List.getElem?_cons_zero] at cg0 cg1 cg2 cg3 cg4
    clear bk
    go_wp2_with fail
    clear hbf cf0 cf1 cf2 cf3 cf4 hbg cg0 cg1 cg2 cg3 cg4
  go_at_call 16
  refine (Size_c f W6 _ (HF.out.later HO.out.base) HZ.out).mono ?_
  rintro e W7 ⟨rfl, hb⟩
  replace HO := Lib.hid (HO.out.below hb)
  clear hb
  obtain ⟨sz, hsz⟩ : ∃ sz, sz = size f := ⟨_, rfl⟩
  obtain ⟨dp, hdp⟩ : ∃ dp, dp = depth f := ⟨_, rfl⟩
  have HSz := Lib.hid hsz
  have HDp := Lib.hid hdp
  rw [← hsz, ← hdp]
  clear hsz hdp
  go_wp2_with fail
  have H0 : Hid (1 + sizes (f.kids.take 0) = 1 ∧ depths (f.kids.take 0) = 0) := Lib.hid (by simp [sizes, depths])
  have HO7 := HO
  clear HO
  go_loopg [8, 9, 10] N (fun gk a b i wr => ∃ k A B : Nat, gk = N - k ∧ k ≤ N ∧ a = .int .i64 (A : Int) ∧ b = .int .i64 (B : Int) ∧ i = .int .i64 (k : Int) ∧ A ≤ 1000 ∧ B ≤ 1000 ∧ Hid (1 + sizes (f.kids.take k) = A ∧ depths (f.kids.take k) = B) ∧ Hid (Owns w wr [blk bf (fobj f (.slice y N m)), blk bg (fobj g (.slice y' N' m'))]))
  case atStart => exact ⟨0, 1, 0, rfl, Nat.zero_le _, rfl, rfl, rfl, by omega, by omega, H0, HO7⟩
  case round =>
    rename_i J1 K1 hJ1 hK1
    clear HO7 H0
    obtain ⟨k, A, B, rfl, hk, rfl, rfl, rfl, hA, hB, HAB, HO⟩ := hrel
    by_cases hlt : k < N
    · obtain ⟨q, hq⟩ : ∃ q, f.kids[k]? = some q := ⟨_, List.getElem?_eq_getElem (by rw [← HN.out]; exact hlt)⟩
      obtain ⟨gk, off, kv, rfl, hg, hkv, c0, c1, c2, c3, c4⟩ := HF.out.old HO.out.base hq
      obtain ⟨y2, m2, rfl⟩ := hkv.form
      have HQ := Lib.hid hq
      have HK := Lib.hid hkv
      clear hq hkv
      obtain ⟨N2, hN2⟩ : ∃ N2, N2 = q.kids.length := ⟨_, rfl⟩
      rw [← hN2] at c4 HK
      clear hN2
      focus
        obtain ⟨bk, -⟩ := HO.out.blk
        have hbf := lt_of_block bk
        have cf0 := cell_of_heap bk (i := 0)
        have cf1 := cell_of_heap bk (i := 1)
        have cf2 := cell_of_heap bk (i := 2)
        have cf3 := cell_of_heap bk (i := 3)
        have cf4 := cell_of_heap bk (i := 4)
        simp only [List.getElem?_toArray, List.getElem?_cons_succ, List.getElem?_cons_zero] at cf0 cf1 cf2 cf3 cf4
        clear bk
        obtain ⟨bk, -⟩ := HO.out.pop.blk
        have hbg := lt_of_block bk
        have cg0 := cell_of_heap bk (i := 0)
        have cg1 := cell_of_heap bk (i := 1)
        have cg2 := cell_of_heap bk (i := 2)
        have cg3 := cell_of_heap bk (i := 3)
        have cg4 := cell_of_heap bk (i := 4)
        simp only [List.getElem?_toArray, List.getElem?_cons_succ, List.getElem?_cons_zero] at cg0 cg1 cg2 cg3 cg4
        clear bk
        go_wp2_with fail
        clear hbf cf0 cf1 cf2 cf3 cf4 hbg cg0 cg1 cg2 cg3 cg4
        clear c0 c1 c2 c3 c4 hg
      go_at_call 16
      have hmq := List.mem_of_getElem? HQ.out
      refine (Size_c q wr _ (HK.out.later HO.out.base) (by have := HZ3.out; have := size_mem hmq; omega)).mono ?_
      rintro e W8 ⟨rfl, hb⟩
      replace HO := Lib.hid (HO.out.below hb)
      clear hb hmq
      obtain ⟨a2, ha2⟩ : ∃ a2, a2 = size q := ⟨_, rfl⟩
      obtain ⟨b2, hb2⟩ : ∃ b2, b2 = depth q := ⟨_, rfl⟩
      rw [← ha2, ← hb2]
      have h1 : A + a2 ≤ 201 := by
        have := HAB.out.1
        have h2 := sizes_take HQ.out
        have h3 := sizes_le f.kids (k + 1)
        have h4 := HZ3.out
        omega
      have h2 : b2 ≤ 1000 := by have := depth_size q; omega
      have HAB2 : Hid (1 + sizes (f.kids.take (k + 1)) = A + a2 ∧ depths (f.kids.take (k + 1)) = max B b2) := by
        refine ⟨?_, ?_⟩
        · rw [sizes_take HQ.out, ← HAB.out.1, ← ha2]; omega
        · rw [depths_take HQ.out, HAB.out.2, ← hb2]
      obtain ⟨B3, hB3⟩ : ∃ B3, B3 = max B b2 := ⟨_, rfl⟩
      have ed : max (B : Int) (b2 : Int) = (B3 : Int) := by omega
      have hB4 : B3 ≤ 1000 := by omega
      rw [← hB3] at HAB2
      clear ha2 hb2 hB3
      go_wp2_with fail
      go_roundg (N - (k + 1))
      case measure => omega
      case rel => exact ⟨k + 1, A + a2, B3, rfl, by omega, by go_num, rfl, by go_num, by omega, by omega, HAB2, HO⟩
    · obtain rfl : k = N := by omega
      have hA2 : sz = A := by
        have := HAB.out.1
        rw [HN.out, List.take_length] at this
        rw [HSz.out, size_kids]; omega
      have hB2 : dp = B + 1 := by
        have := HAB.out.2
        rw [HN.out, List.take_length] at this
        rw [HDp.out, depth_kids]; omega
      have e1 : ((sz : Int) != (A : Int)) = false := by simp; omega
      have e2 : ((dp : Int) != (B : Int) + 1) = false := by simp; omega
      clear hJ1 hK1 hlt hA2 hB2
      focus
        obtain ⟨bk, -⟩ := HO.out.blk
        have hbf := lt_of_block bk
        have cf0 := cell_of_heap bk (i := 0)
        have cf1 := cell_of_heap bk (i := 1)
        have cf2 := cell_of_heap bk (i := 2)
        have cf3 := cell_of_heap bk (i := 3)
        have cf4 := cell_of_heap bk (i := 4)
        simp only [List.getElem?_toArray, List.getElem?_cons_succ, List.getElem?_cons_zero] at cf0 cf1 cf2 cf3 cf4
        clear bk
        obtain ⟨bk, -⟩ := HO.out.pop.blk
        have hbg := lt_of_block bk
        have cg0 := cell_of_heap bk (i := 0)
        have cg1 := cell_of_heap bk (i := 1)
        have cg2 := cell_of_heap bk (i := 2)
        have cg3 := cell_of_heap bk (i := 3)
        have cg4 := cell_of_heap bk (i := 4)
        simp only [List.getElem?_toArray, List.getElem?_cons_succ, List.getElem?_cons_zero] at cg0 cg1 cg2 cg3 cg4
        clear bk
        go_wp2_with fail
        clear hbf cf0 cf1 cf2 cf3 cf4 hbg cg0 cg1 cg2 cg3 cg4
      refine wp_region_can [12, 18, 21] [0, 1, 2, 3, 4, 5, 6, 7, 8, 9, 10, 11, 12, 13, 14, 15, 16, 17, 19, 20, 18, 21, 22, 23] (by decide +kernel) (by decide +kernel) ?_
      replace HO := Lib.hid HO.out.drew
      generalize hWd : World.drew _ = W9 at HO ⊢
      clear hWd
      focus
        obtain ⟨bk, -⟩ := HO.out.blk
        have hbf := lt_of_block bk
        have cf0 := cell_of_heap bk (i := 0)
        have cf1 := cell_of_heap bk (i := 1)
        have cf2 := cell_of_heap bk (i := 2)
        have cf3 := cell_of_heap bk (i := 3)
        have cf4 := cell_of_heap bk (i := 4)
        simp only [List.getElem?_toArray, List.getElem?_cons_succ, List.getElem?_cons_zero] at cf0 cf1 cf2 cf3 cf4
        clear bk
        obtain ⟨bk, -⟩ := HO.out.pop.blk
        have hbg := lt_of_block bk
        have cg0 := cell_of_heap bk (i := 0)
        have cg1 := cell_of_heap bk (i := 1)
        have cg2 := cell_of_heap bk (i := 2)
        have cg3 := cell_of_heap bk (i := 3)
        have cg4 := cell_of_heap bk (i := 4)
        simp only [List.getElem?_toArray, List.getElem?_cons_succ, List.getElem?_cons_zero] at cg0 cg1 cg2 cg3 cg4
        clear bk
        iterate 12 (first | (refine cl_do rfl rfl rfl (by first | rfl | simp [okB, lenV, plainV, Act.eval]) (fun _ _ => ?_); go_wp2_with fail) | (refine cl_yes rfl rfl rfl rfl (by first | rfl | simp [okB, lenV, plainV, Act.eval]) (fun _ _ => ?_); go_wp2_with fail))
        clear hbf cf0 cf1 cf2 cf3 cf4 hbg cg0 cg1 cg2 cg3 cg4
      refine cl_ycall (i := 12) rfl rfl rfl (by first | rfl | simp [okB, lenV, plainV, Act.eval]) (fun K hK => ?_)
      go_wp2_with fail
      go_at_call 22
      refine (Same_c (p := fun _ => True) _ f f _ _ _ (Below.refl _ _) (HF.out.later HO.out.base) (HF.out.later HO.out.base) HZ.out HZ.out).mono ?_
      rintro e w2 ⟨rfl, hb⟩
      rw [same_refl]
      replace HO := Lib.hid (HO.out.below hb)
      have Hb := Lib.hid hb
      clear hb
      go_wp2_with fail
      refine And.intro Hb.out ?_
      clear Hb
      iterate 3 (first | (refine cl_do rfl rfl rfl (by first | rfl | simp [okB, lenV, plainV, Act.eval]) (fun _ _ => ?_); go_wp2_with fail) | (refine cl_yes rfl rfl rfl rfl (by first | rfl | simp [okB, lenV, plainV, Act.eval]) (fun _ _ => ?_); go_wp2_with fail))
      generalize w2 = W10 at HO ⊢
      focus
        obtain ⟨bk, -⟩ := HO.out.blk
        have hbf := lt_of_block bk
        have cf0 := cell_of_heap bk (i := 0)
        have cf1 := cell_of_heap bk (i := 1)
        have cf2 := cell_of_heap bk (i := 2)
        have cf3 := cell_of_heap bk (i := 3)
        have cf4 := cell_of_heap bk (i := 4)
        simp only [List.getElem?_toArray, List.getElem?_cons_succ, List.getElem?_cons_zero] at cf0 cf1 cf2 cf3 cf4
        clear bk
        obtain ⟨bk, -⟩ := HO.out.pop.blk
        have hbg := lt_of_block bk
        have cg0 := cell_of_heap bk (i := 0)
        have cg1 := cell_of_heap bk (i := 1)
        have cg2 := cell_of_heap bk (i := 2)
        have cg3 := cell_of_heap bk (i := 3)
        have cg4 := cell_of_heap bk (i := 4)
        simp only [List.getElem?_toArray, List.getElem?_cons_succ, List.getElem?_cons_zero] at cg0 cg1 cg2 cg3 cg4
        clear bk
        iterate 4 (first | (refine cl_do rfl rfl rfl (by first | rfl | simp [okB, lenV, plainV, Act.eval]) (fun _ _ => ?_); go_wp2_with fail) | (refine cl_yes rfl rfl rfl rfl (by first | rfl | simp [okB, lenV, plainV, Act.eval]) (fun _ _ => ?_); go_wp2_with fail))
        clear hbf cf0 cf1 cf2 cf3 cf4 hbg cg0 cg1 cg2 cg3 cg4
      obtain ⟨q, hq⟩ : ∃ q, q = sameF f g := ⟨_, rfl⟩
      have HQ := Lib.hid hq
      clear hq
      refine cl_ycall (i := 18) rfl rfl rfl (by first | rfl | simp [okB, lenV, plainV, Act.eval]) (fun K hK => ?_)
      go_wp2_with fail
      go_at_call 22
      refine (Same_c (p := fun _ => True) _ f g _ _ _ (Below.refl _ _) (HF.out.later HO.out.base) (HG.out.later HO.out.base) HZ.out HZ2.out).mono ?_
      rintro e w2 ⟨rfl, hb⟩
      rw [← HQ.out]
      replace HO := Lib.hid (HO.out.below hb)
      have Hb := Lib.hid hb
      clear hb
      go_wp2_with fail
      refine And.intro Hb.out ?_
      clear Hb
      refine cl_ycall (i := 21) rfl rfl rfl (by first | rfl | simp [okB, lenV, plainV, Act.eval]) (fun K hK => ?_)
      go_wp2_with fail
      go_at_call 22
      refine (Same_c (p := fun _ => True) _ g f _ _ _ (Below.refl _ _) (HG.out.later HO.out.base) (HF.out.later HO.out.base) HZ2.out HZ.out).mono ?_
      rintro e w2 ⟨rfl, hb⟩
      rw [← same_symm, ← HQ.out]
      replace HO := Lib.hid (HO.out.below hb)
      have Hb := Lib.hid hb
      clear hb
      go_wp2_with fail
      refine And.intro Hb.out ?_
      clear Hb
      iterate 2 (first | (refine cl_do rfl rfl rfl (by first | rfl | simp [okB, lenV, plainV, Act.eval]) (fun _ _ => ?_); go_wp2_with fail) | (refine cl_yes rfl rfl rfl rfl (by first | rfl | simp [okB, lenV, plainV, Act.eval]) (fun _ _ => ?_); go_wp2_with fail))
      refine cl_nil ?_
      focus
        obtain ⟨bk, -⟩ := HO.out.blk
        have hbf := lt_of_block bk
        have cf0 := cell_of_heap bk (i := 0)
        have cf1 := cell_of_heap bk (i := 1)
        have cf2 := cell_of_heap bk (i := 2)
        have cf3 := cell_of_heap bk (i := 3)
        have cf4 := cell_of_heap bk (i := 4)
        simp only [List.getElem?_toArray, List.getElem?_cons_succ, List.getElem?_cons_zero] at cf0 cf1 cf2 cf3 cf4
        clear bk
        obtain ⟨bk, -⟩ := HO.out.pop.blk
        have hbg := lt_of_block bk
        have cg0 := cell_of_heap bk (i := 0)
        have cg1 := cell_of_heap bk (i := 1)
        have cg2 := cell_of_heap bk (i := 2)
        have cg3 := cell_of_heap bk (i := 3)
        have cg4 := cell_of_heap bk (i := 4)
        simp only [List.getElem?_toArray, List.getElem?_cons_succ, List.getElem?_cons_zero] at cg0 cg1 cg2 cg3 cg4
        clear bk
        go_wp2_with fail
        clear hbf cf0 cf1 cf2 cf3 cf4 hbg cg0 cg1 cg2 cg3 cg4
      go_at_call 22
      refine (Same_c (p := fun _ => True) _ f g _ _ _ (Below.refl _ _) (HF.out.later HO.out.base) (HG.out.later HO.out.base) HZ.out HZ2.out).mono ?_
      rintro e W11 ⟨rfl, hb⟩
      rw [← HQ.out]
      replace HO := Lib.hid (HO.out.below hb)
      clear hb
      cases q
      · go_wp2_with fail
        go_ret
        exact ⟨rfl, HO.out.base⟩
      obtain rfl : f = g := sameF_iff.1 HQ.out.symm
      obtain rfl : N' = k := by rw [HN.out, HN'.out]
      focus
        obtain ⟨bk, -⟩ := HO.out.blk
        have hbf := lt_of_block bk
        have cf0 := cell_of_heap bk (i := 0)
        have cf1 := cell_of_heap bk (i := 1)
        have cf2 := cell_of_heap bk (i := 2)
        have cf3 := cell_of_heap bk (i := 3)
        have cf4 := cell_of_heap bk (i := 4)
        simp only [List.getElem?_toArray, List.getElem?_cons_succ, List.getElem?_cons_zero] at cf0 cf1 cf2 cf3 cf4
        clear bk
        obtain ⟨bk, -⟩ := HO.out.pop.blk
        have hbg := lt_of_block bk
        have cg0 := cell_of_heap bk (i := 0)
        have cg1 := cell_of_heap bk (i := 1)
        have cg2 := cell_of_heap bk (i := 2)
        have cg3 := cell_of_heap bk (i := 3)
        have cg4 := cell_of_heap bk (i := 4)
        simp only [List.getElem?_toArray, List.getElem?_cons_succ, List.getElem?_cons_zero] at cg0 cg1 cg2 cg3 cg4
        clear bk
        go_wp2_with fail
        clear hbf cf0 cf1 cf2 cf3 cf4 hbg cg0 cg1 cg2 cg3 cg4
      go_at_call 16
      refine (Size_c f W11 _ (HG.out.later HO.out.base) HZ.out).mono ?_
      rintro e W12 ⟨rfl, hb⟩
      rw [← HSz.out, ← HDp.out]
      have HO12 := Lib.hid (HO.out.below hb)
      clear hb HO HAB
      go_wp2_with fail
      go_loopg [15] N' (fun gk i wr => ∃ j : Nat, gk = N' - j ∧ j ≤ N' ∧ i = .int .i64 (j : Int) ∧ Hid (Owns w wr [blk bf (fobj f (.slice y N' m)), blk bg (fobj f (.slice y' N' m'))]))
      case atStart => exact ⟨0, rfl, Nat.zero_le _, rfl, HO12⟩
      case round =>
        rename_i J2 K2 hJ2 hK2
        clear HO12
        obtain ⟨j, rfl, hj, rfl, HO⟩ := hrel
        by_cases hlt : j < N'
        · obtain ⟨r, hr⟩ : ∃ r, f.kids[j]? = some r := ⟨_, List.getElem?_eq_getElem (by rw [← HN.out]; exact hlt)⟩
          focus
            obtain ⟨bk, -⟩ := HO.out.blk
            have hbf := lt_of_block bk
            have cf0 := cell_of_heap bk (i := 0)
            have cf1 := cell_of_heap bk (i := 1)
            have cf2 := cell_of_heap bk (i := 2)
            have cf3 := cell_of_heap bk (i := 3)
            have cf4 := cell_of_heap bk (i := 4)
            simp only [List.getElem?_toArray, List.getElem?_cons_succ, List.getElem?_cons_zero] at cf0 cf1 cf2 cf3 cf4
            clear bk
            obtain ⟨bk, -⟩ := HO.out.pop.blk
            have hbg := lt_of_block bk
            have cg0 := cell_of_heap bk (i := 0)
            have cg1 := cell_of_heap bk (i := 1)
            have cg2 := cell_of_heap bk (i := 2)
            have cg3 := cell_of_heap bk (i := 3)
            have cg4 := cell_of_heap bk (i := 4)
            simp only [List.getElem?_toArray, List.getElem?_cons_succ, List.getElem?_cons_zero] at cg0 cg1 cg2 cg3 cg4
            clear bk
            go_wp2_with fail
            clear hbf cf0 cf1 cf2 cf3 cf4 hbg cg0 cg1 cg2 cg3 cg4
          refine wp_region_can [16] (List.range 19) (by decide +kernel) (by decide +kernel) ?_
          replace HO := Lib.hid HO.out.drew
          generalize hWd : World.drew _ = W13 at HO ⊢
          clear hWd
          obtain ⟨g1, o1, kv1, rfl, hg1, hk1, c0, c1, c2, c3, c4⟩ := HF.out.old HO.out.base hr
          obtain ⟨y2, m2, rfl⟩ := hk1.form
          obtain ⟨g2, o2, kv2, rfl, hg2, hk2, d0, d1, d2, d3, d4⟩ := HG.out.old HO.out.base hr
          obtain ⟨y3, m3, rfl⟩ := hk2.form
          obtain ⟨N2, hN2⟩ : ∃ N2, N2 = r.kids.length := ⟨_, rfl⟩
          rw [← hN2] at c4 d4 hk1 hk2
          have HK1 := Lib.hid hk1
          have HK2 := Lib.hid hk2
          have hmq := List.mem_of_getElem? hr
          have HZr : Hid (size r ≤ 900000) := by have := HZk.out; have := size_mem hmq; show _ ≤ _; omega
          clear hN2 hk1 hk2 hr hmq
          have hge : Hid (decide (N' ≤ j) = false) := Lib.hid (decide_eq_false (by omega))
          have hge2 : Hid (decide (j < N') = true) := Lib.hid (decide_eq_true (by omega))
          have hge3 : Hid (decide ((j : Int) < (N' : Int)) = true) := Lib.hid (decide_eq_true (by omega))
          focus
            obtain ⟨bk, -⟩ := HO.out.blk
            have hbf := lt_of_block bk
            have cf0 := cell_of_heap bk (i := 0)
            have cf1 := cell_of_heap bk (i := 1)
            have cf2 := cell_of_heap bk (i := 2)
            have cf3 := cell_of_heap bk (i := 3)
            have cf4 := cell_of_heap bk (i := 4)
            simp only [List.getElem?_toArray, List.getElem?_cons_succ, List.getElem?_cons_zero] at cf0 cf1 cf2 cf3 cf4
            clear bk
            obtain ⟨bk, -⟩ := HO.out.pop.blk
            have hbg := lt_of_block bk
            have cg0 := cell_of_heap bk (i := 0)
            have cg1 := cell_of_heap bk (i := 1)
            have cg2 := cell_of_heap bk (i := 2)
            have cg3 := cell_of_heap bk (i := 3)
            have cg4 := cell_of_heap bk (i := 4)
            simp only [List.getElem?_toArray, List.getElem?_cons_succ, List.getElem?_cons_zero] at cg0 cg1 cg2 cg3 cg4
            clear bk
            iterate 6 (first | (refine cl_do rfl rfl rfl (by first | rfl | simp [okB, lenV, plainV, Act.eval]) (fun _ _ => ?_); go_wp2_with fail) | (refine cl_yes rfl rfl rfl rfl (by first | rfl | simp [okB, lenV, plainV, Act.eval]) (fun _ _ => ?_); go_wp2_with fail))
            first | rw [hge.out] | rw [hge2.out] | rw [hge3.out] | (trace_state; sorry)
            iterate 10 (first | (refine cl_do rfl rfl rfl (by first | rfl | simp [okB, lenV, plainV, Act.eval]) (fun _ _ => ?_); go_wp2_with fail) | (refine cl_yes rfl rfl rfl rfl (by first | rfl | simp [okB, lenV, plainV, Act.eval]) (fun _ _ => ?_); go_wp2_with fail))
            clear hbf cf0 cf1 cf2 cf3 cf4 hbg cg0 cg1 cg2 cg3 cg4
            clear c0 c1 c2 c3 c4 d0 d1 d2 d3 d4 hg1 hg2
          refine cl_ycall (i := 16) rfl rfl rfl (by first | rfl | simp [okB, lenV, plainV, Act.eval]) (fun K hK => ?_)
          go_wp2_with fail
          go_at_call 22
          refine (Same_c (p := fun _ => True) _ r r _ _ _ (Below.refl _ _) (HK1.out.later HO.out.base) (HK2.out.later HO.out.base) HZr.out HZr.out).mono ?_
          rintro e w2 ⟨rfl, hb⟩
          rw [same_refl]
          replace HO := Lib.hid (HO.out.below hb)
          have Hb := Lib.hid hb
          clear hb
          go_wp2_with fail
          refine And.intro Hb.out ?_
          clear Hb
          iterate 2 (first | (refine cl_do rfl rfl rfl (by first | rfl | simp [okB, lenV, plainV, Act.eval]) (fun _ _ => ?_); go_wp2_with fail) | (refine cl_yes rfl rfl rfl rfl (by first | rfl | simp [okB, lenV, plainV, Act.eval]) (fun _ _ => ?_); go_wp2_with fail))
          refine cl_nil ?_
          go_wp2_with fail
          go_roundg (N' - (j + 1))
          case measure => omega
          case rel => exact ⟨j + 1, rfl, by omega, by go_num, HO⟩
        · obtain rfl : j = N' := by omega
          clear hJ2 hK2 hlt
          focus
            obtain ⟨bk, -⟩ := HO.out.blk
            have hbf := lt_of_block bk
            have cf0 := cell_of_heap bk (i := 0)
            have cf1 := cell_of_heap bk (i := 1)
            have cf2 := cell_of_heap bk (i := 2)
            have cf3 := cell_of_heap bk (i := 3)
            have cf4 := cell_of_heap bk (i := 4)
            simp only [List.getElem?_toArray, List.getElem?_cons_succ, List.getElem?_cons_zero] at cf0 cf1 cf2 cf3 cf4
            clear bk
            obtain ⟨bk, -⟩ := HO.out.pop.blk
            have hbg := lt_of_block bk
            have cg0 := cell_of_heap bk (i := 0)
            have cg1 := cell_of_heap bk (i := 1)
            have cg2 := cell_of_heap bk (i := 2)
            have cg3 := cell_of_heap bk (i := 3)
            have cg4 := cell_of_heap bk (i := 4)
            simp only [List.getElem?_toArray, List.getElem?_cons_succ, List.getElem?_cons_zero] at cg0 cg1 cg2 cg3 cg4
            clear bk
            go_wp2_with fail
          go_ret
          exact ⟨rfl, HO.out.base⟩
end Go.Proofs.YtagoefnibgobcaaGreatDoor
