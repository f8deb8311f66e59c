/-
  'FormulaGaps' returns true: the walk.
-/
import Derived.Test.YtagoefnibgobcaaGreatDoorFmRGap
import Derived.Test.YtagoefnibgobcaaGreatDoorFmPos
import Derived.Test.YtagoefnibgobcaaGreatDoorFmHead
import Derived.Test.YtagoefnibgobcaaGreatDoorFmLaw2
import Derived.Test.YtagoefnibgobcaaGreatDoorFmSame
namespace Go.Cz.Fo
open Go.Cz.Lx
theorem parse_size (l : Bytes) : size (parseF l).1 ≤ 900000 := by
  by_cases h : (parseF l).2.1 = 0
  · have h1 : textE (parseF l).1 = 0 := parse_writes (l := l) (at' := (parseF l).2.2) (by rw [← h])
    have := (text_small h1).1
    omega
  · rw [parse_zero h]
    decide
end Go.Cz.Fo
namespace Go.Proofs.YtagoefnibgobcaaGreatDoor
open Go.RowKit Go.Cz Go.Cz.Lx Go.Cz.Fo
set_option linter.unusedSimpArgs false
set_option linter.unusedVariables false
attribute [local go_sem] bs_size bs_extract bs_append bs_toList
attribute [local irreducible] cList cPlan
set_option maxRecDepth 100000 in
set_option maxHeartbeats 8000000 in
theorem FormulaGaps_walk (w : World) (hs : Std w) (l : Bytes) (hl : l.length ≤ 140737488355328) (g : Bytes) (hg : g.length ≤ 140737488355328) :
    Calls Tryz.prog 11 #[.string (bs l), .string (bs g)] w fun e w' => e = .returned (.bool true) ∧ Below w.heap.size w w' := by
  have HS := Lib.hid hs
  clear hs
  have HO : Hid (Owns w w []) := Lib.hid (Owns.start w)
  go_enter Tryz.func11, Tryz.ntmps11
  go_wp2_with fail
  go_at_call 12
  refine (head_c w HS.out).mono ?_
  rintro e W2 ⟨rfl, hb⟩
  replace HO := Lib.hid (HO.out.below hb)
  clear hb
  by_cases h1 : 2000 < l.length
  · have h1' : (2000 : Int) < (l.length : Int) := by omega
    clear h1
    go_wp2_with fail
    go_ret
    exact ⟨rfl, HO.out.base⟩
  have h1' : ¬ (2000 : Int) < (l.length : Int) := by omega
  by_cases h2 : 200 < g.length
  · have h2' : (200 : Int) < (g.length : Int) := by omega
    clear h1 h2
    go_wp2_with fail
    go_ret
    exact ⟨rfl, HO.out.base⟩
  have h2' : ¬ (200 : Int) < (g.length : Int) := by omega
  have hll : l.length ≤ 2000 := by omega
  have hgl : g.length ≤ 200 := by omega
  clear h1 h2 hl hg
  go_wp2_with fail
  go_at_call 34
  refine (Gaps_c g W2 (by omega)).mono ?_
  rintro e W3 ⟨rfl, hw⟩
  subst hw
  obtain ⟨q, hq⟩ : ∃ q, q = gapsB g := ⟨_, rfl⟩
  have HQ := Lib.hid hq
  rw [← hq]
  clear hq
  cases q
  · go_wp2_with fail
    go_ret
    exact ⟨rfl, HO.out.base⟩
  have HL := Lib.hid (gaps_law (x := l) (gapsB_iff.1 HQ.out.symm) hll hgl)
  have HP0 : Hid ((parseF (wrapB l g)).2.1 = 0 → (parseF (wrapB l g)).1.op ≠ 0) := Lib.hid fun h => parse_op (l := wrapB l g) (at' := (parseF (wrapB l g)).2.2) (by rw [← h])
  have HZ1 := Lib.hid (parse_size l)
  have HPp := Lib.hid (parse_pos l)
  have HWl : Hid ((wrapB l g).length ≤ 140737488355328) := by
    show _ ≤ _
    simp [wrapB]
    omega
  go_wp2_with fail
  go_at_call 26
  refine (Parse_c l _ (by omega)).mono ?_
  rintro e W4 ⟨kx, rfl, hx, hb⟩
  obtain ⟨X, hX⟩ : ∃ X, X = (parseF l).1 := ⟨_, rfl⟩
  obtain ⟨ec, hec⟩ : ∃ ec, ec = (parseF l).2.1 := ⟨_, rfl⟩
  obtain ⟨ep, hep⟩ : ∃ ep, ep = (parseF l).2.2 := ⟨_, rfl⟩
  rw [← hX] at hx
  rw [← hX, ← hec, ← hep]
  rw [← hX, ← hec, ← hep] at HL
  rw [← hX] at HZ1
  rw [← hep] at HPp
  clear hX hec hep
  obtain ⟨yx, mx, rfl⟩ := hx.form
  obtain ⟨nx, hnx⟩ : ∃ nx, nx = X.kids.length := ⟨_, rfl⟩
  rw [← hnx] at hx ⊢
  obtain ⟨W5, hW5⟩ : ∃ W5, W5 = W4.alloc (.cells #[.int .i64 X.op, .string (bs X.name), .int .i64 X.cmp, .int .i64 X.num, .slice yx nx mx] 24) := ⟨_, rfl⟩
  obtain ⟨bx, hbx⟩ : ∃ bx, bx = W4.heap.size := ⟨_, rfl⟩
  have hb5 : Below W4.heap.size W4 W5 := by rw [hW5]; exact (Below.refl _ _).alloc (Nat.le_refl _) _
  have HFX : Hid (IsFm (fun _ => True) W5 X (.slice yx nx mx)) := Lib.hid ((hx.mono fun _ _ _ => trivial).later hb5)
  replace HO : Hid (Owns w W5 [blk bx (fobj X (.slice yx nx mx))]) := by
    rw [hW5, hbx]
    exact Lib.hid ((HO.out.below hb).box (fobj X (.slice yx nx mx)))
  clear hnx hx hb hb5
  go_wp2_with fail
  rw [← hW5, ← hbx]
  clear hW5 hbx
  go_at_call 26
  rw [show bs g ++ ⟨#[10, 40]⟩ ++ bs g ++ ⟨#[10]⟩ ++ bs l ++ ⟨#[10]⟩ ++ bs g ++ ⟨#[10, 41]⟩ ++ bs g = bs (wrapB l g) from by
    have h : bs g ++ bs [10, 40] ++ bs g ++ bs [10] ++ bs l ++ bs [10] ++ bs g ++ bs [10, 41] ++ bs g = bs (wrapB l g) := by
      simp only [bs_append]
      simp [wrapB]
    exact h]
  refine (Parse_c (wrapB l g) _ HWl.out).mono ?_
  rintro e W6 ⟨ky, rfl, hy, hb⟩
  obtain ⟨Y, hY⟩ : ∃ Y, Y = (parseF (wrapB l g)).1 := ⟨_, rfl⟩
  obtain ⟨fc, hfc⟩ : ∃ fc, fc = (parseF (wrapB l g)).2.1 := ⟨_, rfl⟩
  obtain ⟨fp, hfp⟩ : ∃ fp, fp = (parseF (wrapB l g)).2.2 := ⟨_, rfl⟩
  rw [← hY] at hy
  rw [← hY, ← hfc, ← hfp]
  rw [← hY, ← hfc, ← hfp] at HL
  rw [← hY, ← hfc] at HP0
  clear hY hfc hfp
  obtain ⟨yy, my, rfl⟩ := hy.form
  obtain ⟨ny, hny⟩ : ∃ ny, ny = Y.kids.length := ⟨_, rfl⟩
  rw [← hny] at hy ⊢
  obtain ⟨W7, hW7⟩ : ∃ W7, W7 = W6.alloc (.cells #[.int .i64 Y.op, .string (bs Y.name), .int .i64 Y.cmp, .int .i64 Y.num, .slice yy ny my] 24) := ⟨_, rfl⟩
  obtain ⟨bY, hbY⟩ : ∃ bY, bY = W6.heap.size := ⟨_, rfl⟩
  have hb7 : Below W6.heap.size W6 W7 := by rw [hW7]; exact (Below.refl _ _).alloc (Nat.le_refl _) _
  have HFY : Hid (IsFm (fun _ => True) W7 Y (.slice yy ny my)) := Lib.hid ((hy.mono fun _ _ _ => trivial).later hb7)
  replace HFX := Lib.hid (HFX.out.later (hb.trans (hb7.mono hb.size)))
  replace HO : Hid (Owns w W7 [blk bY (fobj Y (.slice yy ny my)), blk bx (fobj X (.slice yx nx mx))]) := by
    rw [hW7, hbY]
    exact Lib.hid ((HO.out.below hb).box (fobj Y (.slice yy ny my)))
  clear hny hy hb hb7
  subst hW7 hbY
  by_cases he56 : ec = 5 ∨ ec = 6
  · have HR := Lib.hid (HL.out.1 he56)
    clear HL
    by_cases hf0 : fc = 0
    · have hop : Y.op ≠ 0 := HP0.out hf0
      have hop' : (Y.op != 0) = true := by simpa using hop
      have hf0' : ((fc : Int) != 0) = false := by simpa using hf0
      clear hop hf0 HR HP0
      obtain ⟨bk, -⟩ := HO.out.blk
      have hby := lt_of_block bk
      have cy0 := cell_of_heap bk (i := 0)
      have cy1 := cell_of_heap bk (i := 1)
      have cy2 := cell_of_heap bk (i := 2)
      have cy3 := cell_of_heap bk (i := 3)
      have cy4 := cell_of_heap bk (i := 4)
      simp only [List.getElem?_toArray, List.getElem?_cons_succ, List.getElem?_cons_zero] at cy0 cy1 cy2 cy3 cy4
      clear bk
      rcases he56 with rfl | rfl
      · go_wp2_with fail
        go_ret
        exact ⟨rfl, HO.out.base⟩
      · go_wp2_with fail
        go_ret
        exact ⟨rfl, HO.out.base⟩
    · have hf0' : ((fc : Int) != 0) = true := by simpa using hf0
      clear hf0 HR HP0
      rcases he56 with rfl | rfl
      · go_wp2_with fail
        go_ret
        exact ⟨rfl, HO.out.base⟩
      · go_wp2_with fail
        go_ret
        exact ⟨rfl, HO.out.base⟩
  · obtain ⟨e1, e2, e3⟩ := HL.out.2 he56
    have he5 : ((ec : Int) == 5) = false := by simp; omega
    have he6 : ((ec : Int) == 6) = false := by simp; omega
    have HE3 := Lib.hid e3
    subst e1
    subst e2
    clear HL HP0 he56 e3
    focus
      obtain ⟨bk, -⟩ := HO.out.blk
      have hby := lt_of_block bk
      have cy0 := cell_of_heap bk (i := 0)
      have cy1 := cell_of_heap bk (i := 1)
      have cy2 := cell_of_heap bk (i := 2)
      have cy3 := cell_of_heap bk (i := 3)
      have cy4 := cell_of_heap bk (i := 4)
      simp only [List.getElem?_toArray, List.getElem?_cons_succ, List.getElem?_cons_zero] at cy0 cy1 cy2 cy3 cy4
      clear bk
      obtain ⟨bk, -⟩ := HO.out.pop.blk
      have hbx := lt_of_block bk
      have cx0 := cell_of_heap bk (i := 0)
      have cx1 := cell_of_heap bk (i := 1)
      have cx2 := cell_of_heap bk (i := 2)
      have cx3 := cell_of_heap bk (i := 3)
      have cx4 := cell_of_heap bk (i := 4)
      simp only [List.getElem?_toArray, List.getElem?_cons_succ, List.getElem?_cons_zero] at cx0 cx1 cx2 cx3 cx4
      clear bk
      go_wp2_with fail
      clear hby cy0 cy1 cy2 cy3 cy4 hbx cx0 cx1 cx2 cx3 cx4
    go_at_call 22
    refine (Same_c (p := fun _ => True) _ _ _ _ _ _ (Below.refl _ _) HFX.out HFY.out HZ1.out HZ1.out).mono ?_
    rintro e W8 ⟨rfl, hb⟩
    rw [same_refl]
    replace HO := Lib.hid (HO.out.below hb)
    clear hb
    rcases HE3.out with ⟨h0, h1⟩ | ⟨h0, ⟨h1, h2⟩ | ⟨h1, h2⟩⟩
    · subst h0 h1
      clear HE3 he5 he6
      go_wp2_with fail
      go_ret
      exact ⟨rfl, HO.out.base⟩
    · have h0' : ((fc : Int) == 0) = false := by simpa using h0
      have h0'' : ((fc : Int) != 0) = true := by simpa using h0
      subst h1 h2
      clear HE3 h0
      go_wp2_with fail
      go_ret
      exact ⟨rfl, HO.out.base⟩
    · have h0' : ((fc : Int) == 0) = false := by simpa using h0
      have h0'' : ((fc : Int) != 0) = true := by simpa using h0
      have h1' : (ep == -1) = false := by simp; omega
      have h3' : ep ≤ 2000 := by have := HPp.out; omega
      have h2' : (fp == ep + ((g.length : Int) + 2 + (g.length : Int) + 1)) = true := by simp; omega
      clear HE3 h0 h2
      go_wp2_with fail
      go_ret
      exact ⟨rfl, HO.out.base⟩
end Go.Proofs.YtagoefnibgobcaaGreatDoor
