/-
  The closures of 'Append'.
-/
import Derived.Test.YtjcjpekndeoonaaGreatDoorJnApL
import Derived.Defers
namespace Go.Proofs.YtjcjpekndeoonaaGreatDoor
open Go.RowKit Go.Cz Go.Cz.Jn
set_option linter.unusedSimpArgs false
set_option linter.unusedVariables false
attribute [local go_sem] bs_size bs_extract bs_append bs_toList
attribute [local irreducible] cList cPlan
abbrev one (b : Nat) (t : TypeId) (v : Value) : Piece := blk b (.cells #[v] t (0, 0))
theorem Owns.one {w0 w : World} {ps : List Piece} {b : Nat} {t : TypeId} {v : Value} (h : Owns w0 w (Go.Proofs.YtjcjpekndeoonaaGreatDoor.one b t v :: ps)) : b < w.heap.size ∧ w.cell? ⟨b, 0, none⟩ = some v ∧ w.frozen? ⟨b, 0, none⟩ = false := by
  obtain ⟨bk, -⟩ := h.blk
  exact ⟨lt_of_block bk, by rw [cell_of_heap bk]; rfl, free_of_heap bk⟩
section
variable {w0 w : World} {ps : List Piece} {m : Dk.Dm} {db jb sec cnt : Nat} {rv v : Value} {br : Bool} {l : List Bytes} {b2 b6 b8 b7 : Nat}
set_option maxHeartbeats 4000000 in
theorem clo1_c (p : Nat) (h : Owns w0 w (disk db m :: jblk jb db sec cnt rv br :: trow v l :: one b2 25 (.pointer (some ⟨jb, 0, none⟩)) :: one b6 3 (.int .i64 (p : Int)) :: one b8 26 v :: ps)) (hp : p ≤ 1000000000) (hn : l.length ≤ 1000000) (hq : m.q.length + l.length ≤ 100000) :
    Calls Tryz.prog 49 #[.pointer (some ⟨b2, 0, none⟩), .pointer (some ⟨b6, 0, none⟩), .pointer (some ⟨b8, 0, none⟩)] w (Back w0 (.int .i64 (writesB m p l).2) (disk db (writesB m p l).1 :: jblk jb db sec cnt rv br :: trow v l :: one b2 25 (.pointer (some ⟨jb, 0, none⟩)) :: one b6 3 (.int .i64 (p : Int)) :: one b8 26 v :: ps)) := by
  obtain ⟨h2, c2, -⟩ := Owns.one h.rot4
  obtain ⟨h6, c6, -⟩ := Owns.one h.rot5
  obtain ⟨h8, c8, -⟩ := Owns.one h.pop.rot5
  obtain ⟨x, n, c, rfl, -⟩ := Owns.texts h.rot
  have HW := Lib.hid (writeJ_c p h hp hn hq)
  have e1 : wrap64 (p : Int) = (p : Int) := by simp only [wrap64]; omega
  clear h
  go_enter Tryz.func49, Tryz.ntmps49
  go_wp2_with fail
  go_at_call 41
  refine HW.out.mono ?_
  rintro e w1 ⟨rfl, ho⟩
  have HO := Lib.hid ho
  clear ho HW c2 c6 c8 h2 h6 h8
  go_wp2_with fail
  go_ret
  exact ⟨rfl, HO.out⟩
set_option maxHeartbeats 4000000 in
theorem clo2_c (p : Nat) (h : Owns w0 w (disk db m :: jblk jb db sec cnt rv br :: trow v l :: one b2 25 (.pointer (some ⟨jb, 0, none⟩)) :: one b6 3 (.int .i64 (p : Int)) :: one b8 26 v :: ps)) (hp : p ≤ 1000000000) (hn : l.length ≤ 1000000) (hq : m.q.length + l.length ≤ 100000) :
    Calls Tryz.prog 50 #[.pointer (some ⟨b2, 0, none⟩), .pointer (some ⟨b6, 0, none⟩), .pointer (some ⟨b8, 0, none⟩)] w (Back w0 (.int .i64 (writesB m p l).2) (disk db (writesB m p l).1 :: jblk jb db sec cnt rv br :: trow v l :: one b2 25 (.pointer (some ⟨jb, 0, none⟩)) :: one b6 3 (.int .i64 (p : Int)) :: one b8 26 v :: ps)) := by
  obtain ⟨h2, c2, -⟩ := Owns.one h.rot4
  obtain ⟨h6, c6, -⟩ := Owns.one h.rot5
  obtain ⟨h8, c8, -⟩ := Owns.one h.pop.rot5
  obtain ⟨x, n, c, rfl, -⟩ := Owns.texts h.rot
  have HW := Lib.hid (writeJ_c p h hp hn hq)
  have e1 : wrap64 (p : Int) = (p : Int) := by simp only [wrap64]; omega
  clear h
  go_enter Tryz.func50, Tryz.ntmps50
  go_wp2_with fail
  go_at_call 41
  refine HW.out.mono ?_
  rintro e w1 ⟨rfl, ho⟩
  have HO := Lib.hid ho
  clear ho HW c2 c6 c8 h2 h6 h8
  go_wp2_with fail
  go_ret
  exact ⟨rfl, HO.out⟩
set_option maxHeartbeats 4000000 in
theorem clo3_c (x : Nat) (h : Owns w0 w (disk db m :: jblk jb db sec cnt rv br :: one b2 25 (.pointer (some ⟨jb, 0, none⟩)) :: one b7 3 (.int .i64 (x : Int)) :: ps)) (hx : x ≤ 1000000) (hq : m.q.length ≤ 50000) (hs : Std w0) :
    Calls Tryz.prog 51 #[.pointer (some ⟨b2, 0, none⟩), .pointer (some ⟨b7, 0, none⟩)] w (Back w0 (.int .i64 (writesB m 1 [headB 1 x]).2) (disk db (writesB m 1 [headB 1 x]).1 :: jblk jb db sec cnt rv br :: one b2 25 (.pointer (some ⟨jb, 0, none⟩)) :: one b7 3 (.int .i64 (x : Int)) :: ps)) := by
  have HO := Lib.hid h.drew
  have HS := Lib.hid hs
  have hxl := headB_len 1 x
  obtain ⟨xh, hxh⟩ : ∃ xh, xh = headB 1 x := ⟨_, rfl⟩
  have HX := Lib.hid hxh
  rw [← hxh] at hxl ⊢
  clear h hs hxh
  go_enter Tryz.func51, Tryz.ntmps51
  go_wp2_with fail
  refine wp_region_can [2] (List.range 6) (by kernel_rfl) (by kernel_rfl) ?_
  obtain ⟨h2, c2, -⟩ := Owns.one HO.out.rot
  obtain ⟨h7, c7, -⟩ := Owns.one HO.out.rot4
  iterate 2 (refine cl_do rfl rfl rfl rfl (fun _ _ => ?_); go_wp2_with fail)
  refine cl_call (i := 2) rfl rfl rfl (fun K hK => ?_)
  go_wp2_with fail
  go_at_call 39
  refine (headJ_c 1 x (by omega) (by omega) _ (HS.out.below HO.out.base)).mono ?_
  rintro e w1 ⟨rfl, hb⟩
  rw [← HX.out]
  have Hb := Lib.hid hb
  obtain ⟨gz, hgz⟩ : ∃ gz, gz = w1.heap.size := ⟨_, rfl⟩
  obtain ⟨W13, hW13⟩ : ∃ W13, W13 = w1.alloc (.cells #[.string (bs xh)] 9) := ⟨_, rfl⟩
  have HM : Hid (Owns w0 W13 (trow (.slice (some ⟨gz, 0, none⟩) 1 1) [xh] :: disk db m :: jblk jb db sec cnt rv br :: one b2 25 (.pointer (some ⟨jb, 0, none⟩)) :: one b7 3 (.int .i64 (x : Int)) :: ps)) := by
    rw [hW13, hgz]
    exact Lib.hid (Owns.made (HO.out.below hb) [xh] (by simp))
  clear hb HO c2 c7 h2 h7
  go_wp2_with fail
  refine And.intro Hb.out ?_
  clear Hb
  refine cl_do rfl rfl rfl rfl (fun _ _ => ?_)
  go_wp2_with fail
  rw [← hgz, ← hW13]
  clear hgz hW13
  refine cl_do rfl rfl rfl rfl (fun _ _ => ?_)
  go_wp2_with fail
  go_at_call 41
  refine (writeJ_c 1 HM.out.rot.rot (by omega) (by simp) (by simp; omega)).mono ?_
  rintro e w2 ⟨rfl, ho⟩
  have HO := Lib.hid ho.rot.pop
  clear ho HM
  go_wp2_with fail
  refine cl_do rfl rfl rfl rfl (fun _ _ => ?_)
  go_wp2_with fail
  refine cl_nil ?_
  go_wp2_with fail
  go_ret
  exact ⟨rfl, HO.out⟩
set_option maxHeartbeats 4000000 in
theorem clo4_c (x : Nat) (h : Owns w0 w (disk db m :: jblk jb db sec cnt rv br :: one b2 25 (.pointer (some ⟨jb, 0, none⟩)) :: one b7 3 (.int .i64 (x : Int)) :: ps)) (hx : x ≤ 1000000) (hq : m.q.length ≤ 50000) (hs : Std w0) :
    Calls Tryz.prog 52 #[.pointer (some ⟨b2, 0, none⟩), .pointer (some ⟨b7, 0, none⟩)] w (Back w0 (.int .i64 (writesB m 0 [headB 0 x]).2) (disk db (writesB m 0 [headB 0 x]).1 :: jblk jb db sec cnt rv br :: one b2 25 (.pointer (some ⟨jb, 0, none⟩)) :: one b7 3 (.int .i64 (x : Int)) :: ps)) := by
  have HO := Lib.hid h.drew
  have HS := Lib.hid hs
  have hxl := headB_len 0 x
  obtain ⟨xh, hxh⟩ : ∃ xh, xh = headB 0 x := ⟨_, rfl⟩
  have HX := Lib.hid hxh
  rw [← hxh] at hxl ⊢
  clear h hs hxh
  go_enter Tryz.func52, Tryz.ntmps52
  go_wp2_with fail
  refine wp_region_can [2] (List.range 6) (by kernel_rfl) (by kernel_rfl) ?_
  obtain ⟨h2, c2, -⟩ := Owns.one HO.out.rot
  obtain ⟨h7, c7, -⟩ := Owns.one HO.out.rot4
  iterate 2 (refine cl_do rfl rfl rfl rfl (fun _ _ => ?_); go_wp2_with fail)
  refine cl_call (i := 2) rfl rfl rfl (fun K hK => ?_)
  go_wp2_with fail
  go_at_call 39
  refine (headJ_c 0 x (by omega) (by omega) _ (HS.out.below HO.out.base)).mono ?_
  rintro e w1 ⟨rfl, hb⟩
  rw [← HX.out]
  have Hb := Lib.hid hb
  obtain ⟨gz, hgz⟩ : ∃ gz, gz = w1.heap.size := ⟨_, rfl⟩
  obtain ⟨W13, hW13⟩ : ∃ W13, W13 = w1.alloc (.cells #[.string (bs xh)] 9) := ⟨_, rfl⟩
  have HM : Hid (Owns w0 W13 (trow (.slice (some ⟨gz, 0, none⟩) 1 1) [xh] :: disk db m :: jblk jb db sec cnt rv br :: one b2 25 (.pointer (some ⟨jb, 0, none⟩)) :: one b7 3 (.int .i64 (x : Int)) :: ps)) := by
    rw [hW13, hgz]
    exact Lib.hid (Owns.made (HO.out.below hb) [xh] (by simp))
  clear hb HO c2 c7 h2 h7
  go_wp2_with fail
  refine And.intro Hb.out ?_
  clear Hb
  refine cl_do rfl rfl rfl rfl (fun _ _ => ?_)
  go_wp2_with fail
  rw [← hgz, ← hW13]
  clear hgz hW13
  refine cl_do rfl rfl rfl rfl (fun _ _ => ?_)
  go_wp2_with fail
  go_at_call 41
  refine (writeJ_c 0 HM.out.rot.rot (by omega) (by simp) (by simp; omega)).mono ?_
  rintro e w2 ⟨rfl, ho⟩
  have HO := Lib.hid ho.rot.pop
  clear ho HM
  go_wp2_with fail
  refine cl_do rfl rfl rfl rfl (fun _ _ => ?_)
  go_wp2_with fail
  refine cl_nil ?_
  go_wp2_with fail
  go_ret
  exact ⟨rfl, HO.out⟩
end
/-- What is done last. -/
theorem last_c {w0 w : World} {ps : List Piece} {db jb sec cnt : Nat} {rv : Value} {br : Bool} {b2 b4 : Nat} (er : Int) (u : FrameMode) (h : Owns w0 w (jblk jb db sec cnt rv br :: one b2 25 (.pointer (some ⟨jb, 0, none⟩)) :: one b4 27 (.int .i64 er) :: ps)) :
    CallsD Tryz.prog 48 #[.pointer (some ⟨b4, 0, none⟩), .pointer (some ⟨b2, 0, none⟩)] u w fun e u' w' => u' = u ∧ (e = .returned (.tuple #[]) ∧ Owns w0 w' (jblk jb db sec cnt rv (er != 0) :: one b2 25 (.pointer (some ⟨jb, 0, none⟩)) :: one b4 27 (.int .i64 er) :: ps)) := by
  obtain ⟨h2, c2, -⟩ := Owns.one h.swap
  obtain ⟨h4, c4, -⟩ := Owns.one h.rot
  obtain ⟨bk, -⟩ := h.blk
  have hj := lt_of_block bk
  have cj : w.cell? ⟨jb, 4, none⟩ = some (.bool br) := by rw [cell_of_heap bk]; rfl
  have fj : w.frozen? ⟨jb, 4, none⟩ = false := free_of_heap bk
  have HO : Hid (Owns w0 (w.setCell ⟨jb, 4, none⟩ (.bool (er != 0))) (jblk jb db sec cnt rv (er != 0) :: one b2 25 (.pointer (some ⟨jb, 0, none⟩)) :: one b4 27 (.int .i64 er) :: ps)) := h.store (i := 4) (.bool (er != 0))
  clear bk h
  go_enter_d Tryz.func48, Tryz.ntmps48
  go_wp2_with fail
  go_end0
  exact ⟨rfl, HO.out⟩
end Go.Proofs.YtjcjpekndeoonaaGreatDoor
