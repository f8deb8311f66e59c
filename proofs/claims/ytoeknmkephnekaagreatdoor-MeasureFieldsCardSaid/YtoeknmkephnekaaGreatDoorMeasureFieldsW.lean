/-
  'MeasureFields' returns true.
-/
import Derived.Test.YtoeknmkephnekaaGreatDoorMsH
import Derived.Test.YtoeknmkephnekaaGreatDoorMsO
import Derived.Deep.DeepCutAuto
import Derived.Deep.CutBlock
namespace Go.Proofs.YtoeknmkephnekaaGreatDoor
open Go.RowKit Go.Cz Go.Cz.Lx Go.Cz.Fo Go.Cz.Vd
set_option linter.unusedSimpArgs false
set_option linter.unusedVariables false
attribute [local go_sem] bs_size bs_extract bs_append bs_toList
attribute [local irreducible] cList cPlan
set_option maxRecDepth 100000 in
set_option maxHeartbeats 8000000 in
theorem MeasureFields_walk (w : World) (hs : Std w) (a : Me) (ka : Value) (ua : MIn w a ka) (b : Me) (kb : Value) (ub : MIn w b kb) (raw : Int) (hr : (Lit.int .u8 raw).wf = true) :
    Calls Tryz.prog 6 #[mval a ka, mval b kb, .int .u8 raw] w fun e w' => e = .returned (.bool true) ∧ Below w.heap.size w w' := by
  have hr0 : 0 ≤ raw ∧ raw ≤ 255 := by
    simp only [Lit.wf, Bool.and_eq_true, decide_eq_true_eq] at hr
    exact ⟨hr.1, hr.2⟩
  clear hr
  have HS := Lib.hid hs
  have UA := Lib.hid ua
  have UB := Lib.hid ub
  obtain ⟨y, c, rfl⟩ := ua.fm.form
  obtain ⟨y', c', rfl⟩ := ub.fm.form
  obtain ⟨n, hn⟩ : ∃ n, n = a.cond.kids.length := ⟨_, rfl⟩
  obtain ⟨n', hn'⟩ : ∃ n, n = b.cond.kids.length := ⟨_, rfl⟩
  rw [← hn] at UA ⊢
  rw [← hn'] at UB ⊢
  clear hs ua ub hn hn'
  obtain ⟨bx, hbx⟩ : ∃ bx, bx = w.heap.size := ⟨_, rfl⟩
  obtain ⟨by0, hby⟩ : ∃ b2, b2 = w.heap.size + 1 := ⟨_, rfl⟩
  obtain ⟨W1, hW1⟩ : ∃ W1, W1 = (w.alloc (mobj a (.slice y n c))).alloc (mobj b (.slice y' n' c')) := ⟨_, rfl⟩
  have HO : Hid (Owns w W1 [blk bx (mobj a (.slice y n c)), blk by0 (mobj b (.slice y' n' c'))]) := by
    have h := ((Owns.start w).box (mobj a (.slice y n c))).box (mobj b (.slice y' n' c'))
    rw [World.size_alloc] at h
    rw [hW1, hbx, hby]
    exact Lib.hid h.swap
  go_enter Tryz.func6, Tryz.ntmps6
  go_upto_region 1 with fail
  rw [← hby, ← hW1, ← hbx]
  clear hW1 hbx hby
  go_wp2_with fail
  go_at_call 9
  refine (head_c W1 (HS.out.below HO.out.base)).mono ?_
  rintro e W2 ⟨rfl, hb⟩
  replace HO := Lib.hid (HO.out.below hb)
  clear hb
  (try clear hcx c0 c1 c2 c3 c4 c5 c6 c7 c8 c9 ct cu)
  obtain ⟨bk, -⟩ := Owns.blk (HO.out)
  have hcx := lt_of_block bk
  have c0 : W2.cell? ⟨bx, 0, none⟩ = some (.string (bs a.id)) := by rw [cell_of_heap bk]; rfl
  have c1 : W2.cell? ⟨bx, 1, none⟩ = some (.string (bs a.auth)) := by rw [cell_of_heap bk]; rfl
  have c2 : W2.cell? ⟨bx, 2, none⟩ = some (.int .i64 a.kind) := by rw [cell_of_heap bk]; rfl
  have c3 : W2.cell? ⟨bx, 3, none⟩ = some (.string (bs a.target)) := by rw [cell_of_heap bk]; rfl
  have c4 : W2.cell? ⟨bx, 4, none⟩ = some (.int .i64 a.cond.op) := by rw [cell_of_heap bk]; rfl
  have c5 : W2.cell? ⟨bx, 5, none⟩ = some (.string (bs a.cond.name)) := by rw [cell_of_heap bk]; rfl
  have c6 : W2.cell? ⟨bx, 6, none⟩ = some (.int .i64 a.cond.cmp) := by rw [cell_of_heap bk]; rfl
  have c7 : W2.cell? ⟨bx, 7, none⟩ = some (.int .i64 a.cond.num) := by rw [cell_of_heap bk]; rfl
  have c8 : W2.cell? ⟨bx, 8, none⟩ = some (.slice y n c) := by rw [cell_of_heap bk]; rfl
  have c9 : W2.cell? ⟨bx, 9, none⟩ = some (.int .i64 a.fr) := by rw [cell_of_heap bk]; rfl
  have ct : W2.cell? ⟨bx, 10, none⟩ = some (.int .i64 a.un) := by rw [cell_of_heap bk]; rfl
  have cu : W2.cell? ⟨bx, 11, none⟩ = some (.int .i64 a.wi) := by rw [cell_of_heap bk]; rfl
  clear bk
  (try clear hdx d0 d1 d2 d3 d4 d5 d6 d7 d8 d9 dt du)
  obtain ⟨bk, -⟩ := Owns.blk (HO.out.pop)
  have hdx := lt_of_block bk
  have d0 : W2.cell? ⟨by0, 0, none⟩ = some (.string (bs b.id)) := by rw [cell_of_heap bk]; rfl
  have d1 : W2.cell? ⟨by0, 1, none⟩ = some (.string (bs b.auth)) := by rw [cell_of_heap bk]; rfl
  have d2 : W2.cell? ⟨by0, 2, none⟩ = some (.int .i64 b.kind) := by rw [cell_of_heap bk]; rfl
  have d3 : W2.cell? ⟨by0, 3, none⟩ = some (.string (bs b.target)) := by rw [cell_of_heap bk]; rfl
  have d4 : W2.cell? ⟨by0, 4, none⟩ = some (.int .i64 b.cond.op) := by rw [cell_of_heap bk]; rfl
  have d5 : W2.cell? ⟨by0, 5, none⟩ = some (.string (bs b.cond.name)) := by rw [cell_of_heap bk]; rfl
  have d6 : W2.cell? ⟨by0, 6, none⟩ = some (.int .i64 b.cond.cmp) := by rw [cell_of_heap bk]; rfl
  have d7 : W2.cell? ⟨by0, 7, none⟩ = some (.int .i64 b.cond.num) := by rw [cell_of_heap bk]; rfl
  have d8 : W2.cell? ⟨by0, 8, none⟩ = some (.slice y' n' c') := by rw [cell_of_heap bk]; rfl
  have d9 : W2.cell? ⟨by0, 9, none⟩ = some (.int .i64 b.fr) := by rw [cell_of_heap bk]; rfl
  have dt : W2.cell? ⟨by0, 10, none⟩ = some (.int .i64 b.un) := by rw [cell_of_heap bk]; rfl
  have du : W2.cell? ⟨by0, 11, none⟩ = some (.int .i64 b.wi) := by rw [cell_of_heap bk]; rfl
  clear bk
  go_wp2_with fail
  clear hcx c0 c1 c2 c3 c4 c5 c6 c7 c8 c9 ct cu hdx d0 d1 d2 d3 d4 d5 d6 d7 d8 d9 dt du
  have hme := me_row2 (new_heap W2 (.cells (mclM a (.slice y n c) ++ mclM b (.slice y' n' c')).toArray 26) _ rfl) ((UA.out.fm.later HO.out.base).later ((Below.refl _ _).alloc (Nat.le_refl _) _)) ((UB.out.fm.later HO.out.base).later ((Below.refl _ _).alloc (Nat.le_refl _) _))
  replace HO := Lib.hid (HO.out.alloc (.cells (mclM a (.slice y n c) ++ mclM b (.slice y' n' c')).toArray 26 (0, 0)))
  obtain ⟨W3, hW3⟩ : ∃ W, W = W2.alloc (.cells #[.string (bs a.id), .string (bs a.auth), .int .i64 a.kind, .string (bs a.target), .int .i64 a.cond.op, .string (bs a.cond.name), .int .i64 a.cond.cmp, .int .i64 a.cond.num, .slice y n c, .int .i64 a.fr, .int .i64 a.un, .int .i64 a.wi, .string (bs b.id), .string (bs b.auth), .int .i64 b.kind, .string (bs b.target), .int .i64 b.cond.op, .string (bs b.cond.name), .int .i64 b.cond.cmp, .int .i64 b.cond.num, .slice y' n' c', .int .i64 b.fr, .int .i64 b.un, .int .i64 b.wi] 26) := ⟨_, rfl⟩
  rw [← hW3]
  have hme2 : IsMeR W3 [a, b] (.slice (some ⟨W2.heap.size, 0, none⟩) 2 2) := by rw [hW3]; exact hme
  replace HO : Hid (Owns w W3 [blk bx (mobj a (.slice y n c)), blk by0 (mobj b (.slice y' n' c'))]) := by rw [hW3]; exact HO
  clear hme hW3
  go_at_call 10
  refine (fewL_c [a, b] _ W3 hme2 (by simp) (fun m hm => by
    simp only [List.mem_cons, List.not_mem_nil, or_false] at hm
    rcases hm with rfl | rfl
    · exact ⟨UA.out.len, UA.out.names⟩
    · exact ⟨UB.out.len, UB.out.names⟩)).mono ?_
  rintro e W4 ⟨rfl, hb⟩
  replace HO := Lib.hid (HO.out.below hb)
  clear hb hme2
  obtain ⟨q, hq⟩ : ∃ q, q = fewL [a, b] := ⟨_, rfl⟩
  rw [← hq]
  replace hq := Lib.hid hq
  cases q
  · go_wp2_with fail
    go_ret
    exact ⟨rfl, HO.out.base⟩
  have HA : Hid (FewM a) := Lib.hid (few_of (few2 hq.out.symm).1 UA.out)
  have HB : Hid (FewM b) := Lib.hid (few_of (few2 hq.out.symm).2 UB.out)
  clear hq
  (try clear hcx c0 c1 c2 c3 c4 c5 c6 c7 c8 c9 ct cu)
  obtain ⟨bk, -⟩ := Owns.blk (HO.out)
  have hcx := lt_of_block bk
  have c0 : W4.cell? ⟨bx, 0, none⟩ = some (.string (bs a.id)) := by rw [cell_of_heap bk]; rfl
  have c1 : W4.cell? ⟨bx, 1, none⟩ = some (.string (bs a.auth)) := by rw [cell_of_heap bk]; rfl
  have c2 : W4.cell? ⟨bx, 2, none⟩ = some (.int .i64 a.kind) := by rw [cell_of_heap bk]; rfl
  have c3 : W4.cell? ⟨bx, 3, none⟩ = some (.string (bs a.target)) := by rw [cell_of_heap bk]; rfl
  have c4 : W4.cell? ⟨bx, 4, none⟩ = some (.int .i64 a.cond.op) := by rw [cell_of_heap bk]; rfl
  have c5 : W4.cell? ⟨bx, 5, none⟩ = some (.string (bs a.cond.name)) := by rw [cell_of_heap bk]; rfl
  have c6 : W4.cell? ⟨bx, 6, none⟩ = some (.int .i64 a.cond.cmp) := by rw [cell_of_heap bk]; rfl
  have c7 : W4.cell? ⟨bx, 7, none⟩ = some (.int .i64 a.cond.num) := by rw [cell_of_heap bk]; rfl
  have c8 : W4.cell? ⟨bx, 8, none⟩ = some (.slice y n c) := by rw [cell_of_heap bk]; rfl
  have c9 : W4.cell? ⟨bx, 9, none⟩ = some (.int .i64 a.fr) := by rw [cell_of_heap bk]; rfl
  have ct : W4.cell? ⟨bx, 10, none⟩ = some (.int .i64 a.un) := by rw [cell_of_heap bk]; rfl
  have cu : W4.cell? ⟨bx, 11, none⟩ = some (.int .i64 a.wi) := by rw [cell_of_heap bk]; rfl
  clear bk
  (try clear hdx d0 d1 d2 d3 d4 d5 d6 d7 d8 d9 dt du)
  obtain ⟨bk, -⟩ := Owns.blk (HO.out.pop)
  have hdx := lt_of_block bk
  have d0 : W4.cell? ⟨by0, 0, none⟩ = some (.string (bs b.id)) := by rw [cell_of_heap bk]; rfl
  have d1 : W4.cell? ⟨by0, 1, none⟩ = some (.string (bs b.auth)) := by rw [cell_of_heap bk]; rfl
  have d2 : W4.cell? ⟨by0, 2, none⟩ = some (.int .i64 b.kind) := by rw [cell_of_heap bk]; rfl
  have d3 : W4.cell? ⟨by0, 3, none⟩ = some (.string (bs b.target)) := by rw [cell_of_heap bk]; rfl
  have d4 : W4.cell? ⟨by0, 4, none⟩ = some (.int .i64 b.cond.op) := by rw [cell_of_heap bk]; rfl
  have d5 : W4.cell? ⟨by0, 5, none⟩ = some (.string (bs b.cond.name)) := by rw [cell_of_heap bk]; rfl
  have d6 : W4.cell? ⟨by0, 6, none⟩ = some (.int .i64 b.cond.cmp) := by rw [cell_of_heap bk]; rfl
  have d7 : W4.cell? ⟨by0, 7, none⟩ = some (.int .i64 b.cond.num) := by rw [cell_of_heap bk]; rfl
  have d8 : W4.cell? ⟨by0, 8, none⟩ = some (.slice y' n' c') := by rw [cell_of_heap bk]; rfl
  have d9 : W4.cell? ⟨by0, 9, none⟩ = some (.int .i64 b.fr) := by rw [cell_of_heap bk]; rfl
  have dt : W4.cell? ⟨by0, 10, none⟩ = some (.int .i64 b.un) := by rw [cell_of_heap bk]; rfl
  have du : W4.cell? ⟨by0, 11, none⟩ = some (.int .i64 b.wi) := by rw [cell_of_heap bk]; rfl
  clear bk
  go_wp2_with fail
  clear hcx c0 c1 c2 c3 c4 c5 c6 c7 c8 c9 ct cu hdx d0 d1 d2 d3 d4 d5 d6 d7 d8 d9 dt du
  go_at_call 11
  refine (mText_c a _ W4 (HS.out.below HO.out.base) (UA.out.fm.later HO.out.base) HA.out.len HA.out.cond).mono ?_
  rintro e W5 ⟨rfl, hb⟩
  replace HO := Lib.hid (HO.out.below hb)
  clear hb
  obtain ⟨S1, hS1⟩ : ∃ s, s = (textM a).1 := ⟨_, rfl⟩
  obtain ⟨E1, hE1⟩ : ∃ s, s = (textM a).2 := ⟨_, rfl⟩
  rw [← hS1, ← hE1]
  replace hS1 := Lib.hid hS1
  replace hE1 := Lib.hid hE1
  by_cases h1 : E1 = 0
  rotate_left
  · have h1' : ((E1 : Int) != 0) = true := by simpa using h1
    clear h1
    go_wp2_with fail
    go_ret
    exact ⟨rfl, HO.out.base⟩
  subst h1
  (try clear hcx c0 c1 c2 c3 c4 c5 c6 c7 c8 c9 ct cu)
  obtain ⟨bk, -⟩ := Owns.blk (HO.out)
  have hcx := lt_of_block bk
  have c0 : W5.cell? ⟨bx, 0, none⟩ = some (.string (bs a.id)) := by rw [cell_of_heap bk]; rfl
  have c1 : W5.cell? ⟨bx, 1, none⟩ = some (.string (bs a.auth)) := by rw [cell_of_heap bk]; rfl
  have c2 : W5.cell? ⟨bx, 2, none⟩ = some (.int .i64 a.kind) := by rw [cell_of_heap bk]; rfl
  have c3 : W5.cell? ⟨bx, 3, none⟩ = some (.string (bs a.target)) := by rw [cell_of_heap bk]; rfl
  have c4 : W5.cell? ⟨bx, 4, none⟩ = some (.int .i64 a.cond.op) := by rw [cell_of_heap bk]; rfl
  have c5 : W5.cell? ⟨bx, 5, none⟩ = some (.string (bs a.cond.name)) := by rw [cell_of_heap bk]; rfl
  have c6 : W5.cell? ⟨bx, 6, none⟩ = some (.int .i64 a.cond.cmp) := by rw [cell_of_heap bk]; rfl
  have c7 : W5.cell? ⟨bx, 7, none⟩ = some (.int .i64 a.cond.num) := by rw [cell_of_heap bk]; rfl
  have c8 : W5.cell? ⟨bx, 8, none⟩ = some (.slice y n c) := by rw [cell_of_heap bk]; rfl
  have c9 : W5.cell? ⟨bx, 9, none⟩ = some (.int .i64 a.fr) := by rw [cell_of_heap bk]; rfl
  have ct : W5.cell? ⟨bx, 10, none⟩ = some (.int .i64 a.un) := by rw [cell_of_heap bk]; rfl
  have cu : W5.cell? ⟨bx, 11, none⟩ = some (.int .i64 a.wi) := by rw [cell_of_heap bk]; rfl
  clear bk
  (try clear hdx d0 d1 d2 d3 d4 d5 d6 d7 d8 d9 dt du)
  obtain ⟨bk, -⟩ := Owns.blk (HO.out.pop)
  have hdx := lt_of_block bk
  have d0 : W5.cell? ⟨by0, 0, none⟩ = some (.string (bs b.id)) := by rw [cell_of_heap bk]; rfl
  have d1 : W5.cell? ⟨by0, 1, none⟩ = some (.string (bs b.auth)) := by rw [cell_of_heap bk]; rfl
  have d2 : W5.cell? ⟨by0, 2, none⟩ = some (.int .i64 b.kind) := by rw [cell_of_heap bk]; rfl
  have d3 : W5.cell? ⟨by0, 3, none⟩ = some (.string (bs b.target)) := by rw [cell_of_heap bk]; rfl
  have d4 : W5.cell? ⟨by0, 4, none⟩ = some (.int .i64 b.cond.op) := by rw [cell_of_heap bk]; rfl
  have d5 : W5.cell? ⟨by0, 5, none⟩ = some (.string (bs b.cond.name)) := by rw [cell_of_heap bk]; rfl
  have d6 : W5.cell? ⟨by0, 6, none⟩ = some (.int .i64 b.cond.cmp) := by rw [cell_of_heap bk]; rfl
  have d7 : W5.cell? ⟨by0, 7, none⟩ = some (.int .i64 b.cond.num) := by rw [cell_of_heap bk]; rfl
  have d8 : W5.cell? ⟨by0, 8, none⟩ = some (.slice y' n' c') := by rw [cell_of_heap bk]; rfl
  have d9 : W5.cell? ⟨by0, 9, none⟩ = some (.int .i64 b.fr) := by rw [cell_of_heap bk]; rfl
  have dt : W5.cell? ⟨by0, 10, none⟩ = some (.int .i64 b.un) := by rw [cell_of_heap bk]; rfl
  have du : W5.cell? ⟨by0, 11, none⟩ = some (.int .i64 b.wi) := by rw [cell_of_heap bk]; rfl
  clear bk
  obtain ⟨W6, hW6⟩ : ∃ W, W = W5.alloc (mobj a (.slice y n c)) := ⟨_, rfl⟩
  obtain ⟨bz, hbz⟩ : ∃ x, x = W5.heap.size := ⟨_, rfl⟩
  have h2 := HO.out.box (mobj a (.slice y n c))
  rw [← hW6, ← hbz] at h2
  dsimp only [mobj] at hW6
  go_upto_region 8 with fail
  rw [← hbz, ← hW6]
  clear hcx c0 c1 c2 c3 c4 c5 c6 c7 c8 c9 ct cu hdx d0 d1 d2 d3 d4 d5 d6 d7 d8 d9 dt du
  replace HO := Lib.hid (h2.re [1, 2, 0])
  clear h2 hbz hW6
  go_upto_block 0 with fail
  obtain ⟨r8, hr8⟩ : ∃ r, r = raw % 8 := ⟨_, rfl⟩
  rw [← hr8]
  have hr9 : 0 ≤ r8 ∧ r8 ≤ 7 := by omega
  clear hr8 hr0
  go_cut [] (fun wx => ∃ x yx nx cx, Hid (FewM x) ∧ Hid (IsFm (fun _ => True) w x.cond (.slice yx nx cx)) ∧ Hid (Owns w wx [blk bx (mobj a (.slice y n c)), blk by0 (mobj b (.slice y' n' c')), blk bz (mobj x (.slice yx nx cx))]))
  case first =>
    as_aux_lemma =>
      have h8 : r8 = 0 ∨ r8 = 1 ∨ r8 = 2 ∨ r8 = 3 ∨ r8 = 4 ∨ r8 = 5 ∨ r8 = 6 ∨ r8 = 7 := by omega
      clear hr9
      rcases h8 with rfl | rfl | rfl | rfl | rfl | rfl | rfl | rfl
      · -- 0 the case, 0 the cell, .string (bs b.id) its value, { a with id := b.id } the new measure, x the facts that decide
        (try clear hdx d0 d1 d2 d3 d4 d5 d6 d7 d8 d9 dt du)
        obtain ⟨bk, -⟩ := Owns.blk (HO.out.pop)
        have hdx := lt_of_block bk
        have d0 : W6.cell? ⟨by0, 0, none⟩ = some (.string (bs b.id)) := by rw [cell_of_heap bk]; rfl
        have d1 : W6.cell? ⟨by0, 1, none⟩ = some (.string (bs b.auth)) := by rw [cell_of_heap bk]; rfl
        have d2 : W6.cell? ⟨by0, 2, none⟩ = some (.int .i64 b.kind) := by rw [cell_of_heap bk]; rfl
        have d3 : W6.cell? ⟨by0, 3, none⟩ = some (.string (bs b.target)) := by rw [cell_of_heap bk]; rfl
        have d4 : W6.cell? ⟨by0, 4, none⟩ = some (.int .i64 b.cond.op) := by rw [cell_of_heap bk]; rfl
        have d5 : W6.cell? ⟨by0, 5, none⟩ = some (.string (bs b.cond.name)) := by rw [cell_of_heap bk]; rfl
        have d6 : W6.cell? ⟨by0, 6, none⟩ = some (.int .i64 b.cond.cmp) := by rw [cell_of_heap bk]; rfl
        have d7 : W6.cell? ⟨by0, 7, none⟩ = some (.int .i64 b.cond.num) := by rw [cell_of_heap bk]; rfl
        have d8 : W6.cell? ⟨by0, 8, none⟩ = some (.slice y' n' c') := by rw [cell_of_heap bk]; rfl
        have d9 : W6.cell? ⟨by0, 9, none⟩ = some (.int .i64 b.fr) := by rw [cell_of_heap bk]; rfl
        have dt : W6.cell? ⟨by0, 10, none⟩ = some (.int .i64 b.un) := by rw [cell_of_heap bk]; rfl
        have du : W6.cell? ⟨by0, 11, none⟩ = some (.int .i64 b.wi) := by rw [cell_of_heap bk]; rfl
        clear bk
        obtain ⟨bk, -⟩ := Owns.blk (HO.out.re [2, 0, 1])
        have hzx := lt_of_block bk
        have z0 := cell_of_heap bk (i := 0)
        have f0 := free_of_heap bk (i := 0)
        simp only [List.getElem?_toArray, List.getElem?_cons_succ, List.getElem?_cons_zero] at z0
        clear bk
        have h2 : Owns w (W6.setCell ⟨bz, 0, none⟩ (.string (bs b.id))) (blk bz (mobj { a with id := b.id } (.slice y n c)) :: blk bx (mobj a (.slice y n c)) :: blk by0 (mobj b (.slice y' n' c')) :: []) := (HO.out.re [2, 0, 1]).store (i := 0) (.string (bs b.id))
        have h3 : IsFm (fun _ => True) w a.cond (.slice y n c) := UA.out.fm
        have HN := Lib.hid (show FewM { a with id := b.id } from ⟨⟨HB.out.len.id, HA.out.len.auth, HA.out.len.target⟩, HA.out.cond, HA.out.size, ⟨HA.out.ints.kind, HA.out.ints.fr, HA.out.ints.un, HA.out.ints.wi⟩⟩)
        replace h2 := Lib.hid h2
        replace h3 := Lib.hid h3
        go_wp2_with fail
        clear hzx z0 f0 hdx d0 d1 d2 d3 d4 d5 d6 d7 d8 d9 dt du
        go_meet
        exact ⟨{ a with id := b.id }, y, n, c, HN, h3, Lib.hid (h2.out.re [1, 2, 0])⟩
      · -- 1 the case, 1 the cell, .string (bs b.auth) its value, { a with auth := b.auth } the new measure, x the facts that decide
        (try clear hdx d0 d1 d2 d3 d4 d5 d6 d7 d8 d9 dt du)
        obtain ⟨bk, -⟩ := Owns.blk (HO.out.pop)
        have hdx := lt_of_block bk
        have d0 : W6.cell? ⟨by0, 0, none⟩ = some (.string (bs b.id)) := by rw [cell_of_heap bk]; rfl
        have d1 : W6.cell? ⟨by0, 1, none⟩ = some (.string (bs b.auth)) := by rw [cell_of_heap bk]; rfl
        have d2 : W6.cell? ⟨by0, 2, none⟩ = some (.int .i64 b.kind) := by rw [cell_of_heap bk]; rfl
        have d3 : W6.cell? ⟨by0, 3, none⟩ = some (.string (bs b.target)) := by rw [cell_of_heap bk]; rfl
        have d4 : W6.cell? ⟨by0, 4, none⟩ = some (.int .i64 b.cond.op) := by rw [cell_of_heap bk]; rfl
        have d5 : W6.cell? ⟨by0, 5, none⟩ = some (.string (bs b.cond.name)) := by rw [cell_of_heap bk]; rfl
        have d6 : W6.cell? ⟨by0, 6, none⟩ = some (.int .i64 b.cond.cmp) := by rw [cell_of_heap bk]; rfl
        have d7 : W6.cell? ⟨by0, 7, none⟩ = some (.int .i64 b.cond.num) := by rw [cell_of_heap bk]; rfl
        have d8 : W6.cell? ⟨by0, 8, none⟩ = some (.slice y' n' c') := by rw [cell_of_heap bk]; rfl
        have d9 : W6.cell? ⟨by0, 9, none⟩ = some (.int .i64 b.fr) := by rw [cell_of_heap bk]; rfl
        have dt : W6.cell? ⟨by0, 10, none⟩ = some (.int .i64 b.un) := by rw [cell_of_heap bk]; rfl
        have du : W6.cell? ⟨by0, 11, none⟩ = some (.int .i64 b.wi) := by rw [cell_of_heap bk]; rfl
        clear bk
        obtain ⟨bk, -⟩ := Owns.blk (HO.out.re [2, 0, 1])
        have hzx := lt_of_block bk
        have z0 := cell_of_heap bk (i := 1)
        have f0 := free_of_heap bk (i := 1)
        simp only [List.getElem?_toArray, List.getElem?_cons_succ, List.getElem?_cons_zero] at z0
        clear bk
        have h2 : Owns w (W6.setCell ⟨bz, 1, none⟩ (.string (bs b.auth))) (blk bz (mobj { a with auth := b.auth } (.slice y n c)) :: blk bx (mobj a (.slice y n c)) :: blk by0 (mobj b (.slice y' n' c')) :: []) := (HO.out.re [2, 0, 1]).store (i := 1) (.string (bs b.auth))
        have h3 : IsFm (fun _ => True) w a.cond (.slice y n c) := UA.out.fm
        have HN := Lib.hid (show FewM { a with auth := b.auth } from ⟨⟨HA.out.len.id, HB.out.len.auth, HA.out.len.target⟩, HA.out.cond, HA.out.size, ⟨HA.out.ints.kind, HA.out.ints.fr, HA.out.ints.un, HA.out.ints.wi⟩⟩)
        replace h2 := Lib.hid h2
        replace h3 := Lib.hid h3
        go_wp2_with fail
        clear hzx z0 f0 hdx d0 d1 d2 d3 d4 d5 d6 d7 d8 d9 dt du
        go_meet
        exact ⟨{ a with auth := b.auth }, y, n, c, HN, h3, Lib.hid (h2.out.re [1, 2, 0])⟩
      · -- 2 the case, 2 the cell, .int .i64 b.kind its value, { a with kind := b.kind } the new measure, x the facts that decide
        (try clear hdx d0 d1 d2 d3 d4 d5 d6 d7 d8 d9 dt du)
        obtain ⟨bk, -⟩ := Owns.blk (HO.out.pop)
        have hdx := lt_of_block bk
        have d0 : W6.cell? ⟨by0, 0, none⟩ = some (.string (bs b.id)) := by rw [cell_of_heap bk]; rfl
        have d1 : W6.cell? ⟨by0, 1, none⟩ = some (.string (bs b.auth)) := by rw [cell_of_heap bk]; rfl
        have d2 : W6.cell? ⟨by0, 2, none⟩ = some (.int .i64 b.kind) := by rw [cell_of_heap bk]; rfl
        have d3 : W6.cell? ⟨by0, 3, none⟩ = some (.string (bs b.target)) := by rw [cell_of_heap bk]; rfl
        have d4 : W6.cell? ⟨by0, 4, none⟩ = some (.int .i64 b.cond.op) := by rw [cell_of_heap bk]; rfl
        have d5 : W6.cell? ⟨by0, 5, none⟩ = some (.string (bs b.cond.name)) := by rw [cell_of_heap bk]; rfl
        have d6 : W6.cell? ⟨by0, 6, none⟩ = some (.int .i64 b.cond.cmp) := by rw [cell_of_heap bk]; rfl
        have d7 : W6.cell? ⟨by0, 7, none⟩ = some (.int .i64 b.cond.num) := by rw [cell_of_heap bk]; rfl
        have d8 : W6.cell? ⟨by0, 8, none⟩ = some (.slice y' n' c') := by rw [cell_of_heap bk]; rfl
        have d9 : W6.cell? ⟨by0, 9, none⟩ = some (.int .i64 b.fr) := by rw [cell_of_heap bk]; rfl
        have dt : W6.cell? ⟨by0, 10, none⟩ = some (.int .i64 b.un) := by rw [cell_of_heap bk]; rfl
        have du : W6.cell? ⟨by0, 11, none⟩ = some (.int .i64 b.wi) := by rw [cell_of_heap bk]; rfl
        clear bk
        obtain ⟨bk, -⟩ := Owns.blk (HO.out.re [2, 0, 1])
        have hzx := lt_of_block bk
        have z0 := cell_of_heap bk (i := 2)
        have f0 := free_of_heap bk (i := 2)
        simp only [List.getElem?_toArray, List.getElem?_cons_succ, List.getElem?_cons_zero] at z0
        clear bk
        have h2 : Owns w (W6.setCell ⟨bz, 2, none⟩ (.int .i64 b.kind)) (blk bz (mobj { a with kind := b.kind } (.slice y n c)) :: blk bx (mobj a (.slice y n c)) :: blk by0 (mobj b (.slice y' n' c')) :: []) := (HO.out.re [2, 0, 1]).store (i := 2) (.int .i64 b.kind)
        have h3 : IsFm (fun _ => True) w a.cond (.slice y n c) := UA.out.fm
        have HN := Lib.hid (show FewM { a with kind := b.kind } from ⟨⟨HA.out.len.id, HA.out.len.auth, HA.out.len.target⟩, HA.out.cond, HA.out.size, ⟨HB.out.ints.kind, HA.out.ints.fr, HA.out.ints.un, HA.out.ints.wi⟩⟩)
        replace h2 := Lib.hid h2
        replace h3 := Lib.hid h3
        go_wp2_with fail
        clear hzx z0 f0 hdx d0 d1 d2 d3 d4 d5 d6 d7 d8 d9 dt du
        go_meet
        exact ⟨{ a with kind := b.kind }, y, n, c, HN, h3, Lib.hid (h2.out.re [1, 2, 0])⟩
      · -- 3 the case, 3 the cell, .string (bs b.target) its value, { a with target := b.target } the new measure, x the facts that decide
        (try clear hdx d0 d1 d2 d3 d4 d5 d6 d7 d8 d9 dt du)
        obtain ⟨bk, -⟩ := Owns.blk (HO.out.pop)
        have hdx := lt_of_block bk
        have d0 : W6.cell? ⟨by0, 0, none⟩ = some (.string (bs b.id)) := by rw [cell_of_heap bk]; rfl
        have d1 : W6.cell? ⟨by0, 1, none⟩ = some (.string (bs b.auth)) := by rw [cell_of_heap bk]; rfl
        have d2 : W6.cell? ⟨by0, 2, none⟩ = some (.int .i64 b.kind) := by rw [cell_of_heap bk]; rfl
        have d3 : W6.cell? ⟨by0, 3, none⟩ = some (.string (bs b.target)) := by rw [cell_of_heap bk]; rfl
        have d4 : W6.cell? ⟨by0, 4, none⟩ = some (.int .i64 b.cond.op) := by rw [cell_of_heap bk]; rfl
        have d5 : W6.cell? ⟨by0, 5, none⟩ = some (.string (bs b.cond.name)) := by rw [cell_of_heap bk]; rfl
        have d6 : W6.cell? ⟨by0, 6, none⟩ = some (.int .i64 b.cond.cmp) := by rw [cell_of_heap bk]; rfl
        have d7 : W6.cell? ⟨by0, 7, none⟩ = some (.int .i64 b.cond.num) := by rw [cell_of_heap bk]; rfl
        have d8 : W6.cell? ⟨by0, 8, none⟩ = some (.slice y' n' c') := by rw [cell_of_heap bk]; rfl
        have d9 : W6.cell? ⟨by0, 9, none⟩ = some (.int .i64 b.fr) := by rw [cell_of_heap bk]; rfl
        have dt : W6.cell? ⟨by0, 10, none⟩ = some (.int .i64 b.un) := by rw [cell_of_heap bk]; rfl
        have du : W6.cell? ⟨by0, 11, none⟩ = some (.int .i64 b.wi) := by rw [cell_of_heap bk]; rfl
        clear bk
        obtain ⟨bk, -⟩ := Owns.blk (HO.out.re [2, 0, 1])
        have hzx := lt_of_block bk
        have z0 := cell_of_heap bk (i := 3)
        have f0 := free_of_heap bk (i := 3)
        simp only [List.getElem?_toArray, List.getElem?_cons_succ, List.getElem?_cons_zero] at z0
        clear bk
        have h2 : Owns w (W6.setCell ⟨bz, 3, none⟩ (.string (bs b.target))) (blk bz (mobj { a with target := b.target } (.slice y n c)) :: blk bx (mobj a (.slice y n c)) :: blk by0 (mobj b (.slice y' n' c')) :: []) := (HO.out.re [2, 0, 1]).store (i := 3) (.string (bs b.target))
        have h3 : IsFm (fun _ => True) w a.cond (.slice y n c) := UA.out.fm
        have HN := Lib.hid (show FewM { a with target := b.target } from ⟨⟨HA.out.len.id, HA.out.len.auth, HB.out.len.target⟩, HA.out.cond, HA.out.size, ⟨HA.out.ints.kind, HA.out.ints.fr, HA.out.ints.un, HA.out.ints.wi⟩⟩)
        replace h2 := Lib.hid h2
        replace h3 := Lib.hid h3
        go_wp2_with fail
        clear hzx z0 f0 hdx d0 d1 d2 d3 d4 d5 d6 d7 d8 d9 dt du
        go_meet
        exact ⟨{ a with target := b.target }, y, n, c, HN, h3, Lib.hid (h2.out.re [1, 2, 0])⟩
      · (try clear hdx d0 d1 d2 d3 d4 d5 d6 d7 d8 d9 dt du)
        obtain ⟨bk, -⟩ := Owns.blk (HO.out.pop)
        have hdx := lt_of_block bk
        have d0 : W6.cell? ⟨by0, 0, none⟩ = some (.string (bs b.id)) := by rw [cell_of_heap bk]; rfl
        have d1 : W6.cell? ⟨by0, 1, none⟩ = some (.string (bs b.auth)) := by rw [cell_of_heap bk]; rfl
        have d2 : W6.cell? ⟨by0, 2, none⟩ = some (.int .i64 b.kind) := by rw [cell_of_heap bk]; rfl
        have d3 : W6.cell? ⟨by0, 3, none⟩ = some (.string (bs b.target)) := by rw [cell_of_heap bk]; rfl
        have d4 : W6.cell? ⟨by0, 4, none⟩ = some (.int .i64 b.cond.op) := by rw [cell_of_heap bk]; rfl
        have d5 : W6.cell? ⟨by0, 5, none⟩ = some (.string (bs b.cond.name)) := by rw [cell_of_heap bk]; rfl
        have d6 : W6.cell? ⟨by0, 6, none⟩ = some (.int .i64 b.cond.cmp) := by rw [cell_of_heap bk]; rfl
        have d7 : W6.cell? ⟨by0, 7, none⟩ = some (.int .i64 b.cond.num) := by rw [cell_of_heap bk]; rfl
        have d8 : W6.cell? ⟨by0, 8, none⟩ = some (.slice y' n' c') := by rw [cell_of_heap bk]; rfl
        have d9 : W6.cell? ⟨by0, 9, none⟩ = some (.int .i64 b.fr) := by rw [cell_of_heap bk]; rfl
        have dt : W6.cell? ⟨by0, 10, none⟩ = some (.int .i64 b.un) := by rw [cell_of_heap bk]; rfl
        have du : W6.cell? ⟨by0, 11, none⟩ = some (.int .i64 b.wi) := by rw [cell_of_heap bk]; rfl
        clear bk
        obtain ⟨bk, -⟩ := Owns.blk (HO.out.re [2, 0, 1])
        have hzx := lt_of_block bk
        have z4 := cell_of_heap bk (i := 4)
        have f4 := free_of_heap bk (i := 4)
        have z5 := cell_of_heap bk (i := 5)
        have f5 := free_of_heap bk (i := 5)
        have z6 := cell_of_heap bk (i := 6)
        have f6 := free_of_heap bk (i := 6)
        have z7 := cell_of_heap bk (i := 7)
        have f7 := free_of_heap bk (i := 7)
        have z8 := cell_of_heap bk (i := 8)
        have f8 := free_of_heap bk (i := 8)
        simp only [List.getElem?_toArray, List.getElem?_cons_succ, List.getElem?_cons_zero] at z4 z5 z6 z7 z8
        clear bk
        have h2 := setF_owns (HO.out.re [2, 0, 1]) b.cond (.slice y' n' c')
        have h3 : IsFm (fun _ => True) w b.cond (.slice y' n' c') := UB.out.fm
        have HN := Lib.hid (show FewM { a with cond := b.cond } from ⟨⟨HA.out.len.id, HA.out.len.auth, HA.out.len.target⟩, HB.out.cond, HB.out.size, ⟨HA.out.ints.kind, HA.out.ints.fr, HA.out.ints.un, HA.out.ints.wi⟩⟩)
        replace h2 := Lib.hid h2
        replace h3 := Lib.hid h3
        go_wp2_with fail
        clear hzx z4 f4 z5 f5 z6 f6 z7 f7 z8 f8 hdx d0 d1 d2 d3 d4 d5 d6 d7 d8 d9 dt du
        go_meet
        exact ⟨{ a with cond := b.cond }, y', n', c', HN, h3, Lib.hid (h2.out.re [1, 2, 0])⟩
      · -- 5 the case, 9 the cell, .int .i64 b.fr its value, { a with fr := b.fr } the new measure, x the facts that decide
        (try clear hdx d0 d1 d2 d3 d4 d5 d6 d7 d8 d9 dt du)
        obtain ⟨bk, -⟩ := Owns.blk (HO.out.pop)
        have hdx := lt_of_block bk
        have d0 : W6.cell? ⟨by0, 0, none⟩ = some (.string (bs b.id)) := by rw [cell_of_heap bk]; rfl
        have d1 : W6.cell? ⟨by0, 1, none⟩ = some (.string (bs b.auth)) := by rw [cell_of_heap bk]; rfl
        have d2 : W6.cell? ⟨by0, 2, none⟩ = some (.int .i64 b.kind) := by rw [cell_of_heap bk]; rfl
        have d3 : W6.cell? ⟨by0, 3, none⟩ = some (.string (bs b.target)) := by rw [cell_of_heap bk]; rfl
        have d4 : W6.cell? ⟨by0, 4, none⟩ = some (.int .i64 b.cond.op) := by rw [cell_of_heap bk]; rfl
        have d5 : W6.cell? ⟨by0, 5, none⟩ = some (.string (bs b.cond.name)) := by rw [cell_of_heap bk]; rfl
        have d6 : W6.cell? ⟨by0, 6, none⟩ = some (.int .i64 b.cond.cmp) := by rw [cell_of_heap bk]; rfl
        have d7 : W6.cell? ⟨by0, 7, none⟩ = some (.int .i64 b.cond.num) := by rw [cell_of_heap bk]; rfl
        have d8 : W6.cell? ⟨by0, 8, none⟩ = some (.slice y' n' c') := by rw [cell_of_heap bk]; rfl
        have d9 : W6.cell? ⟨by0, 9, none⟩ = some (.int .i64 b.fr) := by rw [cell_of_heap bk]; rfl
        have dt : W6.cell? ⟨by0, 10, none⟩ = some (.int .i64 b.un) := by rw [cell_of_heap bk]; rfl
        have du : W6.cell? ⟨by0, 11, none⟩ = some (.int .i64 b.wi) := by rw [cell_of_heap bk]; rfl
        clear bk
        obtain ⟨bk, -⟩ := Owns.blk (HO.out.re [2, 0, 1])
        have hzx := lt_of_block bk
        have z0 := cell_of_heap bk (i := 9)
        have f0 := free_of_heap bk (i := 9)
        simp only [List.getElem?_toArray, List.getElem?_cons_succ, List.getElem?_cons_zero] at z0
        clear bk
        have h2 : Owns w (W6.setCell ⟨bz, 9, none⟩ (.int .i64 b.fr)) (blk bz (mobj { a with fr := b.fr } (.slice y n c)) :: blk bx (mobj a (.slice y n c)) :: blk by0 (mobj b (.slice y' n' c')) :: []) := (HO.out.re [2, 0, 1]).store (i := 9) (.int .i64 b.fr)
        have h3 : IsFm (fun _ => True) w a.cond (.slice y n c) := UA.out.fm
        have HN := Lib.hid (show FewM { a with fr := b.fr } from ⟨⟨HA.out.len.id, HA.out.len.auth, HA.out.len.target⟩, HA.out.cond, HA.out.size, ⟨HA.out.ints.kind, HB.out.ints.fr, HA.out.ints.un, HA.out.ints.wi⟩⟩)
        replace h2 := Lib.hid h2
        replace h3 := Lib.hid h3
        go_wp2_with fail
        clear hzx z0 f0 hdx d0 d1 d2 d3 d4 d5 d6 d7 d8 d9 dt du
        go_meet
        exact ⟨{ a with fr := b.fr }, y, n, c, HN, h3, Lib.hid (h2.out.re [1, 2, 0])⟩
      · -- 6 the case, 10 the cell, .int .i64 b.un its value, { a with un := b.un } the new measure, x the facts that decide
        (try clear hdx d0 d1 d2 d3 d4 d5 d6 d7 d8 d9 dt du)
        obtain ⟨bk, -⟩ := Owns.blk (HO.out.pop)
        have hdx := lt_of_block bk
        have d0 : W6.cell? ⟨by0, 0, none⟩ = some (.string (bs b.id)) := by rw [cell_of_heap bk]; rfl
        have d1 : W6.cell? ⟨by0, 1, none⟩ = some (.string (bs b.auth)) := by rw [cell_of_heap bk]; rfl
        have d2 : W6.cell? ⟨by0, 2, none⟩ = some (.int .i64 b.kind) := by rw [cell_of_heap bk]; rfl
        have d3 : W6.cell? ⟨by0, 3, none⟩ = some (.string (bs b.target)) := by rw [cell_of_heap bk]; rfl
        have d4 : W6.cell? ⟨by0, 4, none⟩ = some (.int .i64 b.cond.op) := by rw [cell_of_heap bk]; rfl
        have d5 : W6.cell? ⟨by0, 5, none⟩ = some (.string (bs b.cond.name)) := by rw [cell_of_heap bk]; rfl
        have d6 : W6.cell? ⟨by0, 6, none⟩ = some (.int .i64 b.cond.cmp) := by rw [cell_of_heap bk]; rfl
        have d7 : W6.cell? ⟨by0, 7, none⟩ = some (.int .i64 b.cond.num) := by rw [cell_of_heap bk]; rfl
        have d8 : W6.cell? ⟨by0, 8, none⟩ = some (.slice y' n' c') := by rw [cell_of_heap bk]; rfl
        have d9 : W6.cell? ⟨by0, 9, none⟩ = some (.int .i64 b.fr) := by rw [cell_of_heap bk]; rfl
        have dt : W6.cell? ⟨by0, 10, none⟩ = some (.int .i64 b.un) := by rw [cell_of_heap bk]; rfl
        have du : W6.cell? ⟨by0, 11, none⟩ = some (.int .i64 b.wi) := by rw [cell_of_heap bk]; rfl
        clear bk
        obtain ⟨bk, -⟩ := Owns.blk (HO.out.re [2, 0, 1])
        have hzx := lt_of_block bk
        have z0 := cell_of_heap bk (i := 10)
        have f0 := free_of_heap bk (i := 10)
        simp only [List.getElem?_toArray, List.getElem?_cons_succ, List.getElem?_cons_zero] at z0
        clear bk
        have h2 : Owns w (W6.setCell ⟨bz, 10, none⟩ (.int .i64 b.un)) (blk bz (mobj { a with un := b.un } (.slice y n c)) :: blk bx (mobj a (.slice y n c)) :: blk by0 (mobj b (.slice y' n' c')) :: []) := (HO.out.re [2, 0, 1]).store (i := 10) (.int .i64 b.un)
        have h3 : IsFm (fun _ => True) w a.cond (.slice y n c) := UA.out.fm
        have HN := Lib.hid (show FewM { a with un := b.un } from ⟨⟨HA.out.len.id, HA.out.len.auth, HA.out.len.target⟩, HA.out.cond, HA.out.size, ⟨HA.out.ints.kind, HA.out.ints.fr, HB.out.ints.un, HA.out.ints.wi⟩⟩)
        replace h2 := Lib.hid h2
        replace h3 := Lib.hid h3
        go_wp2_with fail
        clear hzx z0 f0 hdx d0 d1 d2 d3 d4 d5 d6 d7 d8 d9 dt du
        go_meet
        exact ⟨{ a with un := b.un }, y, n, c, HN, h3, Lib.hid (h2.out.re [1, 2, 0])⟩
      · -- 7 the case, 11 the cell, .int .i64 b.wi its value, { a with wi := b.wi } the new measure, x the facts that decide
        (try clear hdx d0 d1 d2 d3 d4 d5 d6 d7 d8 d9 dt du)
        obtain ⟨bk, -⟩ := Owns.blk (HO.out.pop)
        have hdx := lt_of_block bk
        have d0 : W6.cell? ⟨by0, 0, none⟩ = some (.string (bs b.id)) := by rw [cell_of_heap bk]; rfl
        have d1 : W6.cell? ⟨by0, 1, none⟩ = some (.string (bs b.auth)) := by rw [cell_of_heap bk]; rfl
        have d2 : W6.cell? ⟨by0, 2, none⟩ = some (.int .i64 b.kind) := by rw [cell_of_heap bk]; rfl
        have d3 : W6.cell? ⟨by0, 3, none⟩ = some (.string (bs b.target)) := by rw [cell_of_heap bk]; rfl
        have d4 : W6.cell? ⟨by0, 4, none⟩ = some (.int .i64 b.cond.op) := by rw [cell_of_heap bk]; rfl
        have d5 : W6.cell? ⟨by0, 5, none⟩ = some (.string (bs b.cond.name)) := by rw [cell_of_heap bk]; rfl
        have d6 : W6.cell? ⟨by0, 6, none⟩ = some (.int .i64 b.cond.cmp) := by rw [cell_of_heap bk]; rfl
        have d7 : W6.cell? ⟨by0, 7, none⟩ = some (.int .i64 b.cond.num) := by rw [cell_of_heap bk]; rfl
        have d8 : W6.cell? ⟨by0, 8, none⟩ = some (.slice y' n' c') := by rw [cell_of_heap bk]; rfl
        have d9 : W6.cell? ⟨by0, 9, none⟩ = some (.int .i64 b.fr) := by rw [cell_of_heap bk]; rfl
        have dt : W6.cell? ⟨by0, 10, none⟩ = some (.int .i64 b.un) := by rw [cell_of_heap bk]; rfl
        have du : W6.cell? ⟨by0, 11, none⟩ = some (.int .i64 b.wi) := by rw [cell_of_heap bk]; rfl
        clear bk
        obtain ⟨bk, -⟩ := Owns.blk (HO.out.re [2, 0, 1])
        have hzx := lt_of_block bk
        have z0 := cell_of_heap bk (i := 11)
        have f0 := free_of_heap bk (i := 11)
        simp only [List.getElem?_toArray, List.getElem?_cons_succ, List.getElem?_cons_zero] at z0
        clear bk
        have h2 : Owns w (W6.setCell ⟨bz, 11, none⟩ (.int .i64 b.wi)) (blk bz (mobj { a with wi := b.wi } (.slice y n c)) :: blk bx (mobj a (.slice y n c)) :: blk by0 (mobj b (.slice y' n' c')) :: []) := (HO.out.re [2, 0, 1]).store (i := 11) (.int .i64 b.wi)
        have h3 : IsFm (fun _ => True) w a.cond (.slice y n c) := UA.out.fm
        have HN := Lib.hid (show FewM { a with wi := b.wi } from ⟨⟨HA.out.len.id, HA.out.len.auth, HA.out.len.target⟩, HA.out.cond, HA.out.size, ⟨HA.out.ints.kind, HA.out.ints.fr, HA.out.ints.un, HB.out.ints.wi⟩⟩)
        replace h2 := Lib.hid h2
        replace h3 := Lib.hid h3
        go_wp2_with fail
        clear hzx z0 f0 hdx d0 d1 d2 d3 d4 d5 d6 d7 d8 d9 dt du
        go_meet
        exact ⟨{ a with wi := b.wi }, y, n, c, HN, h3, Lib.hid (h2.out.re [1, 2, 0])⟩
  obtain ⟨x, yx, nx, cx, HX, HFx, HOx⟩ := hcut
  clear HO hr9
  obtain ⟨W7, hW7⟩ : ∃ W, W = wc := ⟨_, rfl⟩
  rw [← hW7] at HOx ⊢
  clear hW7
  go_upto_region 24 with fail
  go_cut [11] (fun v wx => v = .bool (sameM x a) ∧ Hid (Owns w wx [blk bx (mobj a (.slice y n c)), blk by0 (mobj b (.slice y' n' c')), blk bz (mobj x (.slice yx nx cx))]))
  case first =>
    as_aux_lemma =>
      by_cases g0 : x.id = a.id
      rotate_left
      · have g0' : (x.id == a.id) = false := by simpa using g0
        -- g0 the two fields differ
        have HE : Hid (sameM x a = false) := by
          show _ = _
          cases hq : sameM x a with
          | false => rfl
          | true => exact absurd (congrArg (fun m => m.id) (sameM_iff.1 hq)) g0
        clear g0
        (try clear hcx c0 c1 c2 c3 c4 c5 c6 c7 c8 c9 ct cu)
        obtain ⟨bk, -⟩ := Owns.blk (HOx.out)
        have hcx := lt_of_block bk
        have c0 : W7.cell? ⟨bx, 0, none⟩ = some (.string (bs a.id)) := by rw [cell_of_heap bk]; rfl
        have c1 : W7.cell? ⟨bx, 1, none⟩ = some (.string (bs a.auth)) := by rw [cell_of_heap bk]; rfl
        have c2 : W7.cell? ⟨bx, 2, none⟩ = some (.int .i64 a.kind) := by rw [cell_of_heap bk]; rfl
        have c3 : W7.cell? ⟨bx, 3, none⟩ = some (.string (bs a.target)) := by rw [cell_of_heap bk]; rfl
        have c4 : W7.cell? ⟨bx, 4, none⟩ = some (.int .i64 a.cond.op) := by rw [cell_of_heap bk]; rfl
        have c5 : W7.cell? ⟨bx, 5, none⟩ = some (.string (bs a.cond.name)) := by rw [cell_of_heap bk]; rfl
        have c6 : W7.cell? ⟨bx, 6, none⟩ = some (.int .i64 a.cond.cmp) := by rw [cell_of_heap bk]; rfl
        have c7 : W7.cell? ⟨bx, 7, none⟩ = some (.int .i64 a.cond.num) := by rw [cell_of_heap bk]; rfl
        have c8 : W7.cell? ⟨bx, 8, none⟩ = some (.slice y n c) := by rw [cell_of_heap bk]; rfl
        have c9 : W7.cell? ⟨bx, 9, none⟩ = some (.int .i64 a.fr) := by rw [cell_of_heap bk]; rfl
        have ct : W7.cell? ⟨bx, 10, none⟩ = some (.int .i64 a.un) := by rw [cell_of_heap bk]; rfl
        have cu : W7.cell? ⟨bx, 11, none⟩ = some (.int .i64 a.wi) := by rw [cell_of_heap bk]; rfl
        clear bk
        (try clear hzx z0 z1 z2 z3 z4 z5 z6 z7 z8 z9 zt zu)
        obtain ⟨bk, -⟩ := Owns.blk (HOx.out.pop.pop)
        have hzx := lt_of_block bk
        have z0 : W7.cell? ⟨bz, 0, none⟩ = some (.string (bs x.id)) := by rw [cell_of_heap bk]; rfl
        have z1 : W7.cell? ⟨bz, 1, none⟩ = some (.string (bs x.auth)) := by rw [cell_of_heap bk]; rfl
        have z2 : W7.cell? ⟨bz, 2, none⟩ = some (.int .i64 x.kind) := by rw [cell_of_heap bk]; rfl
        have z3 : W7.cell? ⟨bz, 3, none⟩ = some (.string (bs x.target)) := by rw [cell_of_heap bk]; rfl
        have z4 : W7.cell? ⟨bz, 4, none⟩ = some (.int .i64 x.cond.op) := by rw [cell_of_heap bk]; rfl
        have z5 : W7.cell? ⟨bz, 5, none⟩ = some (.string (bs x.cond.name)) := by rw [cell_of_heap bk]; rfl
        have z6 : W7.cell? ⟨bz, 6, none⟩ = some (.int .i64 x.cond.cmp) := by rw [cell_of_heap bk]; rfl
        have z7 : W7.cell? ⟨bz, 7, none⟩ = some (.int .i64 x.cond.num) := by rw [cell_of_heap bk]; rfl
        have z8 : W7.cell? ⟨bz, 8, none⟩ = some (.slice yx nx cx) := by rw [cell_of_heap bk]; rfl
        have z9 : W7.cell? ⟨bz, 9, none⟩ = some (.int .i64 x.fr) := by rw [cell_of_heap bk]; rfl
        have zt : W7.cell? ⟨bz, 10, none⟩ = some (.int .i64 x.un) := by rw [cell_of_heap bk]; rfl
        have zu : W7.cell? ⟨bz, 11, none⟩ = some (.int .i64 x.wi) := by rw [cell_of_heap bk]; rfl
        clear bk
        go_wp2_with fail
        clear hcx c0 c1 c2 c3 c4 c5 c6 c7 c8 c9 ct cu
        clear hzx z0 z1 z2 z3 z4 z5 z6 z7 z8 z9 zt zu
        go_meet
        exact ⟨by rw [HE.out], HOx⟩
      have g0' : (x.id == a.id) = true := by simpa using g0
      by_cases g1 : x.auth = a.auth
      rotate_left
      · have g1' : (x.auth == a.auth) = false := by simpa using g1
        -- g1 the two fields differ
        have HE : Hid (sameM x a = false) := by
          show _ = _
          cases hq : sameM x a with
          | false => rfl
          | true => exact absurd (congrArg (fun m => m.auth) (sameM_iff.1 hq)) g1
        clear g1
        (try clear hcx c0 c1 c2 c3 c4 c5 c6 c7 c8 c9 ct cu)
        obtain ⟨bk, -⟩ := Owns.blk (HOx.out)
        have hcx := lt_of_block bk
        have c0 : W7.cell? ⟨bx, 0, none⟩ = some (.string (bs a.id)) := by rw [cell_of_heap bk]; rfl
        have c1 : W7.cell? ⟨bx, 1, none⟩ = some (.string (bs a.auth)) := by rw [cell_of_heap bk]; rfl
        have c2 : W7.cell? ⟨bx, 2, none⟩ = some (.int .i64 a.kind) := by rw [cell_of_heap bk]; rfl
        have c3 : W7.cell? ⟨bx, 3, none⟩ = some (.string (bs a.target)) := by rw [cell_of_heap bk]; rfl
        have c4 : W7.cell? ⟨bx, 4, none⟩ = some (.int .i64 a.cond.op) := by rw [cell_of_heap bk]; rfl
        have c5 : W7.cell? ⟨bx, 5, none⟩ = some (.string (bs a.cond.name)) := by rw [cell_of_heap bk]; rfl
        have c6 : W7.cell? ⟨bx, 6, none⟩ = some (.int .i64 a.cond.cmp) := by rw [cell_of_heap bk]; rfl
        have c7 : W7.cell? ⟨bx, 7, none⟩ = some (.int .i64 a.cond.num) := by rw [cell_of_heap bk]; rfl
        have c8 : W7.cell? ⟨bx, 8, none⟩ = some (.slice y n c) := by rw [cell_of_heap bk]; rfl
        have c9 : W7.cell? ⟨bx, 9, none⟩ = some (.int .i64 a.fr) := by rw [cell_of_heap bk]; rfl
        have ct : W7.cell? ⟨bx, 10, none⟩ = some (.int .i64 a.un) := by rw [cell_of_heap bk]; rfl
        have cu : W7.cell? ⟨bx, 11, none⟩ = some (.int .i64 a.wi) := by rw [cell_of_heap bk]; rfl
        clear bk
        (try clear hzx z0 z1 z2 z3 z4 z5 z6 z7 z8 z9 zt zu)
        obtain ⟨bk, -⟩ := Owns.blk (HOx.out.pop.pop)
        have hzx := lt_of_block bk
        have z0 : W7.cell? ⟨bz, 0, none⟩ = some (.string (bs x.id)) := by rw [cell_of_heap bk]; rfl
        have z1 : W7.cell? ⟨bz, 1, none⟩ = some (.string (bs x.auth)) := by rw [cell_of_heap bk]; rfl
        have z2 : W7.cell? ⟨bz, 2, none⟩ = some (.int .i64 x.kind) := by rw [cell_of_heap bk]; rfl
        have z3 : W7.cell? ⟨bz, 3, none⟩ = some (.string (bs x.target)) := by rw [cell_of_heap bk]; rfl
        have z4 : W7.cell? ⟨bz, 4, none⟩ = some (.int .i64 x.cond.op) := by rw [cell_of_heap bk]; rfl
        have z5 : W7.cell? ⟨bz, 5, none⟩ = some (.string (bs x.cond.name)) := by rw [cell_of_heap bk]; rfl
        have z6 : W7.cell? ⟨bz, 6, none⟩ = some (.int .i64 x.cond.cmp) := by rw [cell_of_heap bk]; rfl
        have z7 : W7.cell? ⟨bz, 7, none⟩ = some (.int .i64 x.cond.num) := by rw [cell_of_heap bk]; rfl
        have z8 : W7.cell? ⟨bz, 8, none⟩ = some (.slice yx nx cx) := by rw [cell_of_heap bk]; rfl
        have z9 : W7.cell? ⟨bz, 9, none⟩ = some (.int .i64 x.fr) := by rw [cell_of_heap bk]; rfl
        have zt : W7.cell? ⟨bz, 10, none⟩ = some (.int .i64 x.un) := by rw [cell_of_heap bk]; rfl
        have zu : W7.cell? ⟨bz, 11, none⟩ = some (.int .i64 x.wi) := by rw [cell_of_heap bk]; rfl
        clear bk
        go_wp2_with fail
        clear hcx c0 c1 c2 c3 c4 c5 c6 c7 c8 c9 ct cu
        clear hzx z0 z1 z2 z3 z4 z5 z6 z7 z8 z9 zt zu
        go_meet
        exact ⟨by rw [HE.out], HOx⟩
      have g1' : (x.auth == a.auth) = true := by simpa using g1
      by_cases g2 : x.kind = a.kind
      rotate_left
      · have g2' : (x.kind == a.kind) = false := by simpa using g2
        -- g2 the two fields differ
        have HE : Hid (sameM x a = false) := by
          show _ = _
          cases hq : sameM x a with
          | false => rfl
          | true => exact absurd (congrArg (fun m => m.kind) (sameM_iff.1 hq)) g2
        clear g2
        (try clear hcx c0 c1 c2 c3 c4 c5 c6 c7 c8 c9 ct cu)
        obtain ⟨bk, -⟩ := Owns.blk (HOx.out)
        have hcx := lt_of_block bk
        have c0 : W7.cell? ⟨bx, 0, none⟩ = some (.string (bs a.id)) := by rw [cell_of_heap bk]; rfl
        have c1 : W7.cell? ⟨bx, 1, none⟩ = some (.string (bs a.auth)) := by rw [cell_of_heap bk]; rfl
        have c2 : W7.cell? ⟨bx, 2, none⟩ = some (.int .i64 a.kind) := by rw [cell_of_heap bk]; rfl
        have c3 : W7.cell? ⟨bx, 3, none⟩ = some (.string (bs a.target)) := by rw [cell_of_heap bk]; rfl
        have c4 : W7.cell? ⟨bx, 4, none⟩ = some (.int .i64 a.cond.op) := by rw [cell_of_heap bk]; rfl
        have c5 : W7.cell? ⟨bx, 5, none⟩ = some (.string (bs a.cond.name)) := by rw [cell_of_heap bk]; rfl
        have c6 : W7.cell? ⟨bx, 6, none⟩ = some (.int .i64 a.cond.cmp) := by rw [cell_of_heap bk]; rfl
        have c7 : W7.cell? ⟨bx, 7, none⟩ = some (.int .i64 a.cond.num) := by rw [cell_of_heap bk]; rfl
        have c8 : W7.cell? ⟨bx, 8, none⟩ = some (.slice y n c) := by rw [cell_of_heap bk]; rfl
        have c9 : W7.cell? ⟨bx, 9, none⟩ = some (.int .i64 a.fr) := by rw [cell_of_heap bk]; rfl
        have ct : W7.cell? ⟨bx, 10, none⟩ = some (.int .i64 a.un) := by rw [cell_of_heap bk]; rfl
        have cu : W7.cell? ⟨bx, 11, none⟩ = some (.int .i64 a.wi) := by rw [cell_of_heap bk]; rfl
        clear bk
        (try clear hzx z0 z1 z2 z3 z4 z5 z6 z7 z8 z9 zt zu)
        obtain ⟨bk, -⟩ := Owns.blk (HOx.out.pop.pop)
        have hzx := lt_of_block bk
        have z0 : W7.cell? ⟨bz, 0, none⟩ = some (.string (bs x.id)) := by rw [cell_of_heap bk]; rfl
        have z1 : W7.cell? ⟨bz, 1, none⟩ = some (.string (bs x.auth)) := by rw [cell_of_heap bk]; rfl
        have z2 : W7.cell? ⟨bz, 2, none⟩ = some (.int .i64 x.kind) := by rw [cell_of_heap bk]; rfl
        have z3 : W7.cell? ⟨bz, 3, none⟩ = some (.string (bs x.target)) := by rw [cell_of_heap bk]; rfl
        have z4 : W7.cell? ⟨bz, 4, none⟩ = some (.int .i64 x.cond.op) := by rw [cell_of_heap bk]; rfl
        have z5 : W7.cell? ⟨bz, 5, none⟩ = some (.string (bs x.cond.name)) := by rw [cell_of_heap bk]; rfl
        have z6 : W7.cell? ⟨bz, 6, none⟩ = some (.int .i64 x.cond.cmp) := by rw [cell_of_heap bk]; rfl
        have z7 : W7.cell? ⟨bz, 7, none⟩ = some (.int .i64 x.cond.num) := by rw [cell_of_heap bk]; rfl
        have z8 : W7.cell? ⟨bz, 8, none⟩ = some (.slice yx nx cx) := by rw [cell_of_heap bk]; rfl
        have z9 : W7.cell? ⟨bz, 9, none⟩ = some (.int .i64 x.fr) := by rw [cell_of_heap bk]; rfl
        have zt : W7.cell? ⟨bz, 10, none⟩ = some (.int .i64 x.un) := by rw [cell_of_heap bk]; rfl
        have zu : W7.cell? ⟨bz, 11, none⟩ = some (.int .i64 x.wi) := by rw [cell_of_heap bk]; rfl
        clear bk
        go_wp2_with fail
        clear hcx c0 c1 c2 c3 c4 c5 c6 c7 c8 c9 ct cu
        clear hzx z0 z1 z2 z3 z4 z5 z6 z7 z8 z9 zt zu
        go_meet
        exact ⟨by rw [HE.out], HOx⟩
      have g2' : (x.kind == a.kind) = true := by simpa using g2
      by_cases g3 : x.target = a.target
      rotate_left
      · have g3' : (x.target == a.target) = false := by simpa using g3
        -- g3 the two fields differ
        have HE : Hid (sameM x a = false) := by
          show _ = _
          cases hq : sameM x a with
          | false => rfl
          | true => exact absurd (congrArg (fun m => m.target) (sameM_iff.1 hq)) g3
        clear g3
        (try clear hcx c0 c1 c2 c3 c4 c5 c6 c7 c8 c9 ct cu)
        obtain ⟨bk, -⟩ := Owns.blk (HOx.out)
        have hcx := lt_of_block bk
        have c0 : W7.cell? ⟨bx, 0, none⟩ = some (.string (bs a.id)) := by rw [cell_of_heap bk]; rfl
        have c1 : W7.cell? ⟨bx, 1, none⟩ = some (.string (bs a.auth)) := by rw [cell_of_heap bk]; rfl
        have c2 : W7.cell? ⟨bx, 2, none⟩ = some (.int .i64 a.kind) := by rw [cell_of_heap bk]; rfl
        have c3 : W7.cell? ⟨bx, 3, none⟩ = some (.string (bs a.target)) := by rw [cell_of_heap bk]; rfl
        have c4 : W7.cell? ⟨bx, 4, none⟩ = some (.int .i64 a.cond.op) := by rw [cell_of_heap bk]; rfl
        have c5 : W7.cell? ⟨bx, 5, none⟩ = some (.string (bs a.cond.name)) := by rw [cell_of_heap bk]; rfl
        have c6 : W7.cell? ⟨bx, 6, none⟩ = some (.int .i64 a.cond.cmp) := by rw [cell_of_heap bk]; rfl
        have c7 : W7.cell? ⟨bx, 7, none⟩ = some (.int .i64 a.cond.num) := by rw [cell_of_heap bk]; rfl
        have c8 : W7.cell? ⟨bx, 8, none⟩ = some (.slice y n c) := by rw [cell_of_heap bk]; rfl
        have c9 : W7.cell? ⟨bx, 9, none⟩ = some (.int .i64 a.fr) := by rw [cell_of_heap bk]; rfl
        have ct : W7.cell? ⟨bx, 10, none⟩ = some (.int .i64 a.un) := by rw [cell_of_heap bk]; rfl
        have cu : W7.cell? ⟨bx, 11, none⟩ = some (.int .i64 a.wi) := by rw [cell_of_heap bk]; rfl
        clear bk
        (try clear hzx z0 z1 z2 z3 z4 z5 z6 z7 z8 z9 zt zu)
        obtain ⟨bk, -⟩ := Owns.blk (HOx.out.pop.pop)
        have hzx := lt_of_block bk
        have z0 : W7.cell? ⟨bz, 0, none⟩ = some (.string (bs x.id)) := by rw [cell_of_heap bk]; rfl
        have z1 : W7.cell? ⟨bz, 1, none⟩ = some (.string (bs x.auth)) := by rw [cell_of_heap bk]; rfl
        have z2 : W7.cell? ⟨bz, 2, none⟩ = some (.int .i64 x.kind) := by rw [cell_of_heap bk]; rfl
        have z3 : W7.cell? ⟨bz, 3, none⟩ = some (.string (bs x.target)) := by rw [cell_of_heap bk]; rfl
        have z4 : W7.cell? ⟨bz, 4, none⟩ = some (.int .i64 x.cond.op) := by rw [cell_of_heap bk]; rfl
        have z5 : W7.cell? ⟨bz, 5, none⟩ = some (.string (bs x.cond.name)) := by rw [cell_of_heap bk]; rfl
        have z6 : W7.cell? ⟨bz, 6, none⟩ = some (.int .i64 x.cond.cmp) := by rw [cell_of_heap bk]; rfl
        have z7 : W7.cell? ⟨bz, 7, none⟩ = some (.int .i64 x.cond.num) := by rw [cell_of_heap bk]; rfl
        have z8 : W7.cell? ⟨bz, 8, none⟩ = some (.slice yx nx cx) := by rw [cell_of_heap bk]; rfl
        have z9 : W7.cell? ⟨bz, 9, none⟩ = some (.int .i64 x.fr) := by rw [cell_of_heap bk]; rfl
        have zt : W7.cell? ⟨bz, 10, none⟩ = some (.int .i64 x.un) := by rw [cell_of_heap bk]; rfl
        have zu : W7.cell? ⟨bz, 11, none⟩ = some (.int .i64 x.wi) := by rw [cell_of_heap bk]; rfl
        clear bk
        go_wp2_with fail
        clear hcx c0 c1 c2 c3 c4 c5 c6 c7 c8 c9 ct cu
        clear hzx z0 z1 z2 z3 z4 z5 z6 z7 z8 z9 zt zu
        go_meet
        exact ⟨by rw [HE.out], HOx⟩
      have g3' : (x.target == a.target) = true := by simpa using g3
      by_cases g4 : x.fr = a.fr
      rotate_left
      · have g4' : (x.fr == a.fr) = false := by simpa using g4
        -- g4 the two fields differ
        have HE : Hid (sameM x a = false) := by
          show _ = _
          cases hq : sameM x a with
          | false => rfl
          | true => exact absurd (congrArg (fun m => m.fr) (sameM_iff.1 hq)) g4
        clear g4
        (try clear hcx c0 c1 c2 c3 c4 c5 c6 c7 c8 c9 ct cu)
        obtain ⟨bk, -⟩ := Owns.blk (HOx.out)
        have hcx := lt_of_block bk
        have c0 : W7.cell? ⟨bx, 0, none⟩ = some (.string (bs a.id)) := by rw [cell_of_heap bk]; rfl
        have c1 : W7.cell? ⟨bx, 1, none⟩ = some (.string (bs a.auth)) := by rw [cell_of_heap bk]; rfl
        have c2 : W7.cell? ⟨bx, 2, none⟩ = some (.int .i64 a.kind) := by rw [cell_of_heap bk]; rfl
        have c3 : W7.cell? ⟨bx, 3, none⟩ = some (.string (bs a.target)) := by rw [cell_of_heap bk]; rfl
        have c4 : W7.cell? ⟨bx, 4, none⟩ = some (.int .i64 a.cond.op) := by rw [cell_of_heap bk]; rfl
        have c5 : W7.cell? ⟨bx, 5, none⟩ = some (.string (bs a.cond.name)) := by rw [cell_of_heap bk]; rfl
        have c6 : W7.cell? ⟨bx, 6, none⟩ = some (.int .i64 a.cond.cmp) := by rw [cell_of_heap bk]; rfl
        have c7 : W7.cell? ⟨bx, 7, none⟩ = some (.int .i64 a.cond.num) := by rw [cell_of_heap bk]; rfl
        have c8 : W7.cell? ⟨bx, 8, none⟩ = some (.slice y n c) := by rw [cell_of_heap bk]; rfl
        have c9 : W7.cell? ⟨bx, 9, none⟩ = some (.int .i64 a.fr) := by rw [cell_of_heap bk]; rfl
        have ct : W7.cell? ⟨bx, 10, none⟩ = some (.int .i64 a.un) := by rw [cell_of_heap bk]; rfl
        have cu : W7.cell? ⟨bx, 11, none⟩ = some (.int .i64 a.wi) := by rw [cell_of_heap bk]; rfl
        clear bk
        (try clear hzx z0 z1 z2 z3 z4 z5 z6 z7 z8 z9 zt zu)
        obtain ⟨bk, -⟩ := Owns.blk (HOx.out.pop.pop)
        have hzx := lt_of_block bk
        have z0 : W7.cell? ⟨bz, 0, none⟩ = some (.string (bs x.id)) := by rw [cell_of_heap bk]; rfl
        have z1 : W7.cell? ⟨bz, 1, none⟩ = some (.string (bs x.auth)) := by rw [cell_of_heap bk]; rfl
        have z2 : W7.cell? ⟨bz, 2, none⟩ = some (.int .i64 x.kind) := by rw [cell_of_heap bk]; rfl
        have z3 : W7.cell? ⟨bz, 3, none⟩ = some (.string (bs x.target)) := by rw [cell_of_heap bk]; rfl
        have z4 : W7.cell? ⟨bz, 4, none⟩ = some (.int .i64 x.cond.op) := by rw [cell_of_heap bk]; rfl
        have z5 : W7.cell? ⟨bz, 5, none⟩ = some (.string (bs x.cond.name)) := by rw [cell_of_heap bk]; rfl
        have z6 : W7.cell? ⟨bz, 6, none⟩ = some (.int .i64 x.cond.cmp) := by rw [cell_of_heap bk]; rfl
        have z7 : W7.cell? ⟨bz, 7, none⟩ = some (.int .i64 x.cond.num) := by rw [cell_of_heap bk]; rfl
        have z8 : W7.cell? ⟨bz, 8, none⟩ = some (.slice yx nx cx) := by rw [cell_of_heap bk]; rfl
        have z9 : W7.cell? ⟨bz, 9, none⟩ = some (.int .i64 x.fr) := by rw [cell_of_heap bk]; rfl
        have zt : W7.cell? ⟨bz, 10, none⟩ = some (.int .i64 x.un) := by rw [cell_of_heap bk]; rfl
        have zu : W7.cell? ⟨bz, 11, none⟩ = some (.int .i64 x.wi) := by rw [cell_of_heap bk]; rfl
        clear bk
        go_wp2_with fail
        clear hcx c0 c1 c2 c3 c4 c5 c6 c7 c8 c9 ct cu
        clear hzx z0 z1 z2 z3 z4 z5 z6 z7 z8 z9 zt zu
        go_meet
        exact ⟨by rw [HE.out], HOx⟩
      have g4' : (x.fr == a.fr) = true := by simpa using g4
      by_cases g5 : x.un = a.un
      rotate_left
      · have g5' : (x.un == a.un) = false := by simpa using g5
        -- g5 the two fields differ
        have HE : Hid (sameM x a = false) := by
          show _ = _
          cases hq : sameM x a with
          | false => rfl
          | true => exact absurd (congrArg (fun m => m.un) (sameM_iff.1 hq)) g5
        clear g5
        (try clear hcx c0 c1 c2 c3 c4 c5 c6 c7 c8 c9 ct cu)
        obtain ⟨bk, -⟩ := Owns.blk (HOx.out)
        have hcx := lt_of_block bk
        have c0 : W7.cell? ⟨bx, 0, none⟩ = some (.string (bs a.id)) := by rw [cell_of_heap bk]; rfl
        have c1 : W7.cell? ⟨bx, 1, none⟩ = some (.string (bs a.auth)) := by rw [cell_of_heap bk]; rfl
        have c2 : W7.cell? ⟨bx, 2, none⟩ = some (.int .i64 a.kind) := by rw [cell_of_heap bk]; rfl
        have c3 : W7.cell? ⟨bx, 3, none⟩ = some (.string (bs a.target)) := by rw [cell_of_heap bk]; rfl
        have c4 : W7.cell? ⟨bx, 4, none⟩ = some (.int .i64 a.cond.op) := by rw [cell_of_heap bk]; rfl
        have c5 : W7.cell? ⟨bx, 5, none⟩ = some (.string (bs a.cond.name)) := by rw [cell_of_heap bk]; rfl
        have c6 : W7.cell? ⟨bx, 6, none⟩ = some (.int .i64 a.cond.cmp) := by rw [cell_of_heap bk]; rfl
        have c7 : W7.cell? ⟨bx, 7, none⟩ = some (.int .i64 a.cond.num) := by rw [cell_of_heap bk]; rfl
        have c8 : W7.cell? ⟨bx, 8, none⟩ = some (.slice y n c) := by rw [cell_of_heap bk]; rfl
        have c9 : W7.cell? ⟨bx, 9, none⟩ = some (.int .i64 a.fr) := by rw [cell_of_heap bk]; rfl
        have ct : W7.cell? ⟨bx, 10, none⟩ = some (.int .i64 a.un) := by rw [cell_of_heap bk]; rfl
        have cu : W7.cell? ⟨bx, 11, none⟩ = some (.int .i64 a.wi) := by rw [cell_of_heap bk]; rfl
        clear bk
        (try clear hzx z0 z1 z2 z3 z4 z5 z6 z7 z8 z9 zt zu)
        obtain ⟨bk, -⟩ := Owns.blk (HOx.out.pop.pop)
        have hzx := lt_of_block bk
        have z0 : W7.cell? ⟨bz, 0, none⟩ = some (.string (bs x.id)) := by rw [cell_of_heap bk]; rfl
        have z1 : W7.cell? ⟨bz, 1, none⟩ = some (.string (bs x.auth)) := by rw [cell_of_heap bk]; rfl
        have z2 : W7.cell? ⟨bz, 2, none⟩ = some (.int .i64 x.kind) := by rw [cell_of_heap bk]; rfl
        have z3 : W7.cell? ⟨bz, 3, none⟩ = some (.string (bs x.target)) := by rw [cell_of_heap bk]; rfl
        have z4 : W7.cell? ⟨bz, 4, none⟩ = some (.int .i64 x.cond.op) := by rw [cell_of_heap bk]; rfl
        have z5 : W7.cell? ⟨bz, 5, none⟩ = some (.string (bs x.cond.name)) := by rw [cell_of_heap bk]; rfl
        have z6 : W7.cell? ⟨bz, 6, none⟩ = some (.int .i64 x.cond.cmp) := by rw [cell_of_heap bk]; rfl
        have z7 : W7.cell? ⟨bz, 7, none⟩ = some (.int .i64 x.cond.num) := by rw [cell_of_heap bk]; rfl
        have z8 : W7.cell? ⟨bz, 8, none⟩ = some (.slice yx nx cx) := by rw [cell_of_heap bk]; rfl
        have z9 : W7.cell? ⟨bz, 9, none⟩ = some (.int .i64 x.fr) := by rw [cell_of_heap bk]; rfl
        have zt : W7.cell? ⟨bz, 10, none⟩ = some (.int .i64 x.un) := by rw [cell_of_heap bk]; rfl
        have zu : W7.cell? ⟨bz, 11, none⟩ = some (.int .i64 x.wi) := by rw [cell_of_heap bk]; rfl
        clear bk
        go_wp2_with fail
        clear hcx c0 c1 c2 c3 c4 c5 c6 c7 c8 c9 ct cu
        clear hzx z0 z1 z2 z3 z4 z5 z6 z7 z8 z9 zt zu
        go_meet
        exact ⟨by rw [HE.out], HOx⟩
      have g5' : (x.un == a.un) = true := by simpa using g5
      by_cases g6 : x.wi = a.wi
      rotate_left
      · have g6' : (x.wi == a.wi) = false := by simpa using g6
        -- g6 the two fields differ
        have HE : Hid (sameM x a = false) := by
          show _ = _
          cases hq : sameM x a with
          | false => rfl
          | true => exact absurd (congrArg (fun m => m.wi) (sameM_iff.1 hq)) g6
        clear g6
        (try clear hcx c0 c1 c2 c3 c4 c5 c6 c7 c8 c9 ct cu)
        obtain ⟨bk, -⟩ := Owns.blk (HOx.out)
        have hcx := lt_of_block bk
        have c0 : W7.cell? ⟨bx, 0, none⟩ = some (.string (bs a.id)) := by rw [cell_of_heap bk]; rfl
        have c1 : W7.cell? ⟨bx, 1, none⟩ = some (.string (bs a.auth)) := by rw [cell_of_heap bk]; rfl
        have c2 : W7.cell? ⟨bx, 2, none⟩ = some (.int .i64 a.kind) := by rw [cell_of_heap bk]; rfl
        have c3 : W7.cell? ⟨bx, 3, none⟩ = some (.string (bs a.target)) := by rw [cell_of_heap bk]; rfl
        have c4 : W7.cell? ⟨bx, 4, none⟩ = some (.int .i64 a.cond.op) := by rw [cell_of_heap bk]; rfl
        have c5 : W7.cell? ⟨bx, 5, none⟩ = some (.string (bs a.cond.name)) := by rw [cell_of_heap bk]; rfl
        have c6 : W7.cell? ⟨bx, 6, none⟩ = some (.int .i64 a.cond.cmp) := by rw [cell_of_heap bk]; rfl
        have c7 : W7.cell? ⟨bx, 7, none⟩ = some (.int .i64 a.cond.num) := by rw [cell_of_heap bk]; rfl
        have c8 : W7.cell? ⟨bx, 8, none⟩ = some (.slice y n c) := by rw [cell_of_heap bk]; rfl
        have c9 : W7.cell? ⟨bx, 9, none⟩ = some (.int .i64 a.fr) := by rw [cell_of_heap bk]; rfl
        have ct : W7.cell? ⟨bx, 10, none⟩ = some (.int .i64 a.un) := by rw [cell_of_heap bk]; rfl
        have cu : W7.cell? ⟨bx, 11, none⟩ = some (.int .i64 a.wi) := by rw [cell_of_heap bk]; rfl
        clear bk
        (try clear hzx z0 z1 z2 z3 z4 z5 z6 z7 z8 z9 zt zu)
        obtain ⟨bk, -⟩ := Owns.blk (HOx.out.pop.pop)
        have hzx := lt_of_block bk
        have z0 : W7.cell? ⟨bz, 0, none⟩ = some (.string (bs x.id)) := by rw [cell_of_heap bk]; rfl
        have z1 : W7.cell? ⟨bz, 1, none⟩ = some (.string (bs x.auth)) := by rw [cell_of_heap bk]; rfl
        have z2 : W7.cell? ⟨bz, 2, none⟩ = some (.int .i64 x.kind) := by rw [cell_of_heap bk]; rfl
        have z3 : W7.cell? ⟨bz, 3, none⟩ = some (.string (bs x.target)) := by rw [cell_of_heap bk]; rfl
        have z4 : W7.cell? ⟨bz, 4, none⟩ = some (.int .i64 x.cond.op) := by rw [cell_of_heap bk]; rfl
        have z5 : W7.cell? ⟨bz, 5, none⟩ = some (.string (bs x.cond.name)) := by rw [cell_of_heap bk]; rfl
        have z6 : W7.cell? ⟨bz, 6, none⟩ = some (.int .i64 x.cond.cmp) := by rw [cell_of_heap bk]; rfl
        have z7 : W7.cell? ⟨bz, 7, none⟩ = some (.int .i64 x.cond.num) := by rw [cell_of_heap bk]; rfl
        have z8 : W7.cell? ⟨bz, 8, none⟩ = some (.slice yx nx cx) := by rw [cell_of_heap bk]; rfl
        have z9 : W7.cell? ⟨bz, 9, none⟩ = some (.int .i64 x.fr) := by rw [cell_of_heap bk]; rfl
        have zt : W7.cell? ⟨bz, 10, none⟩ = some (.int .i64 x.un) := by rw [cell_of_heap bk]; rfl
        have zu : W7.cell? ⟨bz, 11, none⟩ = some (.int .i64 x.wi) := by rw [cell_of_heap bk]; rfl
        clear bk
        go_wp2_with fail
        clear hcx c0 c1 c2 c3 c4 c5 c6 c7 c8 c9 ct cu
        clear hzx z0 z1 z2 z3 z4 z5 z6 z7 z8 z9 zt zu
        go_meet
        exact ⟨by rw [HE.out], HOx⟩
      have g6' : (x.wi == a.wi) = true := by simpa using g6
      have HE : Hid (sameM x a = sameF x.cond a.cond) := by
        show _ = _
        unfold sameM
        simp [g0, g1, g2, g3, g4, g5, g6]
      clear g0 g1 g2 g3 g4 g5 g6
      (try clear hcx c0 c1 c2 c3 c4 c5 c6 c7 c8 c9 ct cu)
      obtain ⟨bk, -⟩ := Owns.blk (HOx.out)
      have hcx := lt_of_block bk
      have c0 : W7.cell? ⟨bx, 0, none⟩ = some (.string (bs a.id)) := by rw [cell_of_heap bk]; rfl
      have c1 : W7.cell? ⟨bx, 1, none⟩ = some (.string (bs a.auth)) := by rw [cell_of_heap bk]; rfl
      have c2 : W7.cell? ⟨bx, 2, none⟩ = some (.int .i64 a.kind) := by rw [cell_of_heap bk]; rfl
      have c3 : W7.cell? ⟨bx, 3, none⟩ = some (.string (bs a.target)) := by rw [cell_of_heap bk]; rfl
      have c4 : W7.cell? ⟨bx, 4, none⟩ = some (.int .i64 a.cond.op) := by rw [cell_of_heap bk]; rfl
      have c5 : W7.cell? ⟨bx, 5, none⟩ = some (.string (bs a.cond.name)) := by rw [cell_of_heap bk]; rfl
      have c6 : W7.cell? ⟨bx, 6, none⟩ = some (.int .i64 a.cond.cmp) := by rw [cell_of_heap bk]; rfl
      have c7 : W7.cell? ⟨bx, 7, none⟩ = some (.int .i64 a.cond.num) := by rw [cell_of_heap bk]; rfl
      have c8 : W7.cell? ⟨bx, 8, none⟩ = some (.slice y n c) := by rw [cell_of_heap bk]; rfl
      have c9 : W7.cell? ⟨bx, 9, none⟩ = some (.int .i64 a.fr) := by rw [cell_of_heap bk]; rfl
      have ct : W7.cell? ⟨bx, 10, none⟩ = some (.int .i64 a.un) := by rw [cell_of_heap bk]; rfl
      have cu : W7.cell? ⟨bx, 11, none⟩ = some (.int .i64 a.wi) := by rw [cell_of_heap bk]; rfl
      clear bk
      (try clear hzx z0 z1 z2 z3 z4 z5 z6 z7 z8 z9 zt zu)
      obtain ⟨bk, -⟩ := Owns.blk (HOx.out.pop.pop)
      have hzx := lt_of_block bk
      have z0 : W7.cell? ⟨bz, 0, none⟩ = some (.string (bs x.id)) := by rw [cell_of_heap bk]; rfl
      have z1 : W7.cell? ⟨bz, 1, none⟩ = some (.string (bs x.auth)) := by rw [cell_of_heap bk]; rfl
      have z2 : W7.cell? ⟨bz, 2, none⟩ = some (.int .i64 x.kind) := by rw [cell_of_heap bk]; rfl
      have z3 : W7.cell? ⟨bz, 3, none⟩ = some (.string (bs x.target)) := by rw [cell_of_heap bk]; rfl
      have z4 : W7.cell? ⟨bz, 4, none⟩ = some (.int .i64 x.cond.op) := by rw [cell_of_heap bk]; rfl
      have z5 : W7.cell? ⟨bz, 5, none⟩ = some (.string (bs x.cond.name)) := by rw [cell_of_heap bk]; rfl
      have z6 : W7.cell? ⟨bz, 6, none⟩ = some (.int .i64 x.cond.cmp) := by rw [cell_of_heap bk]; rfl
      have z7 : W7.cell? ⟨bz, 7, none⟩ = some (.int .i64 x.cond.num) := by rw [cell_of_heap bk]; rfl
      have z8 : W7.cell? ⟨bz, 8, none⟩ = some (.slice yx nx cx) := by rw [cell_of_heap bk]; rfl
      have z9 : W7.cell? ⟨bz, 9, none⟩ = some (.int .i64 x.fr) := by rw [cell_of_heap bk]; rfl
      have zt : W7.cell? ⟨bz, 10, none⟩ = some (.int .i64 x.un) := by rw [cell_of_heap bk]; rfl
      have zu : W7.cell? ⟨bz, 11, none⟩ = some (.int .i64 x.wi) := by rw [cell_of_heap bk]; rfl
      clear bk
      go_wp2_with fail
      clear hcx c0 c1 c2 c3 c4 c5 c6 c7 c8 c9 ct cu
      clear hzx z0 z1 z2 z3 z4 z5 z6 z7 z8 z9 zt zu
      go_at_call 15
      refine (Same_c W7 x.cond a.cond W7 _ _ (Below.refl _ _) (HFx.out.later HOx.out.base) (UA.out.fm.later HOx.out.base) HX.out.size HA.out.size).mono ?_
      rintro e W8 ⟨rfl, hb⟩
      replace HOx := Lib.hid (HOx.out.below hb)
      clear hb g0' g1' g2' g3' g4' g5' g6'
      go_wp2_with fail
      go_meet
      exact ⟨by rw [HE.out], HOx⟩
  obtain ⟨rfl, HO⟩ := hcut
  clear HOx
  obtain ⟨W9, hW9⟩ : ∃ W, W = wc := ⟨_, rfl⟩
  rw [← hW9] at HO ⊢
  clear hW9
  obtain ⟨q, hq⟩ : ∃ q, q = sameM x a := ⟨_, rfl⟩
  rw [← hq]
  replace hq := Lib.hid hq
  (try clear hzx z0 z1 z2 z3 z4 z5 z6 z7 z8 z9 zt zu)
  obtain ⟨bk, -⟩ := Owns.blk (HO.out.pop.pop)
  have hzx := lt_of_block bk
  have z0 : W9.cell? ⟨bz, 0, none⟩ = some (.string (bs x.id)) := by rw [cell_of_heap bk]; rfl
  have z1 : W9.cell? ⟨bz, 1, none⟩ = some (.string (bs x.auth)) := by rw [cell_of_heap bk]; rfl
  have z2 : W9.cell? ⟨bz, 2, none⟩ = some (.int .i64 x.kind) := by rw [cell_of_heap bk]; rfl
  have z3 : W9.cell? ⟨bz, 3, none⟩ = some (.string (bs x.target)) := by rw [cell_of_heap bk]; rfl
  have z4 : W9.cell? ⟨bz, 4, none⟩ = some (.int .i64 x.cond.op) := by rw [cell_of_heap bk]; rfl
  have z5 : W9.cell? ⟨bz, 5, none⟩ = some (.string (bs x.cond.name)) := by rw [cell_of_heap bk]; rfl
  have z6 : W9.cell? ⟨bz, 6, none⟩ = some (.int .i64 x.cond.cmp) := by rw [cell_of_heap bk]; rfl
  have z7 : W9.cell? ⟨bz, 7, none⟩ = some (.int .i64 x.cond.num) := by rw [cell_of_heap bk]; rfl
  have z8 : W9.cell? ⟨bz, 8, none⟩ = some (.slice yx nx cx) := by rw [cell_of_heap bk]; rfl
  have z9 : W9.cell? ⟨bz, 9, none⟩ = some (.int .i64 x.fr) := by rw [cell_of_heap bk]; rfl
  have zt : W9.cell? ⟨bz, 10, none⟩ = some (.int .i64 x.un) := by rw [cell_of_heap bk]; rfl
  have zu : W9.cell? ⟨bz, 11, none⟩ = some (.int .i64 x.wi) := by rw [cell_of_heap bk]; rfl
  clear bk
  go_wp2_with fail
  clear hzx z0 z1 z2 z3 z4 z5 z6 z7 z8 z9 zt zu
  go_at_call 11
  refine (mText_c x _ W9 (HS.out.below HO.out.base) (HFx.out.later HO.out.base) HX.out.len HX.out.cond).mono ?_
  rintro e W10 ⟨rfl, hb⟩
  replace HO := Lib.hid (HO.out.below hb)
  clear hb
  obtain ⟨S2, hS2⟩ : ∃ s, s = (textM x).1 := ⟨_, rfl⟩
  obtain ⟨E2, hE2⟩ : ∃ s, s = (textM x).2 := ⟨_, rfl⟩
  rw [← hS2, ← hE2]
  have HD : Hid (E2 = 0 → q = false → ¬ S1 = S2) := Lib.hid fun h0 h1 h2 => by
    have h3 := (text_same (a := a) (b := x) hE1.out.symm (by rw [← hE2, h0])).1 (by rw [← hS1.out, ← hS2, h2])
    have h4 : sameM x a = true := sameM_iff.2 h3.symm
    rw [← hq.out, h1] at h4
    cases h4
  clear hS2 hE2 hS1 hE1
  (try clear hzx z0 z1 z2 z3 z4 z5 z6 z7 z8 z9 zt zu)
  obtain ⟨bk, -⟩ := Owns.blk (HO.out.pop.pop)
  have hzx := lt_of_block bk
  have z0 : W10.cell? ⟨bz, 0, none⟩ = some (.string (bs x.id)) := by rw [cell_of_heap bk]; rfl
  have z1 : W10.cell? ⟨bz, 1, none⟩ = some (.string (bs x.auth)) := by rw [cell_of_heap bk]; rfl
  have z2 : W10.cell? ⟨bz, 2, none⟩ = some (.int .i64 x.kind) := by rw [cell_of_heap bk]; rfl
  have z3 : W10.cell? ⟨bz, 3, none⟩ = some (.string (bs x.target)) := by rw [cell_of_heap bk]; rfl
  have z4 : W10.cell? ⟨bz, 4, none⟩ = some (.int .i64 x.cond.op) := by rw [cell_of_heap bk]; rfl
  have z5 : W10.cell? ⟨bz, 5, none⟩ = some (.string (bs x.cond.name)) := by rw [cell_of_heap bk]; rfl
  have z6 : W10.cell? ⟨bz, 6, none⟩ = some (.int .i64 x.cond.cmp) := by rw [cell_of_heap bk]; rfl
  have z7 : W10.cell? ⟨bz, 7, none⟩ = some (.int .i64 x.cond.num) := by rw [cell_of_heap bk]; rfl
  have z8 : W10.cell? ⟨bz, 8, none⟩ = some (.slice yx nx cx) := by rw [cell_of_heap bk]; rfl
  have z9 : W10.cell? ⟨bz, 9, none⟩ = some (.int .i64 x.fr) := by rw [cell_of_heap bk]; rfl
  have zt : W10.cell? ⟨bz, 10, none⟩ = some (.int .i64 x.un) := by rw [cell_of_heap bk]; rfl
  have zu : W10.cell? ⟨bz, 11, none⟩ = some (.int .i64 x.wi) := by rw [cell_of_heap bk]; rfl
  clear bk
  (try clear hcx c0 c1 c2 c3 c4 c5 c6 c7 c8 c9 ct cu)
  obtain ⟨bk, -⟩ := Owns.blk (HO.out)
  have hcx := lt_of_block bk
  have c0 : W10.cell? ⟨bx, 0, none⟩ = some (.string (bs a.id)) := by rw [cell_of_heap bk]; rfl
  have c1 : W10.cell? ⟨bx, 1, none⟩ = some (.string (bs a.auth)) := by rw [cell_of_heap bk]; rfl
  have c2 : W10.cell? ⟨bx, 2, none⟩ = some (.int .i64 a.kind) := by rw [cell_of_heap bk]; rfl
  have c3 : W10.cell? ⟨bx, 3, none⟩ = some (.string (bs a.target)) := by rw [cell_of_heap bk]; rfl
  have c4 : W10.cell? ⟨bx, 4, none⟩ = some (.int .i64 a.cond.op) := by rw [cell_of_heap bk]; rfl
  have c5 : W10.cell? ⟨bx, 5, none⟩ = some (.string (bs a.cond.name)) := by rw [cell_of_heap bk]; rfl
  have c6 : W10.cell? ⟨bx, 6, none⟩ = some (.int .i64 a.cond.cmp) := by rw [cell_of_heap bk]; rfl
  have c7 : W10.cell? ⟨bx, 7, none⟩ = some (.int .i64 a.cond.num) := by rw [cell_of_heap bk]; rfl
  have c8 : W10.cell? ⟨bx, 8, none⟩ = some (.slice y n c) := by rw [cell_of_heap bk]; rfl
  have c9 : W10.cell? ⟨bx, 9, none⟩ = some (.int .i64 a.fr) := by rw [cell_of_heap bk]; rfl
  have ct : W10.cell? ⟨bx, 10, none⟩ = some (.int .i64 a.un) := by rw [cell_of_heap bk]; rfl
  have cu : W10.cell? ⟨bx, 11, none⟩ = some (.int .i64 a.wi) := by rw [cell_of_heap bk]; rfl
  clear bk
  go_wp2_with fail
  clear hzx z0 z1 z2 z3 z4 z5 z6 z7 z8 z9 zt zu
  clear hcx c0 c1 c2 c3 c4 c5 c6 c7 c8 c9 ct cu
  go_at_call 13
  refine (mSame_c x a _ _ W10 (HS.out.below HO.out.base) (HFx.out.later HO.out.base) (UA.out.fm.later HO.out.base) HX.out.ints HA.out.ints HX.out.size HA.out.size).mono ?_
  rintro e W11 ⟨rfl, hb⟩
  replace HO := Lib.hid (HO.out.below hb)
  clear hb
  rw [← hq.out]
  clear hq
  cases q
  rotate_left
  · go_wp2_with fail
    go_ret
    exact ⟨rfl, HO.out.base⟩
  by_cases h2 : E2 = 0
  rotate_left
  · have h2' : ((E2 : Int) != 0) = true := by simpa using h2
    clear h2
    go_wp2_with fail
    go_ret
    exact ⟨rfl, HO.out.base⟩
  have HN := Lib.hid (HD.out h2 rfl)
  subst h2
  clear HD
  have hs : (S1 == S2) = false := by simpa using HN.out
  go_wp2_with fail
  go_ret
  exact ⟨by first | rfl | simp [hs], HO.out.base⟩
end Go.Proofs.YtoeknmkephnekaaGreatDoor
