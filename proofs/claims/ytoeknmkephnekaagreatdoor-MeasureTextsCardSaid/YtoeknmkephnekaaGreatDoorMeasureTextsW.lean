/-
  'MeasureTexts' returns true.
-/
import Derived.Test.YtoeknmkephnekaaGreatDoorMsH
import Derived.Test.YtoeknmkephnekaaGreatDoorMsO
import Derived.Deep.DeepCutAuto
namespace Go.Proofs.YtoeknmkephnekaaGreatDoor
open Go.RowKit Go.Cz Go.Cz.Lx Go.Cz.Fo Go.Cz.Vd
set_option linter.unusedSimpArgs false
set_option linter.unusedVariables false
attribute [local go_sem] bs_size bs_extract bs_append bs_toList
attribute [local irreducible] cList cPlan
set_option maxRecDepth 100000 in
set_option maxHeartbeats 8000000 in
theorem MeasureTexts_walk (w : World) (hs : Std w) (a : Me) (ka : Value) (ua : MIn w a ka) (b : Me) (kb : Value) (ub : MIn w b kb) :
    Calls Tryz.prog 3 #[mval a ka, mval b kb] w fun e w' => e = .returned (.bool true) ∧ Below w.heap.size w w' := by
  have HS := Lib.hid hs
  have UA := Lib.hid ua
  have UB := Lib.hid ub
  obtain ⟨y, c, rfl⟩ := ua.fm.form
  obtain ⟨y', c', rfl⟩ := ub.fm.form
  obtain ⟨n, hn⟩ : ∃ n, n = a.cond.kids.length := ⟨_, rfl⟩
  obtain ⟨n', hn'⟩ : ∃ n, n = b.cond.kids.length := ⟨_, rfl⟩
  rw [← hn] at UA ⊢
  rw [← hn'] at UB ⊢
  clear hs ua ub hn hn'
  obtain ⟨bx, hbx⟩ : ∃ bx, bx = w.heap.size := ⟨_, rfl⟩
  obtain ⟨by0, hby⟩ : ∃ b2, b2 = w.heap.size + 1 := ⟨_, rfl⟩
  obtain ⟨W1, hW1⟩ : ∃ W1, W1 = (w.alloc (mobj a (.slice y n c))).alloc (mobj b (.slice y' n' c')) := ⟨_, rfl⟩
  have HO : Hid (Owns w W1 [blk bx (mobj a (.slice y n c)), blk by0 (mobj b (.slice y' n' c'))]) := by
    have h := ((Owns.start w).box (mobj a (.slice y n c))).box (mobj b (.slice y' n' c'))
    rw [World.size_alloc] at h
    rw [hW1, hbx, hby]
    exact Lib.hid h.swap
  go_enter Tryz.func3, Tryz.ntmps3
  go_upto_region 1 with fail
  rw [← hby, ← hW1, ← hbx]
  clear hW1 hbx hby
  go_wp2_with fail
  go_at_call 9
  refine (head_c W1 (HS.out.below HO.out.base)).mono ?_
  rintro e W2 ⟨rfl, hb⟩
  replace HO := Lib.hid (HO.out.below hb)
  clear hb
  (try clear hcx c0 c1 c2 c3 c4 c5 c6 c7 c8 c9 ct cu)
  obtain ⟨bk, -⟩ := Owns.blk (HO.out)
  have hcx := lt_of_block bk
  have c0 : W2.cell? ⟨bx, 0, none⟩ = some (.string (bs a.id)) := by rw [cell_of_heap bk]; rfl
  have c1 : W2.cell? ⟨bx, 1, none⟩ = some (.string (bs a.auth)) := by rw [cell_of_heap bk]; rfl
  have c2 : W2.cell? ⟨bx, 2, none⟩ = some (.int .i64 a.kind) := by rw [cell_of_heap bk]; rfl
  have c3 : W2.cell? ⟨bx, 3, none⟩ = some (.string (bs a.target)) := by rw [cell_of_heap bk]; rfl
  have c4 : W2.cell? ⟨bx, 4, none⟩ = some (.int .i64 a.cond.op) := by rw [cell_of_heap bk]; rfl
  have c5 : W2.cell? ⟨bx, 5, none⟩ = some (.string (bs a.cond.name)) := by rw [cell_of_heap bk]; rfl
  have c6 : W2.cell? ⟨bx, 6, none⟩ = some (.int .i64 a.cond.cmp) := by rw [cell_of_heap bk]; rfl
  have c7 : W2.cell? ⟨bx, 7, none⟩ = some (.int .i64 a.cond.num) := by rw [cell_of_heap bk]; rfl
  have c8 : W2.cell? ⟨bx, 8, none⟩ = some (.slice y n c) := by rw [cell_of_heap bk]; rfl
  have c9 : W2.cell? ⟨bx, 9, none⟩ = some (.int .i64 a.fr) := by rw [cell_of_heap bk]; rfl
  have ct : W2.cell? ⟨bx, 10, none⟩ = some (.int .i64 a.un) := by rw [cell_of_heap bk]; rfl
  have cu : W2.cell? ⟨bx, 11, none⟩ = some (.int .i64 a.wi) := by rw [cell_of_heap bk]; rfl
  clear bk
  (try clear hdx d0 d1 d2 d3 d4 d5 d6 d7 d8 d9 dt du)
  obtain ⟨bk, -⟩ := Owns.blk (HO.out.pop)
  have hdx := lt_of_block bk
  have d0 : W2.cell? ⟨by0, 0, none⟩ = some (.string (bs b.id)) := by rw [cell_of_heap bk]; rfl
  have d1 : W2.cell? ⟨by0, 1, none⟩ = some (.string (bs b.auth)) := by rw [cell_of_heap bk]; rfl
  have d2 : W2.cell? ⟨by0, 2, none⟩ = some (.int .i64 b.kind) := by rw [cell_of_heap bk]; rfl
  have d3 : W2.cell? ⟨by0, 3, none⟩ = some (.string (bs b.target)) := by rw [cell_of_heap bk]; rfl
  have d4 : W2.cell? ⟨by0, 4, none⟩ = some (.int .i64 b.cond.op) := by rw [cell_of_heap bk]; rfl
  have d5 : W2.cell? ⟨by0, 5, none⟩ = some (.string (bs b.cond.name)) := by rw [cell_of_heap bk]; rfl
  have d6 : W2.cell? ⟨by0, 6, none⟩ = some (.int .i64 b.cond.cmp) := by rw [cell_of_heap bk]; rfl
  have d7 : W2.cell? ⟨by0, 7, none⟩ = some (.int .i64 b.cond.num) := by rw [cell_of_heap bk]; rfl
  have d8 : W2.cell? ⟨by0, 8, none⟩ = some (.slice y' n' c') := by rw [cell_of_heap bk]; rfl
  have d9 : W2.cell? ⟨by0, 9, none⟩ = some (.int .i64 b.fr) := by rw [cell_of_heap bk]; rfl
  have dt : W2.cell? ⟨by0, 10, none⟩ = some (.int .i64 b.un) := by rw [cell_of_heap bk]; rfl
  have du : W2.cell? ⟨by0, 11, none⟩ = some (.int .i64 b.wi) := by rw [cell_of_heap bk]; rfl
  clear bk
  go_wp2_with fail
  clear hcx c0 c1 c2 c3 c4 c5 c6 c7 c8 c9 ct cu hdx d0 d1 d2 d3 d4 d5 d6 d7 d8 d9 dt du
  have hme := me_row2 (new_heap W2 (.cells (mclM a (.slice y n c) ++ mclM b (.slice y' n' c')).toArray 26) _ rfl) ((UA.out.fm.later HO.out.base).later ((Below.refl _ _).alloc (Nat.le_refl _) _)) ((UB.out.fm.later HO.out.base).later ((Below.refl _ _).alloc (Nat.le_refl _) _))
  replace HO := Lib.hid (HO.out.alloc (.cells (mclM a (.slice y n c) ++ mclM b (.slice y' n' c')).toArray 26 (0, 0)))
  obtain ⟨W3, hW3⟩ : ∃ W, W = W2.alloc (.cells #[.string (bs a.id), .string (bs a.auth), .int .i64 a.kind, .string (bs a.target), .int .i64 a.cond.op, .string (bs a.cond.name), .int .i64 a.cond.cmp, .int .i64 a.cond.num, .slice y n c, .int .i64 a.fr, .int .i64 a.un, .int .i64 a.wi, .string (bs b.id), .string (bs b.auth), .int .i64 b.kind, .string (bs b.target), .int .i64 b.cond.op, .string (bs b.cond.name), .int .i64 b.cond.cmp, .int .i64 b.cond.num, .slice y' n' c', .int .i64 b.fr, .int .i64 b.un, .int .i64 b.wi] 26) := ⟨_, rfl⟩
  rw [← hW3]
  have hme2 : IsMeR W3 [a, b] (.slice (some ⟨W2.heap.size, 0, none⟩) 2 2) := by rw [hW3]; exact hme
  replace HO : Hid (Owns w W3 [blk bx (mobj a (.slice y n c)), blk by0 (mobj b (.slice y' n' c'))]) := by rw [hW3]; exact HO
  clear hme hW3
  go_at_call 10
  refine (fewL_c [a, b] _ W3 hme2 (by simp) (fun m hm => by
    simp only [List.mem_cons, List.not_mem_nil, or_false] at hm
    rcases hm with rfl | rfl
    · exact ⟨UA.out.len, UA.out.names⟩
    · exact ⟨UB.out.len, UB.out.names⟩)).mono ?_
  rintro e W4 ⟨rfl, hb⟩
  replace HO := Lib.hid (HO.out.below hb)
  clear hb hme2
  obtain ⟨q, hq⟩ : ∃ q, q = fewL [a, b] := ⟨_, rfl⟩
  rw [← hq]
  replace hq := Lib.hid hq
  cases q
  · go_wp2_with fail
    go_ret
    exact ⟨rfl, HO.out.base⟩
  have HA : Hid (FewM a) := Lib.hid (few_of (few2 hq.out.symm).1 UA.out)
  have HB : Hid (FewM b) := Lib.hid (few_of (few2 hq.out.symm).2 UB.out)
  clear hq
  (try clear hcx c0 c1 c2 c3 c4 c5 c6 c7 c8 c9 ct cu)
  obtain ⟨bk, -⟩ := Owns.blk (HO.out)
  have hcx := lt_of_block bk
  have c0 : W4.cell? ⟨bx, 0, none⟩ = some (.string (bs a.id)) := by rw [cell_of_heap bk]; rfl
  have c1 : W4.cell? ⟨bx, 1, none⟩ = some (.string (bs a.auth)) := by rw [cell_of_heap bk]; rfl
  have c2 : W4.cell? ⟨bx, 2, none⟩ = some (.int .i64 a.kind) := by rw [cell_of_heap bk]; rfl
  have c3 : W4.cell? ⟨bx, 3, none⟩ = some (.string (bs a.target)) := by rw [cell_of_heap bk]; rfl
  have c4 : W4.cell? ⟨bx, 4, none⟩ = some (.int .i64 a.cond.op) := by rw [cell_of_heap bk]; rfl
  have c5 : W4.cell? ⟨bx, 5, none⟩ = some (.string (bs a.cond.name)) := by rw [cell_of_heap bk]; rfl
  have c6 : W4.cell? ⟨bx, 6, none⟩ = some (.int .i64 a.cond.cmp) := by rw [cell_of_heap bk]; rfl
  have c7 : W4.cell? ⟨bx, 7, none⟩ = some (.int .i64 a.cond.num) := by rw [cell_of_heap bk]; rfl
  have c8 : W4.cell? ⟨bx, 8, none⟩ = some (.slice y n c) := by rw [cell_of_heap bk]; rfl
  have c9 : W4.cell? ⟨bx, 9, none⟩ = some (.int .i64 a.fr) := by rw [cell_of_heap bk]; rfl
  have ct : W4.cell? ⟨bx, 10, none⟩ = some (.int .i64 a.un) := by rw [cell_of_heap bk]; rfl
  have cu : W4.cell? ⟨bx, 11, none⟩ = some (.int .i64 a.wi) := by rw [cell_of_heap bk]; rfl
  clear bk
  (try clear hdx d0 d1 d2 d3 d4 d5 d6 d7 d8 d9 dt du)
  obtain ⟨bk, -⟩ := Owns.blk (HO.out.pop)
  have hdx := lt_of_block bk
  have d0 : W4.cell? ⟨by0, 0, none⟩ = some (.string (bs b.id)) := by rw [cell_of_heap bk]; rfl
  have d1 : W4.cell? ⟨by0, 1, none⟩ = some (.string (bs b.auth)) := by rw [cell_of_heap bk]; rfl
  have d2 : W4.cell? ⟨by0, 2, none⟩ = some (.int .i64 b.kind) := by rw [cell_of_heap bk]; rfl
  have d3 : W4.cell? ⟨by0, 3, none⟩ = some (.string (bs b.target)) := by rw [cell_of_heap bk]; rfl
  have d4 : W4.cell? ⟨by0, 4, none⟩ = some (.int .i64 b.cond.op) := by rw [cell_of_heap bk]; rfl
  have d5 : W4.cell? ⟨by0, 5, none⟩ = some (.string (bs b.cond.name)) := by rw [cell_of_heap bk]; rfl
  have d6 : W4.cell? ⟨by0, 6, none⟩ = some (.int .i64 b.cond.cmp) := by rw [cell_of_heap bk]; rfl
  have d7 : W4.cell? ⟨by0, 7, none⟩ = some (.int .i64 b.cond.num) := by rw [cell_of_heap bk]; rfl
  have d8 : W4.cell? ⟨by0, 8, none⟩ = some (.slice y' n' c') := by rw [cell_of_heap bk]; rfl
  have d9 : W4.cell? ⟨by0, 9, none⟩ = some (.int .i64 b.fr) := by rw [cell_of_heap bk]; rfl
  have dt : W4.cell? ⟨by0, 10, none⟩ = some (.int .i64 b.un) := by rw [cell_of_heap bk]; rfl
  have du : W4.cell? ⟨by0, 11, none⟩ = some (.int .i64 b.wi) := by rw [cell_of_heap bk]; rfl
  clear bk
  go_wp2_with fail
  clear hcx c0 c1 c2 c3 c4 c5 c6 c7 c8 c9 ct cu hdx d0 d1 d2 d3 d4 d5 d6 d7 d8 d9 dt du
  go_at_call 11
  refine (mText_c a _ W4 (HS.out.below HO.out.base) (UA.out.fm.later HO.out.base) HA.out.len HA.out.cond).mono ?_
  rintro e W5 ⟨rfl, hb⟩
  replace HO := Lib.hid (HO.out.below hb)
  clear hb
  obtain ⟨S1, hS1⟩ : ∃ s, s = (textM a).1 := ⟨_, rfl⟩
  obtain ⟨E1, hE1⟩ : ∃ s, s = (textM a).2 := ⟨_, rfl⟩
  rw [← hS1, ← hE1]
  replace hS1 := Lib.hid hS1
  replace hE1 := Lib.hid hE1
  (try clear hcx c0 c1 c2 c3 c4 c5 c6 c7 c8 c9 ct cu)
  obtain ⟨bk, -⟩ := Owns.blk (HO.out)
  have hcx := lt_of_block bk
  have c0 : W5.cell? ⟨bx, 0, none⟩ = some (.string (bs a.id)) := by rw [cell_of_heap bk]; rfl
  have c1 : W5.cell? ⟨bx, 1, none⟩ = some (.string (bs a.auth)) := by rw [cell_of_heap bk]; rfl
  have c2 : W5.cell? ⟨bx, 2, none⟩ = some (.int .i64 a.kind) := by rw [cell_of_heap bk]; rfl
  have c3 : W5.cell? ⟨bx, 3, none⟩ = some (.string (bs a.target)) := by rw [cell_of_heap bk]; rfl
  have c4 : W5.cell? ⟨bx, 4, none⟩ = some (.int .i64 a.cond.op) := by rw [cell_of_heap bk]; rfl
  have c5 : W5.cell? ⟨bx, 5, none⟩ = some (.string (bs a.cond.name)) := by rw [cell_of_heap bk]; rfl
  have c6 : W5.cell? ⟨bx, 6, none⟩ = some (.int .i64 a.cond.cmp) := by rw [cell_of_heap bk]; rfl
  have c7 : W5.cell? ⟨bx, 7, none⟩ = some (.int .i64 a.cond.num) := by rw [cell_of_heap bk]; rfl
  have c8 : W5.cell? ⟨bx, 8, none⟩ = some (.slice y n c) := by rw [cell_of_heap bk]; rfl
  have c9 : W5.cell? ⟨bx, 9, none⟩ = some (.int .i64 a.fr) := by rw [cell_of_heap bk]; rfl
  have ct : W5.cell? ⟨bx, 10, none⟩ = some (.int .i64 a.un) := by rw [cell_of_heap bk]; rfl
  have cu : W5.cell? ⟨bx, 11, none⟩ = some (.int .i64 a.wi) := by rw [cell_of_heap bk]; rfl
  clear bk
  (try clear hdx d0 d1 d2 d3 d4 d5 d6 d7 d8 d9 dt du)
  obtain ⟨bk, -⟩ := Owns.blk (HO.out.pop)
  have hdx := lt_of_block bk
  have d0 : W5.cell? ⟨by0, 0, none⟩ = some (.string (bs b.id)) := by rw [cell_of_heap bk]; rfl
  have d1 : W5.cell? ⟨by0, 1, none⟩ = some (.string (bs b.auth)) := by rw [cell_of_heap bk]; rfl
  have d2 : W5.cell? ⟨by0, 2, none⟩ = some (.int .i64 b.kind) := by rw [cell_of_heap bk]; rfl
  have d3 : W5.cell? ⟨by0, 3, none⟩ = some (.string (bs b.target)) := by rw [cell_of_heap bk]; rfl
  have d4 : W5.cell? ⟨by0, 4, none⟩ = some (.int .i64 b.cond.op) := by rw [cell_of_heap bk]; rfl
  have d5 : W5.cell? ⟨by0, 5, none⟩ = some (.string (bs b.cond.name)) := by rw [cell_of_heap bk]; rfl
  have d6 : W5.cell? ⟨by0, 6, none⟩ = some (.int .i64 b.cond.cmp) := by rw [cell_of_heap bk]; rfl
  have d7 : W5.cell? ⟨by0, 7, none⟩ = some (.int .i64 b.cond.num) := by rw [cell_of_heap bk]; rfl
  have d8 : W5.cell? ⟨by0, 8, none⟩ = some (.slice y' n' c') := by rw [cell_of_heap bk]; rfl
  have d9 : W5.cell? ⟨by0, 9, none⟩ = some (.int .i64 b.fr) := by rw [cell_of_heap bk]; rfl
  have dt : W5.cell? ⟨by0, 10, none⟩ = some (.int .i64 b.un) := by rw [cell_of_heap bk]; rfl
  have du : W5.cell? ⟨by0, 11, none⟩ = some (.int .i64 b.wi) := by rw [cell_of_heap bk]; rfl
  clear bk
  go_wp2_with fail
  clear hcx c0 c1 c2 c3 c4 c5 c6 c7 c8 c9 ct cu hdx d0 d1 d2 d3 d4 d5 d6 d7 d8 d9 dt du
  go_at_call 11
  refine (mText_c b _ W5 (HS.out.below HO.out.base) (UB.out.fm.later HO.out.base) HB.out.len HB.out.cond).mono ?_
  rintro e W6 ⟨rfl, hb⟩
  replace HO := Lib.hid (HO.out.below hb)
  clear hb
  obtain ⟨S2, hS2⟩ : ∃ s, s = (textM b).1 := ⟨_, rfl⟩
  obtain ⟨E2, hE2⟩ : ∃ s, s = (textM b).2 := ⟨_, rfl⟩
  rw [← hS2, ← hE2]
  replace hS2 := Lib.hid hS2
  replace hE2 := Lib.hid hE2
  by_cases h1 : E1 = 0
  rotate_left
  · obtain ⟨k1, k2⟩ : S1 = [] ∧ E1 = 1 := by
      rw [hS1.out, hE1.out]
      rw [hE1.out] at h1
      unfold textM at h1 ⊢
      split
      · rename_i h; rw [if_pos h] at h1; exact absurd rfl h1
      · exact ⟨rfl, rfl⟩
    clear hS1 hE1 h1 hS2 hE2
    subst k1 k2
    go_wp2_with fail
    go_ret
    exact ⟨rfl, HO.out.base⟩
  subst h1
  have HP : Hid (parseM S1 = (a, 0, 0)) := by rw [hS1.out]; exact Lib.hid (text_parse hE1.out.symm)
  have hl1 : S1.length ≤ 13000 := by rw [hS1.out]; exact text_len
  have hl2 : S2.length ≤ 13000 := by rw [hS2.out]; exact text_len
  have HSame : Hid (E2 = 0 → (S1 = S2 ↔ a = b)) := Lib.hid fun h => by rw [hS1.out, hS2.out]; exact text_same hE1.out.symm (by rw [← hE2.out, h])
  clear hS1 hE1 hS2 hE2
  go_wp2_with fail
  go_at_call 12
  refine (mParse_c S1 W6 (by omega)).mono ?_
  rintro e W7 ⟨kv, he, hf, hb⟩
  rw [HP.out] at he hf
  subst he
  obtain ⟨yk, mk, rfl⟩ := hf.form
  have h2 := (HO.out.below hb).box (mobj a (.slice yk a.cond.kids.length mk))
  have HF : Hid (IsFm (fun _ => True) W7 a.cond (.slice yk a.cond.kids.length mk)) := Lib.hid (hf.mono fun _ _ _ => trivial)
  clear hb hf
  simp only at h2 HF ⊢
  obtain ⟨bz, hbz⟩ : ∃ b, b = W7.heap.size := ⟨_, rfl⟩
  obtain ⟨nk, hnk⟩ : ∃ k, k = a.cond.kids.length := ⟨_, rfl⟩
  rw [← hnk] at h2 HF ⊢
  obtain ⟨W8, hW⟩ : ∃ W, W = W7.alloc (mobj a (.slice yk nk mk)) := ⟨_, rfl⟩
  rw [← hW, ← hbz] at h2
  replace HF : Hid (IsFm (fun _ => True) W8 a.cond (.slice yk nk mk)) := by rw [hW]; exact Lib.hid (HF.out.later ((Below.refl _ _).alloc (Nat.le_refl _) _))
  dsimp only [mobj] at hW
  replace HO := Lib.hid (h2.re [1, 2, 0])
  clear h2 hnk
  go_upto_region 9 with fail
  rw [← hbz, ← hW]
  clear hbz hW
  (try clear hcx c0 c1 c2 c3 c4 c5 c6 c7 c8 c9 ct cu)
  obtain ⟨bk, -⟩ := Owns.blk (HO.out)
  have hcx := lt_of_block bk
  have c0 : W8.cell? ⟨bx, 0, none⟩ = some (.string (bs a.id)) := by rw [cell_of_heap bk]; rfl
  have c1 : W8.cell? ⟨bx, 1, none⟩ = some (.string (bs a.auth)) := by rw [cell_of_heap bk]; rfl
  have c2 : W8.cell? ⟨bx, 2, none⟩ = some (.int .i64 a.kind) := by rw [cell_of_heap bk]; rfl
  have c3 : W8.cell? ⟨bx, 3, none⟩ = some (.string (bs a.target)) := by rw [cell_of_heap bk]; rfl
  have c4 : W8.cell? ⟨bx, 4, none⟩ = some (.int .i64 a.cond.op) := by rw [cell_of_heap bk]; rfl
  have c5 : W8.cell? ⟨bx, 5, none⟩ = some (.string (bs a.cond.name)) := by rw [cell_of_heap bk]; rfl
  have c6 : W8.cell? ⟨bx, 6, none⟩ = some (.int .i64 a.cond.cmp) := by rw [cell_of_heap bk]; rfl
  have c7 : W8.cell? ⟨bx, 7, none⟩ = some (.int .i64 a.cond.num) := by rw [cell_of_heap bk]; rfl
  have c8 : W8.cell? ⟨bx, 8, none⟩ = some (.slice y n c) := by rw [cell_of_heap bk]; rfl
  have c9 : W8.cell? ⟨bx, 9, none⟩ = some (.int .i64 a.fr) := by rw [cell_of_heap bk]; rfl
  have ct : W8.cell? ⟨bx, 10, none⟩ = some (.int .i64 a.un) := by rw [cell_of_heap bk]; rfl
  have cu : W8.cell? ⟨bx, 11, none⟩ = some (.int .i64 a.wi) := by rw [cell_of_heap bk]; rfl
  clear bk
  (try clear hdx d0 d1 d2 d3 d4 d5 d6 d7 d8 d9 dt du)
  obtain ⟨bk, -⟩ := Owns.blk (HO.out.pop)
  have hdx := lt_of_block bk
  have d0 : W8.cell? ⟨by0, 0, none⟩ = some (.string (bs b.id)) := by rw [cell_of_heap bk]; rfl
  have d1 : W8.cell? ⟨by0, 1, none⟩ = some (.string (bs b.auth)) := by rw [cell_of_heap bk]; rfl
  have d2 : W8.cell? ⟨by0, 2, none⟩ = some (.int .i64 b.kind) := by rw [cell_of_heap bk]; rfl
  have d3 : W8.cell? ⟨by0, 3, none⟩ = some (.string (bs b.target)) := by rw [cell_of_heap bk]; rfl
  have d4 : W8.cell? ⟨by0, 4, none⟩ = some (.int .i64 b.cond.op) := by rw [cell_of_heap bk]; rfl
  have d5 : W8.cell? ⟨by0, 5, none⟩ = some (.string (bs b.cond.name)) := by rw [cell_of_heap bk]; rfl
  have d6 : W8.cell? ⟨by0, 6, none⟩ = some (.int .i64 b.cond.cmp) := by rw [cell_of_heap bk]; rfl
  have d7 : W8.cell? ⟨by0, 7, none⟩ = some (.int .i64 b.cond.num) := by rw [cell_of_heap bk]; rfl
  have d8 : W8.cell? ⟨by0, 8, none⟩ = some (.slice y' n' c') := by rw [cell_of_heap bk]; rfl
  have d9 : W8.cell? ⟨by0, 9, none⟩ = some (.int .i64 b.fr) := by rw [cell_of_heap bk]; rfl
  have dt : W8.cell? ⟨by0, 10, none⟩ = some (.int .i64 b.un) := by rw [cell_of_heap bk]; rfl
  have du : W8.cell? ⟨by0, 11, none⟩ = some (.int .i64 b.wi) := by rw [cell_of_heap bk]; rfl
  clear bk
  (try clear hzx z0 z1 z2 z3 z4 z5 z6 z7 z8 z9 zt zu)
  obtain ⟨bk, -⟩ := Owns.blk (HO.out.pop.pop)
  have hzx := lt_of_block bk
  have z0 : W8.cell? ⟨bz, 0, none⟩ = some (.string (bs a.id)) := by rw [cell_of_heap bk]; rfl
  have z1 : W8.cell? ⟨bz, 1, none⟩ = some (.string (bs a.auth)) := by rw [cell_of_heap bk]; rfl
  have z2 : W8.cell? ⟨bz, 2, none⟩ = some (.int .i64 a.kind) := by rw [cell_of_heap bk]; rfl
  have z3 : W8.cell? ⟨bz, 3, none⟩ = some (.string (bs a.target)) := by rw [cell_of_heap bk]; rfl
  have z4 : W8.cell? ⟨bz, 4, none⟩ = some (.int .i64 a.cond.op) := by rw [cell_of_heap bk]; rfl
  have z5 : W8.cell? ⟨bz, 5, none⟩ = some (.string (bs a.cond.name)) := by rw [cell_of_heap bk]; rfl
  have z6 : W8.cell? ⟨bz, 6, none⟩ = some (.int .i64 a.cond.cmp) := by rw [cell_of_heap bk]; rfl
  have z7 : W8.cell? ⟨bz, 7, none⟩ = some (.int .i64 a.cond.num) := by rw [cell_of_heap bk]; rfl
  have z8 : W8.cell? ⟨bz, 8, none⟩ = some (.slice yk nk mk) := by rw [cell_of_heap bk]; rfl
  have z9 : W8.cell? ⟨bz, 9, none⟩ = some (.int .i64 a.fr) := by rw [cell_of_heap bk]; rfl
  have zt : W8.cell? ⟨bz, 10, none⟩ = some (.int .i64 a.un) := by rw [cell_of_heap bk]; rfl
  have zu : W8.cell? ⟨bz, 11, none⟩ = some (.int .i64 a.wi) := by rw [cell_of_heap bk]; rfl
  clear bk
  go_wp2_with fail
  clear hcx c0 c1 c2 c3 c4 c5 c6 c7 c8 c9 ct cu hdx d0 d1 d2 d3 d4 d5 d6 d7 d8 d9 dt du
  clear hzx z0 z1 z2 z3 z4 z5 z6 z7 z8 z9 zt zu
  go_at_call 13
  refine (mSame_c a a _ _ W8 (HS.out.below HO.out.base) HF.out (UA.out.fm.later HO.out.base) HA.out.ints HA.out.ints HA.out.size HA.out.size).mono ?_
  rintro e W9 ⟨rfl, hb⟩
  replace HO := Lib.hid (HO.out.below hb)
  clear hb HF HP
  rw [sameM_iff.2 rfl]
  by_cases h2 : E2 = 0
  rotate_left
  · have h2' : ((E2 : Int) != 0) = true := by simpa using h2
    clear h2
    go_wp2_with fail
    go_ret
    exact ⟨rfl, HO.out.base⟩
  have HQ : Hid ((S1 == S2) = sameM a b) := by
    show _ = _
    rw [Bool.eq_iff_iff, sameM_iff, beq_iff_eq]
    exact HSame.out h2
  subst h2
  clear HSame
  (try clear hcx c0 c1 c2 c3 c4 c5 c6 c7 c8 c9 ct cu)
  obtain ⟨bk, -⟩ := Owns.blk (HO.out)
  have hcx := lt_of_block bk
  have c0 : W9.cell? ⟨bx, 0, none⟩ = some (.string (bs a.id)) := by rw [cell_of_heap bk]; rfl
  have c1 : W9.cell? ⟨bx, 1, none⟩ = some (.string (bs a.auth)) := by rw [cell_of_heap bk]; rfl
  have c2 : W9.cell? ⟨bx, 2, none⟩ = some (.int .i64 a.kind) := by rw [cell_of_heap bk]; rfl
  have c3 : W9.cell? ⟨bx, 3, none⟩ = some (.string (bs a.target)) := by rw [cell_of_heap bk]; rfl
  have c4 : W9.cell? ⟨bx, 4, none⟩ = some (.int .i64 a.cond.op) := by rw [cell_of_heap bk]; rfl
  have c5 : W9.cell? ⟨bx, 5, none⟩ = some (.string (bs a.cond.name)) := by rw [cell_of_heap bk]; rfl
  have c6 : W9.cell? ⟨bx, 6, none⟩ = some (.int .i64 a.cond.cmp) := by rw [cell_of_heap bk]; rfl
  have c7 : W9.cell? ⟨bx, 7, none⟩ = some (.int .i64 a.cond.num) := by rw [cell_of_heap bk]; rfl
  have c8 : W9.cell? ⟨bx, 8, none⟩ = some (.slice y n c) := by rw [cell_of_heap bk]; rfl
  have c9 : W9.cell? ⟨bx, 9, none⟩ = some (.int .i64 a.fr) := by rw [cell_of_heap bk]; rfl
  have ct : W9.cell? ⟨bx, 10, none⟩ = some (.int .i64 a.un) := by rw [cell_of_heap bk]; rfl
  have cu : W9.cell? ⟨bx, 11, none⟩ = some (.int .i64 a.wi) := by rw [cell_of_heap bk]; rfl
  clear bk
  (try clear hdx d0 d1 d2 d3 d4 d5 d6 d7 d8 d9 dt du)
  obtain ⟨bk, -⟩ := Owns.blk (HO.out.pop)
  have hdx := lt_of_block bk
  have d0 : W9.cell? ⟨by0, 0, none⟩ = some (.string (bs b.id)) := by rw [cell_of_heap bk]; rfl
  have d1 : W9.cell? ⟨by0, 1, none⟩ = some (.string (bs b.auth)) := by rw [cell_of_heap bk]; rfl
  have d2 : W9.cell? ⟨by0, 2, none⟩ = some (.int .i64 b.kind) := by rw [cell_of_heap bk]; rfl
  have d3 : W9.cell? ⟨by0, 3, none⟩ = some (.string (bs b.target)) := by rw [cell_of_heap bk]; rfl
  have d4 : W9.cell? ⟨by0, 4, none⟩ = some (.int .i64 b.cond.op) := by rw [cell_of_heap bk]; rfl
  have d5 : W9.cell? ⟨by0, 5, none⟩ = some (.string (bs b.cond.name)) := by rw [cell_of_heap bk]; rfl
  have d6 : W9.cell? ⟨by0, 6, none⟩ = some (.int .i64 b.cond.cmp) := by rw [cell_of_heap bk]; rfl
  have d7 : W9.cell? ⟨by0, 7, none⟩ = some (.int .i64 b.cond.num) := by rw [cell_of_heap bk]; rfl
  have d8 : W9.cell? ⟨by0, 8, none⟩ = some (.slice y' n' c') := by rw [cell_of_heap bk]; rfl
  have d9 : W9.cell? ⟨by0, 9, none⟩ = some (.int .i64 b.fr) := by rw [cell_of_heap bk]; rfl
  have dt : W9.cell? ⟨by0, 10, none⟩ = some (.int .i64 b.un) := by rw [cell_of_heap bk]; rfl
  have du : W9.cell? ⟨by0, 11, none⟩ = some (.int .i64 b.wi) := by rw [cell_of_heap bk]; rfl
  clear bk
  go_wp2_with fail
  clear hcx c0 c1 c2 c3 c4 c5 c6 c7 c8 c9 ct cu hdx d0 d1 d2 d3 d4 d5 d6 d7 d8 d9 dt du
  go_at_call 13
  refine (mSame_c a b _ _ W9 (HS.out.below HO.out.base) (UA.out.fm.later HO.out.base) (UB.out.fm.later HO.out.base) HA.out.ints HB.out.ints HA.out.size HB.out.size).mono ?_
  rintro e W10 ⟨rfl, hb⟩
  replace HO := Lib.hid (HO.out.below hb)
  clear hb
  go_wp2_with fail
  go_ret
  refine ⟨congrArg (fun b => Ending.returned (Value.bool b)) ?_, HO.out.base⟩
  rw [← HQ.out]
  simp
end Go.Proofs.YtoeknmkephnekaaGreatDoor
