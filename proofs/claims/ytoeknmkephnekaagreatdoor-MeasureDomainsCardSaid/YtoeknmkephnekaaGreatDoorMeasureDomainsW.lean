/-
  'MeasureDomains' returns true.
-/
import Derived.Test.YtoeknmkephnekaaGreatDoorMsH
import Derived.Test.YtoeknmkephnekaaGreatDoorMsDom
import Derived.Deep.DeepCutAuto
namespace Go.Proofs.YtoeknmkephnekaaGreatDoor
open Go.RowKit Go.Cz Go.Cz.Lx Go.Cz.Fo Go.Cz.Vd
set_option linter.unusedSimpArgs false
set_option linter.unusedVariables false
attribute [local go_sem] bs_size bs_extract bs_append bs_toList
attribute [local irreducible] cList cPlan
set_option maxRecDepth 100000 in
set_option maxHeartbeats 8000000 in
theorem MeasureDomains_walk (w : World) (hs : Std w) (a : Me) (ka : Value) (ua : MIn w a ka) (d : List Fact) (vd : Value) (ud : DIn w d vd) (x : Fact) (ux : x.name.length ≤ 140737488355328) :
    Calls Tryz.prog 7 #[mval a ka, .agg #[vd], .agg #[.string (bs x.name), .int .i64 x.kind, .int .i64 x.lo, .int .i64 x.hi]] w fun e w' => e = .returned (.bool true) ∧ Below w.heap.size w w' := by
  have HS := Lib.hid hs
  have UA := Lib.hid ua
  have UD := Lib.hid ud
  obtain ⟨y, c, rfl⟩ := ua.fm.form
  obtain ⟨n, hn⟩ : ∃ n, n = a.cond.kids.length := ⟨_, rfl⟩
  rw [← hn] at UA ⊢
  obtain ⟨yd, md, rfl⟩ := ud.dom.form
  obtain ⟨nd, hnd⟩ : ∃ n, n = d.length := ⟨_, rfl⟩
  rw [← hnd] at UD ⊢
  have HND := Lib.hid hnd
  clear hs ua hn ud hnd
  obtain ⟨bx, hbx⟩ : ∃ bx, bx = w.heap.size := ⟨_, rfl⟩
  obtain ⟨by0, hby⟩ : ∃ b2, b2 = bx + 1 := ⟨_, rfl⟩
  obtain ⟨bf, hbf⟩ : ∃ b2, b2 = by0 + 1 := ⟨_, rfl⟩
  obtain ⟨W1, hW1⟩ : ∃ W1, W1 = ((w.alloc (mobj a (.slice y n c))).alloc (.cells #[.slice yd nd md] 45)).alloc (.cells #[.string (bs x.name), .int .i64 x.kind, .int .i64 x.lo, .int .i64 x.hi] 47) := ⟨_, rfl⟩
  have HO : Hid (Owns w W1 [blk bx (mobj a (.slice y n c)), blk by0 (.cells #[.slice yd nd md] 45 (0, 0)), blk bf (.cells #[.string (bs x.name), .int .i64 x.kind, .int .i64 x.lo, .int .i64 x.hi] 47 (0, 0))]) := by
    have h := (((Owns.start w).box (mobj a (.slice y n c))).box (.cells #[.slice yd nd md] 45 (0, 0))).box (.cells #[.string (bs x.name), .int .i64 x.kind, .int .i64 x.lo, .int .i64 x.hi] 47 (0, 0))
    simp only [World.size_alloc] at h
    rw [hW1, hbf, hby, hbx]
    exact Lib.hid (h.re [2, 1, 0])
  go_enter Tryz.func7, Tryz.ntmps7
  go_upto_region 1 with fail
  rw [← hbx, ← hby, ← hbf, ← hW1]
  clear hW1 hbx hby hbf
  go_wp2_with fail
  go_at_call 9
  refine (head_c W1 (HS.out.below HO.out.base)).mono ?_
  rintro e W2 ⟨rfl, hb⟩
  replace HO := Lib.hid (HO.out.below hb)
  clear hb
  (try clear hcx c0 c1 c2 c3 c4 c5 c6 c7 c8 c9 ct cu)
  obtain ⟨bk, -⟩ := Owns.blk (HO.out)
  have hcx := lt_of_block bk
  have c0 : W2.cell? ⟨bx, 0, none⟩ = some (.string (bs a.id)) := by rw [cell_of_heap bk]; rfl
  have c1 : W2.cell? ⟨bx, 1, none⟩ = some (.string (bs a.auth)) := by rw [cell_of_heap bk]; rfl
  have c2 : W2.cell? ⟨bx, 2, none⟩ = some (.int .i64 a.kind) := by rw [cell_of_heap bk]; rfl
  have c3 : W2.cell? ⟨bx, 3, none⟩ = some (.string (bs a.target)) := by rw [cell_of_heap bk]; rfl
  have c4 : W2.cell? ⟨bx, 4, none⟩ = some (.int .i64 a.cond.op) := by rw [cell_of_heap bk]; rfl
  have c5 : W2.cell? ⟨bx, 5, none⟩ = some (.string (bs a.cond.name)) := by rw [cell_of_heap bk]; rfl
  have c6 : W2.cell? ⟨bx, 6, none⟩ = some (.int .i64 a.cond.cmp) := by rw [cell_of_heap bk]; rfl
  have c7 : W2.cell? ⟨bx, 7, none⟩ = some (.int .i64 a.cond.num) := by rw [cell_of_heap bk]; rfl
  have c8 : W2.cell? ⟨bx, 8, none⟩ = some (.slice y n c) := by rw [cell_of_heap bk]; rfl
  have c9 : W2.cell? ⟨bx, 9, none⟩ = some (.int .i64 a.fr) := by rw [cell_of_heap bk]; rfl
  have ct : W2.cell? ⟨bx, 10, none⟩ = some (.int .i64 a.un) := by rw [cell_of_heap bk]; rfl
  have cu : W2.cell? ⟨bx, 11, none⟩ = some (.int .i64 a.wi) := by rw [cell_of_heap bk]; rfl
  clear bk
  go_wp2_with fail
  clear hcx c0 c1 c2 c3 c4 c5 c6 c7 c8 c9 ct cu
  have hme := me_row1 (new_heap W2 (.cells (mclM a (.slice y n c)).toArray 26) _ rfl) ((UA.out.fm.later HO.out.base).later ((Below.refl _ _).alloc (Nat.le_refl _) _))
  replace HO := Lib.hid (HO.out.alloc (.cells (mclM a (.slice y n c)).toArray 26 (0, 0)))
  obtain ⟨W3, hW3⟩ : ∃ W, W = W2.alloc (.cells #[.string (bs a.id), .string (bs a.auth), .int .i64 a.kind, .string (bs a.target), .int .i64 a.cond.op, .string (bs a.cond.name), .int .i64 a.cond.cmp, .int .i64 a.cond.num, .slice y n c, .int .i64 a.fr, .int .i64 a.un, .int .i64 a.wi] 26) := ⟨_, rfl⟩
  rw [← hW3]
  have hme2 : IsMeR W3 [a] (.slice (some ⟨W2.heap.size, 0, none⟩) 1 1) := by rw [hW3]; exact hme
  have HO3 : Hid (Owns w W3 [blk bx (mobj a (.slice y n c)), blk by0 (.cells #[.slice yd nd md] 45 (0, 0)), blk bf (.cells #[.string (bs x.name), .int .i64 x.kind, .int .i64 x.lo, .int .i64 x.hi] 47 (0, 0))]) := by rw [hW3]; exact HO
  replace HO := HO3
  clear hme hW3 HO3
  go_at_call 10
  refine (fewL_c [a] _ W3 hme2 (by simp) (fun m hm => by
    simp only [List.mem_cons, List.not_mem_nil, or_false] at hm
    subst hm
    exact ⟨UA.out.len, UA.out.names⟩)).mono ?_
  rintro e W4 ⟨rfl, hb⟩
  replace HO := Lib.hid (HO.out.below hb)
  clear hb hme2
  obtain ⟨q, hq⟩ : ∃ q, q = fewL [a] := ⟨_, rfl⟩
  rw [← hq]
  replace hq := Lib.hid hq
  cases q
  · go_wp2_with fail
    go_ret
    exact ⟨rfl, HO.out.base⟩
  have HA : Hid (FewM a) := Lib.hid (few_of (few1 hq.out.symm) UA.out)
  clear hq
  obtain ⟨bk, -⟩ := Owns.blk (HO.out.pop)
  have hdx := lt_of_block bk
  have d0 := cell_of_heap bk (i := 0)
  simp only [List.getElem?_toArray, List.getElem?_cons_succ, List.getElem?_cons_zero] at d0
  clear bk
  go_wp2_with fail
  clear hdx d0
  go_at_call 16
  refine (few24_c d _ W4 (UD.out.dom.later HO.out.base) UD.out.len UD.out.names).mono ?_
  rintro e W5 ⟨rfl, hb⟩
  replace HO := Lib.hid (HO.out.below hb)
  clear hb
  obtain ⟨q, hq⟩ : ∃ q, q = few24 d := ⟨_, rfl⟩
  rw [← hq]
  replace hq := Lib.hid hq
  cases q
  · go_wp2_with fail
    go_ret
    exact ⟨rfl, HO.out.base⟩
  have HL : Hid (d.length ≤ 70) := by
    have h := hq.out
    unfold few24 at h
    have h2 := h.symm
    rw [Bool.and_eq_true, decide_eq_true_eq] at h2
    exact Lib.hid h2.2
  have HDo : Hid (DoLen d) := Lib.hid ⟨by have := HL.out; omega, UD.out.names⟩
  clear hq
  obtain ⟨bk, -⟩ := Owns.blk (HO.out.pop.pop)
  have hfx := lt_of_block bk
  have f0 := cell_of_heap bk (i := 0)
  have f1 := cell_of_heap bk (i := 1)
  have f2 := cell_of_heap bk (i := 2)
  have f3 := cell_of_heap bk (i := 3)
  simp only [List.getElem?_toArray, List.getElem?_cons_succ, List.getElem?_cons_zero] at f0 f1 f2 f3
  clear bk
  by_cases hx : x.name.length ≤ 100
  rotate_left
  · have hx' : (100 : Int) < (x.name.length : Int) := by omega
    clear hx
    go_wp2_with fail
    go_ret
    exact ⟨rfl, HO.out.base⟩
  have hx' : ¬ (100 : Int) < (x.name.length : Int) := by omega
  (try clear hcx c0 c1 c2 c3 c4 c5 c6 c7 c8 c9 ct cu)
  obtain ⟨bk, -⟩ := Owns.blk (HO.out)
  have hcx := lt_of_block bk
  have c0 : W5.cell? ⟨bx, 0, none⟩ = some (.string (bs a.id)) := by rw [cell_of_heap bk]; rfl
  have c1 : W5.cell? ⟨bx, 1, none⟩ = some (.string (bs a.auth)) := by rw [cell_of_heap bk]; rfl
  have c2 : W5.cell? ⟨bx, 2, none⟩ = some (.int .i64 a.kind) := by rw [cell_of_heap bk]; rfl
  have c3 : W5.cell? ⟨bx, 3, none⟩ = some (.string (bs a.target)) := by rw [cell_of_heap bk]; rfl
  have c4 : W5.cell? ⟨bx, 4, none⟩ = some (.int .i64 a.cond.op) := by rw [cell_of_heap bk]; rfl
  have c5 : W5.cell? ⟨bx, 5, none⟩ = some (.string (bs a.cond.name)) := by rw [cell_of_heap bk]; rfl
  have c6 : W5.cell? ⟨bx, 6, none⟩ = some (.int .i64 a.cond.cmp) := by rw [cell_of_heap bk]; rfl
  have c7 : W5.cell? ⟨bx, 7, none⟩ = some (.int .i64 a.cond.num) := by rw [cell_of_heap bk]; rfl
  have c8 : W5.cell? ⟨bx, 8, none⟩ = some (.slice y n c) := by rw [cell_of_heap bk]; rfl
  have c9 : W5.cell? ⟨bx, 9, none⟩ = some (.int .i64 a.fr) := by rw [cell_of_heap bk]; rfl
  have ct : W5.cell? ⟨bx, 10, none⟩ = some (.int .i64 a.un) := by rw [cell_of_heap bk]; rfl
  have cu : W5.cell? ⟨bx, 11, none⟩ = some (.int .i64 a.wi) := by rw [cell_of_heap bk]; rfl
  clear bk
  obtain ⟨bk, -⟩ := Owns.blk (HO.out.pop)
  have hdx := lt_of_block bk
  have d0 := cell_of_heap bk (i := 0)
  simp only [List.getElem?_toArray, List.getElem?_cons_succ, List.getElem?_cons_zero] at d0
  clear bk
  go_wp2_with fail
  clear hcx c0 c1 c2 c3 c4 c5 c6 c7 c8 c9 ct cu
  clear hdx d0
  clear hfx f0 f1 f2 f3
  clear hx'
  go_at_call 17
  refine (validM_c d _ a _ W5 (UD.out.dom.later HO.out.base) (UA.out.fm.later HO.out.base) HDo.out HA.out.len HA.out.cond).mono ?_
  rintro e W6 ⟨rfl, hb⟩
  replace HO := Lib.hid (HO.out.below hb)
  clear hb
  obtain ⟨V, hV⟩ : ∃ V, V = validM d a := ⟨_, rfl⟩
  rw [← hV]
  replace hV := Lib.hid hV
  (try clear hcx c0 c1 c2 c3 c4 c5 c6 c7 c8 c9 ct cu)
  obtain ⟨bk, -⟩ := Owns.blk (HO.out)
  have hcx := lt_of_block bk
  have c0 : W6.cell? ⟨bx, 0, none⟩ = some (.string (bs a.id)) := by rw [cell_of_heap bk]; rfl
  have c1 : W6.cell? ⟨bx, 1, none⟩ = some (.string (bs a.auth)) := by rw [cell_of_heap bk]; rfl
  have c2 : W6.cell? ⟨bx, 2, none⟩ = some (.int .i64 a.kind) := by rw [cell_of_heap bk]; rfl
  have c3 : W6.cell? ⟨bx, 3, none⟩ = some (.string (bs a.target)) := by rw [cell_of_heap bk]; rfl
  have c4 : W6.cell? ⟨bx, 4, none⟩ = some (.int .i64 a.cond.op) := by rw [cell_of_heap bk]; rfl
  have c5 : W6.cell? ⟨bx, 5, none⟩ = some (.string (bs a.cond.name)) := by rw [cell_of_heap bk]; rfl
  have c6 : W6.cell? ⟨bx, 6, none⟩ = some (.int .i64 a.cond.cmp) := by rw [cell_of_heap bk]; rfl
  have c7 : W6.cell? ⟨bx, 7, none⟩ = some (.int .i64 a.cond.num) := by rw [cell_of_heap bk]; rfl
  have c8 : W6.cell? ⟨bx, 8, none⟩ = some (.slice y n c) := by rw [cell_of_heap bk]; rfl
  have c9 : W6.cell? ⟨bx, 9, none⟩ = some (.int .i64 a.fr) := by rw [cell_of_heap bk]; rfl
  have ct : W6.cell? ⟨bx, 10, none⟩ = some (.int .i64 a.un) := by rw [cell_of_heap bk]; rfl
  have cu : W6.cell? ⟨bx, 11, none⟩ = some (.int .i64 a.wi) := by rw [cell_of_heap bk]; rfl
  clear bk
  go_wp2_with fail
  clear hcx c0 c1 c2 c3 c4 c5 c6 c7 c8 c9 ct cu
  go_at_call 11
  refine (mText_c a _ W6 (HS.out.below HO.out.base) (UA.out.fm.later HO.out.base) HA.out.len HA.out.cond).mono ?_
  rintro e W7 ⟨rfl, hb⟩
  replace HO := Lib.hid (HO.out.below hb)
  clear hb
  obtain ⟨S, hS⟩ : ∃ V, V = (textM a).1 := ⟨_, rfl⟩
  obtain ⟨F, hF⟩ : ∃ V, V = (textM a).2 := ⟨_, rfl⟩
  rw [← hS, ← hF]
  replace hF := Lib.hid hF
  have HVT : Hid (V = 0 → F = 0) := Lib.hid fun h => by rw [hF.out]; exact valid_text (by rw [← hV.out]; exact h)
  clear hS
  go_upto_region 6 with fail
  go_cut [42] (fun v wx => v = .bool false ∧ wx = W7)
  case first =>
    as_aux_lemma =>
      by_cases h1 : V = 0
      · have h2 := HVT.out h1
        subst h1 h2
        go_wp2_with fail
        go_meet
        exact ⟨rfl, rfl⟩
      · have h1' : ((V : Int) == 0) = false := by simpa using h1
        clear h1
        go_wp2_with fail
        go_meet
        exact ⟨rfl, rfl⟩
  obtain ⟨rfl, hw7⟩ := hcut
  subst hw7
  go_upto_region 8 with fail
  go_cut [58] (fun v wx => v = .bool false ∧ Hid (Owns w wx [blk bx (mobj a (.slice y n c)), blk by0 (.cells #[.slice yd nd md] 45 (0, 0)), blk bf (.cells #[.string (bs x.name), .int .i64 x.kind, .int .i64 x.lo, .int .i64 x.hi] 47 (0, 0))]))
  case first =>
    as_aux_lemma =>
      by_cases h1 : F = 0
      rotate_left
      · have h1' : ((F : Int) == 0) = false := by simpa using h1
        clear h1
        go_wp2_with fail
        go_meet
        exact ⟨rfl, HO⟩
      have HI : Hid (V = 0 ↔ validD d = true ∧ checkF d a.cond = 0) := Lib.hid (by rw [hV.out]; exact valid_iff (by rw [← hF.out]; exact h1))
      subst h1
      clear HVT hF hV
      by_cases h2 : V = 0
      · obtain ⟨h3, h4⟩ := HI.out.1 h2
        subst h2
        have H3 := Lib.hid h3
        have H4 := Lib.hid h4
        clear HI h3 h4
        obtain ⟨bk, -⟩ := Owns.blk (HO.out.pop)
        have hdx := lt_of_block bk
        have d0 := cell_of_heap bk (i := 0)
        simp only [List.getElem?_toArray, List.getElem?_cons_succ, List.getElem?_cons_zero] at d0
        clear bk
        go_wp2_with fail
        clear hdx d0
        go_at_call 18
        refine (factValid_c d _ _ (UD.out.dom.later HO.out.base) HDo.out.len HDo.out.names).mono ?_
        rintro e W8 ⟨rfl, hb⟩
        replace HO := Lib.hid (HO.out.below hb)
        clear hb
        rw [H3.out]
        (try clear hcx c0 c1 c2 c3 c4 c5 c6 c7 c8 c9 ct cu)
        obtain ⟨bk, -⟩ := Owns.blk (HO.out)
        have hcx := lt_of_block bk
        have c0 : W8.cell? ⟨bx, 0, none⟩ = some (.string (bs a.id)) := by rw [cell_of_heap bk]; rfl
        have c1 : W8.cell? ⟨bx, 1, none⟩ = some (.string (bs a.auth)) := by rw [cell_of_heap bk]; rfl
        have c2 : W8.cell? ⟨bx, 2, none⟩ = some (.int .i64 a.kind) := by rw [cell_of_heap bk]; rfl
        have c3 : W8.cell? ⟨bx, 3, none⟩ = some (.string (bs a.target)) := by rw [cell_of_heap bk]; rfl
        have c4 : W8.cell? ⟨bx, 4, none⟩ = some (.int .i64 a.cond.op) := by rw [cell_of_heap bk]; rfl
        have c5 : W8.cell? ⟨bx, 5, none⟩ = some (.string (bs a.cond.name)) := by rw [cell_of_heap bk]; rfl
        have c6 : W8.cell? ⟨bx, 6, none⟩ = some (.int .i64 a.cond.cmp) := by rw [cell_of_heap bk]; rfl
        have c7 : W8.cell? ⟨bx, 7, none⟩ = some (.int .i64 a.cond.num) := by rw [cell_of_heap bk]; rfl
        have c8 : W8.cell? ⟨bx, 8, none⟩ = some (.slice y n c) := by rw [cell_of_heap bk]; rfl
        have c9 : W8.cell? ⟨bx, 9, none⟩ = some (.int .i64 a.fr) := by rw [cell_of_heap bk]; rfl
        have ct : W8.cell? ⟨bx, 10, none⟩ = some (.int .i64 a.un) := by rw [cell_of_heap bk]; rfl
        have cu : W8.cell? ⟨bx, 11, none⟩ = some (.int .i64 a.wi) := by rw [cell_of_heap bk]; rfl
        clear bk
        obtain ⟨bk, -⟩ := Owns.blk (HO.out.pop)
        have hdx := lt_of_block bk
        have d0 := cell_of_heap bk (i := 0)
        simp only [List.getElem?_toArray, List.getElem?_cons_succ, List.getElem?_cons_zero] at d0
        clear bk
        go_wp2_with fail
        clear hcx c0 c1 c2 c3 c4 c5 c6 c7 c8 c9 ct cu
        clear hdx d0
        go_at_call 19
        refine (Check_c a.cond W8 _ d _ (UA.out.fm.later HO.out.base) (UD.out.dom.later HO.out.base) HDo.out.len HDo.out.names (Nat.le_refl _) HA.out.cond.names HA.out.cond.size).mono ?_
        rintro e W9 ⟨rfl, hb⟩
        replace HO := Lib.hid (HO.out.below hb)
        clear hb
        rw [H4.out]
        go_wp2_with fail
        go_meet
        exact ⟨rfl, HO⟩
      have h2' : ((V : Int) == 0) = false := by simpa using h2
      obtain ⟨bk, -⟩ := Owns.blk (HO.out.pop)
      have hdx := lt_of_block bk
      have d0 := cell_of_heap bk (i := 0)
      simp only [List.getElem?_toArray, List.getElem?_cons_succ, List.getElem?_cons_zero] at d0
      clear bk
      obtain ⟨q, hq⟩ : ∃ q, q = validD d := ⟨_, rfl⟩
      have HN : Hid (¬ (q = true ∧ checkF d a.cond = 0)) := Lib.hid fun h => h2 (HI.out.2 (by rw [← hq]; exact h))
      clear HI h2
      go_wp2_with fail
      clear hdx d0
      go_at_call 18
      refine (factValid_c d _ _ (UD.out.dom.later HO.out.base) HDo.out.len HDo.out.names).mono ?_
      rintro e W8 ⟨rfl, hb⟩
      replace HO := Lib.hid (HO.out.below hb)
      clear hb
      rw [← hq]
      clear hq
      cases q
      · go_wp2_with fail
        go_meet
        exact ⟨rfl, HO⟩
      (try clear hcx c0 c1 c2 c3 c4 c5 c6 c7 c8 c9 ct cu)
      obtain ⟨bk, -⟩ := Owns.blk (HO.out)
      have hcx := lt_of_block bk
      have c0 : W8.cell? ⟨bx, 0, none⟩ = some (.string (bs a.id)) := by rw [cell_of_heap bk]; rfl
      have c1 : W8.cell? ⟨bx, 1, none⟩ = some (.string (bs a.auth)) := by rw [cell_of_heap bk]; rfl
      have c2 : W8.cell? ⟨bx, 2, none⟩ = some (.int .i64 a.kind) := by rw [cell_of_heap bk]; rfl
      have c3 : W8.cell? ⟨bx, 3, none⟩ = some (.string (bs a.target)) := by rw [cell_of_heap bk]; rfl
      have c4 : W8.cell? ⟨bx, 4, none⟩ = some (.int .i64 a.cond.op) := by rw [cell_of_heap bk]; rfl
      have c5 : W8.cell? ⟨bx, 5, none⟩ = some (.string (bs a.cond.name)) := by rw [cell_of_heap bk]; rfl
      have c6 : W8.cell? ⟨bx, 6, none⟩ = some (.int .i64 a.cond.cmp) := by rw [cell_of_heap bk]; rfl
      have c7 : W8.cell? ⟨bx, 7, none⟩ = some (.int .i64 a.cond.num) := by rw [cell_of_heap bk]; rfl
      have c8 : W8.cell? ⟨bx, 8, none⟩ = some (.slice y n c) := by rw [cell_of_heap bk]; rfl
      have c9 : W8.cell? ⟨bx, 9, none⟩ = some (.int .i64 a.fr) := by rw [cell_of_heap bk]; rfl
      have ct : W8.cell? ⟨bx, 10, none⟩ = some (.int .i64 a.un) := by rw [cell_of_heap bk]; rfl
      have cu : W8.cell? ⟨bx, 11, none⟩ = some (.int .i64 a.wi) := by rw [cell_of_heap bk]; rfl
      clear bk
      obtain ⟨bk, -⟩ := Owns.blk (HO.out.pop)
      have hdx := lt_of_block bk
      have d0 := cell_of_heap bk (i := 0)
      simp only [List.getElem?_toArray, List.getElem?_cons_succ, List.getElem?_cons_zero] at d0
      clear bk
      go_wp2_with fail
      clear hcx c0 c1 c2 c3 c4 c5 c6 c7 c8 c9 ct cu
      clear hdx d0
      go_at_call 19
      refine (Check_c a.cond W8 _ d _ (UA.out.fm.later HO.out.base) (UD.out.dom.later HO.out.base) HDo.out.len HDo.out.names (Nat.le_refl _) HA.out.cond.names HA.out.cond.size).mono ?_
      rintro e W9 ⟨rfl, hb⟩
      replace HO := Lib.hid (HO.out.below hb)
      clear hb
      obtain ⟨C, hC⟩ : ∃ C, C = checkF d a.cond := ⟨_, rfl⟩
      rw [← hC] at HN ⊢
      have hC' : ((C : Int) == 0) = false := by
        have := HN.out
        simp only [true_and] at this
        simpa using this
      clear hC HN
      go_wp2_with fail
      go_meet
      exact ⟨rfl, HO⟩
  obtain ⟨rfl, HO8⟩ := hcut
  clear HO
  obtain ⟨W8, hW8⟩ : ∃ W, W = wc := ⟨_, rfl⟩
  rw [← hW8] at HO8 ⊢
  clear hW8
  have HO := HO8
  clear HO8
  obtain ⟨bk, -⟩ := Owns.blk (HO.out.pop)
  have hdx := lt_of_block bk
  have d0 := cell_of_heap bk (i := 0)
  simp only [List.getElem?_toArray, List.getElem?_cons_succ, List.getElem?_cons_zero] at d0
  clear bk
  obtain ⟨W9, hW9⟩ : ∃ W, W = W8.alloc (.cells #[.slice yd nd md] 45) := ⟨_, rfl⟩
  obtain ⟨b11, hb11⟩ : ∃ b, b = W8.heap.size := ⟨_, rfl⟩
  have h2 := HO.out.box (.cells #[.slice yd nd md] 45 (0, 0))
  rw [← hW9, ← hb11] at h2
  go_upto_region 11 with fail
  rw [← hb11, ← hW9]
  clear hdx d0
  replace HO := Lib.hid (h2.re [1, 2, 3, 0])
  clear h2 hW9 hb11
  go_cut [] (fun wx => ∃ ym nm cm, Hid (IsD wx (d ++ [x]) (.slice ym nm cm)) ∧ Hid (Owns w wx [blk bx (mobj a (.slice y n c)), blk by0 (.cells #[.slice yd nd md] 45 (0, 0)), blk bf (.cells #[.string (bs x.name), .int .i64 x.kind, .int .i64 x.lo, .int .i64 x.hi] 47 (0, 0)), blk b11 (.cells #[.slice ym nm cm] 45 (0, 0))]))
  case first =>
    as_aux_lemma =>
      refine wp_region_plan [] (.step 1 (.step 2 (.fork 0 (.fork 3 (.step 4 (.step 5 (.step 6 (.step 7 (.step 8 .done))))) 4 (.fork 3 (.step 5 (.step 6 (.step 7 (.step 8 .done)))) 5 (.step 3 (.step 6 (.step 7 (.step 8 .done)))))) 4 (.fork 0 (.fork 3 (.step 5 (.step 6 (.step 7 (.step 8 .done)))) 5 (.step 3 (.step 6 (.step 7 (.step 8 .done))))) 5 (.step 0 (.step 3 (.step 6 (.step 7 (.step 8 .done))))))))) (by decide +kernel) (by decide +kernel) ?_
      replace HO := Lib.hid HO.out.drew
      obtain ⟨WD, hWD⟩ : ∃ W, W = W9.drew := ⟨_, rfl⟩
      rw [← hWD] at HO ⊢
      clear hWD
      refine cp_do rfl rfl rfl rfl (fun _ _ => ?_)
      go_wp2_with fail
      obtain ⟨bk, -⟩ := Owns.blk (HO.out.pop)
      have hdx := lt_of_block bk
      have d0 := cell_of_heap bk (i := 0)
      simp only [List.getElem?_toArray, List.getElem?_cons_succ, List.getElem?_cons_zero] at d0
      clear bk
      refine cp_do rfl rfl rfl rfl (fun _ _ => ?_)
      go_wp2_with fail
      clear hdx d0
      refine cp_fork ?_ ?_
      focus
        -- WD the world, WE the next one
        refine cp_do rfl rfl rfl rfl (fun _ _ => ?_)
        have hoA := Owns.fcLit0 HO.out
        obtain ⟨g0, hg0⟩ : ∃ g, g = (WD).heap.size := ⟨_, rfl⟩
        obtain ⟨WE, hWn⟩ : ∃ W, W = (WD).alloc (.cells #[] 47) := ⟨_, rfl⟩
        rw [← hWn, ← hg0] at hoA
        replace HO := Lib.hid hoA
        clear hoA
        go_wp2_with fail
        rw [← hWn, ← hg0]
        clear hWn hg0
        refine cp_fork ?_ ?_
        focus
          -- WF the next world; the row is the first piece
          refine cp_do rfl rfl rfl rfl (fun K hK => ?_)
          refine wp_append_dom (.tmp 60) (.tmp 62) (by rfl) _ (by rfl) (Owns.fcRow HO.out) d _ (by rfl) (UD.out.dom.later HO.out.base) HDo.out.len ?_
          intro v' WF hrow hgrow hblk
          have ho2 := Owns.fcGrew (l' := d) HO.out hrow hgrow hblk
          replace HO := Lib.hid ho2
          clear ho2 hrow hgrow hblk
          go_wp2_with fail
          obtain ⟨bk, -⟩ := Owns.blk (HO.out.pop.pop.pop)
          have hfx := lt_of_block bk
          have f0 := cell_of_heap bk (i := 0)
          have f1 := cell_of_heap bk (i := 1)
          have f2 := cell_of_heap bk (i := 2)
          have f3 := cell_of_heap bk (i := 3)
          simp only [List.getElem?_toArray, List.getElem?_cons_succ, List.getElem?_cons_zero] at f0 f1 f2 f3
          clear bk
          refine cp_do rfl rfl rfl rfl (fun _ _ => ?_)
          go_wp2_with fail
          clear hfx f0 f1 f2 f3
          -- WF the world, WG the next one
          refine cp_do rfl rfl rfl rfl (fun _ _ => ?_)
          have hoA := HO.out.box (.cells #[.string (bs x.name), .int .i64 x.kind, .int .i64 x.lo, .int .i64 x.hi] 47 (0, 0))
          obtain ⟨g1, hg1⟩ : ∃ g, g = (WF).heap.size := ⟨_, rfl⟩
          obtain ⟨WG, hWn⟩ : ∃ W, W = (WF).alloc (.cells #[.string (bs x.name), .int .i64 x.kind, .int .i64 x.lo, .int .i64 x.hi] 47) := ⟨_, rfl⟩
          rw [← hWn, ← hg1] at hoA
          replace HO := Lib.hid hoA
          clear hoA
          go_wp2_with fail
          rw [← hWn, ← hg1]
          clear hWn hg1
          replace HO := Lib.hid HO.out.swap
          -- the row is the first piece, the fact's block the second one
          refine cp_do rfl rfl rfl rfl (fun K hK => ?_)
          refine wp_append (.tmp 63) (.tmp 65) 43 (by rfl) 47 _ 4 40 Tryz.underlying43 info_fact (by rfl) (by omega) _ d.length _ (by rfl) (Owns.fcRow HO.out) g1 1 1 (fcl x) (by rfl) (by rfl) 47 (by exact (Owns.blk HO.out.pop).1) (by simp [fcl, Value.oneCell']) (by have := HL.out; omega) (by have := HL.out; omega) ?_
          intro v2 w9 hrow hgrow hblk
          have ho2 := Owns.fcGrew (l' := d ++ [x]) HO.out (by simpa using hrow) hgrow hblk
          clear hrow hgrow hblk
          obtain ⟨ym, cm, hv2⟩ := (Owns.fcIs ho2).form
          obtain ⟨nm, hnm⟩ : ∃ k, k = (d ++ [x]).length := ⟨_, rfl⟩
          rw [← hnm] at hv2
          subst hv2
          replace HO := Lib.hid ho2
          clear ho2 hnm
          obtain ⟨bk, -⟩ := Owns.blk (HO.out.re [5, 0, 1, 2, 3, 4])
          have hmx := lt_of_block bk
          have m0 := cell_of_heap bk (i := 0)
          have fm0 := free_of_heap bk (i := 0)
          simp only [List.getElem?_toArray, List.getElem?_cons_succ, List.getElem?_cons_zero] at m0
          clear bk
          have h2 := Lib.hid ((HO.out.re [5, 0, 1, 2, 3, 4]).store (i := 0) (.slice ym nm cm))
          go_wp2_with fail
          refine cp_do rfl rfl rfl rfl (fun _ _ => ?_)
          go_wp2_with fail
          refine cp_do rfl rfl rfl rfl (fun _ _ => ?_)
          go_wp2_with fail
          refine cp_nil ?_
          go_wp2_with fail
          go_meet
          exact ⟨ym, nm, cm, Lib.hid (Owns.fcIs h2.out.pop), Lib.hid (((h2.out.re [1, 2, 3, 4, 5, 0]).pop).pop)⟩
        focus
          obtain ⟨bk, -⟩ := Owns.blk (HO.out.pop.pop.pop)
          have hfx := lt_of_block bk
          have f0 := cell_of_heap bk (i := 0)
          have f1 := cell_of_heap bk (i := 1)
          have f2 := cell_of_heap bk (i := 2)
          have f3 := cell_of_heap bk (i := 3)
          simp only [List.getElem?_toArray, List.getElem?_cons_succ, List.getElem?_cons_zero] at f0 f1 f2 f3
          clear bk
          refine cp_do rfl rfl rfl rfl (fun _ _ => ?_)
          go_wp2_with fail
          clear hfx f0 f1 f2 f3
          refine cp_fork ?_ ?_
          focus
            -- WF the next world; the row is the first piece
            refine cp_do rfl rfl rfl rfl (fun K hK => ?_)
            refine wp_append_dom (.tmp 60) (.tmp 62) (by rfl) _ (by rfl) (Owns.fcRow HO.out) d _ (by rfl) (UD.out.dom.later HO.out.base) HDo.out.len ?_
            intro v' WF hrow hgrow hblk
            have ho2 := Owns.fcGrew (l' := d) HO.out hrow hgrow hblk
            replace HO := Lib.hid ho2
            clear ho2 hrow hgrow hblk
            go_wp2_with fail
            -- WF the world, WG the next one
            refine cp_do rfl rfl rfl rfl (fun _ _ => ?_)
            have hoA := HO.out.box (.cells #[.string (bs x.name), .int .i64 x.kind, .int .i64 x.lo, .int .i64 x.hi] 47 (0, 0))
            obtain ⟨g1, hg1⟩ : ∃ g, g = (WF).heap.size := ⟨_, rfl⟩
            obtain ⟨WG, hWn⟩ : ∃ W, W = (WF).alloc (.cells #[.string (bs x.name), .int .i64 x.kind, .int .i64 x.lo, .int .i64 x.hi] 47) := ⟨_, rfl⟩
            rw [← hWn, ← hg1] at hoA
            replace HO := Lib.hid hoA
            clear hoA
            go_wp2_with fail
            rw [← hWn, ← hg1]
            clear hWn hg1
            replace HO := Lib.hid HO.out.swap
            -- the row is the first piece, the fact's block the second one
            refine cp_do rfl rfl rfl rfl (fun K hK => ?_)
            refine wp_append (.tmp 63) (.tmp 65) 43 (by rfl) 47 _ 4 40 Tryz.underlying43 info_fact (by rfl) (by omega) _ d.length _ (by rfl) (Owns.fcRow HO.out) g1 1 1 (fcl x) (by rfl) (by rfl) 47 (by exact (Owns.blk HO.out.pop).1) (by simp [fcl, Value.oneCell']) (by have := HL.out; omega) (by have := HL.out; omega) ?_
            intro v2 w9 hrow hgrow hblk
            have ho2 := Owns.fcGrew (l' := d ++ [x]) HO.out (by simpa using hrow) hgrow hblk
            clear hrow hgrow hblk
            obtain ⟨ym, cm, hv2⟩ := (Owns.fcIs ho2).form
            obtain ⟨nm, hnm⟩ : ∃ k, k = (d ++ [x]).length := ⟨_, rfl⟩
            rw [← hnm] at hv2
            subst hv2
            replace HO := Lib.hid ho2
            clear ho2 hnm
            obtain ⟨bk, -⟩ := Owns.blk (HO.out.re [5, 0, 1, 2, 3, 4])
            have hmx := lt_of_block bk
            have m0 := cell_of_heap bk (i := 0)
            have fm0 := free_of_heap bk (i := 0)
            simp only [List.getElem?_toArray, List.getElem?_cons_succ, List.getElem?_cons_zero] at m0
            clear bk
            have h2 := Lib.hid ((HO.out.re [5, 0, 1, 2, 3, 4]).store (i := 0) (.slice ym nm cm))
            go_wp2_with fail
            refine cp_do rfl rfl rfl rfl (fun _ _ => ?_)
            go_wp2_with fail
            refine cp_do rfl rfl rfl rfl (fun _ _ => ?_)
            go_wp2_with fail
            refine cp_nil ?_
            go_wp2_with fail
            go_meet
            exact ⟨ym, nm, cm, Lib.hid (Owns.fcIs h2.out.pop), Lib.hid (((h2.out.re [1, 2, 3, 4, 5, 0]).pop).pop)⟩
          focus
            -- WE the world, WF the next one
            refine cp_do rfl rfl rfl rfl (fun _ _ => ?_)
            have hoA := HO.out.box (.cells #[.string (bs x.name), .int .i64 x.kind, .int .i64 x.lo, .int .i64 x.hi] 47 (0, 0))
            obtain ⟨g1, hg1⟩ : ∃ g, g = (WE).heap.size := ⟨_, rfl⟩
            obtain ⟨WF, hWn⟩ : ∃ W, W = (WE).alloc (.cells #[.string (bs x.name), .int .i64 x.kind, .int .i64 x.lo, .int .i64 x.hi] 47) := ⟨_, rfl⟩
            rw [← hWn, ← hg1] at hoA
            replace HO := Lib.hid hoA
            clear hoA
            go_wp2_with fail
            rw [← hWn, ← hg1]
            clear hWn hg1
            replace HO := Lib.hid HO.out.swap
            -- WG the next world; the row is the first piece
            refine cp_do rfl rfl rfl rfl (fun K hK => ?_)
            refine wp_append_dom (.tmp 60) (.tmp 62) (by rfl) _ (by rfl) (Owns.fcRow HO.out) d _ (by rfl) (UD.out.dom.later HO.out.base) HDo.out.len ?_
            intro v' WG hrow hgrow hblk
            have ho2 := Owns.fcGrew (l' := d) HO.out hrow hgrow hblk
            replace HO := Lib.hid ho2
            clear ho2 hrow hgrow hblk
            go_wp2_with fail
            -- the row is the first piece, the fact's block the second one
            refine cp_do rfl rfl rfl rfl (fun K hK => ?_)
            refine wp_append (.tmp 63) (.tmp 65) 43 (by rfl) 47 _ 4 40 Tryz.underlying43 info_fact (by rfl) (by omega) _ d.length _ (by rfl) (Owns.fcRow HO.out) g1 1 1 (fcl x) (by rfl) (by rfl) 47 (by exact (Owns.blk HO.out.pop).1) (by simp [fcl, Value.oneCell']) (by have := HL.out; omega) (by have := HL.out; omega) ?_
            intro v2 w9 hrow hgrow hblk
            have ho2 := Owns.fcGrew (l' := d ++ [x]) HO.out (by simpa using hrow) hgrow hblk
            clear hrow hgrow hblk
            obtain ⟨ym, cm, hv2⟩ := (Owns.fcIs ho2).form
            obtain ⟨nm, hnm⟩ : ∃ k, k = (d ++ [x]).length := ⟨_, rfl⟩
            rw [← hnm] at hv2
            subst hv2
            replace HO := Lib.hid ho2
            clear ho2 hnm
            obtain ⟨bk, -⟩ := Owns.blk (HO.out.re [5, 0, 1, 2, 3, 4])
            have hmx := lt_of_block bk
            have m0 := cell_of_heap bk (i := 0)
            have fm0 := free_of_heap bk (i := 0)
            simp only [List.getElem?_toArray, List.getElem?_cons_succ, List.getElem?_cons_zero] at m0
            clear bk
            have h2 := Lib.hid ((HO.out.re [5, 0, 1, 2, 3, 4]).store (i := 0) (.slice ym nm cm))
            go_wp2_with fail
            refine cp_do rfl rfl rfl rfl (fun _ _ => ?_)
            go_wp2_with fail
            refine cp_do rfl rfl rfl rfl (fun _ _ => ?_)
            go_wp2_with fail
            refine cp_nil ?_
            go_wp2_with fail
            go_meet
            exact ⟨ym, nm, cm, Lib.hid (Owns.fcIs h2.out.pop), Lib.hid (((h2.out.re [1, 2, 3, 4, 5, 0]).pop).pop)⟩
      focus
        obtain ⟨bk, -⟩ := Owns.blk (HO.out.pop.pop)
        have hfx := lt_of_block bk
        have f0 := cell_of_heap bk (i := 0)
        have f1 := cell_of_heap bk (i := 1)
        have f2 := cell_of_heap bk (i := 2)
        have f3 := cell_of_heap bk (i := 3)
        simp only [List.getElem?_toArray, List.getElem?_cons_succ, List.getElem?_cons_zero] at f0 f1 f2 f3
        clear bk
        refine cp_do rfl rfl rfl rfl (fun _ _ => ?_)
        go_wp2_with fail
        clear hfx f0 f1 f2 f3
        refine cp_fork ?_ ?_
        focus
          -- WD the world, WE the next one
          refine cp_do rfl rfl rfl rfl (fun _ _ => ?_)
          have hoA := Owns.fcLit0 HO.out
          obtain ⟨g0, hg0⟩ : ∃ g, g = (WD).heap.size := ⟨_, rfl⟩
          obtain ⟨WE, hWn⟩ : ∃ W, W = (WD).alloc (.cells #[] 47) := ⟨_, rfl⟩
          rw [← hWn, ← hg0] at hoA
          replace HO := Lib.hid hoA
          clear hoA
          go_wp2_with fail
          rw [← hWn, ← hg0]
          clear hWn hg0
          refine cp_fork ?_ ?_
          focus
            -- WF the next world; the row is the first piece
            refine cp_do rfl rfl rfl rfl (fun K hK => ?_)
            refine wp_append_dom (.tmp 60) (.tmp 62) (by rfl) _ (by rfl) (Owns.fcRow HO.out) d _ (by rfl) (UD.out.dom.later HO.out.base) HDo.out.len ?_
            intro v' WF hrow hgrow hblk
            have ho2 := Owns.fcGrew (l' := d) HO.out hrow hgrow hblk
            replace HO := Lib.hid ho2
            clear ho2 hrow hgrow hblk
            go_wp2_with fail
            -- WF the world, WG the next one
            refine cp_do rfl rfl rfl rfl (fun _ _ => ?_)
            have hoA := HO.out.box (.cells #[.string (bs x.name), .int .i64 x.kind, .int .i64 x.lo, .int .i64 x.hi] 47 (0, 0))
            obtain ⟨g1, hg1⟩ : ∃ g, g = (WF).heap.size := ⟨_, rfl⟩
            obtain ⟨WG, hWn⟩ : ∃ W, W = (WF).alloc (.cells #[.string (bs x.name), .int .i64 x.kind, .int .i64 x.lo, .int .i64 x.hi] 47) := ⟨_, rfl⟩
            rw [← hWn, ← hg1] at hoA
            replace HO := Lib.hid hoA
            clear hoA
            go_wp2_with fail
            rw [← hWn, ← hg1]
            clear hWn hg1
            replace HO := Lib.hid HO.out.swap
            -- the row is the first piece, the fact's block the second one
            refine cp_do rfl rfl rfl rfl (fun K hK => ?_)
            refine wp_append (.tmp 63) (.tmp 65) 43 (by rfl) 47 _ 4 40 Tryz.underlying43 info_fact (by rfl) (by omega) _ d.length _ (by rfl) (Owns.fcRow HO.out) g1 1 1 (fcl x) (by rfl) (by rfl) 47 (by exact (Owns.blk HO.out.pop).1) (by simp [fcl, Value.oneCell']) (by have := HL.out; omega) (by have := HL.out; omega) ?_
            intro v2 w9 hrow hgrow hblk
            have ho2 := Owns.fcGrew (l' := d ++ [x]) HO.out (by simpa using hrow) hgrow hblk
            clear hrow hgrow hblk
            obtain ⟨ym, cm, hv2⟩ := (Owns.fcIs ho2).form
            obtain ⟨nm, hnm⟩ : ∃ k, k = (d ++ [x]).length := ⟨_, rfl⟩
            rw [← hnm] at hv2
            subst hv2
            replace HO := Lib.hid ho2
            clear ho2 hnm
            obtain ⟨bk, -⟩ := Owns.blk (HO.out.re [5, 0, 1, 2, 3, 4])
            have hmx := lt_of_block bk
            have m0 := cell_of_heap bk (i := 0)
            have fm0 := free_of_heap bk (i := 0)
            simp only [List.getElem?_toArray, List.getElem?_cons_succ, List.getElem?_cons_zero] at m0
            clear bk
            have h2 := Lib.hid ((HO.out.re [5, 0, 1, 2, 3, 4]).store (i := 0) (.slice ym nm cm))
            go_wp2_with fail
            refine cp_do rfl rfl rfl rfl (fun _ _ => ?_)
            go_wp2_with fail
            refine cp_do rfl rfl rfl rfl (fun _ _ => ?_)
            go_wp2_with fail
            refine cp_nil ?_
            go_wp2_with fail
            go_meet
            exact ⟨ym, nm, cm, Lib.hid (Owns.fcIs h2.out.pop), Lib.hid (((h2.out.re [1, 2, 3, 4, 5, 0]).pop).pop)⟩
          focus
            -- WE the world, WF the next one
            refine cp_do rfl rfl rfl rfl (fun _ _ => ?_)
            have hoA := HO.out.box (.cells #[.string (bs x.name), .int .i64 x.kind, .int .i64 x.lo, .int .i64 x.hi] 47 (0, 0))
            obtain ⟨g1, hg1⟩ : ∃ g, g = (WE).heap.size := ⟨_, rfl⟩
            obtain ⟨WF, hWn⟩ : ∃ W, W = (WE).alloc (.cells #[.string (bs x.name), .int .i64 x.kind, .int .i64 x.lo, .int .i64 x.hi] 47) := ⟨_, rfl⟩
            rw [← hWn, ← hg1] at hoA
            replace HO := Lib.hid hoA
            clear hoA
            go_wp2_with fail
            rw [← hWn, ← hg1]
            clear hWn hg1
            replace HO := Lib.hid HO.out.swap
            -- WG the next world; the row is the first piece
            refine cp_do rfl rfl rfl rfl (fun K hK => ?_)
            refine wp_append_dom (.tmp 60) (.tmp 62) (by rfl) _ (by rfl) (Owns.fcRow HO.out) d _ (by rfl) (UD.out.dom.later HO.out.base) HDo.out.len ?_
            intro v' WG hrow hgrow hblk
            have ho2 := Owns.fcGrew (l' := d) HO.out hrow hgrow hblk
            replace HO := Lib.hid ho2
            clear ho2 hrow hgrow hblk
            go_wp2_with fail
            -- the row is the first piece, the fact's block the second one
            refine cp_do rfl rfl rfl rfl (fun K hK => ?_)
            refine wp_append (.tmp 63) (.tmp 65) 43 (by rfl) 47 _ 4 40 Tryz.underlying43 info_fact (by rfl) (by omega) _ d.length _ (by rfl) (Owns.fcRow HO.out) g1 1 1 (fcl x) (by rfl) (by rfl) 47 (by exact (Owns.blk HO.out.pop).1) (by simp [fcl, Value.oneCell']) (by have := HL.out; omega) (by have := HL.out; omega) ?_
            intro v2 w9 hrow hgrow hblk
            have ho2 := Owns.fcGrew (l' := d ++ [x]) HO.out (by simpa using hrow) hgrow hblk
            clear hrow hgrow hblk
            obtain ⟨ym, cm, hv2⟩ := (Owns.fcIs ho2).form
            obtain ⟨nm, hnm⟩ : ∃ k, k = (d ++ [x]).length := ⟨_, rfl⟩
            rw [← hnm] at hv2
            subst hv2
            replace HO := Lib.hid ho2
            clear ho2 hnm
            obtain ⟨bk, -⟩ := Owns.blk (HO.out.re [5, 0, 1, 2, 3, 4])
            have hmx := lt_of_block bk
            have m0 := cell_of_heap bk (i := 0)
            have fm0 := free_of_heap bk (i := 0)
            simp only [List.getElem?_toArray, List.getElem?_cons_succ, List.getElem?_cons_zero] at m0
            clear bk
            have h2 := Lib.hid ((HO.out.re [5, 0, 1, 2, 3, 4]).store (i := 0) (.slice ym nm cm))
            go_wp2_with fail
            refine cp_do rfl rfl rfl rfl (fun _ _ => ?_)
            go_wp2_with fail
            refine cp_do rfl rfl rfl rfl (fun _ _ => ?_)
            go_wp2_with fail
            refine cp_nil ?_
            go_wp2_with fail
            go_meet
            exact ⟨ym, nm, cm, Lib.hid (Owns.fcIs h2.out.pop), Lib.hid (((h2.out.re [1, 2, 3, 4, 5, 0]).pop).pop)⟩
        focus
          -- WD the world, WE the next one
          refine cp_do rfl rfl rfl rfl (fun _ _ => ?_)
          have hoA := HO.out.box (.cells #[.string (bs x.name), .int .i64 x.kind, .int .i64 x.lo, .int .i64 x.hi] 47 (0, 0))
          obtain ⟨g1, hg1⟩ : ∃ g, g = (WD).heap.size := ⟨_, rfl⟩
          obtain ⟨WE, hWn⟩ : ∃ W, W = (WD).alloc (.cells #[.string (bs x.name), .int .i64 x.kind, .int .i64 x.lo, .int .i64 x.hi] 47) := ⟨_, rfl⟩
          rw [← hWn, ← hg1] at hoA
          replace HO := Lib.hid hoA
          clear hoA
          go_wp2_with fail
          rw [← hWn, ← hg1]
          clear hWn hg1
          -- WE the world, WF the next one
          refine cp_do rfl rfl rfl rfl (fun _ _ => ?_)
          have hoA := Owns.fcLit0 HO.out
          obtain ⟨g0, hg0⟩ : ∃ g, g = (WE).heap.size := ⟨_, rfl⟩
          obtain ⟨WF, hWn⟩ : ∃ W, W = (WE).alloc (.cells #[] 47) := ⟨_, rfl⟩
          rw [← hWn, ← hg0] at hoA
          replace HO := Lib.hid hoA
          clear hoA
          go_wp2_with fail
          rw [← hWn, ← hg0]
          clear hWn hg0
          -- WG the next world; the row is the first piece
          refine cp_do rfl rfl rfl rfl (fun K hK => ?_)
          refine wp_append_dom (.tmp 60) (.tmp 62) (by rfl) _ (by rfl) (Owns.fcRow HO.out) d _ (by rfl) (UD.out.dom.later HO.out.base) HDo.out.len ?_
          intro v' WG hrow hgrow hblk
          have ho2 := Owns.fcGrew (l' := d) HO.out hrow hgrow hblk
          replace HO := Lib.hid ho2
          clear ho2 hrow hgrow hblk
          go_wp2_with fail
          -- the row is the first piece, the fact's block the second one
          refine cp_do rfl rfl rfl rfl (fun K hK => ?_)
          refine wp_append (.tmp 63) (.tmp 65) 43 (by rfl) 47 _ 4 40 Tryz.underlying43 info_fact (by rfl) (by omega) _ d.length _ (by rfl) (Owns.fcRow HO.out) g1 1 1 (fcl x) (by rfl) (by rfl) 47 (by exact (Owns.blk HO.out.pop).1) (by simp [fcl, Value.oneCell']) (by have := HL.out; omega) (by have := HL.out; omega) ?_
          intro v2 w9 hrow hgrow hblk
          have ho2 := Owns.fcGrew (l' := d ++ [x]) HO.out (by simpa using hrow) hgrow hblk
          clear hrow hgrow hblk
          obtain ⟨ym, cm, hv2⟩ := (Owns.fcIs ho2).form
          obtain ⟨nm, hnm⟩ : ∃ k, k = (d ++ [x]).length := ⟨_, rfl⟩
          rw [← hnm] at hv2
          subst hv2
          replace HO := Lib.hid ho2
          clear ho2 hnm
          obtain ⟨bk, -⟩ := Owns.blk (HO.out.re [5, 0, 1, 2, 3, 4])
          have hmx := lt_of_block bk
          have m0 := cell_of_heap bk (i := 0)
          have fm0 := free_of_heap bk (i := 0)
          simp only [List.getElem?_toArray, List.getElem?_cons_succ, List.getElem?_cons_zero] at m0
          clear bk
          have h2 := Lib.hid ((HO.out.re [5, 0, 1, 2, 3, 4]).store (i := 0) (.slice ym nm cm))
          go_wp2_with fail
          refine cp_do rfl rfl rfl rfl (fun _ _ => ?_)
          go_wp2_with fail
          refine cp_do rfl rfl rfl rfl (fun _ _ => ?_)
          go_wp2_with fail
          refine cp_nil ?_
          go_wp2_with fail
          go_meet
          exact ⟨ym, nm, cm, Lib.hid (Owns.fcIs h2.out.pop), Lib.hid (((h2.out.re [1, 2, 3, 4, 5, 0]).pop).pop)⟩
  obtain ⟨ym, nm, cm, HM, HO9⟩ := hcut
  clear HO
  obtain ⟨WA, hWA⟩ : ∃ W, W = wc := ⟨_, rfl⟩
  rw [← hWA] at HO9 HM ⊢
  clear hWA
  have HO := HO9
  clear HO9
  by_cases h1 : V = 0
  rotate_left
  · have h1' : ((V : Int) != 0) = true := by simpa using h1
    clear h1
    go_wp2_with fail
    go_ret
    exact ⟨rfl, HO.out.base⟩
  have HVm : Hid (validD (d ++ [x]) = true → validM (d ++ [x]) a = 0) := Lib.hid (valid_more (by rw [← hV.out]; exact h1))
  subst h1
  clear hV hF HVT
  have HDm : Hid (DoLen (d ++ [x])) := by
    refine Lib.hid ⟨?_, fun z hz => ?_⟩
    · have := HL.out
      rw [List.length_append, List.length_cons, List.length_nil]; omega
    · rcases List.mem_append.1 hz with hz | hz
      · exact UD.out.names z hz
      · obtain rfl : z = x := by simpa using hz
        exact ux
  obtain ⟨bk, -⟩ := Owns.blk (HO.out.pop.pop.pop)
  have hmx := lt_of_block bk
  have m0 := cell_of_heap bk (i := 0)
  simp only [List.getElem?_toArray, List.getElem?_cons_succ, List.getElem?_cons_zero] at m0
  clear bk
  go_wp2_with fail
  clear hmx m0
  go_at_call 18
  refine (factValid_c (d ++ [x]) _ WA HM.out HDm.out.len HDm.out.names).mono ?_
  rintro e WB ⟨rfl, hb⟩
  replace HO := Lib.hid (HO.out.below hb)
  replace HM := Lib.hid (HM.out.later hb)
  clear hb
  obtain ⟨q, hq⟩ : ∃ q, q = validD (d ++ [x]) := ⟨_, rfl⟩
  rw [← hq] at HVm ⊢
  clear hq
  cases q
  · go_wp2_with fail
    go_ret
    exact ⟨rfl, HO.out.base⟩
  have HV0 : Hid (validM (d ++ [x]) a = 0) := Lib.hid (HVm.out rfl)
  clear HVm
  obtain ⟨bk, -⟩ := Owns.blk (HO.out.pop.pop.pop)
  have hmx := lt_of_block bk
  have m0 := cell_of_heap bk (i := 0)
  simp only [List.getElem?_toArray, List.getElem?_cons_succ, List.getElem?_cons_zero] at m0
  clear bk
  (try clear hcx c0 c1 c2 c3 c4 c5 c6 c7 c8 c9 ct cu)
  obtain ⟨bk, -⟩ := Owns.blk (HO.out)
  have hcx := lt_of_block bk
  have c0 : WB.cell? ⟨bx, 0, none⟩ = some (.string (bs a.id)) := by rw [cell_of_heap bk]; rfl
  have c1 : WB.cell? ⟨bx, 1, none⟩ = some (.string (bs a.auth)) := by rw [cell_of_heap bk]; rfl
  have c2 : WB.cell? ⟨bx, 2, none⟩ = some (.int .i64 a.kind) := by rw [cell_of_heap bk]; rfl
  have c3 : WB.cell? ⟨bx, 3, none⟩ = some (.string (bs a.target)) := by rw [cell_of_heap bk]; rfl
  have c4 : WB.cell? ⟨bx, 4, none⟩ = some (.int .i64 a.cond.op) := by rw [cell_of_heap bk]; rfl
  have c5 : WB.cell? ⟨bx, 5, none⟩ = some (.string (bs a.cond.name)) := by rw [cell_of_heap bk]; rfl
  have c6 : WB.cell? ⟨bx, 6, none⟩ = some (.int .i64 a.cond.cmp) := by rw [cell_of_heap bk]; rfl
  have c7 : WB.cell? ⟨bx, 7, none⟩ = some (.int .i64 a.cond.num) := by rw [cell_of_heap bk]; rfl
  have c8 : WB.cell? ⟨bx, 8, none⟩ = some (.slice y n c) := by rw [cell_of_heap bk]; rfl
  have c9 : WB.cell? ⟨bx, 9, none⟩ = some (.int .i64 a.fr) := by rw [cell_of_heap bk]; rfl
  have ct : WB.cell? ⟨bx, 10, none⟩ = some (.int .i64 a.un) := by rw [cell_of_heap bk]; rfl
  have cu : WB.cell? ⟨bx, 11, none⟩ = some (.int .i64 a.wi) := by rw [cell_of_heap bk]; rfl
  clear bk
  go_wp2_with fail
  clear hmx m0
  clear hcx c0 c1 c2 c3 c4 c5 c6 c7 c8 c9 ct cu
  go_at_call 17
  refine (validM_c (d ++ [x]) _ a _ WB HM.out (UA.out.fm.later HO.out.base) HDm.out HA.out.len HA.out.cond).mono ?_
  rintro e WC ⟨rfl, hb⟩
  replace HO := Lib.hid (HO.out.below hb)
  clear hb
  rw [HV0.out]
  go_wp2_with fail
  go_ret
  exact ⟨rfl, HO.out.base⟩
end Go.Proofs.YtoeknmkephnekaaGreatDoor
