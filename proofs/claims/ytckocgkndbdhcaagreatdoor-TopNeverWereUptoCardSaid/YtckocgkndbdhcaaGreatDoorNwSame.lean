/-
  What is the same is found the same: Texts, SameEntry, Errors.
-/
import Derived.Test.YtckocgkndbdhcaaGreatDoorNwRun
import Derived.Test.YtckocgkndbdhcaaGreatDoorNwAt
namespace Go.Proofs.YtckocgkndbdhcaaGreatDoor
open Go.RowKit Go.Cz Go.Cz.Nw Go.Cz.Lx Go.ChangeMaps
set_option linter.unusedSimpArgs false
set_option linter.unusedVariables false
attribute [local go_sem] bs_size bs_extract bs_append bs_toList
attribute [local irreducible] cList cPlan
theorem tx_res {W : World} {tmps : Array Value} : (results Tryz.f19 tmps).run Tryz.prog W = .ok (tmps.getD 4 undef) W := by
  simp [results, Tryz.results19, go_sem]
theorem er_res {W : World} {tmps : Array Value} : (results Tryz.f11 tmps).run Tryz.prog W = .ok (tmps.getD 4 undef) W := by
  simp [results, Tryz.results11, go_sem]
set_option maxRecDepth 100000 in
set_option maxHeartbeats 4000000 in
theorem Texts_c (ws : List Bytes) (v1 v2 : Value) (w : World) (h1 : IsWords w v1 ws) (h2 : IsWords w v2 ws) (hn : ws.length ≤ 1000000) :
    Calls Tryz.prog 19 #[v1, v2] w fun e w' => e = .returned (.bool true) ∧ Below w.heap.size w w' := by
  obtain ⟨y1, c1, rfl, q1⟩ := h1
  obtain ⟨y2, c2, rfl, q2⟩ := h2
  obtain ⟨n, hn'⟩ : ∃ n, n = ws.length := ⟨_, rfl⟩
  have HN := Lib.hid hn'
  have Q1 := Lib.hid q1
  have Q2 := Lib.hid q2
  rw [← hn'] at hn ⊢
  clear q1 q2 hn'
  go_enter Tryz.func19, Tryz.ntmps19
  go_wp2_with fail
  go_loopw [5] (fun i wr => ∃ j : Nat, j ≤ n ∧ i = .int .i64 (j : Int) ∧ Hid (Below w.heap.size w wr)) (fun i _ => n - (intOf i).toNat)
  case atStart => exact ⟨0, Nat.zero_le _, rfl, Lib.hid (Below.refl _ _)⟩
  obtain ⟨j, hj, rfl, HB⟩ := hrel
  by_cases hjn : j < n
  · have hlt : (j : Int) < (n : Int) := by omega
    obtain ⟨x, hxx⟩ : ∃ x, ws[j]? = some x := ⟨_, List.getElem?_eq_getElem (by rw [← HN.out]; exact hjn)⟩
    obtain ⟨g1, o1, rfl, hg1, d1⟩ := Q1.out j x hxx
    obtain ⟨g2, o2, rfl, hg2, d2⟩ := Q2.out j x hxx
    go_upto_region 6 with fail
    refine wp_region_can [] (List.range 9) (by decide +kernel) (by decide +kernel) ?_
    replace HB := Lib.hid HB.out.drew
    generalize hWd : World.drew _ = W4 at HB ⊢
    clear hWd
    replace d1 := old_cell HB.out d1
    replace d2 := old_cell HB.out d2
    have l1 : g1 < W4.heap.size := Nat.lt_of_lt_of_le hg1 HB.out.size
    have l2 : g2 < W4.heap.size := Nat.lt_of_lt_of_le hg2 HB.out.size
    iterate 9 (refine cl_do rfl rfl rfl (by first | rfl | simp [okB, lenV, plainV, Act.eval]) (fun _ _ => ?_); go_wp2_with fail)
    refine cl_nil ?_
    go_wp2_with fail
    go_roundw
    case rel => exact ⟨j + 1, by omega, by go_num, HB⟩
    case measure => simp [intOf]; omega
  · obtain rfl : j = n := by omega
    clear hjn hj
    go_wp2_with fail
    refine bodyPost_ret tx_res (by rfl) ⟨rfl, HB.out⟩
set_option maxRecDepth 100000 in
set_option maxHeartbeats 4000000 in
/-- The errors of the law's own run. -/
theorem Errors_c (es : List Int) (v1 v2 : Value) (w : World) (h1 : w.ownsRow 0 34 1 v1 es.length (ecs es)) (h2 : w.ownsRow 0 34 1 v2 es.length (ecs es)) (hn4 : es.length ≤ 1000000) :
    Calls Tryz.prog 11 #[v1, v2] w fun e w' => e = .returned (.bool true) ∧ Below w.heap.size w w' := by
  obtain ⟨y1, c1, rfl⟩ := row_form h1
  obtain ⟨y2, c2, rfl⟩ := row_form h2
  obtain ⟨n, hn'⟩ : ∃ n, n = es.length := ⟨_, rfl⟩
  have HN := Lib.hid hn'
  have Q1 := Lib.hid h1
  have Q2 := Lib.hid h2
  rw [← hn'] at Q1 Q2 hn4 ⊢
  clear h1 h2 hn'
  go_enter Tryz.func11, Tryz.ntmps11
  go_wp2_with fail
  go_loopw [5] (fun i wr => ∃ j : Nat, j ≤ n ∧ i = .int .i64 (j : Int) ∧ Hid (Below w.heap.size w wr)) (fun i _ => n - (intOf i).toNat)
  case atStart => exact ⟨0, Nat.zero_le _, rfl, Lib.hid (Below.refl _ _)⟩
  obtain ⟨j, hj, rfl, HB⟩ := hrel
  by_cases hjn : j < n
  · have hlt : (j : Int) < (n : Int) := by omega
    obtain ⟨x, hxx⟩ : ∃ x, es[j]? = some x := ⟨_, List.getElem?_eq_getElem (by rw [← HN.out]; exact hjn)⟩
    have hx2 : (ecs es)[j]? = some (.int .i64 x) := by simp [ecs, hxx]
    obtain ⟨g1, c1', e1, -, -, hg1, -, q1⟩ := row_at Q1.out (by omega)
    obtain ⟨g2, c2', e2, -, -, hg2, -, q2⟩ := row_at Q2.out (by omega)
    cases e1
    cases e2
    have d1 := q1 _ _ hx2
    have d2 := q2 _ _ hx2
    clear q1 q2
    go_upto_region 6 with fail
    refine wp_region_can [] (List.range 9) (by decide +kernel) (by decide +kernel) ?_
    replace HB := Lib.hid HB.out.drew
    generalize hWd : World.drew _ = W4 at HB ⊢
    clear hWd
    replace d1 := old_cell HB.out d1
    replace d2 := old_cell HB.out d2
    have l1 : g1 < W4.heap.size := Nat.lt_of_lt_of_le hg1 HB.out.size
    have l2 : g2 < W4.heap.size := Nat.lt_of_lt_of_le hg2 HB.out.size
    iterate 9 (refine cl_do rfl rfl rfl (by first | rfl | simp [okB, lenV, plainV, Act.eval]) (fun _ _ => ?_); go_wp2_with fail)
    refine cl_nil ?_
    go_wp2_with fail
    go_roundw
    case rel => exact ⟨j + 1, by omega, by go_num, HB⟩
    case measure => simp [intOf]; omega
  · obtain rfl : j = n := by omega
    clear hjn hj
    go_wp2_with fail
    refine bodyPost_ret er_res (by rfl) ⟨rfl, HB.out⟩
theorem se_res {W : World} {tmps : Array Value} : (results Tryz.f8 tmps).run Tryz.prog W = .ok (tmps.getD 4 undef) W := by
  simp [results, Tryz.results8, go_sem]
set_option maxRecDepth 100000 in
set_option maxHeartbeats 4000000 in
theorem SameEntry_c (id : Bytes) (ns : List Nm) (v1 v2 : Value) (w : World) (h1 : IsNames w v1 ns) (h2 : IsNames w v2 ns) (hn4 : ns.length ≤ 1000000) (hok : ∀ n ∈ ns, NmOk n) :
    Calls Tryz.prog 8 #[.agg #[.string (bs id), v1], .agg #[.string (bs id), v2]] w fun e w' => e = .returned (.bool true) ∧ Below w.heap.size w w' := by
  obtain ⟨y1, c1, rfl, q1⟩ := h1
  obtain ⟨y2, c2, rfl, q2⟩ := h2
  obtain ⟨n, hn'⟩ : ∃ n, n = ns.length := ⟨_, rfl⟩
  have HN := Lib.hid hn'
  have Q1 := Lib.hid q1
  have Q2 := Lib.hid q2
  have HOk := Lib.hid hok
  rw [← hn'] at hn4 ⊢
  have ho1 := (Owns.start w).box (.cells #[.string (bs id), .slice y1 n c1] 27 (0, 0))
  have ho2 := ho1.box (.cells #[.string (bs id), .slice y2 n c2] 27 (0, 0))
  obtain ⟨b2, hb2⟩ : ∃ b, b = w.heap.size := ⟨_, rfl⟩
  rw [← hb2] at ho1 ho2
  obtain ⟨W1, hW1⟩ : ∃ W, W = w.alloc (.cells #[.string (bs id), .slice y1 n c1] 27 (0, 0)) := ⟨_, rfl⟩
  rw [← hW1] at ho2
  obtain ⟨b3, hb3⟩ : ∃ b, b = W1.heap.size := ⟨_, rfl⟩
  rw [← hb3] at ho2
  obtain ⟨W2, hW2⟩ : ∃ W, W = W1.alloc (.cells #[.string (bs id), .slice y2 n c2] 27 (0, 0)) := ⟨_, rfl⟩
  rw [← hW2] at ho2
  have HO := Lib.hid ho2
  clear q1 q2 hn' hok ho1 ho2
  go_enter Tryz.func8, Tryz.ntmps8
  go_upto_region 1 with fail
  rw [show w.heap.size + 1 = b3 by rw [hb3, hW1, World.size_alloc], ← hb2, ← hW1, ← hW2]
  clear hb2 hW1 hb3 hW2
  have hbk3 := HO.out.blk.1
  have hbk2 := HO.out.pop.blk.1
  have e0 : W2.cell? ⟨b2, 0, none⟩ = some (.string (bs id)) := by rw [cell_of_heap hbk2]; rfl
  have e1 : W2.cell? ⟨b2, 1, none⟩ = some (.slice (y1) n c1) := by rw [cell_of_heap hbk2]; rfl
  have f0 : W2.cell? ⟨b3, 0, none⟩ = some (.string (bs id)) := by rw [cell_of_heap hbk3]; rfl
  have f1 : W2.cell? ⟨b3, 1, none⟩ = some (.slice (y2) n c2) := by rw [cell_of_heap hbk3]; rfl
  have l2 := lt_of_block hbk2
  have l3 := lt_of_block hbk3
  clear hbk3 hbk2
  go_wp2_with fail
  clear e0 e1 f0 f1 l2 l3
  go_loopw [5] (fun i wr => ∃ j : Nat, j ≤ n ∧ i = .int .i64 (j : Int) ∧ Hid (Owns w wr [blk b3 (.cells #[.string (bs id), .slice y2 n c2] 27 (0, 0)), blk b2 (.cells #[.string (bs id), .slice y1 n c1] 27 (0, 0))])) (fun i _ => n - (intOf i).toNat)
  case atStart => exact ⟨0, Nat.zero_le _, rfl, HO⟩
  clear HO
  obtain ⟨j, hj, rfl, HO⟩ := hrel
  by_cases hjn : j < n
  · have hlt : (j : Int) < (n : Int) := by omega
    obtain ⟨x, hxx⟩ : ∃ x, ns[j]? = some x := ⟨_, List.getElem?_eq_getElem (by rw [← HN.out]; exact hjn)⟩
    obtain ⟨g1, o1, wv1, rfl, hg1, p1, p2, p3⟩ := Q1.out j x hxx
    obtain ⟨g2, o2, wv2, rfl, hg2, q1, q2, q3⟩ := Q2.out j x hxx
    have HX := Lib.hid (HOk.out x (List.mem_of_getElem? hxx))
    have HP3 := Lib.hid p3
    have HQ3 := Lib.hid q3
    obtain ⟨z1, m1, rfl, -⟩ := p3
    obtain ⟨z2, m2, rfl, -⟩ := q3
    obtain ⟨sc, ws⟩ := x
    obtain ⟨k, hk⟩ : ∃ k, k = ws.length := ⟨_, rfl⟩
    have HK := Lib.hid hk
    dsimp only at p1 q1 p2 q2 HP3 HQ3
    rw [← hk] at p2 q2 HP3 HQ3
    clear hk
    have hbk3 := HO.out.blk.1
    have hbk2 := HO.out.pop.blk.1
    have e0 : wr.cell? ⟨b2, 0, none⟩ = some (.string (bs id)) := by rw [cell_of_heap hbk2]; rfl
    have e1 : wr.cell? ⟨b2, 1, none⟩ = some (.slice (some ⟨g1, o1, none⟩) n c1) := by rw [cell_of_heap hbk2]; rfl
    have f0 : wr.cell? ⟨b3, 0, none⟩ = some (.string (bs id)) := by rw [cell_of_heap hbk3]; rfl
    have f1 : wr.cell? ⟨b3, 1, none⟩ = some (.slice (some ⟨g2, o2, none⟩) n c2) := by rw [cell_of_heap hbk3]; rfl
    have l2 := lt_of_block hbk2
    have l3 := lt_of_block hbk3
    clear hbk3 hbk2
    go_upto_region 6 with fail
    clear e0 e1 f0 f1 l2 l3
    refine wp_region_can [26] (List.range 29) (by decide +kernel) (by decide +kernel) ?_
    replace HO := Lib.hid HO.out.drew
    generalize hWd : World.drew _ = W4 at HO ⊢
    clear hWd
    have hbk3 := HO.out.blk.1
    have hbk2 := HO.out.pop.blk.1
    have e0 : W4.cell? ⟨b2, 0, none⟩ = some (.string (bs id)) := by rw [cell_of_heap hbk2]; rfl
    have e1 : W4.cell? ⟨b2, 1, none⟩ = some (.slice (some ⟨g1, o1, none⟩) n c1) := by rw [cell_of_heap hbk2]; rfl
    have f0 : W4.cell? ⟨b3, 0, none⟩ = some (.string (bs id)) := by rw [cell_of_heap hbk3]; rfl
    have f1 : W4.cell? ⟨b3, 1, none⟩ = some (.slice (some ⟨g2, o2, none⟩) n c2) := by rw [cell_of_heap hbk3]; rfl
    have l2 := lt_of_block hbk2
    have l3 := lt_of_block hbk3
    clear hbk3 hbk2
    replace p1 := old_cell HO.out.base p1
    replace p2 := old_cell HO.out.base p2
    replace q1 := old_cell HO.out.base q1
    replace q2 := old_cell HO.out.base q2
    have k1 : g1 < W4.heap.size := Nat.lt_of_lt_of_le hg1 HO.out.base.size
    have k2 : g2 < W4.heap.size := Nat.lt_of_lt_of_le hg2 HO.out.base.size
    iterate 14 (refine cl_do rfl rfl rfl (by first | rfl | simp [okB, lenV, plainV, Act.eval]) (fun _ _ => ?_); go_wp2_with fail)
    iterate 12 (refine cl_yes rfl rfl rfl rfl (by first | rfl | simp [okB, lenV, plainV, Act.eval]) (fun _ _ => ?_); go_wp2_with fail)
    refine cl_ycall (i := 26) rfl rfl rfl rfl (fun K hK => ?_)
    go_wp2_with fail
    go_at_call 19
    refine (Texts_c ws _ _ W4 (words_below HP3.out HO.out.base) (words_below HQ3.out HO.out.base) HX.out.1).mono ?_
    rintro e W5 ⟨rfl, hb⟩
    clear e0 e1 f0 f1 l2 l3
    have HBw := Lib.hid hb
    replace HO := Lib.hid (HO.out.below hb)
    clear hb p1 p2 q1 q2 k1 k2
    go_wp2_with (refine And.intro (show Below _ _ _ from ?_) ?_; exact HBw.out)
    clear HBw
    refine cl_yes rfl rfl rfl rfl (by first | rfl | simp [okB, lenV, plainV, Act.eval]) (fun _ _ => ?_); go_wp2_with fail
    iterate 1 (refine cl_do rfl rfl rfl (by first | rfl | simp [okB, lenV, plainV, Act.eval]) (fun _ _ => ?_); go_wp2_with fail)
    refine cl_nil ?_
    go_wp2_with fail
    go_roundw
    case rel => exact ⟨j + 1, by omega, by go_num, HO⟩
    case measure => simp [intOf]; omega
  · obtain rfl : n = j := by omega
    clear hjn hj
    have hbk3 := HO.out.blk.1
    have hbk2 := HO.out.pop.blk.1
    have e0 : wr.cell? ⟨b2, 0, none⟩ = some (.string (bs id)) := by rw [cell_of_heap hbk2]; rfl
    have e1 : wr.cell? ⟨b2, 1, none⟩ = some (.slice (y1) n c1) := by rw [cell_of_heap hbk2]; rfl
    have f0 : wr.cell? ⟨b3, 0, none⟩ = some (.string (bs id)) := by rw [cell_of_heap hbk3]; rfl
    have f1 : wr.cell? ⟨b3, 1, none⟩ = some (.slice (y2) n c2) := by rw [cell_of_heap hbk3]; rfl
    have l2 := lt_of_block hbk2
    have l3 := lt_of_block hbk3
    clear hbk3 hbk2
    go_wp2_with fail
    refine bodyPost_ret se_res (by rfl) ⟨rfl, HO.out.base⟩
end Go.Proofs.YtckocgkndbdhcaaGreatDoor
