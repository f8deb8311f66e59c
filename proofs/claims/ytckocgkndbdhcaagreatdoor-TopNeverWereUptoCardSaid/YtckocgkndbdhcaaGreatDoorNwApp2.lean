/-
  Apply.
-/
import Derived.Test.YtckocgkndbdhcaaGreatDoorNwApply
import Derived.Test.YtckocgkndbdhcaaGreatDoorAnyOrd
namespace Go.Proofs.YtckocgkndbdhcaaGreatDoor
open Go.RowKit Go.Cz Go.Cz.Nw Go.Cz.Lx Go.ChangeMaps
set_option linter.unusedSimpArgs false
set_option linter.unusedVariables false
attribute [local go_sem] bs_size bs_extract bs_append bs_toList
attribute [local irreducible] cList cPlan cWalk
theorem listok_below {w w' : World} {l : List Lst} (h : ListOk w l) (hb : Below w.heap.size w w') : ListOk w' l :=
  ⟨fun x hx => by
    have h1 := h.each x hx
    exact ⟨h1.prop, h1.fr, h1.til, h1.id, h1.ns, names_below h1.nv hb⟩, h.ids, h.len⟩
theorem listok_sl {w : World} {l : List Lst} (h : ListOk w l) : SlV l := fun x hx => by
  obtain ⟨y, c, e, -⟩ := (h.each x hx).nv
  exact ⟨y, _, c, e⟩
theorem place_find {l : List Lst} {id : Bytes} {j : Nat} (hn : (l.map (·.id)).Nodup) (h : placeOf id l = some j) : Instr.findNow .string (.string (bs id)) (idxE 0 l) 0 = some (some (j, .int .i64 (j : Int))) := by
  obtain ⟨x, h1, rfl⟩ := place_some h
  have := find_idx 0 l j x hn h1 0
  rwa [Nat.zero_add] at this
theorem none_find {l : List Lst} {id : Bytes} (h : placeOf id l = none) : Instr.findNow .string (.string (bs id)) (idxE 0 l) 0 = some none :=
  find_none id (idxE 0 l) (l.map (·.id)) 0 (idxE_keys _ _) (place_none h)
theorem ap_res {W : World} {tmps : Array Value} : (results Tryz.f16 tmps).run Tryz.prog W = .ok (.tuple #[tmps.getD 4 undef, tmps.getD 5 undef]) W := by
  simp [results, Tryz.results16, go_sem]
theorem lss_set : ∀ (l : List Lst) (j : Nat) (y : Lst), j < l.length → lss (l.set j y) = (((((lss l).set (j * 5) (.string (bs y.id))).set (j * 5 + 1) y.nv).set (j * 5 + 2) (.int .i64 y.fr)).set (j * 5 + 3) (.int .i64 y.til)).set (j * 5 + 4) (.bool y.vd)
  | [], j, y, h => by simp at h
  | a :: r, 0, y, h => by simp [lss, lsl]
  | a :: r, j + 1, y, h => by
    have ih := lss_set r j y (by simpa using h)
    have e : ∀ b q, lss (b :: q) = lsl b ++ lss q := fun _ _ => rfl
    have hs : ∀ (q : List Value) (i : Nat) (u : Value), (lsl a ++ q).set ((j + 1) * 5 + i) u = lsl a ++ q.set (j * 5 + i) u := fun q i u => by
      rw [List.set_append_right _ _ (by simp [lsl]; omega)]
      congr 2
      simp [lsl]
      omega
    have h0 := fun q u => hs q 0 u
    simp only [Nat.add_zero] at h0
    rw [List.set_cons_succ, e, e, ih, h0, hs, hs, hs, hs]
theorem lrow_set {w0 w : World} {ps : List Piece} {l : List Lst} {g c j n : Nat} (hn : n = l.length) (hj : j < n) (y : Lst) (h : Owns w0 w (lrow (.slice (some ⟨g, 0, none⟩) n c) l :: ps)) :
    Owns w0 (((((w.setCell ⟨g, j * 5, none⟩ (.string (bs y.id))).setCell ⟨g, j * 5 + 1, none⟩ y.nv).setCell ⟨g, j * 5 + 2, none⟩ (.int .i64 y.fr)).setCell ⟨g, j * 5 + 3, none⟩ (.int .i64 y.til)).setCell ⟨g, j * 5 + 4, none⟩ (.bool y.vd)) (lrow (.slice (some ⟨g, 0, none⟩) n c) (l.set j y) :: ps) := by
  subst hn
  have h1 := ((((h.rowSet (i := j * 5) (.string (bs y.id)) (by omega)).rowSet (i := j * 5 + 1) y.nv (by omega)).rowSet (i := j * 5 + 2) (.int .i64 y.fr) (by omega)).rowSet (i := j * 5 + 3) (.int .i64 y.til) (by omega)).rowSet (i := j * 5 + 4) (.bool y.vd) (by omega)
  unfold lrow
  rw [List.length_set, lss_set l j y hj]
  exact h1
theorem cw_call {P : Program} {ls : List Oper} {fl : Nat → Bool} {Q : Act → World → Prop} {f : Nat} {listed : Array Bool} {a : Act} {w : World} {i : Nat} {o : Oper} (ho : nth ls i = some o) (hg : o.guard = none) (hk : okB o a.eval = true)
    (h : ∀ K : Act → World → Prop, (∀ a' w', Below w.heap.size w w' ∧ cWalk P ls.toArray fl Q f listed a' w' → K a' w') → o.wp P a w K QF) : cOp P ls.toArray fl i (cWalk P ls.toArray fl Q f listed) a w := by
  unfold cOp
  simp only [nth_eq, ho, Region.wanted, hg, if_true]
  exact ⟨hk, h _ fun a' w' hh => ⟨fun _ => hh.1, hh.2⟩⟩
/-- What 'Apply' leaves: a new list, or an error and the list as it was. -/
def ApPost (w0 w' : World) (l : List Lst) (c : Chg) (v : Value) (ps : List Piece) (e : Ending) : Prop :=
  (applyE l c ≠ 0 ∧ e = .returned (.tuple #[.slice none 0 0, .int .i64 (applyE l c)]) ∧ Owns w0 w' (lrow v l :: ps)) ∨
  (applyE l c = 0 ∧ ∃ v', e = .returned (.tuple #[v', .int .i64 0]) ∧ Owns w0 w' (lrow v' (applyL l c) :: ps))
set_option maxRecDepth 100000 in
set_option maxHeartbeats 8000000 in
theorem apply_c {w0 : World} {ps : List Piece} (l : List Lst) (c : Chg) (v : Value) (w : World) (hstd : Std w0) (h : Owns w0 w (lrow v l :: ps)) (hl : ListOk w0 l) (hlen : l.length < 400) (hv : IsNames w0 c.nv c.ns) (hok : ChgOk c) :
    Calls Tryz.prog 16 #[v, chV c] w fun e w' => ApPost w0 w' l c v ps e := by
  obtain ⟨k, id, eid, nv, ns, t⟩ := c
  have HOk := Lib.hid hok
  have HNs := Lib.hid hv
  have HL := Lib.hid hl
  have HStd := Lib.hid hstd
  obtain ⟨y, cc, e0, -⟩ := hv
  dsimp only at e0
  subst e0
  obtain ⟨yr, cr, rfl⟩ := row_form h.row
  obtain ⟨n, hn⟩ : ∃ n, n = l.length := ⟨_, rfl⟩
  have HN := Lib.hid hn
  obtain ⟨m, hm⟩ : ∃ m, m = ns.length := ⟨_, rfl⟩
  have HM := Lib.hid hm
  dsimp only [chV]
  rw [← hm] at HNs HOk ⊢
  obtain ⟨W1, hW1⟩ : ∃ W, W = w.alloc (.cells #[.int .i64 k, .string (bs id), .string (bs eid), .slice y m cc, .int .i64 t] 29) := ⟨_, rfl⟩
  obtain ⟨b3, hb3⟩ : ∃ x, x = w.heap.size := ⟨_, rfl⟩
  have HO : Hid (Owns w0 W1 (blk b3 (.cells #[.int .i64 k, .string (bs id), .string (bs eid), .slice y m cc, .int .i64 t] 29 (0, 0)) :: lrow (.slice yr l.length cr) l :: ps)) := by
    rw [hW1, hb3]
    exact Lib.hid (h.box _)
  rw [← hn] at hlen HO ⊢
  clear h hl hok hstd hn hm
  have HP := Lib.hid (lproper_c l (.slice yr n cr) W1 (HStd.out.below HO.out.base) (by rw [HN.out] at HO ⊢; exact HO.out.pop.row) (listok_below HL.out HO.out.base))
  go_enter Tryz.func16, Tryz.ntmps16
  go_upto_region 1 with fail
  rw [← hW1, ← hb3]
  clear hW1 hb3
  go_wp2_with fail
  go_at_call 17
  refine HP.out.mono ?_
  rintro e W2 ⟨g, rfl, hg, hgm, hb⟩
  replace HO := Lib.hid (HO.out.below hb)
  have HG := Lib.hid hgm
  clear hb hgm HP hg
  focus
    have hbk := Owns.blk (HO.out)
    have c0 : W2.cell? ⟨b3, 0, none⟩ = some (.int .i64 (k)) := by rw [cell_of_heap hbk.1]; rfl
    have c1 : W2.cell? ⟨b3, 1, none⟩ = some (.string (bs id)) := by rw [cell_of_heap hbk.1]; rfl
    have c2 : W2.cell? ⟨b3, 2, none⟩ = some (.string (bs eid)) := by rw [cell_of_heap hbk.1]; rfl
    have c3 : W2.cell? ⟨b3, 3, none⟩ = some (.slice y m cc) := by rw [cell_of_heap hbk.1]; rfl
    have c4 : W2.cell? ⟨b3, 4, none⟩ = some (.int .i64 t) := by rw [cell_of_heap hbk.1]; rfl
    have l3 := lt_of_block hbk.1
    clear hbk
    go_wp2_with fail
    clear c0 c1 c2 c3 c4 l3
  go_at_call 29
  refine (formed_c ⟨k, id, eid, .slice y m cc, ns, t⟩ W2 (HStd.out.below HO.out.base) (names_below HNs.out HO.out.base) HOk.out).mono ?_
  rintro e W3 ⟨rfl, hb⟩
  replace HO := Lib.hid (HO.out.below hb)
  replace HG := Lib.hid ((hb.block g (lt_of_block HG.out)).trans HG.out)
  clear hb
  rcases hf : formedB ⟨k, id, eid, .slice y m cc, ns, t⟩ with _ | _
  · have HE : Hid (applyE l ⟨k, id, eid, .slice y m cc, ns, t⟩ = 1) := by show _ = _; unfold applyE; rw [if_pos hf]
    clear hf
    have hbk := Owns.blk (HO.out)
    have c0 : W3.cell? ⟨b3, 0, none⟩ = some (.int .i64 (k)) := by rw [cell_of_heap hbk.1]; rfl
    have c1 : W3.cell? ⟨b3, 1, none⟩ = some (.string (bs id)) := by rw [cell_of_heap hbk.1]; rfl
    have c2 : W3.cell? ⟨b3, 2, none⟩ = some (.string (bs eid)) := by rw [cell_of_heap hbk.1]; rfl
    have c3 : W3.cell? ⟨b3, 3, none⟩ = some (.slice y m cc) := by rw [cell_of_heap hbk.1]; rfl
    have c4 : W3.cell? ⟨b3, 4, none⟩ = some (.int .i64 t) := by rw [cell_of_heap hbk.1]; rfl
    have l3 := lt_of_block hbk.1
    clear hbk
    go_wp2_with fail
    clear c0 c1 c2 c3 c4 l3
    refine bodyPost_ret ap_res (by rfl) (.inl ⟨by rw [HE.out]; decide, ?_, HO.out.pop⟩)
    rw [HE.out]
    rfl
  have hne : ¬ formedB ⟨k, id, eid, .slice y m cc, ns, t⟩ = false := by rw [hf]; simp
  rcases hp : placeOf id l with _ | j
  · have hms := map_miss (P := Tryz.prog) mapIU strU HG.out id (zeroIn W3) true (none_find hp)
    by_cases k1 : k = 1
    · subst k1
      have HE : Hid (applyE l ⟨1, id, eid, .slice y m cc, ns, t⟩ = 0) := by
        show _ = _
        unfold applyE
        rw [if_neg hne]
        simp only [hp, if_true]
        rw [if_neg (by rw [← HN.out]; omega)]
      have HL2 : Hid (applyL l ⟨1, id, eid, .slice y m cc, ns, t⟩ = l ++ [⟨eid, .slice y m cc, ns, t, -1, false⟩]) := by
        have he := HE.out
        show _ = _
        unfold applyL
        rw [if_neg (by rw [he]; simp)]
        simp only [hp]
      have hn4 : ((n : Nat) == 400) = false := by simp; omega
      clear hf hne hp
      have hbk := Owns.blk (HO.out)
      have c0 : W3.cell? ⟨b3, 0, none⟩ = some (.int .i64 (1)) := by rw [cell_of_heap hbk.1]; rfl
      have c1 : W3.cell? ⟨b3, 1, none⟩ = some (.string (bs id)) := by rw [cell_of_heap hbk.1]; rfl
      have c2 : W3.cell? ⟨b3, 2, none⟩ = some (.string (bs eid)) := by rw [cell_of_heap hbk.1]; rfl
      have c3 : W3.cell? ⟨b3, 3, none⟩ = some (.slice y m cc) := by rw [cell_of_heap hbk.1]; rfl
      have c4 : W3.cell? ⟨b3, 4, none⟩ = some (.int .i64 t) := by rw [cell_of_heap hbk.1]; rfl
      have l3 := lt_of_block hbk.1
      clear hbk
      go_upto_region 10 with fail
      clear c0 c1 c2 c3 c4 l3
      clear hms
      refine wp_region_walk [1] 11 rfl (by decide +kernel) ?_
      replace HO := Lib.hid HO.out.drew
      generalize hWd : World.drew _ = W4 at HO ⊢
      clear hWd
      have hbk := Owns.blk (HO.out)
      have c0 : W4.cell? ⟨b3, 0, none⟩ = some (.int .i64 (1)) := by rw [cell_of_heap hbk.1]; rfl
      have c1 : W4.cell? ⟨b3, 1, none⟩ = some (.string (bs id)) := by rw [cell_of_heap hbk.1]; rfl
      have c2 : W4.cell? ⟨b3, 2, none⟩ = some (.string (bs eid)) := by rw [cell_of_heap hbk.1]; rfl
      have c3 : W4.cell? ⟨b3, 3, none⟩ = some (.slice y m cc) := by rw [cell_of_heap hbk.1]; rfl
      have c4 : W4.cell? ⟨b3, 4, none⟩ = some (.int .i64 t) := by rw [cell_of_heap hbk.1]; rfl
      have l3 := lt_of_block hbk.1
      clear hbk
      refine cw_step 0 (by decide +kernel) (by decide +kernel) (by decide +kernel) ?_; (refine cw_do rfl rfl rfl (by first | rfl | simp [okB, lenV, plainV, Act.eval]) (fun _ _ => ?_); go_wp2_with fail)
      refine cw_step 2 (by decide +kernel) (by decide +kernel) (by decide +kernel) ?_; (refine cw_do rfl rfl rfl (by first | rfl | simp [okB, lenV, plainV, Act.eval]) (fun _ _ => ?_); go_wp2_with fail)
      refine cw_step 3 (by decide +kernel) (by decide +kernel) (by decide +kernel) ?_; (refine cw_do rfl rfl rfl (by first | rfl | simp [okB, lenV, plainV, Act.eval]) (fun _ _ => ?_); go_wp2_with fail)
      refine cw_step 4 (by decide +kernel) (by decide +kernel) (by decide +kernel) ?_; (refine cw_do rfl rfl rfl (by first | rfl | simp [okB, lenV, plainV, Act.eval]) (fun _ _ => ?_); go_wp2_with fail)
      refine cw_step 5 (by decide +kernel) (by decide +kernel) (by decide +kernel) ?_; (refine cw_do rfl rfl rfl (by first | rfl | simp [okB, lenV, plainV, Act.eval]) (fun _ _ => ?_); go_wp2_with fail)
      refine cw_step 6 (by decide +kernel) (by decide +kernel) (by decide +kernel) ?_; (refine cw_do rfl rfl rfl (by first | rfl | simp [okB, lenV, plainV, Act.eval]) (fun _ _ => ?_); go_wp2_with fail)
      refine cw_two 1 7 (by decide +kernel) ?_ ?_
      · clear c0 c1 c2 c3 c4 l3
        -- Clone: W4 the world, W5 the world behind, HO.out.swap the row first
        refine cw_call rfl rfl rfl (fun K hK => ?_)
        go_wp2_with fail
        go_at_call 30
        refine (lclone_c l (.slice yr n cr) W4 (listok_sl HL.out) (by rw [← HN.out]; omega) (HO.out.swap)).mono ?_
        rintro e W5 ⟨v2, rfl, h5, hb⟩
        obtain ⟨y2, c2, rfl⟩ := row_form h5.row
        have HBw := Lib.hid hb
        replace HO := Lib.hid h5
        clear h5 hb
        go_wp2_with (refine And.intro (show Below _ _ _ from ?_) ?_; exact HBw.out)
        clear HBw
        refine cw_step 7 (by decide +kernel) (by decide +kernel) (by decide +kernel) ?_; refine cw_do rfl rfl rfl (by first | rfl | simp [okB, lenV, plainV, Act.eval]) (fun _ _ => ?_)
        have hoA := HO.out.box (.cells #[.string (bs eid), .slice y m cc, .int .i64 t, .int .i64 (-1), .bool false] 57 (0, 0))
        obtain ⟨g1, hg1⟩ : ∃ x, x = (W5).heap.size := ⟨_, rfl⟩
        obtain ⟨W6, hW⟩ : ∃ W, W = (W5).alloc (.cells #[.string (bs eid), .slice y m cc, .int .i64 t, .int .i64 (-1), .bool false] 57) := ⟨_, rfl⟩
        rw [← hW, ← hg1] at hoA
        go_wp2_with fail
        rw [← hW, ← hg1]
        replace HO := Lib.hid hoA
        clear hoA hW hg1
        refine cw_step 8 (by decide +kernel) (by decide +kernel) (by decide +kernel) ?_
        refine cw_do rfl rfl rfl (by first | rfl | simp [okB, lenV, plainV, Act.eval]) (fun K hK => ?_)
        refine wp_append (.tmp 41) (.tmp 47) 30 (by rfl) 57 _ 5 64 Tryz.underlying30 info_ls (by rfl) (by omega) _ l.length _ (by rfl) (HO.out.swap).row g1 1 1 (lss [⟨eid, .slice y m cc, ns, t, -1, false⟩]) (by rfl) (by rfl) 57 (by exact (Owns.blk (HO.out)).1) (by intro u hu; simp only [lss, lsl, List.flatMap_cons, List.flatMap_nil, List.append_nil, List.mem_cons, List.not_mem_nil, or_false] at hu; rcases hu with rfl | rfl | rfl | rfl | rfl <;> rfl) (by rw [← HN.out]; omega) (by rw [← HN.out]; omega) ?_
        intro v' w' hrow hgrow hblk
        have hO2 := Owns.rowGrew (HO.out.swap) hrow hgrow hblk
        replace HO := Lib.hid hO2
        clear hrow hgrow hblk hO2
        refine hK _ _ ?_
        clear hK
        refine cw_step 9 (by decide +kernel) (by decide +kernel) (by decide +kernel) ?_; (refine cw_do rfl rfl rfl (by first | rfl | simp [okB, lenV, plainV, Act.eval]) (fun _ _ => ?_); go_wp2_with fail)
        refine cw_step 10 (by decide +kernel) (by decide +kernel) (by decide +kernel) ?_; (refine cw_do rfl rfl rfl (by first | rfl | simp [okB, lenV, plainV, Act.eval]) (fun _ _ => ?_); go_wp2_with fail)
        refine cw_nil (by decide +kernel) ?_
        go_wp2_with fail
        refine bodyPost_ret ap_res (by rfl) (.inr ⟨HE.out, v', rfl, ?_⟩)
        rw [HL2.out]
        show Owns w0 w' (rowP 57 5 v' (l ++ [_]).length (lss (l ++ [_])) :: ps)
        rw [List.length_append, lss_append]
        exact HO.out.swap.pop.swap.pop.swap.pop
      · clear c0 c1 c2 c3 c4 l3
        refine cw_do rfl rfl rfl (by first | rfl | simp [okB, lenV, plainV, Act.eval]) (fun _ _ => ?_)
        have hoA := HO.out.box (.cells #[.string (bs eid), .slice y m cc, .int .i64 t, .int .i64 (-1), .bool false] 57 (0, 0))
        obtain ⟨g1, hg1⟩ : ∃ x, x = (W4).heap.size := ⟨_, rfl⟩
        obtain ⟨W5, hW⟩ : ∃ W, W = (W4).alloc (.cells #[.string (bs eid), .slice y m cc, .int .i64 t, .int .i64 (-1), .bool false] 57) := ⟨_, rfl⟩
        rw [← hW, ← hg1] at hoA
        go_wp2_with fail
        rw [← hW, ← hg1]
        replace HO := Lib.hid hoA
        clear hoA hW hg1
        refine cw_step 1 (by decide +kernel) (by decide +kernel) (by decide +kernel) ?_
        -- Clone: W5 the world, W6 the world behind, HO.out.rot the row first
        refine cw_call rfl rfl rfl (fun K hK => ?_)
        go_wp2_with fail
        go_at_call 30
        refine (lclone_c l (.slice yr n cr) W5 (listok_sl HL.out) (by rw [← HN.out]; omega) (HO.out.rot)).mono ?_
        rintro e W6 ⟨v2, rfl, h5, hb⟩
        obtain ⟨y2, c2, rfl⟩ := row_form h5.row
        have HBw := Lib.hid hb
        replace HO := Lib.hid h5
        clear h5 hb
        go_wp2_with (refine And.intro (show Below _ _ _ from ?_) ?_; exact HBw.out)
        clear HBw
        refine cw_step 8 (by decide +kernel) (by decide +kernel) (by decide +kernel) ?_
        refine cw_do rfl rfl rfl (by first | rfl | simp [okB, lenV, plainV, Act.eval]) (fun K hK => ?_)
        refine wp_append (.tmp 41) (.tmp 47) 30 (by rfl) 57 _ 5 64 Tryz.underlying30 info_ls (by rfl) (by omega) _ l.length _ (by rfl) (HO.out).row g1 1 1 (lss [⟨eid, .slice y m cc, ns, t, -1, false⟩]) (by rfl) (by rfl) 57 (by exact (Owns.blk (HO.out.pop.pop)).1) (by intro u hu; simp only [lss, lsl, List.flatMap_cons, List.flatMap_nil, List.append_nil, List.mem_cons, List.not_mem_nil, or_false] at hu; rcases hu with rfl | rfl | rfl | rfl | rfl <;> rfl) (by rw [← HN.out]; omega) (by rw [← HN.out]; omega) ?_
        intro v' w' hrow hgrow hblk
        have hO2 := Owns.rowGrew (HO.out) hrow hgrow hblk
        replace HO := Lib.hid hO2
        clear hrow hgrow hblk hO2
        refine hK _ _ ?_
        clear hK
        refine cw_step 9 (by decide +kernel) (by decide +kernel) (by decide +kernel) ?_; (refine cw_do rfl rfl rfl (by first | rfl | simp [okB, lenV, plainV, Act.eval]) (fun _ _ => ?_); go_wp2_with fail)
        refine cw_step 10 (by decide +kernel) (by decide +kernel) (by decide +kernel) ?_; (refine cw_do rfl rfl rfl (by first | rfl | simp [okB, lenV, plainV, Act.eval]) (fun _ _ => ?_); go_wp2_with fail)
        refine cw_nil (by decide +kernel) ?_
        go_wp2_with fail
        refine bodyPost_ret ap_res (by rfl) (.inr ⟨HE.out, v', rfl, ?_⟩)
        rw [HL2.out]
        show Owns w0 w' (rowP 57 5 v' (l ++ [_]).length (lss (l ++ [_])) :: ps)
        rw [List.length_append, lss_append]
        exact HO.out.swap.pop.swap.pop.swap.pop
    · have HE : Hid (applyE l ⟨k, id, eid, .slice y m cc, ns, t⟩ = 11) := by
        show _ = _
        unfold applyE
        rw [if_neg hne]
        simp only [hp]
        rw [if_neg k1]
      have k1' : (k == 1) = false := by simpa using k1
      clear hf hne hp
      have hbk := Owns.blk (HO.out)
      have c0 : W3.cell? ⟨b3, 0, none⟩ = some (.int .i64 (k)) := by rw [cell_of_heap hbk.1]; rfl
      have c1 : W3.cell? ⟨b3, 1, none⟩ = some (.string (bs id)) := by rw [cell_of_heap hbk.1]; rfl
      have c2 : W3.cell? ⟨b3, 2, none⟩ = some (.string (bs eid)) := by rw [cell_of_heap hbk.1]; rfl
      have c3 : W3.cell? ⟨b3, 3, none⟩ = some (.slice y m cc) := by rw [cell_of_heap hbk.1]; rfl
      have c4 : W3.cell? ⟨b3, 4, none⟩ = some (.int .i64 t) := by rw [cell_of_heap hbk.1]; rfl
      have l3 := lt_of_block hbk.1
      clear hbk
      go_wp2_with fail
      clear c0 c1 c2 c3 c4 l3
      refine bodyPost_ret ap_res (by rfl) (.inl ⟨by rw [HE.out]; decide, ?_, HO.out.pop⟩)
      rw [HE.out]
      rfl
  · have hms := map_look (P := Tryz.prog) mapIU strU HG.out id true (place_find HL.out.ids hp)
    by_cases k1 : k = 1
    · subst k1
      have HE : Hid (applyE l ⟨1, id, eid, .slice y m cc, ns, t⟩ = 9) := by
        show _ = _
        unfold applyE
        rw [if_neg hne]
        simp only [hp, if_true]
      clear hf hne hp
      have hbk := Owns.blk (HO.out)
      have c0 : W3.cell? ⟨b3, 0, none⟩ = some (.int .i64 (1)) := by rw [cell_of_heap hbk.1]; rfl
      have c1 : W3.cell? ⟨b3, 1, none⟩ = some (.string (bs id)) := by rw [cell_of_heap hbk.1]; rfl
      have c2 : W3.cell? ⟨b3, 2, none⟩ = some (.string (bs eid)) := by rw [cell_of_heap hbk.1]; rfl
      have c3 : W3.cell? ⟨b3, 3, none⟩ = some (.slice y m cc) := by rw [cell_of_heap hbk.1]; rfl
      have c4 : W3.cell? ⟨b3, 4, none⟩ = some (.int .i64 t) := by rw [cell_of_heap hbk.1]; rfl
      have l3 := lt_of_block hbk.1
      clear hbk
      go_wp2_with fail
      clear c0 c1 c2 c3 c4 l3
      refine bodyPost_ret ap_res (by rfl) (.inl ⟨by rw [HE.out]; decide, ?_, HO.out.pop⟩)
      rw [HE.out]
      rfl
    · obtain ⟨x, hx, hxi⟩ := place_some hp
      have k1' : (k == 1) = false := by simpa using k1
      have hlt : (j : Int) < (n : Int) := by
        have := List.getElem?_eq_some_iff.1 hx
        rw [HN.out]
        obtain ⟨h1, -⟩ := this
        omega
      have HJ := Lib.hid hx
      have hxo := HL.out.each x (List.mem_of_getElem? hx)
      obtain ⟨gr, cr', e0, -, -, hgr, -, hcl⟩ := row_at (show W3.ownsRow 0 57 5 (.slice yr n cr) n (lss l) by have hro := HO.out.pop.row; rw [← HN.out] at hro; exact hro) (by omega)
      cases e0
      obtain ⟨q0, q1, q2, q3, q4⟩ := lss_at l j x hx
      have d0 := hcl _ _ q0
      have d1 := hcl _ _ q1
      have d2 := hcl _ _ q2
      have d3 := hcl _ _ q3
      have d4 := hcl _ _ q4
      obtain ⟨xid, xnv, xns, fr, tt, vd⟩ := x
      dsimp only at d0 d1 d2 d3 d4 hxo hxi
      obtain ⟨yx, cx, hnv, -⟩ := hxo.nv
      dsimp only at hnv
      subst hnv
      obtain ⟨mx, hmx⟩ : ∃ m, m = xns.length := ⟨_, rfl⟩
      rw [← hmx] at d1 HJ hx
      have HMX := Lib.hid hmx
      have hapE : applyE l ⟨k, id, eid, .slice y m cc, ns, t⟩ = (if vd || (k == 2 && tt != -1) then 12 else if k == 2 && decide (t ≤ fr) then 14 else 0) := by
        unfold applyE
        rw [if_neg hne]
        simp only [hp]
        rw [if_neg k1]
        simp only [hx]
      have HPl := Lib.hid hp
      have HK4 : Hid (k ≠ 2 → k ≠ 3 → k = 4) := by
        show _ → _
        intro h2 h3
        unfold formedB at hf
        by_cases hc : identB id = false ∨ k < 1 ∨ 4 < k
        · rw [if_pos hc] at hf
          cases hf
        · omega
      clear hmx hcl q0 q1 q2 q3 q4 hxo hne hf hp hx
      have hbk := Owns.blk (HO.out)
      have c0 : W3.cell? ⟨b3, 0, none⟩ = some (.int .i64 (k)) := by rw [cell_of_heap hbk.1]; rfl
      have c1 : W3.cell? ⟨b3, 1, none⟩ = some (.string (bs id)) := by rw [cell_of_heap hbk.1]; rfl
      have c2 : W3.cell? ⟨b3, 2, none⟩ = some (.string (bs eid)) := by rw [cell_of_heap hbk.1]; rfl
      have c3 : W3.cell? ⟨b3, 3, none⟩ = some (.slice y m cc) := by rw [cell_of_heap hbk.1]; rfl
      have c4 : W3.cell? ⟨b3, 4, none⟩ = some (.int .i64 t) := by rw [cell_of_heap hbk.1]; rfl
      have l3 := lt_of_block hbk.1
      clear hbk
      go_upto_region 14 with fail
      clear c0 c1 c2 c3 c4 l3
      clear d0 d1 d2 d3 d4 hms
      have hoA := HO.out.box (.cells #[.string (bs id), .slice yx mx cx, .int .i64 fr, .int .i64 tt, .bool vd] 57 (0, 0))
      obtain ⟨g2, hg2⟩ : ∃ x, x = W3.heap.size := ⟨_, rfl⟩
      obtain ⟨W4, hW⟩ : ∃ W, W = W3.alloc (.cells #[.string (bs id), .slice yx mx cx, .int .i64 fr, .int .i64 tt, .bool vd] 57) := ⟨_, rfl⟩
      rw [← hW, ← hg2] at hoA
      rw [← hW, ← hg2]
      replace HO := Lib.hid hoA
      clear hoA hW hg2 hgr
      rcases vd with _ | _
      · by_cases k2 : k = 2
        · subst k2
          by_cases t1 : tt = -1
          · subst t1
            by_cases tf : t ≤ fr
            · have HE : Hid (applyE l ⟨2, id, eid, .slice y m cc, ns, t⟩ = 14) := by show _ = _; rw [hapE]; simp [tf]
              clear hapE
              have hby := Owns.blk HO.out
              have x0 : W4.cell? ⟨g2, 0, none⟩ = some (.string (bs id)) := by rw [cell_of_heap hby.1]; rfl
              have x1 : W4.cell? ⟨g2, 1, none⟩ = some (.slice yx mx cx) := by rw [cell_of_heap hby.1]; rfl
              have x2 : W4.cell? ⟨g2, 2, none⟩ = some (.int .i64 fr) := by rw [cell_of_heap hby.1]; rfl
              have x3 : W4.cell? ⟨g2, 3, none⟩ = some (.int .i64 (-1)) := by rw [cell_of_heap hby.1]; rfl
              have x4 : W4.cell? ⟨g2, 4, none⟩ = some (.bool false) := by rw [cell_of_heap hby.1]; rfl
              have xl := lt_of_block hby.1
              have hfr0 := free_of_heap (i := 0) hby.1
              have hfr1 := free_of_heap (i := 1) hby.1
              have hfr3 := free_of_heap (i := 3) hby.1
              have hfr4 := free_of_heap (i := 4) hby.1
              have hbk := Owns.blk (HO.out.pop)
              have c0 : W4.cell? ⟨b3, 0, none⟩ = some (.int .i64 (2)) := by rw [cell_of_heap hbk.1]; rfl
              have c1 : W4.cell? ⟨b3, 1, none⟩ = some (.string (bs id)) := by rw [cell_of_heap hbk.1]; rfl
              have c2 : W4.cell? ⟨b3, 2, none⟩ = some (.string (bs eid)) := by rw [cell_of_heap hbk.1]; rfl
              have c3 : W4.cell? ⟨b3, 3, none⟩ = some (.slice y m cc) := by rw [cell_of_heap hbk.1]; rfl
              have c4 : W4.cell? ⟨b3, 4, none⟩ = some (.int .i64 t) := by rw [cell_of_heap hbk.1]; rfl
              have l3 := lt_of_block hbk.1
              clear hbk
              clear hby
              go_wp2_with fail
              clear x0 x1 x2 x3 x4 xl hfr0 hfr1 hfr3 hfr4 c0 c1 c2 c3 c4 l3
              refine bodyPost_ret ap_res (by rfl) (.inl ⟨by rw [HE.out]; decide, ?_, HO.out.pop.pop⟩)
              rw [HE.out]
              rfl
            · have HE : Hid (applyE l ⟨2, id, eid, .slice y m cc, ns, t⟩ = 0) := by show _ = _; rw [hapE]; simp [tf]
              clear hapE
              have hby := Owns.blk HO.out
              have x0 : W4.cell? ⟨g2, 0, none⟩ = some (.string (bs id)) := by rw [cell_of_heap hby.1]; rfl
              have x1 : W4.cell? ⟨g2, 1, none⟩ = some (.slice yx mx cx) := by rw [cell_of_heap hby.1]; rfl
              have x2 : W4.cell? ⟨g2, 2, none⟩ = some (.int .i64 fr) := by rw [cell_of_heap hby.1]; rfl
              have x3 : W4.cell? ⟨g2, 3, none⟩ = some (.int .i64 (-1)) := by rw [cell_of_heap hby.1]; rfl
              have x4 : W4.cell? ⟨g2, 4, none⟩ = some (.bool false) := by rw [cell_of_heap hby.1]; rfl
              have xl := lt_of_block hby.1
              have hfr0 := free_of_heap (i := 0) hby.1
              have hfr1 := free_of_heap (i := 1) hby.1
              have hfr3 := free_of_heap (i := 3) hby.1
              have hfr4 := free_of_heap (i := 4) hby.1
              have hbk := Owns.blk (HO.out.pop)
              have c0 : W4.cell? ⟨b3, 0, none⟩ = some (.int .i64 (2)) := by rw [cell_of_heap hbk.1]; rfl
              have c1 : W4.cell? ⟨b3, 1, none⟩ = some (.string (bs id)) := by rw [cell_of_heap hbk.1]; rfl
              have c2 : W4.cell? ⟨b3, 2, none⟩ = some (.string (bs eid)) := by rw [cell_of_heap hbk.1]; rfl
              have c3 : W4.cell? ⟨b3, 3, none⟩ = some (.slice y m cc) := by rw [cell_of_heap hbk.1]; rfl
              have c4 : W4.cell? ⟨b3, 4, none⟩ = some (.int .i64 t) := by rw [cell_of_heap hbk.1]; rfl
              have l3 := lt_of_block hbk.1
              clear hbk
              clear hby
              go_upto_region 25 with fail
              clear x0 x1 x2 x3 x4 xl hfr0 hfr1 hfr3 hfr4 c0 c1 c2 c3 c4 l3
              obtain ⟨W5, hW5⟩ : ∃ W, W = W4.setCell ⟨g2, 3, none⟩ (.int .i64 t) := ⟨_, rfl⟩
              have hoA := HO.out.store (i := 3) (.int .i64 t)
              rw [← hW5] at hoA ⊢
              clear hW5
              have hoB : Owns w0 W5 (blk g2 (.cells ([.string (bs id), .slice yx mx cx, .int .i64 fr, .int .i64 t, .bool false]).toArray 57 (0, 0)) :: blk b3 _ :: lrow (.slice (some ⟨gr, 0, none⟩) n cr) l :: ps) := hoA
              replace HO := Lib.hid hoB
              clear hoA hoB
              go_wp2_with fail
              go_at_call 30
              refine (lclone_c l (.slice (some ⟨gr, 0, none⟩) n cr) W5 (listok_sl HL.out) (by rw [← HN.out]; omega) HO.out.rot).mono ?_
              rintro e W6 ⟨v2, rfl, h5, hb⟩
              have hrow2 := h5.row
              rw [← HN.out] at hrow2
              obtain ⟨g6, c6, e0, -, -, hg6, ⟨cur6, hc6, -⟩, hcl6⟩ := row_at hrow2 (by omega)
              subst e0
              replace HO := Lib.hid h5
              clear h5 hb hrow2
              obtain ⟨q0, q1, q2, q3, q4⟩ := lss_at l j _ HJ.out
              have d0 := hcl6 _ _ q0
              have d1 := hcl6 _ _ q1
              have d2 := hcl6 _ _ q2
              have d3 := hcl6 _ _ q3
              have d4 := hcl6 _ _ q4
              have f0 := free_of_heap (i := j * 5) hc6
              have f1 := free_of_heap (i := j * 5 + 1) hc6
              have f2 := free_of_heap (i := j * 5 + 2) hc6
              have f3 := free_of_heap (i := j * 5 + 3) hc6
              have f4 := free_of_heap (i := j * 5 + 4) hc6
              have hz := Owns.blk HO.out.pop.pop
              have x0 : W6.cell? ⟨g2, 0, none⟩ = some (([.string (bs id), .slice yx mx cx, .int .i64 fr, .int .i64 t, .bool false]).getD 0 undef) := by rw [cell_of_heap hz.1]; rfl
              have x1 : W6.cell? ⟨g2, 1, none⟩ = some (([.string (bs id), .slice yx mx cx, .int .i64 fr, .int .i64 t, .bool false]).getD 1 undef) := by rw [cell_of_heap hz.1]; rfl
              have x2 : W6.cell? ⟨g2, 2, none⟩ = some (([.string (bs id), .slice yx mx cx, .int .i64 fr, .int .i64 t, .bool false]).getD 2 undef) := by rw [cell_of_heap hz.1]; rfl
              have x3 : W6.cell? ⟨g2, 3, none⟩ = some (([.string (bs id), .slice yx mx cx, .int .i64 fr, .int .i64 t, .bool false]).getD 3 undef) := by rw [cell_of_heap hz.1]; rfl
              have x4 : W6.cell? ⟨g2, 4, none⟩ = some (([.string (bs id), .slice yx mx cx, .int .i64 fr, .int .i64 t, .bool false]).getD 4 undef) := by rw [cell_of_heap hz.1]; rfl
              have hg2 := lt_of_block hz.1
              simp only [List.getD_cons_zero, List.getD_cons_succ] at x0 x1 x2 x3 x4
              dsimp only at d0 d1 d2 d3 d4
              clear hz q0 q1 q2 q3 q4 hc6 hcl6
              go_wp2_with fail
              clear d0 d1 d2 d3 d4 f0 f1 f2 f3 f4 x0 x1 x2 x3 x4
              have HL2 : applyL l ⟨2, id, eid, .slice y m cc, ns, t⟩ = l.set j ⟨xid, .slice yx mx cx, xns, fr, t, false⟩ := by
                unfold applyL
                rw [if_neg (by rw [HE.out]; simp)]
                simp only [HPl.out, HJ.out]
                rfl
              subst hxi
              refine bodyPost_ret ap_res (by rfl) (.inr ⟨HE.out, _, rfl, ?_⟩)
              rw [HL2]
              have h7 := lrow_set (l := l) (j := j) HN.out (by omega) ⟨xid, .slice yx mx cx, xns, fr, t, false⟩ HO.out
              exact (h7.swap.pop.swap.pop.swap.pop)
          · have HE : Hid (applyE l ⟨2, id, eid, .slice y m cc, ns, t⟩ = 12) := by show _ = _; rw [hapE]; simp [t1]
            have t1' : (tt != -1) = true := by simpa using t1
            clear hapE t1
            have hby := Owns.blk HO.out
            have x0 : W4.cell? ⟨g2, 0, none⟩ = some (.string (bs id)) := by rw [cell_of_heap hby.1]; rfl
            have x1 : W4.cell? ⟨g2, 1, none⟩ = some (.slice yx mx cx) := by rw [cell_of_heap hby.1]; rfl
            have x2 : W4.cell? ⟨g2, 2, none⟩ = some (.int .i64 fr) := by rw [cell_of_heap hby.1]; rfl
            have x3 : W4.cell? ⟨g2, 3, none⟩ = some (.int .i64 (tt)) := by rw [cell_of_heap hby.1]; rfl
            have x4 : W4.cell? ⟨g2, 4, none⟩ = some (.bool false) := by rw [cell_of_heap hby.1]; rfl
            have xl := lt_of_block hby.1
            have hfr0 := free_of_heap (i := 0) hby.1
            have hfr1 := free_of_heap (i := 1) hby.1
            have hfr3 := free_of_heap (i := 3) hby.1
            have hfr4 := free_of_heap (i := 4) hby.1
            have hbk := Owns.blk (HO.out.pop)
            have c0 : W4.cell? ⟨b3, 0, none⟩ = some (.int .i64 (2)) := by rw [cell_of_heap hbk.1]; rfl
            have c1 : W4.cell? ⟨b3, 1, none⟩ = some (.string (bs id)) := by rw [cell_of_heap hbk.1]; rfl
            have c2 : W4.cell? ⟨b3, 2, none⟩ = some (.string (bs eid)) := by rw [cell_of_heap hbk.1]; rfl
            have c3 : W4.cell? ⟨b3, 3, none⟩ = some (.slice y m cc) := by rw [cell_of_heap hbk.1]; rfl
            have c4 : W4.cell? ⟨b3, 4, none⟩ = some (.int .i64 t) := by rw [cell_of_heap hbk.1]; rfl
            have l3 := lt_of_block hbk.1
            clear hbk
            clear hby
            go_wp2_with fail
            clear x0 x1 x2 x3 x4 xl hfr0 hfr1 hfr3 hfr4 c0 c1 c2 c3 c4 l3
            refine bodyPost_ret ap_res (by rfl) (.inl ⟨by rw [HE.out]; decide, ?_, HO.out.pop.pop⟩)
            rw [HE.out]
            rfl
        · have k2' : (k == 2) = false := by simpa using k2
          have HE : Hid (applyE l ⟨k, id, eid, .slice y m cc, ns, t⟩ = 0) := by show _ = _; rw [hapE]; simp [k2]
          clear hapE
          by_cases k3 : k = 3
          · subst k3
            have hby := Owns.blk HO.out
            have x0 : W4.cell? ⟨g2, 0, none⟩ = some (.string (bs id)) := by rw [cell_of_heap hby.1]; rfl
            have x1 : W4.cell? ⟨g2, 1, none⟩ = some (.slice yx mx cx) := by rw [cell_of_heap hby.1]; rfl
            have x2 : W4.cell? ⟨g2, 2, none⟩ = some (.int .i64 fr) := by rw [cell_of_heap hby.1]; rfl
            have x3 : W4.cell? ⟨g2, 3, none⟩ = some (.int .i64 (tt)) := by rw [cell_of_heap hby.1]; rfl
            have x4 : W4.cell? ⟨g2, 4, none⟩ = some (.bool false) := by rw [cell_of_heap hby.1]; rfl
            have xl := lt_of_block hby.1
            have hfr0 := free_of_heap (i := 0) hby.1
            have hfr1 := free_of_heap (i := 1) hby.1
            have hfr3 := free_of_heap (i := 3) hby.1
            have hfr4 := free_of_heap (i := 4) hby.1
            have hbk := Owns.blk (HO.out.pop)
            have c0 : W4.cell? ⟨b3, 0, none⟩ = some (.int .i64 (3)) := by rw [cell_of_heap hbk.1]; rfl
            have c1 : W4.cell? ⟨b3, 1, none⟩ = some (.string (bs id)) := by rw [cell_of_heap hbk.1]; rfl
            have c2 : W4.cell? ⟨b3, 2, none⟩ = some (.string (bs eid)) := by rw [cell_of_heap hbk.1]; rfl
            have c3 : W4.cell? ⟨b3, 3, none⟩ = some (.slice y m cc) := by rw [cell_of_heap hbk.1]; rfl
            have c4 : W4.cell? ⟨b3, 4, none⟩ = some (.int .i64 t) := by rw [cell_of_heap hbk.1]; rfl
            have l3 := lt_of_block hbk.1
            clear hbk
            clear hby
            go_upto_region 25 with fail
            clear x0 x1 x2 x3 x4 xl hfr0 hfr1 hfr3 hfr4 c0 c1 c2 c3 c4 l3
            obtain ⟨W5, hW5⟩ : ∃ W, W = (W4.setCell ⟨g2, 0, none⟩ (.string (bs eid))).setCell ⟨g2, 1, none⟩ (.slice y m cc) := ⟨_, rfl⟩
            have hoA := (HO.out.store (i := 0) (.string (bs eid))).store (i := 1) (.slice y m cc)
            rw [← hW5] at hoA ⊢
            clear hW5
            have hoB : Owns w0 W5 (blk g2 (.cells ([.string (bs eid), .slice y m cc, .int .i64 fr, .int .i64 tt, .bool false]).toArray 57 (0, 0)) :: blk b3 _ :: lrow (.slice (some ⟨gr, 0, none⟩) n cr) l :: ps) := hoA
            replace HO := Lib.hid hoB
            clear hoA hoB
            go_wp2_with fail
            go_at_call 30
            refine (lclone_c l (.slice (some ⟨gr, 0, none⟩) n cr) W5 (listok_sl HL.out) (by rw [← HN.out]; omega) HO.out.rot).mono ?_
            rintro e W6 ⟨v2, rfl, h5, hb⟩
            have hrow2 := h5.row
            rw [← HN.out] at hrow2
            obtain ⟨g6, c6, e0, -, -, hg6, ⟨cur6, hc6, -⟩, hcl6⟩ := row_at hrow2 (by omega)
            subst e0
            replace HO := Lib.hid h5
            clear h5 hb hrow2
            obtain ⟨q0, q1, q2, q3, q4⟩ := lss_at l j _ HJ.out
            have d0 := hcl6 _ _ q0
            have d1 := hcl6 _ _ q1
            have d2 := hcl6 _ _ q2
            have d3 := hcl6 _ _ q3
            have d4 := hcl6 _ _ q4
            have f0 := free_of_heap (i := j * 5) hc6
            have f1 := free_of_heap (i := j * 5 + 1) hc6
            have f2 := free_of_heap (i := j * 5 + 2) hc6
            have f3 := free_of_heap (i := j * 5 + 3) hc6
            have f4 := free_of_heap (i := j * 5 + 4) hc6
            have hz := Owns.blk HO.out.pop.pop
            have x0 : W6.cell? ⟨g2, 0, none⟩ = some (([.string (bs eid), .slice y m cc, .int .i64 fr, .int .i64 tt, .bool false]).getD 0 undef) := by rw [cell_of_heap hz.1]; rfl
            have x1 : W6.cell? ⟨g2, 1, none⟩ = some (([.string (bs eid), .slice y m cc, .int .i64 fr, .int .i64 tt, .bool false]).getD 1 undef) := by rw [cell_of_heap hz.1]; rfl
            have x2 : W6.cell? ⟨g2, 2, none⟩ = some (([.string (bs eid), .slice y m cc, .int .i64 fr, .int .i64 tt, .bool false]).getD 2 undef) := by rw [cell_of_heap hz.1]; rfl
            have x3 : W6.cell? ⟨g2, 3, none⟩ = some (([.string (bs eid), .slice y m cc, .int .i64 fr, .int .i64 tt, .bool false]).getD 3 undef) := by rw [cell_of_heap hz.1]; rfl
            have x4 : W6.cell? ⟨g2, 4, none⟩ = some (([.string (bs eid), .slice y m cc, .int .i64 fr, .int .i64 tt, .bool false]).getD 4 undef) := by rw [cell_of_heap hz.1]; rfl
            have hg2 := lt_of_block hz.1
            simp only [List.getD_cons_zero, List.getD_cons_succ] at x0 x1 x2 x3 x4
            dsimp only at d0 d1 d2 d3 d4
            clear hz q0 q1 q2 q3 q4 hc6 hcl6
            go_wp2_with fail
            clear d0 d1 d2 d3 d4 f0 f1 f2 f3 f4 x0 x1 x2 x3 x4
            have HL2 : applyL l ⟨3, id, eid, .slice y m cc, ns, t⟩ = l.set j ⟨eid, .slice y m cc, ns, fr, tt, false⟩ := by
              unfold applyL
              rw [if_neg (by rw [HE.out]; simp)]
              simp only [HPl.out, HJ.out]
              rfl
            subst hxi
            refine bodyPost_ret ap_res (by rfl) (.inr ⟨HE.out, _, rfl, ?_⟩)
            rw [HL2]
            have h7 := lrow_set (l := l) (j := j) HN.out (by omega) ⟨eid, .slice y m cc, ns, fr, tt, false⟩ HO.out
            exact (h7.swap.pop.swap.pop.swap.pop)
          · have k3' : (k == 3) = false := by simpa using k3
            obtain rfl := HK4.out k2 k3
            have hby := Owns.blk HO.out
            have x0 : W4.cell? ⟨g2, 0, none⟩ = some (.string (bs id)) := by rw [cell_of_heap hby.1]; rfl
            have x1 : W4.cell? ⟨g2, 1, none⟩ = some (.slice yx mx cx) := by rw [cell_of_heap hby.1]; rfl
            have x2 : W4.cell? ⟨g2, 2, none⟩ = some (.int .i64 fr) := by rw [cell_of_heap hby.1]; rfl
            have x3 : W4.cell? ⟨g2, 3, none⟩ = some (.int .i64 (tt)) := by rw [cell_of_heap hby.1]; rfl
            have x4 : W4.cell? ⟨g2, 4, none⟩ = some (.bool false) := by rw [cell_of_heap hby.1]; rfl
            have xl := lt_of_block hby.1
            have hfr0 := free_of_heap (i := 0) hby.1
            have hfr1 := free_of_heap (i := 1) hby.1
            have hfr3 := free_of_heap (i := 3) hby.1
            have hfr4 := free_of_heap (i := 4) hby.1
            have hbk := Owns.blk (HO.out.pop)
            have c0 : W4.cell? ⟨b3, 0, none⟩ = some (.int .i64 (4)) := by rw [cell_of_heap hbk.1]; rfl
            have c1 : W4.cell? ⟨b3, 1, none⟩ = some (.string (bs id)) := by rw [cell_of_heap hbk.1]; rfl
            have c2 : W4.cell? ⟨b3, 2, none⟩ = some (.string (bs eid)) := by rw [cell_of_heap hbk.1]; rfl
            have c3 : W4.cell? ⟨b3, 3, none⟩ = some (.slice y m cc) := by rw [cell_of_heap hbk.1]; rfl
            have c4 : W4.cell? ⟨b3, 4, none⟩ = some (.int .i64 t) := by rw [cell_of_heap hbk.1]; rfl
            have l3 := lt_of_block hbk.1
            clear hbk
            clear hby
            go_upto_region 25 with fail
            clear x0 x1 x2 x3 x4 xl hfr0 hfr1 hfr3 hfr4 c0 c1 c2 c3 c4 l3
            obtain ⟨W5, hW5⟩ : ∃ W, W = W4.setCell ⟨g2, 4, none⟩ (.bool true) := ⟨_, rfl⟩
            have hoA := HO.out.store (i := 4) (.bool true)
            rw [← hW5] at hoA ⊢
            clear hW5
            have hoB : Owns w0 W5 (blk g2 (.cells ([.string (bs id), .slice yx mx cx, .int .i64 fr, .int .i64 tt, .bool true]).toArray 57 (0, 0)) :: blk b3 _ :: lrow (.slice (some ⟨gr, 0, none⟩) n cr) l :: ps) := hoA
            replace HO := Lib.hid hoB
            clear hoA hoB
            go_wp2_with fail
            go_at_call 30
            refine (lclone_c l (.slice (some ⟨gr, 0, none⟩) n cr) W5 (listok_sl HL.out) (by rw [← HN.out]; omega) HO.out.rot).mono ?_
            rintro e W6 ⟨v2, rfl, h5, hb⟩
            have hrow2 := h5.row
            rw [← HN.out] at hrow2
            obtain ⟨g6, c6, e0, -, -, hg6, ⟨cur6, hc6, -⟩, hcl6⟩ := row_at hrow2 (by omega)
            subst e0
            replace HO := Lib.hid h5
            clear h5 hb hrow2
            obtain ⟨q0, q1, q2, q3, q4⟩ := lss_at l j _ HJ.out
            have d0 := hcl6 _ _ q0
            have d1 := hcl6 _ _ q1
            have d2 := hcl6 _ _ q2
            have d3 := hcl6 _ _ q3
            have d4 := hcl6 _ _ q4
            have f0 := free_of_heap (i := j * 5) hc6
            have f1 := free_of_heap (i := j * 5 + 1) hc6
            have f2 := free_of_heap (i := j * 5 + 2) hc6
            have f3 := free_of_heap (i := j * 5 + 3) hc6
            have f4 := free_of_heap (i := j * 5 + 4) hc6
            have hz := Owns.blk HO.out.pop.pop
            have x0 : W6.cell? ⟨g2, 0, none⟩ = some (([.string (bs id), .slice yx mx cx, .int .i64 fr, .int .i64 tt, .bool true]).getD 0 undef) := by rw [cell_of_heap hz.1]; rfl
            have x1 : W6.cell? ⟨g2, 1, none⟩ = some (([.string (bs id), .slice yx mx cx, .int .i64 fr, .int .i64 tt, .bool true]).getD 1 undef) := by rw [cell_of_heap hz.1]; rfl
            have x2 : W6.cell? ⟨g2, 2, none⟩ = some (([.string (bs id), .slice yx mx cx, .int .i64 fr, .int .i64 tt, .bool true]).getD 2 undef) := by rw [cell_of_heap hz.1]; rfl
            have x3 : W6.cell? ⟨g2, 3, none⟩ = some (([.string (bs id), .slice yx mx cx, .int .i64 fr, .int .i64 tt, .bool true]).getD 3 undef) := by rw [cell_of_heap hz.1]; rfl
            have x4 : W6.cell? ⟨g2, 4, none⟩ = some (([.string (bs id), .slice yx mx cx, .int .i64 fr, .int .i64 tt, .bool true]).getD 4 undef) := by rw [cell_of_heap hz.1]; rfl
            have hg2 := lt_of_block hz.1
            simp only [List.getD_cons_zero, List.getD_cons_succ] at x0 x1 x2 x3 x4
            dsimp only at d0 d1 d2 d3 d4
            clear hz q0 q1 q2 q3 q4 hc6 hcl6
            go_wp2_with fail
            clear d0 d1 d2 d3 d4 f0 f1 f2 f3 f4 x0 x1 x2 x3 x4
            have HL2 : applyL l ⟨4, id, eid, .slice y m cc, ns, t⟩ = l.set j ⟨xid, .slice yx mx cx, xns, fr, tt, true⟩ := by
              unfold applyL
              rw [if_neg (by rw [HE.out]; simp)]
              simp only [HPl.out, HJ.out]
              rfl
            subst hxi
            refine bodyPost_ret ap_res (by rfl) (.inr ⟨HE.out, _, rfl, ?_⟩)
            rw [HL2]
            have h7 := lrow_set (l := l) (j := j) HN.out (by omega) ⟨xid, .slice yx mx cx, xns, fr, tt, true⟩ HO.out
            exact (h7.swap.pop.swap.pop.swap.pop)
      · have HE : Hid (applyE l ⟨k, id, eid, .slice y m cc, ns, t⟩ = 12) := by show _ = _; rw [hapE]; simp
        clear hapE
        have hby := Owns.blk HO.out
        have x0 : W4.cell? ⟨g2, 0, none⟩ = some (.string (bs id)) := by rw [cell_of_heap hby.1]; rfl
        have x1 : W4.cell? ⟨g2, 1, none⟩ = some (.slice yx mx cx) := by rw [cell_of_heap hby.1]; rfl
        have x2 : W4.cell? ⟨g2, 2, none⟩ = some (.int .i64 fr) := by rw [cell_of_heap hby.1]; rfl
        have x3 : W4.cell? ⟨g2, 3, none⟩ = some (.int .i64 (tt)) := by rw [cell_of_heap hby.1]; rfl
        have x4 : W4.cell? ⟨g2, 4, none⟩ = some (.bool true) := by rw [cell_of_heap hby.1]; rfl
        have xl := lt_of_block hby.1
        have hfr0 := free_of_heap (i := 0) hby.1
        have hfr1 := free_of_heap (i := 1) hby.1
        have hfr3 := free_of_heap (i := 3) hby.1
        have hfr4 := free_of_heap (i := 4) hby.1
        have hbk := Owns.blk (HO.out.pop)
        have c0 : W4.cell? ⟨b3, 0, none⟩ = some (.int .i64 (k)) := by rw [cell_of_heap hbk.1]; rfl
        have c1 : W4.cell? ⟨b3, 1, none⟩ = some (.string (bs id)) := by rw [cell_of_heap hbk.1]; rfl
        have c2 : W4.cell? ⟨b3, 2, none⟩ = some (.string (bs eid)) := by rw [cell_of_heap hbk.1]; rfl
        have c3 : W4.cell? ⟨b3, 3, none⟩ = some (.slice y m cc) := by rw [cell_of_heap hbk.1]; rfl
        have c4 : W4.cell? ⟨b3, 4, none⟩ = some (.int .i64 t) := by rw [cell_of_heap hbk.1]; rfl
        have l3 := lt_of_block hbk.1
        clear hbk
        clear hby
        go_wp2_with fail
        clear x0 x1 x2 x3 x4 xl hfr0 hfr1 hfr3 hfr4 c0 c1 c2 c3 c4 l3
        refine bodyPost_ret ap_res (by rfl) (.inl ⟨by rw [HE.out]; decide, ?_, HO.out.pop.pop⟩)
        rw [HE.out]
        rfl
end Go.Proofs.YtckocgkndbdhcaaGreatDoor
