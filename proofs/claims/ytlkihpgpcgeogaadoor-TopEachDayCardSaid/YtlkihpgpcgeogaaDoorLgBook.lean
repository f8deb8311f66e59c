/-
  The ledger: Book.
-/
import Derived.Test.YtlkihpgpcgeogaaDoorLgNew
import Derived.Test.YtlkihpgpcgeogaaDoorLgForm
import Derived.Test.YtlkihpgpcgeogaaDoorAnyOrd
import Derived.Deep.DeepCutAuto
namespace Go.Proofs.YtlkihpgpcgeogaaDoor
open Go.RowKit Go.Cz Go.Cz.Td Go.ChangeMaps Go.Cz.Lx
set_option linter.unusedSimpArgs false
set_option linter.unusedVariables false
attribute [local go_sem] bs_size bs_extract bs_append bs_toList
attribute [local irreducible] cList cPlan cWalk
abbrev kobj (id : List UInt8) (t : Int) (pv : Value) : Obj := .cells #[.string (bs id), .int .i64 t, pv] 41 (0, 0)
/-- What follows is proved once. -/
theorem once {A G : Prop} (h : Hid G → A) (g : G) : A := h (Lib.hid g)
/-- The pieces while a booking is booked. -/
abbrev bkL (id : List UInt8) (t : Int) (pv : Value) (b3 b ga : Nat) (v : Value) (gi gt : Nat) (F : Bool → Int) (ids : Array MapEntry) (ci : Nat) (E : Array MapEntry) (c N : Nat) (bl : List (Bkg × Value)) (g : Nat) (o : Bool) (u : Int) (ps : List Piece) : List Piece :=
  blk b3 (kobj id t pv) :: blk b (lobj ga v gi gt) :: blk ga (.map (acE F) 2) :: blk gi (.map ids ci) :: blk gt (.map E c) :: rowP 41 3 v N (bcs bl) :: postsP bl :: blk g (pobj o u) :: ps
def lastT (l : List Bkg) : Int := match l.getLast? with
  | some b => b.tm
  | none => 0
/-! A range over 'trial'. -/
def bornB (c : Nat) (i : Bool) : Nat := if i then c else c + 1
abbrev itO (g c : Nat) (sn : Array Nat) : Obj := .mapIter (some g) (c + 1 + 1) sn (c + 1 + 1)
abbrev tupZ (Y : Bool → Int) (z : Bool) : Value := .tuple #[.string (bs (nmB z)), acV (Y z) z]
abbrev tupN (Y : Bool → Int) (z : Bool) : Value := .tuple #[.bool true, .string (bs (nmB z)), acV (Y z) z]
section
variable {P : Program} {W : World} {r g c : Nat} {o : Bool} {Y : Bool → Int}
theorem tr_one (ty : TypeId) (hr : W.heap[r]? = some (itO g c #[])) (hb : W.heap[g]? = some (.map (trE o Y c) (c + 1 + 1))) :
    ∃ (i : Bool) (W1 : World), (W1 = W ∨ W1 = W.drew) ∧ (Instr.next (.pointer (some ⟨r, 0, none⟩)) false ty).run P W = .ok (tupN Y (i == o)) (setBlock W1 r (itO g c #[bornB c i])) := by
  obtain ⟨i, W1, hw, h⟩ := next_one (P := P) ty hr hb (by show c < c + 1 + 1; omega) (by show c + 1 < c + 1 + 1; omega)
  refine ⟨i, W1, hw, ?_⟩
  cases i <;> cases o <;> exact h
theorem tr_two (ty : TypeId) (i : Bool) (hr : W.heap[r]? = some (itO g c #[bornB c i])) (hb : W.heap[g]? = some (.map (trE o Y c) (c + 1 + 1))) :
    ∃ (W1 : World), (W1 = W ∨ W1 = W.drew) ∧ (Instr.next (.pointer (some ⟨r, 0, none⟩)) false ty).run P W = .ok (tupN Y !(i == o)) (setBlock W1 r (itO g c #[bornB c i, bornB c !i])) := by
  obtain ⟨W1, hw, h⟩ := next_two (P := P) (E0 := mE (nmB o) (acV (Y o) o) c) (E1 := mE (nmB !o) (acV (Y !o) !o) (c + 1)) ty i (by cases i <;> exact hr) hb (by show c < c + 1 + 1; omega) (by show c + 1 < c + 1 + 1; omega) (by show c ≠ c + 1; omega)
  refine ⟨W1, hw, ?_⟩
  cases i <;> cases o <;> exact h
theorem tr_end (ty : TypeId) (i : Bool) (hr : W.heap[r]? = some (itO g c #[bornB c i, bornB c !i])) (hb : W.heap[g]? = some (.map (trE o Y c) (c + 1 + 1))) :
    (Instr.next (.pointer (some ⟨r, 0, none⟩)) false ty).run P W = .ok (.tuple #[.bool false]) W :=
  next_end (P := P) (E0 := mE (nmB o) (acV (Y o) o) c) (E1 := mE (nmB !o) (acV (Y !o) !o) (c + 1)) ty i (by cases i <;> exact hr) hb (by show c < c + 1 + 1; omega) (by show c + 1 < c + 1 + 1; omega)
theorem tr_entry1 (i : Bool) (hr : W.heap[r]? = some (itO g c #[bornB c i])) (hb : W.heap[g]? = some (.map (trE o Y c) (c + 1 + 1))) : (Instr.entry (.pointer (some ⟨r, 0, none⟩))).run P W = .ok (tupZ Y (i == o)) W := by
  have h := entry_is (P := P) (E0 := mE (nmB o) (acV (Y o) o) c) (E1 := mE (nmB !o) (acV (Y !o) !o) (c + 1)) i (seen := #[]) (by cases i <;> exact hr) hb (by show c ≠ c + 1; omega)
  cases i <;> cases o <;> exact h
theorem tr_entry2 (i : Bool) (hr : W.heap[r]? = some (itO g c #[bornB c i, bornB c !i])) (hb : W.heap[g]? = some (.map (trE o Y c) (c + 1 + 1))) : (Instr.entry (.pointer (some ⟨r, 0, none⟩))).run P W = .ok (tupZ Y !(i == o)) W := by
  have h := entry_is (P := P) (E0 := mE (nmB o) (acV (Y o) o) c) (E1 := mE (nmB !o) (acV (Y !o) !o) (c + 1)) (!i) (seen := #[bornB c i]) (by cases i <;> exact hr) hb (by show c ≠ c + 1; omega)
  cases i <;> cases o <;> exact h
end
def leftN (r : Nat) (w : World) : Nat := match w.heap[r]? with
  | some (.mapIter _ _ seen _) => 2 - seen.size
  | _ => 0
theorem leftN_eq {r g c : Nat} {w : World} {sn : Array Nat} (h : w.heap[r]? = some (itO g c sn)) : leftN r w = 2 - sn.size := by
  unfold leftN
  rw [h]
theorem row_form {w : World} {e : TypeId} {size n : Nat} {v : Value} {xs : List Value} (h : w.ownsRow 0 e size v n xs) : ∃ y c, v = .slice y n c := by
  rcases h.2 with ⟨rfl, h0⟩ | ⟨g, c, cur, rfl, -⟩
  · exact ⟨none, 0, by rw [h0]⟩
  · exact ⟨_, _, rfl⟩
theorem last_at {bl : List (Bkg × Value)} {l : List Bkg} (h : bl.map (·.1) = l) (hn : 0 < bl.length) : ∃ x, bl[bl.length - 1]? = some x ∧ l ≠ [] ∧ lastT l = x.1.tm := by
  subst h
  have hne : bl ≠ [] := List.length_pos_iff.1 hn
  refine ⟨bl[bl.length - 1]'(by omega), List.getElem?_eq_getElem _, by simpa using hne, ?_⟩
  unfold lastT
  rw [List.getLast?_map, List.getLast?_eq_getElem?, List.getElem?_eq_getElem (by omega)]
  rfl
theorem info_bo : (Tryd.prog.info? 41).map (fun i => (i.zero, i.size, i.bytes)) = some (some (.agg #[.string ⟨#[]⟩, .int .i64 0, .slice none 0 0]), 3, 48) := by kernel_rfl
theorem book_res {W : World} {tmps : Array Value} : (results Tryd.f11 tmps).run Tryd.prog W = .ok (tmps.getD 4 undef) W := by
  simp [results, Tryd.results11, go_sem]
set_option maxRecDepth 100000 in
set_option maxHeartbeats 4000000 in
theorem book_c {w0 : World} {ps : List Piece} {b g : Nat} {s : Lg} {o : Bool} {u : Int} (id : List UInt8) (t : Int) (w : World) (h : Owns w0 w (ledP b s :: blk g (pobj o u) :: ps)) (hi : identB id = true) (hq : 34 ∉ id) (hl : id.length ≤ 1000) (hn : id ∉ s.ids)
    (ht0 : 0 ≤ t) (ht1 : t ≤ 144001439) (hlt : s.bks ≠ [] → lastT s.bks ≤ t) (hlen : s.bks.length < 1000) (h0 : u ≠ 0) (h1 : -1000000000000 ≤ u) (h2 : u ≤ 1000000000000) (hf : 0 ≤ s.f false + u) (hb : ∀ z, -4000000000000000 ≤ s.f z ∧ s.f z ≤ 4000000000000000) :
    Calls Tryd.prog 11 #[.pointer (some ⟨b, 0, none⟩), .agg #[.string (bs id), .int .i64 t, .slice (some ⟨g, 0, none⟩) 2 2]] w fun e w' => e = .returned (.int .i64 0) ∧ Owns w0 w' (ledP b (s.book ⟨id, t, o, u⟩) :: blk g (pobj o u) :: ps) := by
  obtain ⟨ga, gi, gt, v, ids, ci, tr, ct, bl, hids, hbl, h⟩ := h.led
  obtain ⟨W1, hW1⟩ : ∃ W, W = w.alloc (kobj id t (.slice (some ⟨g, 0, none⟩) 2 2)) := ⟨_, rfl⟩
  obtain ⟨b3, hb3⟩ : ∃ x, x = w.heap.size := ⟨_, rfl⟩
  have HO : Hid (Owns w0 W1 (blk b3 (kobj id t (.slice (some ⟨g, 0, none⟩) 2 2)) :: blk b (lobj ga v gi gt) :: blk ga (.map (acE s.f) 2) :: blk gi (.map ids ci) :: blk gt (.map tr ct) :: brow v bl :: postsP bl :: blk g (pobj o u) :: ps)) := by
    rw [hW1, hb3]
    exact Lib.hid (h.box _)
  have HM := Lib.hid (find_none id ids.toList s.ids 0 hids hn)
  have HF := Lib.hid fun (W : World) (h : Owns w0 W (blk g (pobj o u) :: blk b3 (kobj id t (.slice (some ⟨g, 0, none⟩) 2 2)) :: blk b (lobj ga v gi gt) :: blk ga (.map (acE s.f) 2) :: blk gi (.map ids ci) :: blk gt (.map tr ct) :: brow v bl :: postsP bl :: ps)) => formed_c id t W h hi hq hl ht0 ht1 h0 h1 h2
  have hbn : bl.length < 1000 := by rw [← hbl, List.length_map] at hlen; exact hlen
  clear h hn hi hq hl ht0 ht1 hlen
  go_enter Tryd.func11, Tryd.ntmps11
  go_upto_region 1 with fail
  rw [← hW1, ← hb3]
  clear hW1 hb3
  focus
    obtain ⟨bk, -⟩ := HO.out.blk
    have hbk := lt_of_block bk
    have ck0 := cell_of_heap bk (i := 0)
    have ck1 := cell_of_heap bk (i := 1)
    have ck2 := cell_of_heap bk (i := 2)
    have fk2 := free_of_heap bk (i := 2)
    simp only [List.getElem?_toArray, List.getElem?_cons_succ, List.getElem?_cons_zero] at ck0 ck1 ck2
    clear bk
    go_wp2_with fail
    clear hbk ck0 ck1 ck2 fk2
  go_at_call 24
  refine (HF.out W1 (Owns.re HO.out [7, 0, 1, 2, 3, 4, 5, 6])).mono ?_
  rintro e W2 ⟨rfl, hb⟩
  replace HO := Lib.hid (HO.out.below hb)
  clear hb HF
  obtain ⟨yv, cv, rfl⟩ := row_form HO.out.pop.pop.pop.pop.pop.row
  obtain ⟨N, hN⟩ : ∃ N, N = bl.length := ⟨_, rfl⟩
  have HN := Lib.hid hN
  have HO2 : Hid (Owns w0 W2 (blk b3 (kobj id t (.slice (some ⟨g, 0, none⟩) 2 2)) :: blk b (lobj ga (.slice yv N cv) gi gt) :: blk ga (.map (acE s.f) 2) :: blk gi (.map ids ci) :: blk gt (.map tr ct) :: rowP 41 3 (.slice yv N cv) N (bcs bl) :: postsP bl :: blk g (pobj o u) :: ps)) := by
    rw [hN]
    exact HO
  rw [← hN] at hbn
  clear hN HO
  have HO := HO2
  clear HO2
  go_wp2_with fail
  refine wp_region_can [] (List.range 7) (by decide +kernel) (by decide +kernel) ?_
  replace HO := Lib.hid HO.out.drew
  generalize hWd : World.drew _ = W3 at HO ⊢
  clear hWd
  focus
    obtain ⟨bk, -⟩ := HO.out.blk
    have hbk := lt_of_block bk
    have ck0 := cell_of_heap bk (i := 0)
    have ck1 := cell_of_heap bk (i := 1)
    have ck2 := cell_of_heap bk (i := 2)
    have fk2 := free_of_heap bk (i := 2)
    simp only [List.getElem?_toArray, List.getElem?_cons_succ, List.getElem?_cons_zero] at ck0 ck1 ck2
    clear bk
    obtain ⟨bk, -⟩ := HO.out.pop.blk
    have hbl := lt_of_block bk
    have cl0 := cell_of_heap bk (i := 0)
    have cl1 := cell_of_heap bk (i := 1)
    have cl2 := cell_of_heap bk (i := 2)
    have cl3 := cell_of_heap bk (i := 3)
    have fl1 := free_of_heap bk (i := 1)
    simp only [List.getElem?_toArray, List.getElem?_cons_succ, List.getElem?_cons_zero] at cl0 cl1 cl2 cl3
    clear bk
    have hm := map_miss (P := Tryd.prog) mapBU strU HO.out.pop.pop.pop.blk.1 id (zeroBo W3) false HM.out
    iterate 7 (first | (refine cl_do rfl rfl rfl (by first | rfl | simp [okB, lenV, plainV, Act.eval]) (fun _ _ => ?_); go_wp2_with fail) | (refine cl_yes rfl rfl rfl rfl (by first | rfl | simp [okB, lenV, plainV, Act.eval]) (fun _ _ => ?_); go_wp2_with fail) | (refine cl_no rfl rfl rfl ?_; go_simp))
    refine cl_nil ?_
    go_upto_region 6 with fail
    clear hbk ck0 ck1 ck2 fk2
    clear hbl cl0 cl1 cl2 cl3 fl1
    clear hm
  go_cut [49] (fun v wx => v = .bool false ∧ Hid (Owns w0 wx (blk b3 (kobj id t (.slice (some ⟨g, 0, none⟩) 2 2)) :: blk b (lobj ga (.slice yv N cv) gi gt) :: blk ga (.map (acE s.f) 2) :: blk gi (.map ids ci) :: blk gt (.map tr ct) :: rowP 41 3 (.slice yv N cv) N (bcs bl) :: postsP bl :: blk g (pobj o u) :: ps)))
  case first =>
    as_aux_lemma =>
      rcases Nat.eq_zero_or_pos N with h0 | hpos
      · subst h0
        refine wp_region_can [] (List.range 16) (by decide +kernel) (by decide +kernel) ?_
        replace HO := Lib.hid HO.out.drew
        generalize hWd : World.drew _ = W4 at HO ⊢
        clear hWd
        iterate 16 (first | (refine cl_do rfl rfl rfl (by first | rfl | simp [okB, lenV, plainV, Act.eval]) (fun _ _ => ?_); go_wp2_with fail) | (refine cl_yes rfl rfl rfl rfl (by first | rfl | simp [okB, lenV, plainV, Act.eval]) (fun _ _ => ?_); go_wp2_with fail) | (refine cl_no rfl rfl rfl ?_; go_simp))
        refine cl_nil ?_
        go_wp2_with fail
        go_meet
        exact ⟨rfl, HO⟩
      · have hpos' : decide ((N : Int) > 0) = true := by simp; omega
        obtain ⟨x, hx, hne, hlx⟩ := last_at hbl (by rw [← HN.out]; exact hpos)
        have hge : decide (t < x.1.tm) = false := by
          have := hlt hne
          rw [hlx] at this
          simp; omega
        refine wp_region_can [] (List.range 16) (by decide +kernel) (by decide +kernel) ?_
        replace HO := Lib.hid HO.out.drew
        generalize hWd : World.drew _ = W4 at HO ⊢
        clear hWd
        obtain ⟨gb, cb, e0, -, -, hgb, -, hcells⟩ := row_at HO.out.pop.pop.pop.pop.pop.row hpos
        cases e0
        have cx := hcells _ _ (bcs_at bl (bl.length - 1) x hx).2.1
        rw [← HN.out] at cx
        have e1 : ((N : Int) - 1) = ((N - 1 : Nat) : Int) := by omega
        have hl1 : ((N - 1 : Nat) : Int) < (N : Int) := by omega
        obtain ⟨bk, -⟩ := HO.out.blk
        have hbk := lt_of_block bk
        have ck0 := cell_of_heap bk (i := 0)
        have ck1 := cell_of_heap bk (i := 1)
        have ck2 := cell_of_heap bk (i := 2)
        have fk2 := free_of_heap bk (i := 2)
        simp only [List.getElem?_toArray, List.getElem?_cons_succ, List.getElem?_cons_zero] at ck0 ck1 ck2
        clear bk
        obtain ⟨bk, -⟩ := HO.out.pop.blk
        have hbl := lt_of_block bk
        have cl0 := cell_of_heap bk (i := 0)
        have cl1 := cell_of_heap bk (i := 1)
        have cl2 := cell_of_heap bk (i := 2)
        have cl3 := cell_of_heap bk (i := 3)
        have fl1 := free_of_heap bk (i := 1)
        simp only [List.getElem?_toArray, List.getElem?_cons_succ, List.getElem?_cons_zero] at cl0 cl1 cl2 cl3
        clear bk
        clear hcells hx hne hlx
        iterate 16 (first | (refine cl_do rfl rfl rfl (by first | rfl | simp [okB, lenV, plainV, Act.eval]) (fun _ _ => ?_); go_wp2_with fail) | (refine cl_yes rfl rfl rfl rfl (by first | rfl | simp [okB, lenV, plainV, Act.eval]) (fun _ _ => ?_); go_wp2_with fail) | (refine cl_no rfl rfl rfl ?_; go_simp))
        refine cl_nil ?_
        go_wp2_with fail
        go_meet
        exact ⟨rfl, HO⟩
  obtain ⟨rfl, HO1⟩ := hcut
  replace HO := HO1
  clear HO1
  obtain ⟨Y, hY⟩ : ∃ Y : Bool → Int, Y = fun z => s.f z + amt u z := ⟨_, rfl⟩
  have HY := Lib.hid hY
  have eY : ∀ z, s.f z + amt u z = Y z := fun z => by rw [hY]
  have bY : ∀ z, -9000000000000000 ≤ Y z ∧ Y z ≤ 9000000000000000 := fun z => by
    have h3 := hb z
    rw [hY]
    unfold amt
    cases z <;> simp <;> omega
  have nY : 0 ≤ Y false := by rw [hY]; simpa [amt] using hf
  have bA : ∀ z, -1000000000000 ≤ amt u z ∧ amt u z ≤ 1000000000000 := fun z => by
    unfold amt
    cases z <;> simp <;> omega
  have sA : amt u o + amt u (!o) = 0 := by
    unfold amt
    cases o <;> simp <;> omega
  clear hY hf
  focus
    obtain ⟨bk, -⟩ := HO.out.pop.blk
    have hbl := lt_of_block bk
    have cl0 := cell_of_heap bk (i := 0)
    have cl1 := cell_of_heap bk (i := 1)
    have cl2 := cell_of_heap bk (i := 2)
    have cl3 := cell_of_heap bk (i := 3)
    have fl1 := free_of_heap bk (i := 1)
    simp only [List.getElem?_toArray, List.getElem?_cons_succ, List.getElem?_cons_zero] at cl0 cl1 cl2 cl3
    clear bk
    have hm := map_clear (P := Tryd.prog) mapAU HO.out.pop.pop.pop.pop.blk.1
    go_upto_region 9 with fail
    clear hm
    clear hbl cl0 cl1 cl2 cl3 fl1
  have h5 := (Owns.re HO.out [4, 0, 1, 2, 3, 5, 6, 7]).turn (.map #[] ct)
  replace HO : Hid (Owns w0 (setBlock wc gt (.map #[] ct)) (bkL id t (.slice (some ⟨g, 0, none⟩) 2 2) b3 b ga (.slice yv N cv) gi gt s.f ids ci #[] ct N bl g o u ps)) := Lib.hid (Owns.re h5 [1, 2, 3, 4, 0, 5, 6, 7])
  obtain ⟨W5, hW5⟩ : ∃ W, W = setBlock wc gt (.map #[] ct) := ⟨_, rfl⟩
  rw [← hW5] at HO ⊢
  clear hW5 h5
  focus
    obtain ⟨bk, -⟩ := HO.out.blk
    have hbk := lt_of_block bk
    have ck0 := cell_of_heap bk (i := 0)
    have ck1 := cell_of_heap bk (i := 1)
    have ck2 := cell_of_heap bk (i := 2)
    have fk2 := free_of_heap bk (i := 2)
    simp only [List.getElem?_toArray, List.getElem?_cons_succ, List.getElem?_cons_zero] at ck0 ck1 ck2
    clear bk
    go_wp2_with fail
    clear hbk ck0 ck1 ck2 fk2
  refine wp_loop_rounds 3 ?_
  -- a posting: o its account, (#[] : Array MapEntry) its number
  rw [rounds_succ]
  focus
    obtain ⟨bk, -⟩ := HO.out.pop.pop.pop.pop.pop.pop.pop.blk
    have hbg := lt_of_block bk
    have cg0 := cell_of_heap bk (i := 0)
    have cg1 := cell_of_heap bk (i := 1)
    have cg2 := cell_of_heap bk (i := 2)
    have cg3 := cell_of_heap bk (i := 3)
    simp only [List.getElem?_toArray, List.getElem?_cons_succ, List.getElem?_cons_zero] at cg0 cg1 cg2 cg3
    clear bk
    go_wp2_with fail
    clear hbg cg0 cg1 cg2 cg3
  obtain ⟨p8, hp8⟩ : ∃ x, x = (W5).heap.size := ⟨_, rfl⟩
  obtain ⟨W6, hW6⟩ : ∃ W, W = (W5).alloc (.cells #[.string (bs (nmB (o))), .int .i64 (amt u (o))] 38) := ⟨_, rfl⟩
  have h6 := HO.out.box (.cells #[.string (bs (nmB (o))), .int .i64 (amt u (o))] 38 (0, 0))
  rw [← hW6, ← hp8] at h6 ⊢
  replace HO := Lib.hid h6
  clear h6 hW6 hp8
  refine wp_region_walk [] 13 rfl (by decide +kernel) ?_
  replace HO := Lib.hid HO.out.drew
  generalize hWd : World.drew _ = W7 at HO ⊢
  clear hWd
  focus
    obtain ⟨bk, -⟩ := HO.out.blk
    have hb8 := lt_of_block bk
    have c80 := cell_of_heap bk (i := 0)
    have c81 := cell_of_heap bk (i := 1)
    simp only [List.getElem?_toArray, List.getElem?_cons_succ, List.getElem?_cons_zero] at c80 c81
    clear bk
    obtain ⟨bk, -⟩ := HO.out.pop.pop.blk
    have hbl := lt_of_block bk
    have cl0 := cell_of_heap bk (i := 0)
    have cl1 := cell_of_heap bk (i := 1)
    have cl2 := cell_of_heap bk (i := 2)
    have cl3 := cell_of_heap bk (i := 3)
    have fl1 := free_of_heap bk (i := 1)
    simp only [List.getElem?_toArray, List.getElem?_cons_succ, List.getElem?_cons_zero] at cl0 cl1 cl2 cl3
    clear bk
    have hmA := map_look (P := Tryd.prog) mapAU strU HO.out.pop.pop.pop.blk.1 (nmB (o)) true (find_ac s.f (o))
    have hmB := map_look (P := Tryd.prog) mapAU strU (HO.out.alloc (.cells #[.int .i64 0, .bool false] 70)).pop.pop.pop.blk.1 (nmB (o)) true (find_ac s.f (o))
    refine cw_step 0 (by decide +kernel) (by decide +kernel) (by decide +kernel) ?_; (refine cw_do rfl rfl rfl (by first | rfl | simp [okB, lenV, plainV, Act.eval]) (fun _ _ => ?_); go_wp2_with fail)
    refine cw_step 1 (by decide +kernel) (by decide +kernel) (by decide +kernel) ?_; (refine cw_do rfl rfl rfl (by first | rfl | simp [okB, lenV, plainV, Act.eval]) (fun _ _ => ?_); go_wp2_with fail)
    refine cw_step 2 (by decide +kernel) (by decide +kernel) (by decide +kernel) ?_; (refine cw_do rfl rfl rfl (by first | rfl | simp [okB, lenV, plainV, Act.eval]) (fun _ _ => ?_); go_wp2_with fail)
    refine cw_step 3 (by decide +kernel) (by decide +kernel) (by decide +kernel) ?_; (refine cw_do rfl rfl rfl (by first | rfl | simp [okB, lenV, plainV, Act.eval]) (fun _ _ => ?_); go_wp2_with fail)
    refine cw_step 4 (by decide +kernel) (by decide +kernel) (by decide +kernel) ?_; (refine cw_do rfl rfl rfl (by first | rfl | simp [okB, lenV, plainV, Act.eval]) (fun _ _ => ?_); go_wp2_with fail)
    refine cw_step 5 (by decide +kernel) (by decide +kernel) (by decide +kernel) ?_; (refine cw_do rfl rfl rfl (by first | rfl | simp [okB, lenV, plainV, Act.eval]) (fun _ _ => ?_); go_wp2_with fail)
    apply once
    · intro key
      refine cw_two 6 10 (by decide +kernel) ?_ ?_
      · (refine cw_do rfl rfl rfl (by first | rfl | simp [okB, lenV, plainV, Act.eval]) (fun _ _ => ?_); go_wp2_with fail)
        refine cw_step 7 (by decide +kernel) (by decide +kernel) (by decide +kernel) ?_; (refine cw_do rfl rfl rfl (by first | rfl | simp [okB, lenV, plainV, Act.eval]) (fun _ _ => ?_); go_wp2_with fail)
        refine cw_step 8 (by decide +kernel) (by decide +kernel) (by decide +kernel) ?_; (refine cw_do rfl rfl rfl (by first | rfl | simp [okB, lenV, plainV, Act.eval]) (fun _ _ => ?_); go_wp2_with fail)
        refine cw_step 10 (by decide +kernel) (by decide +kernel) (by decide +kernel) ?_; (refine cw_do rfl rfl rfl (by first | rfl | simp [okB, lenV, plainV, Act.eval]) (fun _ _ => ?_); go_wp2_with fail)
        refine cw_step 11 (by decide +kernel) (by decide +kernel) (by decide +kernel) ?_; (refine cw_do rfl rfl rfl (by first | rfl | simp [okB, lenV, plainV, Act.eval]) (fun _ _ => ?_); go_wp2_with fail)
        refine cw_step 9 (by decide +kernel) (by decide +kernel) (by decide +kernel) ?_; (refine cw_do rfl rfl rfl (by first | rfl | simp [okB, lenV, plainV, Act.eval]) (fun _ _ => ?_); go_wp2_with fail)
        refine cw_step 12 (by decide +kernel) (by decide +kernel) (by decide +kernel) ?_; (refine cw_do rfl rfl rfl (by first | rfl | simp [okB, lenV, plainV, Act.eval]) (fun _ _ => ?_); go_wp2_with fail)
        refine cw_nil (by decide +kernel) ?_
        exact key.out
      · (refine cw_do rfl rfl rfl (by first | rfl | simp [okB, lenV, plainV, Act.eval]) (fun _ _ => ?_); go_wp2_with fail)
        refine cw_step 6 (by decide +kernel) (by decide +kernel) (by decide +kernel) ?_
        (refine cw_do rfl rfl rfl (by first | rfl | simp [okB, lenV, plainV, Act.eval]) (fun _ _ => ?_); go_wp2_with fail)
        refine cw_step 7 (by decide +kernel) (by decide +kernel) (by decide +kernel) ?_; (refine cw_do rfl rfl rfl (by first | rfl | simp [okB, lenV, plainV, Act.eval]) (fun _ _ => ?_); go_wp2_with fail)
        refine cw_step 8 (by decide +kernel) (by decide +kernel) (by decide +kernel) ?_; (refine cw_do rfl rfl rfl (by first | rfl | simp [okB, lenV, plainV, Act.eval]) (fun _ _ => ?_); go_wp2_with fail)
        refine cw_step 11 (by decide +kernel) (by decide +kernel) (by decide +kernel) ?_; (refine cw_do rfl rfl rfl (by first | rfl | simp [okB, lenV, plainV, Act.eval]) (fun _ _ => ?_); go_wp2_with fail)
        refine cw_step 9 (by decide +kernel) (by decide +kernel) (by decide +kernel) ?_; (refine cw_do rfl rfl rfl (by first | rfl | simp [okB, lenV, plainV, Act.eval]) (fun _ _ => ?_); go_wp2_with fail)
        refine cw_step 12 (by decide +kernel) (by decide +kernel) (by decide +kernel) ?_; (refine cw_do rfl rfl rfl (by first | rfl | simp [okB, lenV, plainV, Act.eval]) (fun _ _ => ?_); go_wp2_with fail)
        refine cw_nil (by decide +kernel) ?_
        exact key.out
    clear hmA hmB hb8 c80 c81
    clear hbl cl0 cl1 cl2 cl3 fl1
  obtain ⟨b9, hb9⟩ : ∃ x, x = W7.heap.size := ⟨_, rfl⟩
  obtain ⟨W8, hW8⟩ : ∃ W, W = W7.alloc (.cells #[.int .i64 (s.f (o)), .bool (o)] 70) := ⟨_, rfl⟩
  have h8 := HO.out.box (.cells #[.int .i64 (s.f (o)), .bool (o)] 70 (0, 0))
  rw [← hW8, ← hb9] at h8 ⊢
  replace HO := Lib.hid h8
  clear h8 hW8 hb9
  have hz := eY (o)
  obtain ⟨hy1, hy2⟩ := bY (o)
  obtain ⟨ha1, ha2⟩ := bA (o)
  focus
    obtain ⟨bk, -⟩ := HO.out.blk
    have hb9 := lt_of_block bk
    have c90 := cell_of_heap bk (i := 0)
    have c91 := cell_of_heap bk (i := 1)
    have f90 := free_of_heap bk (i := 0)
    simp only [List.getElem?_toArray, List.getElem?_cons_succ, List.getElem?_cons_zero] at c90 c91
    clear bk
    obtain ⟨bk, -⟩ := HO.out.pop.blk
    have hb8 := lt_of_block bk
    have c81 := cell_of_heap bk (i := 1)
    simp only [List.getElem?_toArray, List.getElem?_cons_succ, List.getElem?_cons_zero] at c81
    clear bk
    go_wp2_with fail
    clear hb9 c90 c91 f90 hb8 c81
  have h9 := HO.out.store (i := 0) (.int .i64 (Y (o)))
  obtain ⟨W9, hW9⟩ : ∃ W, W = W8.setCell ⟨b9, 0, none⟩ (.int .i64 (Y (o))) := ⟨_, rfl⟩
  rw [← hW9] at h9 ⊢
  replace HO := Lib.hid h9
  clear h9 hW9
  refine wp_region_can [] (List.range 8) (by decide +kernel) (by decide +kernel) ?_
  replace HO := Lib.hid HO.out.drew
  generalize hWd : World.drew _ = W10 at HO ⊢
  clear hWd
  focus
    obtain ⟨bk, -⟩ := HO.out.blk
    have hb9 := lt_of_block bk
    have c90 := cell_of_heap bk (i := 0)
    have c91 := cell_of_heap bk (i := 1)
    simp only [List.getElem?_toArray, List.getElem?_cons_succ, List.getElem?_cons_zero, Array.getElem?_setIfInBounds_self, List.setIfInBounds_toArray, List.set_cons_zero] at c90 c91
    clear bk
    obtain ⟨bk, -⟩ := HO.out.pop.blk
    have hb8 := lt_of_block bk
    have c80 := cell_of_heap bk (i := 0)
    have c81 := cell_of_heap bk (i := 1)
    simp only [List.getElem?_toArray, List.getElem?_cons_succ, List.getElem?_cons_zero] at c80 c81
    clear bk
    obtain ⟨bk, -⟩ := HO.out.pop.pop.pop.blk
    have hbl := lt_of_block bk
    have cl0 := cell_of_heap bk (i := 0)
    have cl1 := cell_of_heap bk (i := 1)
    have cl2 := cell_of_heap bk (i := 2)
    have cl3 := cell_of_heap bk (i := 3)
    have fl1 := free_of_heap bk (i := 1)
    simp only [List.getElem?_toArray, List.getElem?_cons_succ, List.getElem?_cons_zero] at cl0 cl1 cl2 cl3
    clear bk
    have hm := map_new (P := Tryd.prog) mapAU strU HO.out.pop.pop.pop.pop.pop.pop.blk.1 (nmB (o)) (acV (Y (o)) (o)) (find_tr0 _)
    iterate 7 (first | (refine cl_do rfl rfl rfl (by first | rfl | simp [okB, lenV, plainV, Act.eval]) (fun _ _ => ?_); go_wp2_with fail) | (refine cl_yes rfl rfl rfl rfl (by first | rfl | simp [okB, lenV, plainV, Act.eval]) (fun _ _ => ?_); go_wp2_with fail) | (refine cl_no rfl rfl rfl ?_; go_simp))
    refine cl_do rfl rfl rfl (by first | rfl | simp [okB, lenV, plainV, Act.eval]) (fun _ _ => ?_); go_wp2_with fail
    refine cl_nil ?_
    go_upto_region 18 with fail
    clear hm hb9 c90 c91
    clear hbl cl0 cl1 cl2 cl3 fl1
  have h11 := (Owns.re HO.out [6, 0, 1, 2, 3, 4, 5, 7, 8, 9]).turn (.map (tr1 o Y ct) (ct + 1))
  obtain ⟨W11, hW11⟩ : ∃ W, W = setBlock W10 gt (.map (tr1 o Y ct) (ct + 1)) := ⟨_, rfl⟩
  rw [← hW11] at h11 ⊢
  clear hW11
  replace HO : Hid (Owns w0 W11 (bkL id t (.slice (some ⟨g, 0, none⟩) 2 2) b3 b ga (.slice yv N cv) gi gt s.f ids ci (tr1 o Y ct) (ct + 1) N bl g o u ps)) := Lib.hid (Owns.re h11 [1, 2, 3, 4, 5, 6, 0, 7, 8, 9]).pop.pop
  clear hb8 c80 c81
  obtain ⟨bk, -⟩ := (Owns.re h11 [2, 0, 1]).blk
  have hb8 := lt_of_block bk
  have c81 := cell_of_heap bk (i := 1)
  simp only [List.getElem?_toArray, List.getElem?_cons_succ, List.getElem?_cons_zero] at c81
  clear h11 hy1 hy2 hz bk
  go_wp2_with fail
  clear hb8 c81 ha1 ha2
  -- a posting: !o its account, tr1 o Y ct its number
  rw [rounds_succ]
  focus
    obtain ⟨bk, -⟩ := HO.out.pop.pop.pop.pop.pop.pop.pop.blk
    have hbg := lt_of_block bk
    have cg0 := cell_of_heap bk (i := 0)
    have cg1 := cell_of_heap bk (i := 1)
    have cg2 := cell_of_heap bk (i := 2)
    have cg3 := cell_of_heap bk (i := 3)
    simp only [List.getElem?_toArray, List.getElem?_cons_succ, List.getElem?_cons_zero] at cg0 cg1 cg2 cg3
    clear bk
    go_wp2_with fail
    clear hbg cg0 cg1 cg2 cg3
  obtain ⟨p8, hp8⟩ : ∃ x, x = (W11).heap.size := ⟨_, rfl⟩
  obtain ⟨W6, hW6⟩ : ∃ W, W = (W11).alloc (.cells #[.string (bs (nmB (!o))), .int .i64 (amt u (!o))] 38) := ⟨_, rfl⟩
  have h6 := HO.out.box (.cells #[.string (bs (nmB (!o))), .int .i64 (amt u (!o))] 38 (0, 0))
  rw [← hW6, ← hp8] at h6 ⊢
  replace HO := Lib.hid h6
  clear h6 hW6 hp8
  refine wp_region_walk [] 13 rfl (by decide +kernel) ?_
  replace HO := Lib.hid HO.out.drew
  generalize hWd : World.drew _ = W7 at HO ⊢
  clear hWd
  focus
    obtain ⟨bk, -⟩ := HO.out.blk
    have hb8 := lt_of_block bk
    have c80 := cell_of_heap bk (i := 0)
    have c81 := cell_of_heap bk (i := 1)
    simp only [List.getElem?_toArray, List.getElem?_cons_succ, List.getElem?_cons_zero] at c80 c81
    clear bk
    obtain ⟨bk, -⟩ := HO.out.pop.pop.blk
    have hbl := lt_of_block bk
    have cl0 := cell_of_heap bk (i := 0)
    have cl1 := cell_of_heap bk (i := 1)
    have cl2 := cell_of_heap bk (i := 2)
    have cl3 := cell_of_heap bk (i := 3)
    have fl1 := free_of_heap bk (i := 1)
    simp only [List.getElem?_toArray, List.getElem?_cons_succ, List.getElem?_cons_zero] at cl0 cl1 cl2 cl3
    clear bk
    have hmA := map_look (P := Tryd.prog) mapAU strU HO.out.pop.pop.pop.blk.1 (nmB (!o)) true (find_ac s.f (!o))
    have hmB := map_look (P := Tryd.prog) mapAU strU (HO.out.alloc (.cells #[.int .i64 0, .bool false] 70)).pop.pop.pop.blk.1 (nmB (!o)) true (find_ac s.f (!o))
    refine cw_step 0 (by decide +kernel) (by decide +kernel) (by decide +kernel) ?_; (refine cw_do rfl rfl rfl (by first | rfl | simp [okB, lenV, plainV, Act.eval]) (fun _ _ => ?_); go_wp2_with fail)
    refine cw_step 1 (by decide +kernel) (by decide +kernel) (by decide +kernel) ?_; (refine cw_do rfl rfl rfl (by first | rfl | simp [okB, lenV, plainV, Act.eval]) (fun _ _ => ?_); go_wp2_with fail)
    refine cw_step 2 (by decide +kernel) (by decide +kernel) (by decide +kernel) ?_; (refine cw_do rfl rfl rfl (by first | rfl | simp [okB, lenV, plainV, Act.eval]) (fun _ _ => ?_); go_wp2_with fail)
    refine cw_step 3 (by decide +kernel) (by decide +kernel) (by decide +kernel) ?_; (refine cw_do rfl rfl rfl (by first | rfl | simp [okB, lenV, plainV, Act.eval]) (fun _ _ => ?_); go_wp2_with fail)
    refine cw_step 4 (by decide +kernel) (by decide +kernel) (by decide +kernel) ?_; (refine cw_do rfl rfl rfl (by first | rfl | simp [okB, lenV, plainV, Act.eval]) (fun _ _ => ?_); go_wp2_with fail)
    refine cw_step 5 (by decide +kernel) (by decide +kernel) (by decide +kernel) ?_; (refine cw_do rfl rfl rfl (by first | rfl | simp [okB, lenV, plainV, Act.eval]) (fun _ _ => ?_); go_wp2_with fail)
    apply once
    · intro key
      refine cw_two 6 10 (by decide +kernel) ?_ ?_
      · (refine cw_do rfl rfl rfl (by first | rfl | simp [okB, lenV, plainV, Act.eval]) (fun _ _ => ?_); go_wp2_with fail)
        refine cw_step 7 (by decide +kernel) (by decide +kernel) (by decide +kernel) ?_; (refine cw_do rfl rfl rfl (by first | rfl | simp [okB, lenV, plainV, Act.eval]) (fun _ _ => ?_); go_wp2_with fail)
        refine cw_step 8 (by decide +kernel) (by decide +kernel) (by decide +kernel) ?_; (refine cw_do rfl rfl rfl (by first | rfl | simp [okB, lenV, plainV, Act.eval]) (fun _ _ => ?_); go_wp2_with fail)
        refine cw_step 10 (by decide +kernel) (by decide +kernel) (by decide +kernel) ?_; (refine cw_do rfl rfl rfl (by first | rfl | simp [okB, lenV, plainV, Act.eval]) (fun _ _ => ?_); go_wp2_with fail)
        refine cw_step 11 (by decide +kernel) (by decide +kernel) (by decide +kernel) ?_; (refine cw_do rfl rfl rfl (by first | rfl | simp [okB, lenV, plainV, Act.eval]) (fun _ _ => ?_); go_wp2_with fail)
        refine cw_step 9 (by decide +kernel) (by decide +kernel) (by decide +kernel) ?_; (refine cw_do rfl rfl rfl (by first | rfl | simp [okB, lenV, plainV, Act.eval]) (fun _ _ => ?_); go_wp2_with fail)
        refine cw_step 12 (by decide +kernel) (by decide +kernel) (by decide +kernel) ?_; (refine cw_do rfl rfl rfl (by first | rfl | simp [okB, lenV, plainV, Act.eval]) (fun _ _ => ?_); go_wp2_with fail)
        refine cw_nil (by decide +kernel) ?_
        exact key.out
      · (refine cw_do rfl rfl rfl (by first | rfl | simp [okB, lenV, plainV, Act.eval]) (fun _ _ => ?_); go_wp2_with fail)
        refine cw_step 6 (by decide +kernel) (by decide +kernel) (by decide +kernel) ?_
        (refine cw_do rfl rfl rfl (by first | rfl | simp [okB, lenV, plainV, Act.eval]) (fun _ _ => ?_); go_wp2_with fail)
        refine cw_step 7 (by decide +kernel) (by decide +kernel) (by decide +kernel) ?_; (refine cw_do rfl rfl rfl (by first | rfl | simp [okB, lenV, plainV, Act.eval]) (fun _ _ => ?_); go_wp2_with fail)
        refine cw_step 8 (by decide +kernel) (by decide +kernel) (by decide +kernel) ?_; (refine cw_do rfl rfl rfl (by first | rfl | simp [okB, lenV, plainV, Act.eval]) (fun _ _ => ?_); go_wp2_with fail)
        refine cw_step 11 (by decide +kernel) (by decide +kernel) (by decide +kernel) ?_; (refine cw_do rfl rfl rfl (by first | rfl | simp [okB, lenV, plainV, Act.eval]) (fun _ _ => ?_); go_wp2_with fail)
        refine cw_step 9 (by decide +kernel) (by decide +kernel) (by decide +kernel) ?_; (refine cw_do rfl rfl rfl (by first | rfl | simp [okB, lenV, plainV, Act.eval]) (fun _ _ => ?_); go_wp2_with fail)
        refine cw_step 12 (by decide +kernel) (by decide +kernel) (by decide +kernel) ?_; (refine cw_do rfl rfl rfl (by first | rfl | simp [okB, lenV, plainV, Act.eval]) (fun _ _ => ?_); go_wp2_with fail)
        refine cw_nil (by decide +kernel) ?_
        exact key.out
    clear hmA hmB hb8 c80 c81
    clear hbl cl0 cl1 cl2 cl3 fl1
  obtain ⟨b9, hb9⟩ : ∃ x, x = W7.heap.size := ⟨_, rfl⟩
  obtain ⟨W8, hW8⟩ : ∃ W, W = W7.alloc (.cells #[.int .i64 (s.f (!o)), .bool (!o)] 70) := ⟨_, rfl⟩
  have h8 := HO.out.box (.cells #[.int .i64 (s.f (!o)), .bool (!o)] 70 (0, 0))
  rw [← hW8, ← hb9] at h8 ⊢
  replace HO := Lib.hid h8
  clear h8 hW8 hb9
  have hz := eY (!o)
  obtain ⟨hy1, hy2⟩ := bY (!o)
  obtain ⟨ha1, ha2⟩ := bA (!o)
  focus
    obtain ⟨bk, -⟩ := HO.out.blk
    have hb9 := lt_of_block bk
    have c90 := cell_of_heap bk (i := 0)
    have c91 := cell_of_heap bk (i := 1)
    have f90 := free_of_heap bk (i := 0)
    simp only [List.getElem?_toArray, List.getElem?_cons_succ, List.getElem?_cons_zero] at c90 c91
    clear bk
    obtain ⟨bk, -⟩ := HO.out.pop.blk
    have hb8 := lt_of_block bk
    have c81 := cell_of_heap bk (i := 1)
    simp only [List.getElem?_toArray, List.getElem?_cons_succ, List.getElem?_cons_zero] at c81
    clear bk
    go_wp2_with fail
    clear hb9 c90 c91 f90 hb8 c81
  have h9 := HO.out.store (i := 0) (.int .i64 (Y (!o)))
  obtain ⟨W9, hW9⟩ : ∃ W, W = W8.setCell ⟨b9, 0, none⟩ (.int .i64 (Y (!o))) := ⟨_, rfl⟩
  rw [← hW9] at h9 ⊢
  replace HO := Lib.hid h9
  clear h9 hW9
  refine wp_region_can [] (List.range 8) (by decide +kernel) (by decide +kernel) ?_
  replace HO := Lib.hid HO.out.drew
  generalize hWd : World.drew _ = W10 at HO ⊢
  clear hWd
  focus
    obtain ⟨bk, -⟩ := HO.out.blk
    have hb9 := lt_of_block bk
    have c90 := cell_of_heap bk (i := 0)
    have c91 := cell_of_heap bk (i := 1)
    simp only [List.getElem?_toArray, List.getElem?_cons_succ, List.getElem?_cons_zero, Array.getElem?_setIfInBounds_self, List.setIfInBounds_toArray, List.set_cons_zero] at c90 c91
    clear bk
    obtain ⟨bk, -⟩ := HO.out.pop.blk
    have hb8 := lt_of_block bk
    have c80 := cell_of_heap bk (i := 0)
    have c81 := cell_of_heap bk (i := 1)
    simp only [List.getElem?_toArray, List.getElem?_cons_succ, List.getElem?_cons_zero] at c80 c81
    clear bk
    obtain ⟨bk, -⟩ := HO.out.pop.pop.pop.blk
    have hbl := lt_of_block bk
    have cl0 := cell_of_heap bk (i := 0)
    have cl1 := cell_of_heap bk (i := 1)
    have cl2 := cell_of_heap bk (i := 2)
    have cl3 := cell_of_heap bk (i := 3)
    have fl1 := free_of_heap bk (i := 1)
    simp only [List.getElem?_toArray, List.getElem?_cons_succ, List.getElem?_cons_zero] at cl0 cl1 cl2 cl3
    clear bk
    have hm := map_new (P := Tryd.prog) mapAU strU HO.out.pop.pop.pop.pop.pop.pop.blk.1 (nmB (!o)) (acV (Y (!o)) (!o)) (find_tr1 o Y ct)
    iterate 7 (first | (refine cl_do rfl rfl rfl (by first | rfl | simp [okB, lenV, plainV, Act.eval]) (fun _ _ => ?_); go_wp2_with fail) | (refine cl_yes rfl rfl rfl rfl (by first | rfl | simp [okB, lenV, plainV, Act.eval]) (fun _ _ => ?_); go_wp2_with fail) | (refine cl_no rfl rfl rfl ?_; go_simp))
    refine cl_do rfl rfl rfl (by first | rfl | simp [okB, lenV, plainV, Act.eval]) (fun _ _ => ?_); go_wp2_with fail
    refine cl_nil ?_
    go_upto_region 18 with fail
    clear hm hb9 c90 c91
    clear hbl cl0 cl1 cl2 cl3 fl1
  have h11 := (Owns.re HO.out [6, 0, 1, 2, 3, 4, 5, 7, 8, 9]).turn (.map (trE o Y ct) (ct + 1 + 1))
  obtain ⟨W11, hW11⟩ : ∃ W, W = setBlock W10 gt (.map (trE o Y ct) (ct + 1 + 1)) := ⟨_, rfl⟩
  rw [← hW11] at h11 ⊢
  clear hW11
  replace HO : Hid (Owns w0 W11 (bkL id t (.slice (some ⟨g, 0, none⟩) 2 2) b3 b ga (.slice yv N cv) gi gt s.f ids ci (trE o Y ct) (ct + 1 + 1) N bl g o u ps)) := Lib.hid (Owns.re h11 [1, 2, 3, 4, 5, 6, 0, 7, 8, 9]).pop.pop
  clear hb8 c80 c81
  obtain ⟨bk, -⟩ := (Owns.re h11 [2, 0, 1]).blk
  have hb8 := lt_of_block bk
  have c81 := cell_of_heap bk (i := 1)
  simp only [List.getElem?_toArray, List.getElem?_cons_succ, List.getElem?_cons_zero] at c81
  clear h11 hy1 hy2 hz bk
  go_wp2_with fail
  clear hb8 c81 ha1 ha2
  rw [rounds_succ]
  have hr := run_range_map (P := Tryd.prog) W11 63 _ _ gt (trE o Y ct) (ct + 1 + 1) mapAU HO.out.pop.pop.pop.pop.blk.1
  have hge : decide ((N : Int) ≥ 2000) = false := by simp; omega
  focus
    obtain ⟨bk, -⟩ := HO.out.pop.blk
    have hbl := lt_of_block bk
    have cl0 := cell_of_heap bk (i := 0)
    have cl1 := cell_of_heap bk (i := 1)
    have cl2 := cell_of_heap bk (i := 2)
    have cl3 := cell_of_heap bk (i := 3)
    have fl1 := free_of_heap bk (i := 1)
    simp only [List.getElem?_toArray, List.getElem?_cons_succ, List.getElem?_cons_zero] at cl0 cl1 cl2 cl3
    clear bk
    go_wp2_with fail
    clear hbl cl0 cl1 cl2 cl3 fl1
    clear hr hge
  obtain ⟨r1, hr1⟩ : ∃ x, x = W11.heap.size := ⟨_, rfl⟩
  obtain ⟨W12, hW12⟩ : ∃ W, W = W11.alloc (itO gt ct #[]) := ⟨_, rfl⟩
  have h12 := HO.out.box (itO gt ct #[])
  rw [← hW12, ← hr1] at h12 ⊢
  replace HO := Lib.hid h12
  clear h12 hW12 hr1
  go_loopw [] (fun wr => ∃ sn : Array Nat, Hid (sn = #[] ∨ (∃ i, sn = #[bornB ct i]) ∨ ∃ i, sn = #[bornB ct i, bornB ct !i]) ∧ Hid (Owns w0 wr (blk r1 (itO gt ct sn) :: bkL id t (.slice (some ⟨g, 0, none⟩) 2 2) b3 b ga (.slice yv N cv) gi gt s.f ids ci (trE o Y ct) (ct + 1 + 1) N bl g o u ps))) (fun wr => leftN r1 wr)
  case atStart => exact ⟨_, .inl rfl, HO⟩
  clear HO
  obtain ⟨sn, hsn, HO⟩ := hrel
  rcases hsn.out with rfl | ⟨i, rfl⟩ | ⟨i, rfl⟩
  focus
    as_aux_lemma =>
      obtain ⟨i, Wn, hw, hrun⟩ := tr_one (P := Tryd.prog) (o := o) (Y := Y) 0 HO.out.blk.1 HO.out.pop.pop.pop.pop.pop.blk.1
      -- an entry of 'trial' is looked at: #[bornB ct i] what is seen then, tr_entry1 i the entry's law, i == o its account, .inr (.inl ⟨i, rfl⟩) the relation
      have ho : Owns w0 Wn (blk r1 (itO gt ct (#[])) :: bkL id t (.slice (some ⟨g, 0, none⟩) 2 2) b3 b ga (.slice yv N cv) gi gt s.f ids ci (trE o Y ct) (ct + 1 + 1) N bl g o u ps) := by
        rcases hw with rfl | rfl
        · exact HO.out
        · exact HO.out.drew
      have ho2 := ho.turn (itO gt ct (#[bornB ct i]))
      obtain ⟨W13, hW13⟩ : ∃ W, W = setBlock Wn r1 (itO gt ct (#[bornB ct i])) := ⟨_, rfl⟩
      rw [← hW13] at ho2 hrun
      have HO2 := Lib.hid ho2
      have hen := tr_entry1 i (P := Tryd.prog) (o := o) (Y := Y) HO2.out.blk.1 HO2.out.pop.pop.pop.pop.pop.blk.1
      have HMs := Lib.hid (leftN_eq HO.out.blk.1)
      obtain ⟨z, hz⟩ : ∃ z, z = (i == o) := ⟨_, rfl⟩
      rw [← hz] at hrun hen
      clear ho ho2 hW13 hw hz
      dsimp only [tupN, tupZ, acV] at hrun hen
      have h3 : z = false → Y z < 0 → False := fun e h => by rw [e] at h; omega
      by_cases hn : Y z < 0
      · obtain rfl : z = true := by
          cases z
          · exact (h3 rfl hn).elim
          · rfl
        have hn' : decide (Y true < 0) = true := by simpa using hn
        clear hn h3
        go_wp2_with fail
        go_roundw
        case rel => exact ⟨_, .inr (.inl ⟨i, rfl⟩), Lib.hid (HO2.out.alloc _)⟩
        case measure => rw [HMs.out, leftN_eq (HO2.out.alloc _).blk.1]; simp
      · have hn' : decide (Y z < 0) = false := by simpa using hn
        clear hn h3
        go_wp2_with fail
        go_roundw
        case rel => exact ⟨_, .inr (.inl ⟨i, rfl⟩), Lib.hid (HO2.out.alloc _)⟩
        case measure => rw [HMs.out, leftN_eq (HO2.out.alloc _).blk.1]; simp
  focus
    as_aux_lemma =>
      obtain ⟨Wn, hw, hrun⟩ := tr_two (P := Tryd.prog) (o := o) (Y := Y) 0 i HO.out.blk.1 HO.out.pop.pop.pop.pop.pop.blk.1
      -- an entry of 'trial' is looked at: #[bornB ct i, bornB ct !i] what is seen then, tr_entry2 i the entry's law, !(i == o) its account, .inr (.inr ⟨i, rfl⟩) the relation
      have ho : Owns w0 Wn (blk r1 (itO gt ct (#[bornB ct i])) :: bkL id t (.slice (some ⟨g, 0, none⟩) 2 2) b3 b ga (.slice yv N cv) gi gt s.f ids ci (trE o Y ct) (ct + 1 + 1) N bl g o u ps) := by
        rcases hw with rfl | rfl
        · exact HO.out
        · exact HO.out.drew
      have ho2 := ho.turn (itO gt ct (#[bornB ct i, bornB ct !i]))
      obtain ⟨W13, hW13⟩ : ∃ W, W = setBlock Wn r1 (itO gt ct (#[bornB ct i, bornB ct !i])) := ⟨_, rfl⟩
      rw [← hW13] at ho2 hrun
      have HO2 := Lib.hid ho2
      have hen := tr_entry2 i (P := Tryd.prog) (o := o) (Y := Y) HO2.out.blk.1 HO2.out.pop.pop.pop.pop.pop.blk.1
      have HMs := Lib.hid (leftN_eq HO.out.blk.1)
      obtain ⟨z, hz⟩ : ∃ z, z = (!(i == o)) := ⟨_, rfl⟩
      rw [← hz] at hrun hen
      clear ho ho2 hW13 hw hz
      dsimp only [tupN, tupZ, acV] at hrun hen
      have h3 : z = false → Y z < 0 → False := fun e h => by rw [e] at h; omega
      by_cases hn : Y z < 0
      · obtain rfl : z = true := by
          cases z
          · exact (h3 rfl hn).elim
          · rfl
        have hn' : decide (Y true < 0) = true := by simpa using hn
        clear hn h3
        go_wp2_with fail
        go_roundw
        case rel => exact ⟨_, .inr (.inr ⟨i, rfl⟩), Lib.hid (HO2.out.alloc _)⟩
        case measure => rw [HMs.out, leftN_eq (HO2.out.alloc _).blk.1]; simp
      · have hn' : decide (Y z < 0) = false := by simpa using hn
        clear hn h3
        go_wp2_with fail
        go_roundw
        case rel => exact ⟨_, .inr (.inr ⟨i, rfl⟩), Lib.hid (HO2.out.alloc _)⟩
        case measure => rw [HMs.out, leftN_eq (HO2.out.alloc _).blk.1]; simp
  focus
    have hrun := tr_end (P := Tryd.prog) (o := o) (Y := Y) 0 i HO.out.blk.1 HO.out.pop.pop.pop.pop.pop.blk.1
    go_upto_region 29 with fail
    clear hrun
  obtain ⟨W13, hW13⟩ : ∃ W, W = wr := ⟨_, rfl⟩
  rw [← hW13] at HO ⊢
  clear hW13 hsn
  replace HO := Lib.hid HO.out.pop
  have hr := run_range_map (P := Tryd.prog) W13 63 _ _ gt (trE o Y ct) (ct + 1 + 1) mapAU HO.out.pop.pop.pop.pop.blk.1
  focus
    obtain ⟨bk, -⟩ := HO.out.pop.blk
    have hbl := lt_of_block bk
    have cl0 := cell_of_heap bk (i := 0)
    have cl1 := cell_of_heap bk (i := 1)
    have cl2 := cell_of_heap bk (i := 2)
    have cl3 := cell_of_heap bk (i := 3)
    have fl1 := free_of_heap bk (i := 1)
    simp only [List.getElem?_toArray, List.getElem?_cons_succ, List.getElem?_cons_zero] at cl0 cl1 cl2 cl3
    clear bk
    go_wp2_with fail
    clear hbl cl0 cl1 cl2 cl3 fl1
    clear hr
  obtain ⟨r2, hr2⟩ : ∃ x, x = W13.heap.size := ⟨_, rfl⟩
  obtain ⟨W14, hW14⟩ : ∃ W, W = W13.alloc (itO gt ct #[]) := ⟨_, rfl⟩
  have h14 := HO.out.box (itO gt ct #[])
  rw [← hW14, ← hr2] at h14 ⊢
  replace HO := Lib.hid h14
  clear h14 hW14 hr2
  go_loopw [] (fun wr => ∃ (F : Bool → Int) (sn : Array Nat), Hid ((sn = #[] ∧ F = s.f) ∨ (∃ i, sn = #[bornB ct i] ∧ F = upd s.f (i == o) (Y (i == o))) ∨ ∃ i, sn = #[bornB ct i, bornB ct !i] ∧ F = Y) ∧ Hid (Owns w0 wr (blk r2 (itO gt ct sn) :: bkL id t (.slice (some ⟨g, 0, none⟩) 2 2) b3 b ga (.slice yv N cv) gi gt F ids ci (trE o Y ct) (ct + 1 + 1) N bl g o u ps))) (fun wr => leftN r2 wr)
  case atStart => exact ⟨_, _, .inl ⟨rfl, rfl⟩, HO⟩
  clear HO
  obtain ⟨F, sn, hsn, HO⟩ := hrel
  rcases hsn.out with ⟨rfl, hF⟩ | ⟨i, rfl, hF⟩ | ⟨i, rfl, hF⟩
  focus
    as_aux_lemma =>
      replace hF := Lib.hid hF
      obtain ⟨i, Wn, hw, hrun⟩ := tr_one (P := Tryd.prog) (o := o) (Y := Y) 0 HO.out.blk.1 HO.out.pop.pop.pop.pop.pop.blk.1
      -- an entry of 'trial' is copied: #[bornB ct i] what is seen then, tr_entry1 i the entry's law, i == o its account, .inr (.inl ⟨i, rfl, by rw [hF.out, HZ.out]⟩) the relation, #[] what was seen
      have ho : Owns w0 Wn (blk r2 (itO gt ct (#[])) :: bkL id t (.slice (some ⟨g, 0, none⟩) 2 2) b3 b ga (.slice yv N cv) gi gt F ids ci (trE o Y ct) (ct + 1 + 1) N bl g o u ps) := by
        rcases hw with rfl | rfl
        · exact HO.out
        · exact HO.out.drew
      have ho2 := ho.turn (itO gt ct (#[bornB ct i]))
      obtain ⟨W15, hW15⟩ : ∃ W, W = setBlock Wn r2 (itO gt ct (#[bornB ct i])) := ⟨_, rfl⟩
      rw [← hW15] at ho2 hrun
      have HO2 := Lib.hid ho2
      have hen := tr_entry1 i (P := Tryd.prog) (o := o) (Y := Y) HO2.out.blk.1 HO2.out.pop.pop.pop.pop.pop.blk.1
      have HMs := Lib.hid (leftN_eq HO.out.blk.1)
      obtain ⟨z, hz⟩ : ∃ z, z = (i == o) := ⟨_, rfl⟩
      have HZ := Lib.hid hz
      rw [← hz] at hrun hen
      clear ho ho2 hW15 hw hz HO
      dsimp only [tupN, tupZ, acV] at hrun hen
      go_wp2_with fail
      clear hrun hen
      obtain ⟨b14, hb14⟩ : ∃ x, x = W15.heap.size := ⟨_, rfl⟩
      obtain ⟨W16, hW16⟩ : ∃ W, W = W15.alloc (.cells #[.int .i64 (Y z), .bool z] 70) := ⟨_, rfl⟩
      have h16 := HO2.out.box (.cells #[.int .i64 (Y z), .bool z] 70 (0, 0))
      rw [← hW16, ← hb14] at h16 ⊢
      have HO := Lib.hid h16
      clear h16 hW16 hb14 HO2
      refine wp_region_can [] (List.range 7) (by decide +kernel) (by decide +kernel) ?_
      replace HO := Lib.hid HO.out.drew
      generalize hWd : World.drew _ = W17 at HO ⊢
      clear hWd
      focus
        obtain ⟨bk, -⟩ := HO.out.blk
        have hb9 := lt_of_block bk
        have c90 := cell_of_heap bk (i := 0)
        have c91 := cell_of_heap bk (i := 1)
        simp only [List.getElem?_toArray, List.getElem?_cons_succ, List.getElem?_cons_zero] at c90 c91
        clear bk
        obtain ⟨bk, -⟩ := HO.out.pop.pop.pop.blk
        have hbl := lt_of_block bk
        have cl0 := cell_of_heap bk (i := 0)
        have cl1 := cell_of_heap bk (i := 1)
        have cl2 := cell_of_heap bk (i := 2)
        have cl3 := cell_of_heap bk (i := 3)
        have fl1 := free_of_heap bk (i := 1)
        simp only [List.getElem?_toArray, List.getElem?_cons_succ, List.getElem?_cons_zero] at cl0 cl1 cl2 cl3
        clear bk
        have hm := map_over (P := Tryd.prog) mapAU strU HO.out.pop.pop.pop.pop.blk.1 (nmB z) (acV (Y z) z) (find_ac F z) (ac_at F z).choose_spec.1 (ac_at F z).choose_spec.2
        rw [ac_set] at hm
        dsimp only [acV] at hm
        iterate 6 (first | (refine cl_do rfl rfl rfl (by first | rfl | simp [okB, lenV, plainV, Act.eval]) (fun _ _ => ?_); go_wp2_with fail) | (refine cl_yes rfl rfl rfl rfl (by first | rfl | simp [okB, lenV, plainV, Act.eval]) (fun _ _ => ?_); go_wp2_with fail) | (refine cl_no rfl rfl rfl ?_; go_simp))
        refine cl_do rfl rfl rfl (by first | rfl | simp [okB, lenV, plainV, Act.eval]) (fun _ _ => ?_); go_wp2_with fail
        refine cl_nil ?_
        go_wp2_with fail
        clear hm hb9 c90 c91
        clear hbl cl0 cl1 cl2 cl3 fl1
      have h18 := (Owns.re HO.out [4, 0, 1, 2, 3, 5, 6, 7, 8, 9]).turn (.map (acE (upd F z (Y z))) 2)
      obtain ⟨W18, hW18⟩ : ∃ W, W = setBlock W17 ga (.map (acE (upd F z (Y z))) 2) := ⟨_, rfl⟩
      rw [← hW18] at h18 ⊢
      clear hW18
      replace HO : Hid (Owns w0 W18 (blk r2 (itO gt ct (#[bornB ct i])) :: bkL id t (.slice (some ⟨g, 0, none⟩) 2 2) b3 b ga (.slice yv N cv) gi gt (upd F z (Y z)) ids ci (trE o Y ct) (ct + 1 + 1) N bl g o u ps)) := Lib.hid (Owns.re h18 [1, 2, 3, 4, 0, 5, 6, 7, 8, 9]).pop
      go_roundw
      case rel => exact ⟨_, _, .inr (.inl ⟨i, rfl, by rw [hF.out, HZ.out]⟩), HO⟩
      case measure => rw [HMs.out, leftN_eq HO.out.blk.1]; simp
  focus
    as_aux_lemma =>
      replace hF := Lib.hid hF
      obtain ⟨Wn, hw, hrun⟩ := tr_two (P := Tryd.prog) (o := o) (Y := Y) 0 i HO.out.blk.1 HO.out.pop.pop.pop.pop.pop.blk.1
      -- an entry of 'trial' is copied: #[bornB ct i, bornB ct !i] what is seen then, tr_entry2 i the entry's law, !(i == o) its account, .inr (.inr ⟨i, rfl, by rw [hF.out, HZ.out, upd_both]⟩) the relation, #[bornB ct i] what was seen
      have ho : Owns w0 Wn (blk r2 (itO gt ct (#[bornB ct i])) :: bkL id t (.slice (some ⟨g, 0, none⟩) 2 2) b3 b ga (.slice yv N cv) gi gt F ids ci (trE o Y ct) (ct + 1 + 1) N bl g o u ps) := by
        rcases hw with rfl | rfl
        · exact HO.out
        · exact HO.out.drew
      have ho2 := ho.turn (itO gt ct (#[bornB ct i, bornB ct !i]))
      obtain ⟨W15, hW15⟩ : ∃ W, W = setBlock Wn r2 (itO gt ct (#[bornB ct i, bornB ct !i])) := ⟨_, rfl⟩
      rw [← hW15] at ho2 hrun
      have HO2 := Lib.hid ho2
      have hen := tr_entry2 i (P := Tryd.prog) (o := o) (Y := Y) HO2.out.blk.1 HO2.out.pop.pop.pop.pop.pop.blk.1
      have HMs := Lib.hid (leftN_eq HO.out.blk.1)
      obtain ⟨z, hz⟩ : ∃ z, z = (!(i == o)) := ⟨_, rfl⟩
      have HZ := Lib.hid hz
      rw [← hz] at hrun hen
      clear ho ho2 hW15 hw hz HO
      dsimp only [tupN, tupZ, acV] at hrun hen
      go_wp2_with fail
      clear hrun hen
      obtain ⟨b14, hb14⟩ : ∃ x, x = W15.heap.size := ⟨_, rfl⟩
      obtain ⟨W16, hW16⟩ : ∃ W, W = W15.alloc (.cells #[.int .i64 (Y z), .bool z] 70) := ⟨_, rfl⟩
      have h16 := HO2.out.box (.cells #[.int .i64 (Y z), .bool z] 70 (0, 0))
      rw [← hW16, ← hb14] at h16 ⊢
      have HO := Lib.hid h16
      clear h16 hW16 hb14 HO2
      refine wp_region_can [] (List.range 7) (by decide +kernel) (by decide +kernel) ?_
      replace HO := Lib.hid HO.out.drew
      generalize hWd : World.drew _ = W17 at HO ⊢
      clear hWd
      focus
        obtain ⟨bk, -⟩ := HO.out.blk
        have hb9 := lt_of_block bk
        have c90 := cell_of_heap bk (i := 0)
        have c91 := cell_of_heap bk (i := 1)
        simp only [List.getElem?_toArray, List.getElem?_cons_succ, List.getElem?_cons_zero] at c90 c91
        clear bk
        obtain ⟨bk, -⟩ := HO.out.pop.pop.pop.blk
        have hbl := lt_of_block bk
        have cl0 := cell_of_heap bk (i := 0)
        have cl1 := cell_of_heap bk (i := 1)
        have cl2 := cell_of_heap bk (i := 2)
        have cl3 := cell_of_heap bk (i := 3)
        have fl1 := free_of_heap bk (i := 1)
        simp only [List.getElem?_toArray, List.getElem?_cons_succ, List.getElem?_cons_zero] at cl0 cl1 cl2 cl3
        clear bk
        have hm := map_over (P := Tryd.prog) mapAU strU HO.out.pop.pop.pop.pop.blk.1 (nmB z) (acV (Y z) z) (find_ac F z) (ac_at F z).choose_spec.1 (ac_at F z).choose_spec.2
        rw [ac_set] at hm
        dsimp only [acV] at hm
        iterate 6 (first | (refine cl_do rfl rfl rfl (by first | rfl | simp [okB, lenV, plainV, Act.eval]) (fun _ _ => ?_); go_wp2_with fail) | (refine cl_yes rfl rfl rfl rfl (by first | rfl | simp [okB, lenV, plainV, Act.eval]) (fun _ _ => ?_); go_wp2_with fail) | (refine cl_no rfl rfl rfl ?_; go_simp))
        refine cl_do rfl rfl rfl (by first | rfl | simp [okB, lenV, plainV, Act.eval]) (fun _ _ => ?_); go_wp2_with fail
        refine cl_nil ?_
        go_wp2_with fail
        clear hm hb9 c90 c91
        clear hbl cl0 cl1 cl2 cl3 fl1
      have h18 := (Owns.re HO.out [4, 0, 1, 2, 3, 5, 6, 7, 8, 9]).turn (.map (acE (upd F z (Y z))) 2)
      obtain ⟨W18, hW18⟩ : ∃ W, W = setBlock W17 ga (.map (acE (upd F z (Y z))) 2) := ⟨_, rfl⟩
      rw [← hW18] at h18 ⊢
      clear hW18
      replace HO : Hid (Owns w0 W18 (blk r2 (itO gt ct (#[bornB ct i, bornB ct !i])) :: bkL id t (.slice (some ⟨g, 0, none⟩) 2 2) b3 b ga (.slice yv N cv) gi gt (upd F z (Y z)) ids ci (trE o Y ct) (ct + 1 + 1) N bl g o u ps)) := Lib.hid (Owns.re h18 [1, 2, 3, 4, 0, 5, 6, 7, 8, 9]).pop
      go_roundw
      case rel => exact ⟨_, _, .inr (.inr ⟨i, rfl, by rw [hF.out, HZ.out, upd_both]⟩), HO⟩
      case measure => rw [HMs.out, leftN_eq HO.out.blk.1]; simp
  subst hF
  focus
    have hrun := tr_end (P := Tryd.prog) (o := o) (Y := F) 0 i HO.out.blk.1 HO.out.pop.pop.pop.pop.pop.blk.1
    go_upto_region 33 with fail
    clear hrun
  obtain ⟨W15, hW15⟩ : ∃ W, W = wr := ⟨_, rfl⟩
  rw [← hW15] at HO ⊢
  clear hW15 hsn
  replace HO := Lib.hid HO.out.pop
  focus
    obtain ⟨bk, -⟩ := HO.out.blk
    have hbk := lt_of_block bk
    have ck0 := cell_of_heap bk (i := 0)
    have ck1 := cell_of_heap bk (i := 1)
    have ck2 := cell_of_heap bk (i := 2)
    have fk2 := free_of_heap bk (i := 2)
    simp only [List.getElem?_toArray, List.getElem?_cons_succ, List.getElem?_cons_zero] at ck0 ck1 ck2
    clear bk
    go_wp2_with fail
    clear hbk ck0 ck1 ck2 fk2
  go_at_call 25
  refine (clone_c W15 (Owns.re HO.out [7, 0, 1, 2, 3, 4, 5, 6])).mono ?_
  rintro e W16 ⟨pv, rfl, h16⟩
  obtain ⟨py, pc, rfl⟩ := row_form h16.row
  replace HO := Lib.hid (Owns.re h16 [2, 3, 4, 5, 6, 7, 8, 0, 1])
  clear h16
  focus
    obtain ⟨bk, -⟩ := HO.out.blk
    have hbk := lt_of_block bk
    have ck0 := cell_of_heap bk (i := 0)
    have ck1 := cell_of_heap bk (i := 1)
    have ck2 := cell_of_heap bk (i := 2)
    have fk2 := free_of_heap bk (i := 2)
    simp only [List.getElem?_toArray, List.getElem?_cons_succ, List.getElem?_cons_zero] at ck0 ck1 ck2
    clear bk
    go_wp2_with fail
    clear hbk ck0 ck1 ck2 fk2
  have h17 := HO.out.store (i := 2) (.slice py 2 pc)
  obtain ⟨W17, hW17⟩ : ∃ W, W = W16.setCell ⟨b3, 2, none⟩ (.slice py 2 pc) := ⟨_, rfl⟩
  rw [← hW17] at h17 ⊢
  replace HO : Hid (Owns w0 W17 (blk b3 (kobj id t (.slice py 2 pc)) :: blk b (lobj ga (.slice yv N cv) gi gt) :: blk ga (.map (acE F) 2) :: blk gi (.map ids ci) :: blk gt (.map (trE o F ct) (ct + 1 + 1)) :: rowP 41 3 (.slice yv N cv) N (bcs bl) :: postsP bl :: rowP 38 2 (.slice py 2 pc) 2 (pcs o u) :: blk g (pobj o u) :: ps)) := Lib.hid h17
  clear h17 hW17
  refine wp_region_can [] (List.range 11) (by decide +kernel) (by decide +kernel) ?_
  replace HO := Lib.hid HO.out.drew
  generalize hWd : World.drew _ = W18 at HO ⊢
  clear hWd
  focus
    obtain ⟨bk, -⟩ := HO.out.blk
    have hbk := lt_of_block bk
    have ck0 := cell_of_heap bk (i := 0)
    have ck1 := cell_of_heap bk (i := 1)
    have ck2 := cell_of_heap bk (i := 2)
    have fk2 := free_of_heap bk (i := 2)
    simp only [List.getElem?_toArray, List.getElem?_cons_succ, List.getElem?_cons_zero] at ck0 ck1 ck2
    clear bk
    obtain ⟨bk, -⟩ := HO.out.pop.blk
    have hbl := lt_of_block bk
    have cl0 := cell_of_heap bk (i := 0)
    have cl1 := cell_of_heap bk (i := 1)
    have cl2 := cell_of_heap bk (i := 2)
    have cl3 := cell_of_heap bk (i := 3)
    have fl1 := free_of_heap bk (i := 1)
    simp only [List.getElem?_toArray, List.getElem?_cons_succ, List.getElem?_cons_zero] at cl0 cl1 cl2 cl3
    clear bk
    iterate 6 (first | (refine cl_do rfl rfl rfl (by first | rfl | simp [okB, lenV, plainV, Act.eval]) (fun _ _ => ?_); go_wp2_with fail) | (refine cl_yes rfl rfl rfl rfl (by first | rfl | simp [okB, lenV, plainV, Act.eval]) (fun _ _ => ?_); go_wp2_with fail) | (refine cl_no rfl rfl rfl ?_; go_simp))
    clear hbl cl0 cl1 cl2 cl3 fl1
    clear hbk ck0 ck1 ck2 fk2
  refine cl_do (i := 6) rfl rfl rfl rfl (fun _ _ => ?_)
  have hoA := HO.out.box (.cells #[.string (bs id), .int .i64 t, .slice py 2 pc] 41 (0, 0))
  obtain ⟨g1, hg1⟩ : ∃ g, g = W18.heap.size := ⟨_, rfl⟩
  obtain ⟨W19, hW19⟩ : ∃ W, W = W18.alloc (.cells #[.string (bs id), .int .i64 t, .slice py 2 pc] 41) := ⟨_, rfl⟩
  rw [← hW19, ← hg1] at hoA
  replace HO := Lib.hid (Owns.re hoA [6, 0, 1, 2, 3, 4, 5, 7, 8, 9])
  clear hoA
  go_wp2_with fail
  rw [← hW19, ← hg1]
  clear hW19 hg1
  refine cl_do (i := 7) rfl rfl rfl rfl (fun K hK => ?_)
  refine wp_append (.tmp 140) (.tmp 142) 65 (by rfl) 41 _ 3 48 Tryd.underlying65 info_bo (by rfl) (by omega) _ N _ (by rfl) HO.out.row g1 1 1 (bcl (⟨id, t, o, u⟩, .slice py 2 pc)) (by rfl) (by rfl) 41 (by exact (Owns.blk HO.out.pop).1) (by simp [bcl, Value.oneCell']) (by omega) (by omega) ?_
  intro v2 w9 hrow hgrow hblk
  have ho2 := Owns.rowGrew HO.out hrow hgrow hblk
  clear hrow hgrow hblk
  obtain ⟨y2, c2, rfl⟩ := row_form ho2.row
  obtain ⟨N1, hN1⟩ : ∃ k, k = N + 1 := ⟨_, rfl⟩
  rw [← hN1] at ho2 ⊢
  have HN1 := Lib.hid hN1
  clear hN1
  replace HO := Lib.hid (Owns.re ho2 [1, 3, 0, 2, 4, 5, 6, 7, 8, 9]).pop
  clear ho2
  have h20 := HO.out.store (i := 1) (.slice y2 N1 c2)
  focus
    obtain ⟨bk, -⟩ := HO.out.blk
    have hbl := lt_of_block bk
    have cl0 := cell_of_heap bk (i := 0)
    have cl1 := cell_of_heap bk (i := 1)
    have cl2 := cell_of_heap bk (i := 2)
    have cl3 := cell_of_heap bk (i := 3)
    have fl1 := free_of_heap bk (i := 1)
    simp only [List.getElem?_toArray, List.getElem?_cons_succ, List.getElem?_cons_zero] at cl0 cl1 cl2 cl3
    clear bk
    go_wp2_with fail
    iterate 3 (first | (refine cl_do rfl rfl rfl (by first | rfl | simp [okB, lenV, plainV, Act.eval]) (fun _ _ => ?_); go_wp2_with fail) | (refine cl_yes rfl rfl rfl rfl (by first | rfl | simp [okB, lenV, plainV, Act.eval]) (fun _ _ => ?_); go_wp2_with fail) | (refine cl_no rfl rfl rfl ?_; go_simp))
    refine cl_nil ?_
    go_upto_region 35 with fail
    clear hbl cl0 cl1 cl2 cl3 fl1
  obtain ⟨W20, hW20⟩ : ∃ W, W = w9.setCell ⟨b, 1, none⟩ (.slice y2 N1 c2) := ⟨_, rfl⟩
  rw [← hW20] at h20 ⊢
  replace HO : Hid (Owns w0 W20 (blk b (lobj ga (.slice y2 N1 c2) gi gt) :: rowP 41 3 (.slice y2 N1 c2) N1 (bcs bl ++ bcl (⟨id, t, o, u⟩, .slice py 2 pc)) :: blk b3 (kobj id t (.slice py 2 pc)) :: blk ga (.map (acE F) 2) :: blk gi (.map ids ci) :: blk gt (.map (trE o F ct) (ct + 1 + 1)) :: postsP bl :: rowP 38 2 (.slice py 2 pc) 2 (pcs o u) :: blk g (pobj o u) :: ps)) := Lib.hid h20
  clear h20 hW20
  refine wp_region_can [] (List.range 7) (by decide +kernel) (by decide +kernel) ?_
  replace HO := Lib.hid HO.out.drew
  generalize hWd : World.drew _ = W21 at HO ⊢
  clear hWd
  focus
    obtain ⟨bk, -⟩ := HO.out.pop.pop.blk
    have hbk := lt_of_block bk
    have ck0 := cell_of_heap bk (i := 0)
    have ck1 := cell_of_heap bk (i := 1)
    have ck2 := cell_of_heap bk (i := 2)
    have fk2 := free_of_heap bk (i := 2)
    simp only [List.getElem?_toArray, List.getElem?_cons_succ, List.getElem?_cons_zero] at ck0 ck1 ck2
    clear bk
    obtain ⟨bk, -⟩ := HO.out.blk
    have hbl := lt_of_block bk
    have cl0 := cell_of_heap bk (i := 0)
    have cl1 := cell_of_heap bk (i := 1)
    have cl2 := cell_of_heap bk (i := 2)
    have cl3 := cell_of_heap bk (i := 3)
    have fl1 := free_of_heap bk (i := 1)
    simp only [List.getElem?_toArray, List.getElem?_cons_succ, List.getElem?_cons_zero] at cl0 cl1 cl2 cl3
    clear bk
    have hm := map_new (P := Tryd.prog) mapBU strU HO.out.pop.pop.pop.pop.blk.1 id (.bool true) HM.out
    iterate 6 (first | (refine cl_do rfl rfl rfl (by first | rfl | simp [okB, lenV, plainV, Act.eval]) (fun _ _ => ?_); go_wp2_with fail) | (refine cl_yes rfl rfl rfl rfl (by first | rfl | simp [okB, lenV, plainV, Act.eval]) (fun _ _ => ?_); go_wp2_with fail) | (refine cl_no rfl rfl rfl ?_; go_simp))
    refine cl_do rfl rfl rfl (by first | rfl | simp [okB, lenV, plainV, Act.eval]) (fun _ _ => ?_); go_wp2_with fail
    refine cl_nil ?_
    go_wp2_with fail
    clear hm
    clear hbk ck0 ck1 ck2 fk2
    clear hbl cl0 cl1 cl2 cl3 fl1
  have h22 := (Owns.re HO.out [4, 0, 1, 2, 3, 5, 6, 7, 8]).turn (.map (ids.push (mE id (.bool true) ci)) (ci + 1))
  obtain ⟨W22, hW22⟩ : ∃ W, W = setBlock W21 gi (.map (ids.push (mE id (.bool true) ci)) (ci + 1)) := ⟨_, rfl⟩
  rw [← hW22] at h22 ⊢
  clear hW22
  have h23 : Owns w0 W22 (postsP bl :: rowP 38 2 (.slice py 2 pc) 2 (pcs o u) :: blk b (lobj ga (.slice y2 N1 c2) gi gt) :: blk ga (.map (acE F) 2) :: blk gi (.map (ids.push (mE id (.bool true) ci)) (ci + 1)) :: blk gt (.map (trE o F ct) (ct + 1 + 1)) :: rowP 41 3 (.slice y2 N1 c2) N1 (bcs bl ++ bcl (⟨id, t, o, u⟩, .slice py 2 pc)) :: blk g (pobj o u) :: ps) := (Owns.re h22 [3, 6, 7, 1, 4, 0, 5, 2, 8]).pop
  have h24 : Owns w0 W22 (postsP (bl ++ [((⟨id, t, o, u⟩ : Bkg), .slice py 2 pc)]) :: blk b (lobj ga (.slice y2 N1 c2) gi gt) :: blk ga (.map (acE F) 2) :: blk gi (.map (ids.push (mE id (.bool true) ci)) (ci + 1)) :: blk gt (.map (trE o F ct) (ct + 1 + 1)) :: rowP 41 3 (.slice y2 N1 c2) N1 (bcs bl ++ bcl (⟨id, t, o, u⟩, .slice py 2 pc)) :: blk g (pobj o u) :: ps) := h23.merge fun S T h1 h2 h3 => posts_snoc bl (⟨id, t, o, u⟩, .slice py 2 pc) h1 h2 h3
  have eN : N1 = (bl ++ [((⟨id, t, o, u⟩ : Bkg), Value.slice py 2 pc)]).length := by rw [HN1.out, HN.out]; simp
  have eC : bcs bl ++ bcl (⟨id, t, o, u⟩, .slice py 2 pc) = bcs (bl ++ [((⟨id, t, o, u⟩ : Bkg), .slice py 2 pc)]) := (bcs_append bl _).symm
  have h25 : Owns w0 W22 (blk b (lobj ga (.slice y2 N1 c2) gi gt) :: blk ga (.map (acE F) 2) :: blk gi (.map (ids.push (mE id (.bool true) ci)) (ci + 1)) :: blk gt (.map (trE o F ct) (ct + 1 + 1)) :: rowP 41 3 (.slice y2 N1 c2) N1 (bcs bl ++ bcl (⟨id, t, o, u⟩, .slice py 2 pc)) :: postsP (bl ++ [((⟨id, t, o, u⟩ : Bkg), .slice py 2 pc)]) :: blk g (pobj o u) :: ps) := Owns.re h24 [1, 2, 3, 4, 5, 0, 6]
  rw [eC] at h25
  rw [HY.out] at h25
  have h26 : Owns w0 W22 (ledP b (s.book ⟨id, t, o, u⟩) :: blk g (pobj o u) :: ps) := by
    rw [eN] at h25
    refine Owns.asLed (s := s.book ⟨id, t, o, u⟩) (ids := ids.push (mE id (.bool true) ci)) ?_ ?_ h25
    · unfold idsOk at hids ⊢
      simp [Lg.book, hids]
    · simp [Lg.book, hbl]
  go_ret
  exact ⟨rfl, h26⟩
end Go.Proofs.YtlkihpgpcgeogaaDoor
