/-
  Frozen accounts: 'Correct'.
-/
import Derived.Test.YtlkihpgpcgeogaaDoorFzInt
import Derived.Laws.CopyRow
namespace Go.Cz
open Go.RowKit
section
variable {P : Program}
/-- copy(dst, src) of whole rows of elements of 'size' cells. -/
theorem run_copy_rows (w : World) (dT sT ty elem : TypeId) (g n c : Nat) (a : Addr) (sCap size : Nat) (cur : Array Value) (t : TypeId) (cs : List Value)
    (hu : P.underlying dT = some (.slice elem)) (hs : (P.info? elem).map (·.size) = some size)
    (hg : w.heap[g]? = some (.cells cur t (0, 0))) (hn : cs.length = n * size)
    (hsrc : ∀ j v, cs[j]? = some v → w.cell? (a.add j) = some v) (hfit : cs.length ≤ cur.size) (h1 : ∀ v ∈ cs, v.oneCell' = true) :
    (Builtin.copy_ #[dT, sT] ty #[.slice (some ⟨g, 0, none⟩) n c, .slice (some a) n sCap]).run P w =
      .ok (goInt n) (w.setRow g (cs ++ cur.toList.drop cs.length).toArray) := by
  have hl := run_loadCells_list (P := P) w a cs hsrc
  have hst := run_storeCells_at P g 0 t cs 0 cur w hg (by simpa using hfit) h1
  cases hq : P.info? elem with
  | none => simp [hq] at hs
  | some i =>
    have hi : i.size = size := by simpa [hq] using hs
    have hm : Nat.min n n = n := Nat.min_self n
    simp [Builtin.copy_, run_underlying hu, Builtin.lenOf, Builtin.firstCells, sizeOf, typeInfo, hq, hi, hm, ← hn, hl, hst]
theorem wp_copy_rows {o : Oper} {a : Act} {K : Act → World → Prop} {Q : Exit → Act → World → Prop} {w : World} (d s : Operand) (dT sT : TypeId)
    (ho : o.op = .call { callee := .builtin .copy, args := #[d, s], argTypes := #[dT, sT] }) (elem : TypeId) (size : Nat) (hu : P.underlying dT = some (.slice elem)) (hsz : (P.info? elem).map (·.size) = some size)
    (g n c : Nat) (ad : Addr) (sCap : Nat) (hd : a.eval d = .slice (some ⟨g, 0, none⟩) n c) (hs : a.eval s = .slice (some ad) n sCap)
    (cur : Array Value) (t : TypeId) (hg : w.heap[g]? = some (.cells cur t (0, 0))) (cs : List Value) (hn : cs.length = n * size)
    (hsrc : ∀ j v, cs[j]? = some v → w.cell? (ad.add j) = some v) (hfit : cs.length ≤ cur.size) (h1 : ∀ v ∈ cs, v.oneCell' = true)
    (h : ∀ w', w'.heap[g]? = some (.cells (cs ++ cur.toList.drop cs.length).toArray t (0, 0)) → Mod [g] w w' → K (a.put o.dst (goInt n)) w') : o.wp P a w K Q := by
  have hr := run_copy_rows (P := P) w dT sT o.type elem g n c ad sCap size cur t cs hu hsz hg hn hsrc hfit h1
  unfold Oper.wp execOp
  simp only [ho, resolve, invoke, builtin, Sem.run_bind, Sem.run_pure, Result.andThen_ok, List.map_toArray, List.map_cons, List.map_nil, hd, hs, hr]
  exact h _ (setRow_heap w g _ _ t _ hg) ⟨rfl, rfl, rfl, by simp, fun k _ hk => setRow_other w g k _ (by simpa using hk)⟩
end
end Go.Cz
namespace Go.Proofs.YtlkihpgpcgeogaaDoor
open Go.RowKit Go.Cz Go.Cz.Td Go.Shelf
set_option linter.unusedSimpArgs false
set_option linter.unusedVariables false
attribute [local go_sem] Oper.semAt_some
attribute [local irreducible] cList cPlan
theorem Owns.rowAll {w0 w w' : World} {ps : List Piece} {e : TypeId} {size n g : Nat} {xs ys : List Value} (h : Owns w0 w (rowP e size (.slice (some ⟨g, 0, none⟩) n n) n xs :: ps)) (hm : Mod [g] w w') (hh : w'.heap[g]? = some (.cells ys.toArray e (0, 0))) (hl : ys.length = n * size) : Owns w0 w' (rowP e size (.slice (some ⟨g, 0, none⟩) n n) n ys :: ps) := by
  obtain ⟨S, ⟨h1, rfl⟩, -, hf⟩ := h.open
  rcases h1.2 with ⟨h0, -⟩ | ⟨g', c', cur, hv, h2, h3, h4, h5, h6, h7⟩
  · cases h0
  · cases hv
    refine hf _ _ [g] ⟨⟨hl, .inr ⟨g, n, ys.toArray, rfl, h2, hh, Nat.le_refl _, h5, by simpa using hl, ?_⟩⟩, by simp [Value.ownBlock]⟩ (by simpa [Value.ownBlock] using hm) fun k hk => .inl (by simpa [Value.ownBlock] using hk)
    rw [List.take_of_length_le (by simp; omega)]
theorem mcs_set (u : Int) : ∀ (L : List Mv) (k : Nat), k < L.length → (mcs L).set (k * 2 + 1) (.int .i64 u) = mcs (putU L k u)
  | [], k, h => by simp at h
  | m :: r, 0, _ => by simp [mcs, mvl, putU]
  | m :: r, k + 1, h => by
    have h1 := mcs_set u r k (by simpa using h)
    have e : mcs (m :: r) = mvl m ++ mcs r := rfl
    have e2 : putU (m :: r) (k + 1) u = m :: putU r k u := by
      unfold putU
      simp only [List.getElem?_cons_succ]
      split <;> simp
    rw [e, e2, show mcs (m :: putU r k u) = mvl m ++ mcs (putU r k u) from rfl, ← h1]
    rw [List.set_append_right _ _ (by simp [mvl]; omega)]
    congr 2
    simp [mvl]; omega
theorem size_mv : (Tryd.prog.info? 54).map (·.size) = some 2 := by kernel_rfl
theorem pre_pers : ∀ (b : Int) (l : List Mv), preOk b l = (pers b l).all fun p => inB p.2 0 MU
  | b, [] => rfl
  | b, m :: r => by simp only [preOk, pers, List.all_cons, pre_pers (b + m.2) r]
theorem putU_mem {u : Int} {ms : List Mv} {k : Nat} {x : Mv} (h : x ∈ putU ms k u) : x ∈ ms ∨ x.2 = u := by
  unfold putU at h
  split at h
  · rcases List.mem_or_eq_of_mem_set h with h | h
    · exact .inl h
    · exact .inr (by rw [h])
  · exact .inl h
theorem below_set {B : Nat} {w w' : World} {g i : Nat} {v : Value} (h : Below B w w') (hg : g < B) : Below B (w.setCell ⟨g, i, none⟩ v) (w'.setCell ⟨g, i, none⟩ v) := by
  refine ⟨?_, ?_, ?_, ?_, fun k hk => ?_⟩
  · exact h.os
  · exact h.tape
  · exact h.output
  · simpa using h.size
  · by_cases e : k = g
    · subst e
      have h1 := h.block k hk
      unfold World.setCell
      simp only [Array.getElem?_modify, h1]
    · rw [setCell_heap_ne e, setCell_heap_ne e]
      exact h.block k hk
/-- What holds between two rounds of the range loop of 'Correct'; what an early end leaves. -/
def CorI (w : World) (Bz bt : Nat) (pre : List Mv) (W : World) : Prop := Bk W Bz #[.pointer (some ⟨bt, 0, none⟩)] 24 ∧ Below w.heap.size w W ∧ ∀ p ∈ pre, inB p.2 0 MU = true
def CorX (w : World) (be : Nat) (e : Code) (pre : List Mv) (W : World) : Prop := Below w.heap.size (w.setCell ⟨be, 0, none⟩ (.int .i64 21)) W ∧ e = .ret ∧ ∃ p ∈ pre, inB p.2 0 MU = false
theorem corr_res {W : World} {tmps : Array Value} {b : Nat} {v : Value} (h : tmps.getD 6 undef = .pointer (some ⟨b, 0, none⟩)) (hc : W.cell? ⟨b, 0, none⟩ = some v) : (results Tryd.f8 tmps).run Tryd.prog W = .ok v W := by
  have h' : tmps[6]?.getD undef = .pointer (some ⟨b, 0, none⟩) := by simpa using h
  simp [results, Tryd.results8, go_sem, h', hc]
abbrev errP (b : Nat) (e : Int) : Piece := blk b (.cells #[.int .i64 e] 25 (0, 0))
set_option maxRecDepth 100000 in
set_option maxHeartbeats 4000000 in
theorem corr_c {w0 : World} {ps : List Piece} {b : Nat} {a : Acc} (i u : Int) (w : World) (h : Owns w0 w (accP b a :: ps)) (hg : GoodA a) :
    Calls Tryd.prog 8 #[.pointer (some ⟨b, 0, none⟩), .int .i64 i, .int .i64 u] w fun e w' => e = .returned (.int .i64 (corrE a i u : Nat)) ∧ Owns w0 w' (accP b (corrA a i u) :: ps) := by
  have HG := Lib.hid hg
  obtain ⟨W1, hW1⟩ : ∃ W, W = w.alloc (.cells #[.int .i64 0] 25) := ⟨_, rfl⟩
  obtain ⟨be, hbe⟩ : ∃ x, x = w.heap.size := ⟨_, rfl⟩
  have HO : Hid (Owns w0 W1 (errP be 0 :: accP b a :: ps)) := by
    rw [hW1, hbe]
    exact Lib.hid (h.box _)
  clear h hg
  by_cases h1 : inB u (-MU) MU = true
  rotate_left
  · have h1' : inB u (-MU) MU = false := by simpa using h1
    have HI1 : Hid (inB u (-1000000000000) 1000000000000 = false) := h1'
    clear h1
    go_enter Tryd.func8, Tryd.ntmps8
    go_wp2_with fail
    rw [← hW1, ← hbe]
    clear hW1 hbe
    go_at_call 17
    refine (within_c u (-1000000000000) 1000000000000 _).mono ?_
    rintro e w1 ⟨rfl, hw⟩
    rw [HI1.out, hw]
    clear hw w1
    -- the error 1 is returned
    have HE : Hid (corrE a i u = 1) := by show _ = _; unfold corrE; rw [h1']; rfl
    have HA2 : Hid (corrA a i u = a) := by show _ = _; unfold corrA; rw [HE.out]; rfl
    obtain ⟨bk, -⟩ := HO.out.blk
    have hbe := lt_of_block bk
    have fe0 := free_of_heap bk (i := 0)
    have ce0 := cell_of_heap bk (i := 0)
    simp only [List.getElem?_toArray, List.getElem?_cons_succ, List.getElem?_cons_zero] at ce0
    clear bk
    have h2 := HO.out.store (i := 0) (.int .i64 1)
    have H2 := Lib.hid h2
    clear h2
    go_wp2_with fail
    refine bodyPost_ret (corr_res rfl (by rw [cell_of_heap H2.out.blk.1]; rfl)) (by rfl) ⟨by rw [HE.out]; rfl, ?_⟩
    rw [HA2.out]
    exact H2.out.pop
  have HI1 : Hid (inB u (-1000000000000) 1000000000000 = true) := h1
  obtain ⟨W2, hW2⟩ : ∃ W, W = W1.alloc (.cells #[kOpen b] 59) := ⟨_, rfl⟩
  obtain ⟨g0, hg0⟩ : ∃ x, x = W1.heap.size := ⟨_, rfl⟩
  have HO2 : Hid (Owns w0 W2 (blk g0 (.cells #[kOpen b] 59 (0, 0)) :: errP be 0 :: accP b a :: ps)) := by
    rw [hW2, hg0]
    exact Lib.hid (HO.out.box _)
  clear HO
  by_cases h2 : a.closed = true
  · have HEo : Hid (opnE a = 29) := by show _ = _; unfold opnE; rw [h2]; rfl
    go_enter Tryd.func8, Tryd.ntmps8
    replace hW2 := Lib.hid hW2
    replace hg0 := Lib.hid hg0
    go_wp2_with fail
    rw [← hW1, ← hbe]
    clear hW1 hbe
    go_at_call 17
    refine (within_c u (-1000000000000) 1000000000000 _).mono ?_
    rintro e w1 ⟨rfl, hw⟩
    rw [HI1.out, hw]
    clear hw w1
    go_wp2_with fail
    rw [← hW2.out, ← hg0.out]
    go_at_call 20
    refine (first1_c g0 W2 HO2.out.pop.pop HO2.out.blk.1).mono ?_
    rintro e W3 ⟨rfl, hb⟩
    have HO := Lib.hid ((HO2.out.below hb).pop)
    clear hb hW2 hg0 HO2
    rw [HEo.out]
    -- the error 29 is returned
    have HE : Hid (corrE a i u = 29) := by show _ = _; unfold corrE; rw [h1, h2]; rfl
    have HA2 : Hid (corrA a i u = a) := by show _ = _; unfold corrA; rw [HE.out]; rfl
    obtain ⟨bk, -⟩ := HO.out.blk
    have hbe := lt_of_block bk
    have fe0 := free_of_heap bk (i := 0)
    have ce0 := cell_of_heap bk (i := 0)
    simp only [List.getElem?_toArray, List.getElem?_cons_succ, List.getElem?_cons_zero] at ce0
    clear bk
    have h2 := HO.out.store (i := 0) (.int .i64 29)
    have H2 := Lib.hid h2
    clear h2
    go_wp2_with fail
    refine bodyPost_ret (corr_res rfl (by rw [cell_of_heap H2.out.blk.1]; rfl)) (by rfl) ⟨by rw [HE.out]; rfl, ?_⟩
    rw [HA2.out]
    exact H2.out.pop
  have h2' : a.closed = false := by simpa using h2
  have HEo : Hid (opnE a = 0) := by show _ = _; unfold opnE; rw [h2']; rfl
  obtain ⟨m, hm⟩ : ∃ m, m = a.ms.length := ⟨_, rfl⟩
  have HM := Lib.hid hm
  have hm9 : m ≤ 1000 := by rw [hm]; exact HG.out.len
  have hm0 : 0 < m := by rw [hm]; exact List.length_pos_iff.2 HG.out.some
  clear hm
  by_cases h3 : inB i 0 ((m : Int) - 1) = true
  rotate_left
  · have h3' : inB i 0 ((m : Int) - 1) = false := by simpa using h3
    have HI3 := Lib.hid h3'
    clear h3
    go_enter Tryd.func8, Tryd.ntmps8
    replace hW2 := Lib.hid hW2
    replace hg0 := Lib.hid hg0
    go_wp2_with fail
    rw [← hW1, ← hbe]
    clear hW1 hbe
    go_at_call 17
    refine (within_c u (-1000000000000) 1000000000000 _).mono ?_
    rintro e w1 ⟨rfl, hw⟩
    rw [HI1.out, hw]
    clear hw w1
    go_wp2_with fail
    rw [← hW2.out, ← hg0.out]
    go_at_call 20
    refine (first1_c g0 W2 HO2.out.pop.pop HO2.out.blk.1).mono ?_
    rintro e W3 ⟨rfl, hb⟩
    have HO := Lib.hid ((HO2.out.below hb).pop)
    clear hb hW2 hg0 HO2
    rw [HEo.out]
    obtain ⟨v, hv⟩ := HO.out.swap.acc
    obtain ⟨gv, cv, rfl, -, -, -, -, -⟩ := row_at hv.pop.row (List.length_pos_iff.2 HG.out.some)
    have hba := lt_of_block hv.blk.1
    have ca2 : W3.cell? ⟨b, 2, none⟩ = some (.slice (some ⟨gv, 0, none⟩) m cv) := by rw [cell_of_heap hv.blk.1, HM.out]; rfl
    have HV := Lib.hid hv
    clear hv
    go_wp2_with fail
    clear hba ca2
    go_at_call 17
    refine (within_c _ 0 ((m : Int) - 1) _).mono ?_
    rintro e w1 ⟨rfl, hw⟩
    rw [hw]
    clear hw w1
    rw [HI3.out]
    clear hm0 hm9
    -- the error 11 is returned
    have HE : Hid (corrE a i u = 11) := by show _ = _; unfold corrE; rw [h1, h2', ← HM.out, h3']; rfl
    have HA2 : Hid (corrA a i u = a) := by show _ = _; unfold corrA; rw [HE.out]; rfl
    obtain ⟨bk, -⟩ := HO.out.blk
    have hbe := lt_of_block bk
    have fe0 := free_of_heap bk (i := 0)
    have ce0 := cell_of_heap bk (i := 0)
    simp only [List.getElem?_toArray, List.getElem?_cons_succ, List.getElem?_cons_zero] at ce0
    clear bk
    have h2 := HO.out.store (i := 0) (.int .i64 11)
    have H2 := Lib.hid h2
    clear h2
    go_wp2_with fail
    refine bodyPost_ret (corr_res rfl (by rw [cell_of_heap H2.out.blk.1]; rfl)) (by rfl) ⟨by rw [HE.out]; rfl, ?_⟩
    rw [HA2.out]
    exact H2.out.pop
  obtain ⟨hi0, hi1⟩ := inB_iff.1 h3
  obtain ⟨k, rfl⟩ : ∃ k : Nat, i = (k : Int) := ⟨i.toNat, by omega⟩
  have hk : k < m := by omega
  have HI3 := Lib.hid h3
  refine calls_marks 8 Tryd.func8 rfl ?_
  simp only [Tryd.ntmps8, List.size_toArray, List.length_cons, List.length_nil, Nat.reduceAdd, Nat.reduceSub, Array.replicate_succ, Array.replicate_zero, List.push_toArray, List.append_toArray, List.nil_append, List.cons_append]
  replace hW2 := Lib.hid hW2
  replace hg0 := Lib.hid hg0
  go_wp2_with fail
  rw [← hW1, ← hbe]
  clear hW1 hbe
  go_at_call 17
  refine (within_c u (-1000000000000) 1000000000000 _).mono ?_
  rintro e w1 ⟨rfl, hw⟩
  rw [HI1.out, hw]
  clear hw w1
  go_wp2_with fail
  rw [← hW2.out, ← hg0.out]
  go_at_call 20
  refine (first1_c g0 W2 HO2.out.pop.pop HO2.out.blk.1).mono ?_
  rintro e W3 ⟨rfl, hb⟩
  have HO := Lib.hid ((HO2.out.below hb).pop)
  clear hb hW2 hg0 HO2
  rw [HEo.out]
  obtain ⟨v, hv⟩ := HO.out.swap.acc
  obtain ⟨gv, cv, rfl, -, -, -, -, -⟩ := row_at hv.pop.row (List.length_pos_iff.2 HG.out.some)
  have hba := lt_of_block hv.blk.1
  have ca2 : W3.cell? ⟨b, 2, none⟩ = some (.slice (some ⟨gv, 0, none⟩) m cv) := by rw [cell_of_heap hv.blk.1, HM.out]; rfl
  have HV := Lib.hid hv
  clear hv
  go_wp2_with fail
  clear hba ca2
  go_at_call 17
  refine (within_c _ 0 ((m : Int) - 1) _).mono ?_
  rintro e w1 ⟨rfl, hw⟩
  rw [hw]
  clear hw w1
  rw [HI3.out]
  have HV2 : Hid (Owns w0 W3 (blk b (aobj a (.slice (some ⟨gv, 0, none⟩) m cv)) :: rowP 54 2 (.slice (some ⟨gv, 0, none⟩) m cv) m (mcs a.ms) :: errP be 0 :: ps)) := by rw [HM.out]; exact HV
  clear HV HO
  have HO := HV2
  clear HV2
  obtain ⟨W4, hW4⟩ : ∃ W, W = W3.alloc (.cells (madeCells (Value.agg #[.int .i64 0, .int .i64 0]).cells (m * 2)) 54) := ⟨_, rfl⟩
  obtain ⟨gr, hgr⟩ : ∃ x, x = W3.heap.size := ⟨_, rfl⟩
  have HO4 : Hid (Owns w0 W4 (rowP 54 2 (.slice (some ⟨gr, 0, none⟩) m m) m (madeCells (Value.agg #[.int .i64 0, .int .i64 0]).cells (m * 2)).toList :: blk b (aobj a (.slice (some ⟨gv, 0, none⟩) m cv)) :: rowP 54 2 (.slice (some ⟨gv, 0, none⟩) m cv) m (mcs a.ms) :: errP be 0 :: ps)) := by
    have h1 := HO.out.rowLit (e := 54) (size := 2) (n := m) (madeCells (Value.agg #[.int .i64 0, .int .i64 0]).cells (m * 2)).toList (by unfold maxLen; omega) (by rw [Array.length_toList, size_madeCells])
    rw [Array.toArray_toList] at h1
    rw [hW4, hgr]
    exact Lib.hid h1
  obtain ⟨bk, -⟩ := HO.out.blk
  have hba := lt_of_block bk
  have ca0 := cell_of_heap bk (i := 0)
  have ca1 := cell_of_heap bk (i := 1)
  have ca2 := cell_of_heap bk (i := 2)
  have ca3 := cell_of_heap bk (i := 3)
  have fa2 := free_of_heap bk (i := 2)
  have fa3 := free_of_heap bk (i := 3)
  simp only [List.getElem?_toArray, List.getElem?_cons_succ, List.getElem?_cons_zero] at ca0 ca1 ca2 ca3
  clear bk
  go_wp2_with (refine wpList_plain rfl fun K hK => wp_make (.tmp 38) (.tmp 38) 55 (by rfl) 54 _ 2 16 Tryd.underlying55 info_mv m m (by rfl) (by rfl) (Nat.le_refl _) (by omega) (by omega) ?_; refine hK _ _ ?_; rw [← hW4, ← hgr]; clear hba ca0 ca1 ca2 ca3 fa2 fa3 hW4 hgr HO)
  obtain ⟨W5, hW5⟩ : ∃ W, W = W4.alloc (.cells #[.int .i64 0, .int .i64 0, .slice (some ⟨gr, 0, none⟩) m m, .bool false] 57) := ⟨_, rfl⟩
  obtain ⟨bt, hbt⟩ : ∃ x, x = W4.heap.size := ⟨_, rfl⟩
  have HO : Hid (Owns w0 W5 (rowP 54 2 (.slice (some ⟨gr, 0, none⟩) m m) m (madeCells (Value.agg #[.int .i64 0, .int .i64 0]).cells (m * 2)).toList :: blk bt (.cells #[.int .i64 0, .int .i64 0, .slice (some ⟨gr, 0, none⟩) m m, .bool false] 57 (0, 0)) :: rowP 54 2 (.slice (some ⟨gv, 0, none⟩) m cv) m (mcs a.ms) :: blk b (aobj a (.slice (some ⟨gv, 0, none⟩) m cv)) :: errP be 0 :: ps)) := by
    rw [hW5, hbt]
    exact Lib.hid (Owns.re (HO4.out.box _) [1, 0, 3, 2])
  rw [← hW5, ← hbt]
  clear hW5 hbt HO4
  refine wp_region_can [] (List.range 9) (by decide +kernel) (by decide +kernel) ?_
  replace HO := Lib.hid HO.out.drew
  generalize hWd : World.drew _ = W6 at HO ⊢
  clear hWd
  focus
    obtain ⟨bk, -⟩ := HO.out.pop.pop.pop.blk
    have hba := lt_of_block bk
    have ca0 := cell_of_heap bk (i := 0)
    have ca1 := cell_of_heap bk (i := 1)
    have ca2 := cell_of_heap bk (i := 2)
    have ca3 := cell_of_heap bk (i := 3)
    have fa2 := free_of_heap bk (i := 2)
    have fa3 := free_of_heap bk (i := 3)
    simp only [List.getElem?_toArray, List.getElem?_cons_succ, List.getElem?_cons_zero] at ca0 ca1 ca2 ca3
    clear bk
    obtain ⟨bk, -⟩ := HO.out.pop.blk
    have hbt := lt_of_block bk
    have ct0 := cell_of_heap bk (i := 0)
    have ct1 := cell_of_heap bk (i := 1)
    have ct2 := cell_of_heap bk (i := 2)
    have ct3 := cell_of_heap bk (i := 3)
    simp only [List.getElem?_toArray, List.getElem?_cons_succ, List.getElem?_cons_zero] at ct0 ct1 ct2 ct3
    clear bk
    iterate 8 (refine cl_do rfl rfl rfl (by first | rfl | simp [okB, lenV, plainV, Act.eval]) (fun _ _ => ?_); go_wp2_with fail)
    clear hba ca0 ca1 ca2 ca3 fa2 fa3 hbt ct0 ct1 ct2 ct3
  refine cl_do (i := 8) rfl rfl rfl rfl (fun K hK => ?_)
  obtain ⟨gr', c', e0, -, -, -, ⟨cur, hcur, hcs⟩, -⟩ := row_at HO.out.row hm0
  cases e0
  obtain ⟨gv', cv', e0, -, -, -, -, hsrc⟩ := row_at HO.out.pop.pop.row hm0
  cases e0
  have hlen : (mcs a.ms).length = m * 2 := by rw [mcs_len, HM.out]
  refine wp_copy_rows (.tmp 45) (.tmp 49) 55 55 (by rfl) 54 2 Tryd.underlying55 size_mv gr m m ⟨gv, 0, none⟩ cv (by rfl) (by rfl) cur 54 hcur (mcs a.ms) hlen (fun j v hj => ?_) (by rw [hlen, hcs]; exact Nat.le_refl _) (fun v hv => ?_) ?_
  · have hadd : (⟨gv, 0, none⟩ : Addr).add j = ⟨gv, j, none⟩ := by unfold Addr.add; split <;> simp_all
    rw [hadd]
    exact hsrc j v hj
  · unfold mcs at hv
    rw [List.mem_flatMap] at hv
    obtain ⟨x, -, hx⟩ := hv
    simp only [mvl, List.mem_cons, List.not_mem_nil, or_false] at hx
    rcases hx with rfl | rfl <;> rfl
  intro W7 hh hmod
  have hdrop : mcs a.ms ++ cur.toList.drop (mcs a.ms).length = mcs a.ms := by
    rw [List.drop_of_length_le (by rw [Array.length_toList, hcs, hlen]; exact Nat.le_refl _), List.append_nil]
  rw [hdrop] at hh
  replace HO := Lib.hid (Owns.rowAll HO.out hmod hh hlen)
  clear hmod hh hdrop hsrc hcur hcs hlen
  go_wp2_with fail
  refine cl_nil ?_
  obtain ⟨gr', c', e0, -, -, hgl, ⟨cur, hcur, -⟩, hcell⟩ := row_at HO.out.row hm0
  cases e0
  obtain ⟨x, hx⟩ : ∃ x, a.ms[k]? = some x := ⟨_, List.getElem?_eq_getElem (by rw [← HM.out]; exact hk)⟩
  have cg := hcell _ _ (mcs_at a.ms k x hx).2
  have fg := free_of_heap hcur (i := k * 2 + 1)
  have hset := mcs_set u a.ms k (by rw [← HM.out]; exact hk)
  have h5 := HO.out.rowSet (i := k * 2 + 1) (.int .i64 u) (by omega)
  rw [hset] at h5
  have HO2 := Lib.hid h5
  clear h5 hset hcell hcur hx
  have hkm : (k : Int) < (m : Int) := by omega
  focus
    obtain ⟨bk, -⟩ := HO.out.pop.blk
    have hbt := lt_of_block bk
    have ct0 := cell_of_heap bk (i := 0)
    have ct1 := cell_of_heap bk (i := 1)
    have ct2 := cell_of_heap bk (i := 2)
    have ct3 := cell_of_heap bk (i := 3)
    simp only [List.getElem?_toArray, List.getElem?_cons_succ, List.getElem?_cons_zero] at ct0 ct1 ct2 ct3
    clear bk
    go_upto_region 11 with fail
    clear hbt ct0 ct1 ct2 ct3
  obtain ⟨W8, hW8⟩ : ∃ W, W = W7.setCell ⟨gr, k * 2 + 1, none⟩ (.int .i64 u) := ⟨_, rfl⟩
  rw [← hW8] at HO2 ⊢
  clear hW8 cg fg hgl HO
  obtain ⟨ms', hms⟩ : ∃ l, l = putU a.ms k u := ⟨_, rfl⟩
  rw [← hms] at HO2
  have hml : ms'.length = m := by rw [hms, putU_length, HM.out]
  have HSl : Hid (Slim ms') := by
    refine Lib.hid ⟨fun y hy => ?_, by omega⟩
    rw [hms] at hy
    rcases putU_mem hy with hy | hy
    · exact HG.out.slim.1 y hy
    · rw [hy]; exact inB_iff.1 h1
  have HMs := Lib.hid hms
  have HO : Hid (Owns w0 W8 (accP bt ⟨0, 0, ms', false⟩ :: rowP 54 2 (.slice (some ⟨gv, 0, none⟩) m cv) m (mcs a.ms) :: blk b (aobj a (.slice (some ⟨gv, 0, none⟩) m cv)) :: errP be 0 :: ps)) := by
    have h6 := Owns.swap HO2.out
    rw [← hml] at h6
    exact Lib.hid (Owns.asAcc (a := ⟨0, 0, ms', false⟩) (v := .slice (some ⟨gr, 0, none⟩) ms'.length ms'.length) (by
      rw [← hml]
      exact h6))
  clear HO2 hms
  obtain ⟨g', o', c', hi⟩ := acc_in HO.out (by show ms' ≠ []; intro e; rw [e] at hml; simp at hml; omega)
  have HI := Lib.hid hi
  have hbe8 : be < W8.heap.size := lt_of_block HO.out.pop.pop.pop.blk.1
  have hbb8 : b < W8.heap.size := lt_of_block HO.out.pop.pop.blk.1
  clear hi
  go_wp2_with fail
  go_at_call 22
  refine (periods_c bt _).mono ?_
  rintro e w1 ⟨rfl, rfl⟩
  go_wp2_with fail
  obtain ⟨W9, hW9⟩ : ∃ W, W = W8.alloc (.cells #[.pointer (some ⟨bt, 0, none⟩)] 24) := ⟨_, rfl⟩
  obtain ⟨Bz, hBz⟩ : ∃ x, x = W8.heap.size := ⟨_, rfl⟩
  have bZ : Bk W9 Bz #[.pointer (some ⟨bt, 0, none⟩)] 24 := by rw [hW9, hBz]; exact Bk.new _ _ _
  have hB0 : Below W8.heap.size W8 W9 := by rw [hW9]; exact (Below.refl _ _).alloc (Nat.le_refl _) _
  have hz8 : W8.heap.size ≤ Bz := by rw [hBz]; exact Nat.le_refl _
  rw [← hW9, ← hBz]
  clear hW9 hBz
  rw [← wpIn_wide (n := 8)]
  refine wpIn_rangeFunc_ownH rfl (by omega) (gf := 32) (lb := #[.pointer (some ⟨Bz, 0, none⟩)]) rfl trivial (enters_of Tryd.func32 (by kernel_rfl) rfl)
    (periods_stops 7 (by omega) Bz bt W8 ⟨0, 0, ms', false⟩ g' o' c' HI.out HSl.out W9 hB0 bZ) Kz.trans (Kz.turn hB0.size bZ.lt) (Below.refl _ _) (fun _ => rfl)
    (CorI W8 Bz bt) (CorX W8 be)
    (fun s A B row hs hg hr => ⟨hs.1.grown hg fun r e => (hr r e).2, hs.2.1.grown hg hs.2.1.size (fun r e => by have := (hr r e).1; have := hB0.size; omega), hs.2.2⟩)
    (fun e s A B row hs hg hr => ⟨hs.1.grown hg (by have := hs.1.size; simpa using this) (fun r e => by have := (hr r e).1; have := hB0.size; omega), hs.2⟩)
    ⟨bZ, hB0, by simp⟩
    (fun p a' W => a' = { tmps := #[.pointer (some ⟨b, 0, none⟩), .int .i64 (k : Int), .int .i64 u, undef, undef, undef, .pointer (some ⟨be, 0, none⟩), .int .i64 0, .pointer (some ⟨bt, 0, none⟩), undef, .int .i64 p.2, .pointer (some ⟨b, 0, none⟩), .bool false, .bool false, .int .i64 u, .bool true, .bool false, .bool false, .pointer (some ⟨b, 0, none⟩), kOpen b, .slice (some ⟨g0, 0, none⟩) 1 1, .int .i64 0, .int .i64 0, .bool false, undef, .int .i64 (k : Int), .pointer (some ⟨b, 0, none⟩), .pointer (some ⟨b, 0, none⟩), .pointer (some ⟨b, 2, none⟩), .slice (some ⟨gv, 0, none⟩) m cv, .int .i64 (m : Int), .int .i64 ((m : Int) - 1), .bool true, .bool false, .pointer (some ⟨b, 0, none⟩), .pointer (some ⟨b, 0, none⟩), .pointer (some ⟨b, 2, none⟩), .slice (some ⟨gv, 0, none⟩) m cv, .int .i64 (m : Int), .slice (some ⟨gr, 0, none⟩) m m, .agg #[.int .i64 0, .int .i64 0, .slice (some ⟨gr, 0, none⟩) m m, .bool false], .pointer (some ⟨bt, 0, none⟩), .pointer (some ⟨bt, 0, none⟩), .pointer (some ⟨bt, 0, none⟩), .pointer (some ⟨bt, 2, none⟩), .slice (some ⟨gr, 0, none⟩) m m, .pointer (some ⟨b, 0, none⟩), .pointer (some ⟨b, 0, none⟩), .pointer (some ⟨b, 2, none⟩), .slice (some ⟨gv, 0, none⟩) m cv, .int .i64 (m : Int), .pointer (some ⟨bt, 0, none⟩), .pointer (some ⟨bt, 0, none⟩), .pointer (some ⟨bt, 2, none⟩), .slice (some ⟨gr, 0, none⟩) m m, .int .i64 (k : Int), .int .i64 u, .pointer (some ⟨gr, k * 2, none⟩), .pointer (some ⟨gr, k * 2 + 1, none⟩), .pointer (some ⟨bt, 0, none⟩), .func (.func 32) #[] #[.pointer (some ⟨Bz, 0, none⟩)], .int .i64 p.1, .int .i64 p.2, undef, undef, undef, undef, undef, undef, undef, undef, undef, undef], defers := [] })
    (fun p a' _ X Y row hs hg hr => hs)
    ?assign ?body ?done ?stop
  case assign =>
    rintro lp pre p W K ⟨i1, i2, i3⟩ hK
    have hlt := i1.lt
    have hs4 := i2.size
    unfold encP
    gi_wp2
    exact hK _ _ (KeepsFrom.refl _ _) (Kz.refl W8 Bz W) ⟨i1, i2, i3⟩ rfl
  case body =>
    rintro lp pre p a' W hl ⟨r, hr⟩ ⟨i1, i2, i3⟩ rfl hlt
    dsimp only
    have HB := Lib.hid i2
    have HZ := Lib.hid i1
    have HP := Lib.hid i3
    clear i1 i2 i3
    gi_wp2
    refine ⟨by trivial, (CallsIn.inRound lp ((callsIn_wide (n := 5)).2 (within_c p.2 0 1000000000000 W))).mono ?_⟩
    rintro e w1 ⟨rfl, hw⟩
    rw [hw]
    clear hw w1
    rcases hq : inB p.2 0 1000000000000 with _ | _
    · have HQ := Lib.hid hq
      have hbk := HB.out.block be hbe8
      rw [HO.out.pop.pop.pop.blk.1] at hbk
      have fe := free_of_heap hbk (i := 0)
      have ce := cell_of_heap hbk (i := 0)
      simp only [List.getElem?_toArray, List.getElem?_cons_succ, List.getElem?_cons_zero] at ce
      clear hbk hq
      gi_wp2
      exact ⟨(KeepsOthers.setCell _ _ _).from _, below_set HB.out hbe8, rfl, p, by simp, HQ.out⟩
    · have HQ := Lib.hid hq
      clear hq
      gi_wp2
      refine ⟨KeepsFrom.refl _ _, Kz.refl _ _ _, HZ.out, HB.out, fun y hy => ?_⟩
      rcases List.mem_append.1 hy with h | h
      · exact HP.out y h
      · simp only [List.mem_singleton] at h
        subst h; exact HQ.out
  case done =>
    rintro D xs W hD rfl ⟨i1, i2, i3⟩ hK
    have hpre : preOk 0 (putU a.ms k u) = true := by
      rw [pre_pers, ← HMs.out, List.all_eq_true]
      exact i3
    have HE : Hid (corrE a (k : Int) u = 0) := by
      show _ = _
      unfold corrE
      rw [h1, h2', ← HM.out, h3, Int.toNat_natCast, hpre]; rfl
    have HA2 : Hid (corrA a (k : Int) u = { a with ms := ms' }) := by
      show _ = _
      unfold corrA
      rw [HE.out, Int.toNat_natCast, HMs.out]; rfl
    have hs8 := i2.size
    obtain ⟨v, h5⟩ := HO.out.acc
    obtain ⟨g2, c2, rfl, -, -, -, -, -⟩ := row_at h5.pop.row (List.length_pos_iff.2 (by show ms' ≠ []; intro e; rw [e] at hml; simp at hml; omega))
    have hb1 := HO.out.pop.pop.blk.1
    have hb2 := h5.blk.1
    have hb3 := HO.out.pop.pop.pop.blk.1
    have hbt8 := lt_of_block hb2
    rw [← i2.block b hbb8] at hb1
    rw [← i2.block bt hbt8] at hb2
    rw [← i2.block be hbe8] at hb3
    have hbW := lt_of_block hb1
    have fb := free_of_heap hb1 (i := 2)
    have cb := cell_of_heap hb1 (i := 2)
    have htW := lt_of_block hb2
    have ct := cell_of_heap hb2 (i := 2)
    have heW := lt_of_block hb3
    have fe := free_of_heap hb3 (i := 0)
    have ce := cell_of_heap hb3 (i := 0)
    simp only [List.getElem?_toArray, List.getElem?_cons_succ, List.getElem?_cons_zero] at cb ct ce
    have h6 := (Owns.re h5 [3, 0, 1, 2, 4]).store (i := 2) (.slice (some ⟨g2, 0, none⟩) ms'.length c2)
    have h7 := (Owns.re h6 [4, 0, 2, 1, 3]).store (i := 0) (.int .i64 0)
    have hbl := below_set (i := 0) (below_set (i := 2) i2 hbb8 (v := .slice (some ⟨g2, 0, none⟩) ms'.length c2)) hbe8 (v := .int .i64 0)
    have HT : Hid (∃ w', (Instr.takeDeferred D).run Tryd.prog ((W.setCell ⟨b, 2, none⟩ (.slice (some ⟨g2, 0, none⟩) ms'.length c2)).setCell ⟨be, 0, none⟩ (.int .i64 0)) = .ok [] w' ∧ w'.cell? ⟨be, 0, none⟩ = some (.int .i64 0) ∧ Owns w0 w' (accP b { a with ms := ms' } :: ps)) := by
      have hK2 := ((KeepsOthers.setCell W ⟨b, 2, none⟩ (.slice (some ⟨g2, 0, none⟩) ms'.length c2)).trans (KeepsOthers.setCell _ ⟨be, 0, none⟩ (.int .i64 0))).same D _ hK rfl
      have hb4 := hbl.trans (belowK_b (w := W8) (Nat.le_refl _) _ D _ (.deferred none) (by have := hB0.size; omega) hK2 rfl rfl)
      have h8 := h7.below (w' := ((W.setCell ⟨b, 2, none⟩ (.slice (some ⟨g2, 0, none⟩) ms'.length c2)).setCell ⟨be, 0, none⟩ (.int .i64 0)).putObj D (.deferred none)) (by simpa using hb4)
      refine ⟨_, run_takeDeferred hK2, ?_, ?_⟩
      · rw [cell_of_heap h8.blk.1]; rfl
      · exact (Owns.re (Owns.asAcc (a := { a with ms := ms' }) (v := .slice (some ⟨g2, 0, none⟩) ms'.length c2) h8.pop) [1, 2, 0]).pop.pop
    rw [hml] at HT
    clear i1 i2 i3 h5 h6 h7 hb1 hb2 hb3 hbl
    go_wp2_with fail
    obtain ⟨w', hk, hc, ho⟩ := HT.out
    refine ⟨by simp, .inl ⟨_, w', rfl, hk, _, corr_res rfl hc, by rw [HE.out]; rfl, ?_⟩⟩
    rw [HA2.out]
    exact ho
  case stop =>
    rintro D e pre W hD hpre ⟨hb, rfl, p, hp, hq⟩ hK
    have hpre : preOk 0 (putU a.ms k u) = false := by
      rw [pre_pers, ← HMs.out, List.all_eq_false]
      exact ⟨p, hpre.subset hp, by rw [hq]; simp⟩
    have HE : Hid (corrE a (k : Int) u = 21) := by
      show _ = _
      unfold corrE
      rw [h1, h2', ← HM.out, h3, Int.toNat_natCast, hpre]; rfl
    have HA2 : Hid (corrA a (k : Int) u = a) := by
      show _ = _
      unfold corrA
      rw [HE.out]; rfl
    have h6 := (Owns.re HO.out [3, 2, 1, 0]).store (i := 0) (.int .i64 21)
    have hs9 := hB0.size
    have hsw := hb.size
    have HT : Hid (∃ w', (Instr.takeDeferred D).run Tryd.prog W = .ok [] w' ∧ w'.cell? ⟨be, 0, none⟩ = some (.int .i64 21) ∧ Owns w0 w' (accP b a :: ps)) := by
      have hb4 := hb.trans (belowK_b (w := W8) (Nat.le_refl _) W D _ (.deferred none) (by omega) hK rfl rfl)
      have h8 := h6.below (w' := W.putObj D (.deferred none)) (by simpa using hb4)
      refine ⟨_, run_takeDeferred hK, ?_, ?_⟩
      · rw [cell_of_heap h8.blk.1]; rfl
      · have h9 : Owns w0 (W.putObj D (.deferred none)) (blk b (aobj a (.slice (some ⟨gv, 0, none⟩) m cv)) :: mrow (.slice (some ⟨gv, 0, none⟩) m cv) a.ms :: accP bt ⟨0, 0, ms', false⟩ :: ps) := by
          unfold mrow
          rw [← HM.out]
          exact h8.pop
        exact (Owns.re (Owns.asAcc h9) [1, 0]).pop
    clear hb hp hq h6 hK
    rw [wpIn_wide]
    go_wp2_with fail
    obtain ⟨w', hk, hc, ho⟩ := HT.out
    refine ⟨by simp, .inl ⟨_, w', rfl, hk, _, corr_res rfl hc, by rw [HE.out]; rfl, ?_⟩⟩
    rw [HA2.out]
    exact ho
end Go.Proofs.YtlkihpgpcgeogaaDoor
