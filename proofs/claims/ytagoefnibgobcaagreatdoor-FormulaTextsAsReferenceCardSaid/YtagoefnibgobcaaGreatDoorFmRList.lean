/-
  The reference's reader: 'and', 'Formula'.
-/
import Derived.Test.YtagoefnibgobcaaGreatDoorFmRd
import Derived.Test.YtagoefnibgobcaaGreatDoorFmList
namespace Go.Cz.Fo
open Go.Cz.Lx
theorem sees_true {s : PSt} {k : Nat} {u : Bytes} (h : seesB s k u = true) : ∃ t r, s = .ok (t :: r) ∧ t.kind = k ∧ t.text = u := by
  rcases s with x | (_ | ⟨t, r⟩)
  · cases h
  · cases h
  · unfold seesB at h
    simp only [Bool.and_eq_true, decide_eq_true_eq] at h
    exact ⟨t, r, rfl, h.1, h.2⟩
theorem PI.over {op : Int} {word : Bytes} {part : List Tok → Res} {s0 s : PSt} {L : List Fm} (h : PI op word part s0 L s) (hl : (toks s).length ≤ (toks s0).length) (hs : seesB s 1 word = false) : Did (partsF op word part) s0 (mkL op L) s := by
  cases s with
  | error x => exact h.err _
  | ok ts =>
    refine h.stop hl fun t r e hx => ?_
    subst e
    unfold seesB at hs
    simp [hx.1, hx.2] at hs
end Go.Cz.Fo
namespace Go.Proofs.YtagoefnibgobcaaGreatDoor
open Go.RowKit Go.Cz Go.Cz.Lx Go.Cz.Fo
set_option linter.unusedSimpArgs false
set_option linter.unusedVariables false
attribute [local go_sem] bs_size bs_extract bs_append bs_toList
attribute [local irreducible] cList cPlan
theorem rand_res {W : World} {tmps : Array Value} {g : Nat} {v0 v1 v2 v3 v4 : Value} (h4 : tmps.getD 2 undef = .pointer (some ⟨g, 0, none⟩)) (hb : W.heap[g]? = some (.cells #[v0, v1, v2, v3, v4] 24 (0, 0))) :
    (results Tryz.f84 tmps).run Tryz.prog W = .ok (.agg #[v0, v1, v2, v3, v4]) W := by
  have c0 : W.cell? ⟨g, 0, none⟩ = some v0 := by rw [cell_of_heap hb]; rfl
  have c1 : W.cell? ⟨g, 1, none⟩ = some v1 := by rw [cell_of_heap hb]; rfl
  have c2 : W.cell? ⟨g, 2, none⟩ = some v2 := by rw [cell_of_heap hb]; rfl
  have c3 : W.cell? ⟨g, 3, none⟩ = some v3 := by rw [cell_of_heap hb]; rfl
  have c4 : W.cell? ⟨g, 4, none⟩ = some v4 := by rw [cell_of_heap hb]; rfl
  have h4' : tmps[2]?.getD undef = .pointer (some ⟨g, 0, none⟩) := by simpa using h4
  simp [results, Tryz.results84, go_sem, h4', c0, c1, c2, c3, c4]
theorem rform_res {W : World} {tmps : Array Value} {g : Nat} {v0 v1 v2 v3 v4 : Value} (h4 : tmps.getD 2 undef = .pointer (some ⟨g, 0, none⟩)) (hb : W.heap[g]? = some (.cells #[v0, v1, v2, v3, v4] 24 (0, 0))) :
    (results Tryz.f59 tmps).run Tryz.prog W = .ok (.agg #[v0, v1, v2, v3, v4]) W := by
  have c0 : W.cell? ⟨g, 0, none⟩ = some v0 := by rw [cell_of_heap hb]; rfl
  have c1 : W.cell? ⟨g, 1, none⟩ = some v1 := by rw [cell_of_heap hb]; rfl
  have c2 : W.cell? ⟨g, 2, none⟩ = some v2 := by rw [cell_of_heap hb]; rfl
  have c3 : W.cell? ⟨g, 3, none⟩ = some v3 := by rw [cell_of_heap hb]; rfl
  have c4 : W.cell? ⟨g, 4, none⟩ = some v4 := by rw [cell_of_heap hb]; rfl
  have h4' : tmps[2]?.getD undef = .pointer (some ⟨g, 0, none⟩) := by simpa using h4
  simp [results, Tryz.results59, go_sem, h4', c0, c1, c2, c3, c4]
theorem rnot_res {W : World} {tmps : Array Value} {g : Nat} {v0 v1 v2 v3 v4 : Value} (h4 : tmps.getD 2 undef = .pointer (some ⟨g, 0, none⟩)) (hb : W.heap[g]? = some (.cells #[v0, v1, v2, v3, v4] 24 (0, 0))) :
    (results Tryz.f107 tmps).run Tryz.prog W = .ok (.agg #[v0, v1, v2, v3, v4]) W := by
  have c0 : W.cell? ⟨g, 0, none⟩ = some v0 := by rw [cell_of_heap hb]; rfl
  have c1 : W.cell? ⟨g, 1, none⟩ = some v1 := by rw [cell_of_heap hb]; rfl
  have c2 : W.cell? ⟨g, 2, none⟩ = some v2 := by rw [cell_of_heap hb]; rfl
  have c3 : W.cell? ⟨g, 3, none⟩ = some v3 := by rw [cell_of_heap hb]; rfl
  have c4 : W.cell? ⟨g, 4, none⟩ = some v4 := by rw [cell_of_heap hb]; rfl
  have h4' : tmps[2]?.getD undef = .pointer (some ⟨g, 0, none⟩) := by simpa using h4
  simp [results, Tryz.results107, go_sem, h4', c0, c1, c2, c3, c4]
/-- What a function of the reader that reads a part does. -/
def RPartC (w0 : World) (bp : Nat) (fin : Int) (all : List Tok) (v : Value) (fn : Nat) (part : List Tok → Res) (B : Nat) : Prop :=
  ∀ (ps : List Piece) (s : PSt) (w : World), (toks s).length ≤ B → Owns w0 w (rdP w0 bp fin all v s :: ps) → Calls Tryz.prog fn #[.pointer (some ⟨bp, 0, none⟩)] w fun e w' => ∃ f kv s', e = .returned (fval f kv) ∧ Did part s f s' ∧ Owns w0 w' (fmP f kv :: rdP w0 bp fin all v s' :: ps)
section
variable {w0 : World} {bp : Nat} {fin : Int} {all : List Tok} {v : Value}
set_option maxRecDepth 100000 in
set_option maxHeartbeats 8000000 in
theorem rand_c (part : List Tok → Res) (B : Nat) (hB : B ≤ 1000000) (hN9 : all.length ≤ 1000000) (HC : RPartC w0 bp fin all v 107 part B) : RPartC w0 bp fin all v 84 (partsF 5 wAnd part) B := by
  intro ps s0 w hs h
  have HCh := Lib.hid HC
  have HS := Lib.hid hs
  have HB := Lib.hid hB
  have HN := Lib.hid hN9
  clear HC hs hB hN9
  obtain ⟨W1, hW1⟩ : ∃ W1, W1 = w.alloc (.cells #[.int .i64 0, .string ⟨#[]⟩, .int .i64 0, .int .i64 0, .slice none 0 0] 24) := ⟨_, rfl⟩
  obtain ⟨b8, hb8⟩ : ∃ b8, b8 = w.heap.size := ⟨_, rfl⟩
  have HO : Hid (Owns w0 W1 (rdP w0 bp fin all v s0 :: blk b8 fobj0 :: ps)) := by
    rw [hW1, hb8]
    exact Lib.hid (h.box fobj0).swap
  clear h
  go_enter Tryz.func84, Tryz.ntmps84
  go_wp2_with fail
  try rw [← hW1]
  try rw [← hb8]
  clear hW1 hb8
  try go_at_call 107
  refine (HCh.out (blk b8 fobj0 :: ps) s0 W1 HS.out HO.out).mono ?_
  rintro e W2 ⟨f, kv, s, rfl, hd, ho⟩
  have HPI0 : Hid (PI 5 wAnd part s0 [f] s ∧ (toks s).length ≤ (toks s0).length) := ⟨PI.start hd, hd.2.1⟩
  obtain ⟨y2, m2, rfl⟩ := ho.fm.form
  obtain ⟨N2, hN2⟩ : ∃ N2, N2 = f.kids.length := ⟨_, rfl⟩
  rw [← hN2] at ho ⊢
  replace HO : Hid (Owns w0 (W2.alloc (.cells (fcells f (.slice y2 N2 m2)).toArray 24)) (kidsP [(f, .slice y2 N2 m2)] (.slice (some ⟨W2.heap.size, 0, none⟩) 1 1) :: rdP w0 bp fin all v s :: blk b8 fobj0 :: ps)) := Lib.hid ho.kid1
  clear ho hd hN2
  go_wp2_with fail
  go_loopg [3] (toks s).length (fun gk v' wr => ∃ (L : List (Fm × Value)) (s : PSt) (vv : Value), vv = v' ∧ gk = (toks s).length ∧ L.length + (toks s).length ≤ 1000001 ∧ Hid (Owns w0 wr (kidsP L vv :: rdP w0 bp fin all v s :: blk b8 fobj0 :: ps)) ∧ Hid (PI 5 wAnd part s0 (L.map Prod.fst) s ∧ (toks s).length ≤ (toks s0).length))
  case atStart => exact ⟨_, s, _, rfl, rfl, by have := HPI0.out.2; have := HS.out; have := HB.out; simp; omega, HO, HPI0⟩
  case round =>
    rename_i J1 K1 hJ1 hK1
    clear HO HPI0
    obtain ⟨L, s, vv, rfl, rfl, hLl, HO, HPI⟩ := hrel
    have HL0 : Hid (L ≠ []) := by have := HPI.out.1.1; exact fun e => this (by rw [e]; rfl)
    go_wp2_with fail
    try go_at_call 85
    refine (rsees_c (kidsP L vv :: blk b8 fobj0 :: ps) s 1 wAnd wr HN.out (by decide) HO.out.swap).mono ?_
    rintro e W3 ⟨rfl, ho⟩
    replace HO := Lib.hid ho.swap
    obtain ⟨q, hq⟩ : ∃ q, q = seesB s 1 wAnd := ⟨_, rfl⟩
    have HQ := Lib.hid hq
    rw [← hq]
    clear ho hq
    cases q
    · have HD : Hid (Did (partsF 5 wAnd part) s0 (mkL 5 (L.map Prod.fst)) s) := Lib.hid (HPI.out.1.over HPI.out.2 HQ.out.symm)
      clear HPI hJ1 hK1 hLl
      -- the loop is over: HO (kidsP L vv :: rdP s :: blk b2 ..), HD : what was read
      obtain ⟨y, m, rfl⟩ := HO.out.kform
      obtain ⟨NL, hNL⟩ : ∃ NL, NL = L.length := ⟨_, rfl⟩
      have HNL := Lib.hid hNL
      have hNL1 : 1 ≤ NL := by rw [hNL]; exact List.length_pos_iff.2 HL0.out
      rw [← hNL] at HO ⊢
      clear hNL
      by_cases h1 : NL = 1
      · subst h1
        obtain ⟨⟨k, kv⟩, rfl⟩ : ∃ p, L = [p] := List.length_eq_one_iff.1 HNL.out.symm
        have HF := Lib.hid HO.out.konly.fm
        obtain ⟨y2, m2, rfl⟩ := HF.out.form
        obtain ⟨N2, hN2⟩ : ∃ N2, N2 = k.kids.length := ⟨_, rfl⟩
        rw [← hN2] at HO HF
        obtain ⟨gk, mk, e1, hgm, hgk, d0, d1, d2, d3, d4⟩ := HO.out.kget (j := 0) rfl
        simp only [Value.slice.injEq] at e1
        obtain ⟨rfl, -, rfl⟩ := e1
        simp only [Nat.zero_mul, Nat.zero_add] at d0 d1 d2 d3 d4
        replace HO := Lib.hid (HO.out.konly.re [2, 0, 1])
        simp only [fobj0] at HO
        focus
          obtain ⟨bk, -⟩ := HO.out.blk
          have hbe := lt_of_block bk
          have fe0 := free_of_heap bk (i := 0)
          have fe1 := free_of_heap bk (i := 1)
          have fe2 := free_of_heap bk (i := 2)
          have fe3 := free_of_heap bk (i := 3)
          have fe4 := free_of_heap bk (i := 4)
          have ce0 := cell_of_heap bk (i := 0)
          have ce1 := cell_of_heap bk (i := 1)
          have ce2 := cell_of_heap bk (i := 2)
          have ce3 := cell_of_heap bk (i := 3)
          have ce4 := cell_of_heap bk (i := 4)
          simp only [List.getElem?_toArray, List.getElem?_cons_succ, List.getElem?_cons_zero] at ce0 ce1 ce2 ce3 ce4
          clear bk
          clear hN2 hNL1
          go_wp2_with fail
        have h2 := ((((HO.out.store (i := 0) (.int .i64 k.op)).store (i := 1) (.string (bs k.name))).store (i := 2) (.int .i64 k.cmp)).store (i := 3) (.int .i64 k.num)).store (i := 4) (.slice y2 N2 m2)
        exact bodyPost_ret (rand_res rfl h2.blk.1) (by rfl) ⟨k, _, _, rfl, HD.out, h2.pop⟩
      · have h1' : ((NL : Int) == 1) = false := by simp; omega
        have HM : Hid (mkL 5 (L.map Prod.fst) = .mk 5 [] 0 0 (L.map Prod.fst)) := by
          show _ = _
          rcases L with _ | ⟨a, _ | ⟨b, L⟩⟩
          · exact absurd rfl HL0.out
          · exact absurd HNL.out h1
          · rfl
        replace HO := Lib.hid ((HO.out.knode 5 [] 0 0).re [2, 0, 1])
        simp only [fobj0] at HO
        focus
          obtain ⟨bk, -⟩ := HO.out.blk
          have hbe := lt_of_block bk
          have fe0 := free_of_heap bk (i := 0)
          have fe1 := free_of_heap bk (i := 1)
          have fe2 := free_of_heap bk (i := 2)
          have fe3 := free_of_heap bk (i := 3)
          have fe4 := free_of_heap bk (i := 4)
          have ce0 := cell_of_heap bk (i := 0)
          have ce1 := cell_of_heap bk (i := 1)
          have ce2 := cell_of_heap bk (i := 2)
          have ce3 := cell_of_heap bk (i := 3)
          have ce4 := cell_of_heap bk (i := 4)
          simp only [List.getElem?_toArray, List.getElem?_cons_succ, List.getElem?_cons_zero] at ce0 ce1 ce2 ce3 ce4
          clear bk
          clear h1 hNL1
          go_wp2_with fail
        have h2 := ((((HO.out.store (i := 0) (.int .i64 5)).store (i := 1) (.string ⟨#[]⟩)).store (i := 2) (.int .i64 0)).store (i := 3) (.int .i64 0)).store (i := 4) (.slice y NL m)
        exact bodyPost_ret (rand_res rfl h2.blk.1) (by rfl) ⟨_, _, _, rfl, HM.out ▸ HD.out, h2.pop⟩
    · obtain ⟨t, r, rfl, ht⟩ := sees_true HQ.out.symm
      have HT : Hid (t.kind = 1 ∧ t.text = wAnd) := Lib.hid ht
      clear ht
      obtain ⟨NT, hNT⟩ : ∃ NT, NT = (toks (.ok (t :: r))).length := ⟨_, rfl⟩
      have HNT := Lib.hid hNT
      rw [← hNT] at hLl
      clear hNT
      obtain ⟨hf, hv, i, hi, hd, h1⟩ := HO.out.swap.rd
      obtain ⟨hlt, -, hdr⟩ := drop_cons (hd _ rfl)
      have HV := Lib.hid hv
      have HDr := Lib.hid hdr
      have hi9 : i ≤ 1000000 := by have := HN.out; omega
      have HLt := Lib.hid hlt
      have HO2 := Lib.hid h1
      clear hf hv hi hd h1 hlt hdr
      simp only [rdobj, code, pos] at HO2
      have HO3 := Lib.hid (HO2.out.store (i := 1) (.int .i64 ((i : Int) + 1)))
      obtain ⟨W4, hW4⟩ : ∃ W4, W4 = W3.setCell ⟨bp, 1, none⟩ (.int .i64 ((i : Int) + 1)) := ⟨_, rfl⟩
      rw [← hW4] at HO3
      have HO4 : Hid (Owns w0 W4 (rdP w0 bp fin all v (.ok r) :: kidsP L vv :: blk b8 fobj0 :: ps)) := by
        have h3 := HO3.out
        rw [show ((i : Int) + 1) = ((i + 1 : Nat) : Int) by omega] at h3
        exact Lib.hid (Owns.asRd (s := .ok r) (i := i + 1) h3 trivial HV.out (by have := HLt.out; omega) (fun ts h => by cases h; exact HDr.out))
      focus
        obtain ⟨bk, -⟩ := HO2.out.blk
        have hbp := lt_of_block bk
        have fp1 := free_of_heap bk (i := 1)
        have cp1 := cell_of_heap bk (i := 1)
        simp only [List.getElem?_toArray, List.getElem?_cons_succ, List.getElem?_cons_zero] at cp1
        clear bk
        go_wp2_with fail
        rw [← hW4]
        clear hbp fp1 cp1
      clear hW4 HO HO2 HO3 hi9
      try go_at_call 107
      refine (HCh.out (kidsP L vv :: blk b8 fobj0 :: ps) (.ok r) W4 (by have h1 := HPI.out.2; have h2 := HS.out; simp [toks] at h1 h2 ⊢; omega) HO4.out).mono ?_
      rintro e W5 ⟨f, kv, s2, rfl, hd, ho⟩
      have HPI2 : Hid (PI 5 wAnd part s0 ((L ++ [(f, kv)]).map Prod.fst) s2 ∧ (toks s2).length ≤ (toks s0).length ∧ (toks s2).length < NT) := by
        refine ⟨by rw [List.map_append]; exact HPI.out.1.step HT.out hd, ?_, ?_⟩
        · have h1 := HPI.out.2; have h2 := hd.2.1; simp [toks] at h1 h2 ⊢; omega
        · rw [HNT.out]; have h2 := hd.2.1; simp [toks] at h2 ⊢; omega
      obtain ⟨y2, m2, rfl⟩ := ho.fm.form
      obtain ⟨N2, hN2⟩ : ∃ N2, N2 = f.kids.length := ⟨_, rfl⟩
      rw [← hN2] at ho HPI2 ⊢
      have HO5 : Hid (Owns w0 (W5.alloc (.cells #[.int .i64 f.op, .string (bs f.name), .int .i64 f.cmp, .int .i64 f.num, .slice y2 N2 m2] 24)) (kidsP L vv :: fmP f (.slice y2 N2 m2) :: rdP w0 bp fin all v s2 :: blk b8 fobj0 :: ps)) := Lib.hid ((ho.alloc _).re [2, 0, 1])
      have hLl2 : L.length ≤ 1000001 := by omega
      clear ho hd hN2 HO4 HPI HV HDr HLt
      go_wp2_with (refine wpList_plain rfl fun K hK => wp_append (.tmp 16) (.tmp 19) 22 (by rfl) 24 _ 5 64 Tryz.underlying22 info_fm (by rfl) (by omega) vv L.length _ (by rfl) HO5.out.krow W5.heap.size 1 1 (fcells f (.slice y2 N2 m2)) (by rfl) (by rfl) 24 (by exact new_heap W5 _ _ rfl) (by simp [fcells, Value.oneCell']) (by omega) (by omega) ?_; intro v' w2 hrow hgrow hblk; have HO6 := Lib.hid (HO5.out.kid hrow hgrow hblk); clear hrow hgrow hblk)
      go_roundg (toks s2).length
      case measure => have := HPI2.out.2.2; rw [HNT.out] at this; exact this
      case rel => exact ⟨L ++ [(f, .slice y2 N2 m2)], s2, _, rfl, rfl, by have := HPI2.out.2.2; rw [List.length_append, List.length_singleton]; omega, HO6, Lib.hid ⟨HPI2.out.1, HPI2.out.2.1⟩⟩
set_option maxRecDepth 100000 in
set_option maxHeartbeats 8000000 in
theorem rform_c (part : List Tok → Res) (B : Nat) (hB : B ≤ 1000000) (hN9 : all.length ≤ 1000000) (HC : RPartC w0 bp fin all v 84 part B) : RPartC w0 bp fin all v 59 (partsF 6 wOr part) B := by
  intro ps s0 w hs h
  have HCh := Lib.hid HC
  have HS := Lib.hid hs
  have HB := Lib.hid hB
  have HN := Lib.hid hN9
  clear HC hs hB hN9
  obtain ⟨W1, hW1⟩ : ∃ W1, W1 = w.alloc (.cells #[.int .i64 0, .string ⟨#[]⟩, .int .i64 0, .int .i64 0, .slice none 0 0] 24) := ⟨_, rfl⟩
  obtain ⟨b8, hb8⟩ : ∃ b8, b8 = w.heap.size := ⟨_, rfl⟩
  have HO : Hid (Owns w0 W1 (rdP w0 bp fin all v s0 :: blk b8 fobj0 :: ps)) := by
    rw [hW1, hb8]
    exact Lib.hid (h.box fobj0).swap
  clear h
  go_enter Tryz.func59, Tryz.ntmps59
  go_wp2_with fail
  try rw [← hW1]
  try rw [← hb8]
  clear hW1 hb8
  try go_at_call 84
  refine (HCh.out (blk b8 fobj0 :: ps) s0 W1 HS.out HO.out).mono ?_
  rintro e W2 ⟨f, kv, s, rfl, hd, ho⟩
  have HPI0 : Hid (PI 6 wOr part s0 [f] s ∧ (toks s).length ≤ (toks s0).length) := ⟨PI.start hd, hd.2.1⟩
  obtain ⟨y2, m2, rfl⟩ := ho.fm.form
  obtain ⟨N2, hN2⟩ : ∃ N2, N2 = f.kids.length := ⟨_, rfl⟩
  rw [← hN2] at ho ⊢
  replace HO : Hid (Owns w0 (W2.alloc (.cells (fcells f (.slice y2 N2 m2)).toArray 24)) (kidsP [(f, .slice y2 N2 m2)] (.slice (some ⟨W2.heap.size, 0, none⟩) 1 1) :: rdP w0 bp fin all v s :: blk b8 fobj0 :: ps)) := Lib.hid ho.kid1
  clear ho hd hN2
  go_wp2_with fail
  go_loopg [3] (toks s).length (fun gk v' wr => ∃ (L : List (Fm × Value)) (s : PSt) (vv : Value), vv = v' ∧ gk = (toks s).length ∧ L.length + (toks s).length ≤ 1000001 ∧ Hid (Owns w0 wr (kidsP L vv :: rdP w0 bp fin all v s :: blk b8 fobj0 :: ps)) ∧ Hid (PI 6 wOr part s0 (L.map Prod.fst) s ∧ (toks s).length ≤ (toks s0).length))
  case atStart => exact ⟨_, s, _, rfl, rfl, by have := HPI0.out.2; have := HS.out; have := HB.out; simp; omega, HO, HPI0⟩
  case round =>
    rename_i J1 K1 hJ1 hK1
    clear HO HPI0
    obtain ⟨L, s, vv, rfl, rfl, hLl, HO, HPI⟩ := hrel
    have HL0 : Hid (L ≠ []) := by have := HPI.out.1.1; exact fun e => this (by rw [e]; rfl)
    go_wp2_with fail
    try go_at_call 85
    refine (rsees_c (kidsP L vv :: blk b8 fobj0 :: ps) s 1 wOr wr HN.out (by decide) HO.out.swap).mono ?_
    rintro e W3 ⟨rfl, ho⟩
    replace HO := Lib.hid ho.swap
    obtain ⟨q, hq⟩ : ∃ q, q = seesB s 1 wOr := ⟨_, rfl⟩
    have HQ := Lib.hid hq
    rw [← hq]
    clear ho hq
    cases q
    · have HD : Hid (Did (partsF 6 wOr part) s0 (mkL 6 (L.map Prod.fst)) s) := Lib.hid (HPI.out.1.over HPI.out.2 HQ.out.symm)
      clear HPI hJ1 hK1 hLl
      -- the loop is over: HO (kidsP L vv :: rdP s :: blk b2 ..), HD : what was read
      obtain ⟨y, m, rfl⟩ := HO.out.kform
      obtain ⟨NL, hNL⟩ : ∃ NL, NL = L.length := ⟨_, rfl⟩
      have HNL := Lib.hid hNL
      have hNL1 : 1 ≤ NL := by rw [hNL]; exact List.length_pos_iff.2 HL0.out
      rw [← hNL] at HO ⊢
      clear hNL
      by_cases h1 : NL = 1
      · subst h1
        obtain ⟨⟨k, kv⟩, rfl⟩ : ∃ p, L = [p] := List.length_eq_one_iff.1 HNL.out.symm
        have HF := Lib.hid HO.out.konly.fm
        obtain ⟨y2, m2, rfl⟩ := HF.out.form
        obtain ⟨N2, hN2⟩ : ∃ N2, N2 = k.kids.length := ⟨_, rfl⟩
        rw [← hN2] at HO HF
        obtain ⟨gk, mk, e1, hgm, hgk, d0, d1, d2, d3, d4⟩ := HO.out.kget (j := 0) rfl
        simp only [Value.slice.injEq] at e1
        obtain ⟨rfl, -, rfl⟩ := e1
        simp only [Nat.zero_mul, Nat.zero_add] at d0 d1 d2 d3 d4
        replace HO := Lib.hid (HO.out.konly.re [2, 0, 1])
        simp only [fobj0] at HO
        focus
          obtain ⟨bk, -⟩ := HO.out.blk
          have hbe := lt_of_block bk
          have fe0 := free_of_heap bk (i := 0)
          have fe1 := free_of_heap bk (i := 1)
          have fe2 := free_of_heap bk (i := 2)
          have fe3 := free_of_heap bk (i := 3)
          have fe4 := free_of_heap bk (i := 4)
          have ce0 := cell_of_heap bk (i := 0)
          have ce1 := cell_of_heap bk (i := 1)
          have ce2 := cell_of_heap bk (i := 2)
          have ce3 := cell_of_heap bk (i := 3)
          have ce4 := cell_of_heap bk (i := 4)
          simp only [List.getElem?_toArray, List.getElem?_cons_succ, List.getElem?_cons_zero] at ce0 ce1 ce2 ce3 ce4
          clear bk
          clear hN2 hNL1
          go_wp2_with fail
        have h2 := ((((HO.out.store (i := 0) (.int .i64 k.op)).store (i := 1) (.string (bs k.name))).store (i := 2) (.int .i64 k.cmp)).store (i := 3) (.int .i64 k.num)).store (i := 4) (.slice y2 N2 m2)
        exact bodyPost_ret (rform_res rfl h2.blk.1) (by rfl) ⟨k, _, _, rfl, HD.out, h2.pop⟩
      · have h1' : ((NL : Int) == 1) = false := by simp; omega
        have HM : Hid (mkL 6 (L.map Prod.fst) = .mk 6 [] 0 0 (L.map Prod.fst)) := by
          show _ = _
          rcases L with _ | ⟨a, _ | ⟨b, L⟩⟩
          · exact absurd rfl HL0.out
          · exact absurd HNL.out h1
          · rfl
        replace HO := Lib.hid ((HO.out.knode 6 [] 0 0).re [2, 0, 1])
        simp only [fobj0] at HO
        focus
          obtain ⟨bk, -⟩ := HO.out.blk
          have hbe := lt_of_block bk
          have fe0 := free_of_heap bk (i := 0)
          have fe1 := free_of_heap bk (i := 1)
          have fe2 := free_of_heap bk (i := 2)
          have fe3 := free_of_heap bk (i := 3)
          have fe4 := free_of_heap bk (i := 4)
          have ce0 := cell_of_heap bk (i := 0)
          have ce1 := cell_of_heap bk (i := 1)
          have ce2 := cell_of_heap bk (i := 2)
          have ce3 := cell_of_heap bk (i := 3)
          have ce4 := cell_of_heap bk (i := 4)
          simp only [List.getElem?_toArray, List.getElem?_cons_succ, List.getElem?_cons_zero] at ce0 ce1 ce2 ce3 ce4
          clear bk
          clear h1 hNL1
          go_wp2_with fail
        have h2 := ((((HO.out.store (i := 0) (.int .i64 6)).store (i := 1) (.string ⟨#[]⟩)).store (i := 2) (.int .i64 0)).store (i := 3) (.int .i64 0)).store (i := 4) (.slice y NL m)
        exact bodyPost_ret (rform_res rfl h2.blk.1) (by rfl) ⟨_, _, _, rfl, HM.out ▸ HD.out, h2.pop⟩
    · obtain ⟨t, r, rfl, ht⟩ := sees_true HQ.out.symm
      have HT : Hid (t.kind = 1 ∧ t.text = wOr) := Lib.hid ht
      clear ht
      obtain ⟨NT, hNT⟩ : ∃ NT, NT = (toks (.ok (t :: r))).length := ⟨_, rfl⟩
      have HNT := Lib.hid hNT
      rw [← hNT] at hLl
      clear hNT
      obtain ⟨hf, hv, i, hi, hd, h1⟩ := HO.out.swap.rd
      obtain ⟨hlt, -, hdr⟩ := drop_cons (hd _ rfl)
      have HV := Lib.hid hv
      have HDr := Lib.hid hdr
      have hi9 : i ≤ 1000000 := by have := HN.out; omega
      have HLt := Lib.hid hlt
      have HO2 := Lib.hid h1
      clear hf hv hi hd h1 hlt hdr
      simp only [rdobj, code, pos] at HO2
      have HO3 := Lib.hid (HO2.out.store (i := 1) (.int .i64 ((i : Int) + 1)))
      obtain ⟨W4, hW4⟩ : ∃ W4, W4 = W3.setCell ⟨bp, 1, none⟩ (.int .i64 ((i : Int) + 1)) := ⟨_, rfl⟩
      rw [← hW4] at HO3
      have HO4 : Hid (Owns w0 W4 (rdP w0 bp fin all v (.ok r) :: kidsP L vv :: blk b8 fobj0 :: ps)) := by
        have h3 := HO3.out
        rw [show ((i : Int) + 1) = ((i + 1 : Nat) : Int) by omega] at h3
        exact Lib.hid (Owns.asRd (s := .ok r) (i := i + 1) h3 trivial HV.out (by have := HLt.out; omega) (fun ts h => by cases h; exact HDr.out))
      focus
        obtain ⟨bk, -⟩ := HO2.out.blk
        have hbp := lt_of_block bk
        have fp1 := free_of_heap bk (i := 1)
        have cp1 := cell_of_heap bk (i := 1)
        simp only [List.getElem?_toArray, List.getElem?_cons_succ, List.getElem?_cons_zero] at cp1
        clear bk
        go_wp2_with fail
        rw [← hW4]
        clear hbp fp1 cp1
      clear hW4 HO HO2 HO3 hi9
      try go_at_call 84
      refine (HCh.out (kidsP L vv :: blk b8 fobj0 :: ps) (.ok r) W4 (by have h1 := HPI.out.2; have h2 := HS.out; simp [toks] at h1 h2 ⊢; omega) HO4.out).mono ?_
      rintro e W5 ⟨f, kv, s2, rfl, hd, ho⟩
      have HPI2 : Hid (PI 6 wOr part s0 ((L ++ [(f, kv)]).map Prod.fst) s2 ∧ (toks s2).length ≤ (toks s0).length ∧ (toks s2).length < NT) := by
        refine ⟨by rw [List.map_append]; exact HPI.out.1.step HT.out hd, ?_, ?_⟩
        · have h1 := HPI.out.2; have h2 := hd.2.1; simp [toks] at h1 h2 ⊢; omega
        · rw [HNT.out]; have h2 := hd.2.1; simp [toks] at h2 ⊢; omega
      obtain ⟨y2, m2, rfl⟩ := ho.fm.form
      obtain ⟨N2, hN2⟩ : ∃ N2, N2 = f.kids.length := ⟨_, rfl⟩
      rw [← hN2] at ho HPI2 ⊢
      have HO5 : Hid (Owns w0 (W5.alloc (.cells #[.int .i64 f.op, .string (bs f.name), .int .i64 f.cmp, .int .i64 f.num, .slice y2 N2 m2] 24)) (kidsP L vv :: fmP f (.slice y2 N2 m2) :: rdP w0 bp fin all v s2 :: blk b8 fobj0 :: ps)) := Lib.hid ((ho.alloc _).re [2, 0, 1])
      have hLl2 : L.length ≤ 1000001 := by omega
      clear ho hd hN2 HO4 HPI HV HDr HLt
      go_wp2_with (refine wpList_plain rfl fun K hK => wp_append (.tmp 16) (.tmp 19) 22 (by rfl) 24 _ 5 64 Tryz.underlying22 info_fm (by rfl) (by omega) vv L.length _ (by rfl) HO5.out.krow W5.heap.size 1 1 (fcells f (.slice y2 N2 m2)) (by rfl) (by rfl) 24 (by exact new_heap W5 _ _ rfl) (by simp [fcells, Value.oneCell']) (by omega) (by omega) ?_; intro v' w2 hrow hgrow hblk; have HO6 := Lib.hid (HO5.out.kid hrow hgrow hblk); clear hrow hgrow hblk)
      go_roundg (toks s2).length
      case measure => have := HPI2.out.2.2; rw [HNT.out] at this; exact this
      case rel => exact ⟨L ++ [(f, .slice y2 N2 m2)], s2, _, rfl, rfl, by have := HPI2.out.2.2; rw [List.length_append, List.length_singleton]; omega, HO6, Lib.hid ⟨HPI2.out.1, HPI2.out.2.1⟩⟩
end
end Go.Proofs.YtagoefnibgobcaaGreatDoor
