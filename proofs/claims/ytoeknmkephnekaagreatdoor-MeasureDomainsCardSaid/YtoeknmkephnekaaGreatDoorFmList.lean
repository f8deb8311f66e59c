/-
  The parser's 'list'.
-/
import Derived.Test.YtoeknmkephnekaaGreatDoorFmPars
namespace Go.Cz.Fo
open Go.Cz.Lx
def mkL (op : Int) : List Fm → Fm | [k] => k | l => .mk op [] 0 0 l
/-- What is known while a list is read: its parts so far, where the parser stands. -/
def PI (op : Int) (word : Bytes) (part : List Tok → Res) (s0 : PSt) (L : List Fm) (s : PSt) : Prop :=
  L ≠ [] ∧ PSt.fine s ∧ match s0 with
    | .error x => s = .error x
    | .ok ts0 => match s with
      | .error x => partsF op word part ts0 = .error x
      | .ok ts => ∃ n, ts.length < n ∧ partsF op word part ts0 = match moreF word part n ts with
        | .error e => .error e
        | .ok (ks, r) => .ok (mkL op (L ++ ks), r)
section
variable {op : Int} {word : Bytes} {part : List Tok → Res} {s0 s s2 : PSt} {f : Fm} {L : List Fm} {t : Tok} {r : List Tok}
theorem mkL_eq (k : Fm) (ks : List Fm) : mkL op ([k] ++ ks) = if ks.isEmpty then k else .mk op [] 0 0 (k :: ks) := by cases ks <;> simp [mkL]
theorem PI.start (h : Did part s0 f s) : PI op word part s0 [f] s := by
  obtain ⟨h1, h2, h3⟩ := h
  refine ⟨by simp, h1, ?_⟩
  cases s0 with
  | error x => exact h3
  | ok ts0 =>
    simp only at h3 ⊢
    cases hp : part ts0 with
    | error x =>
      rw [hp] at h3
      simp only at h3
      subst h3
      show partsF op word part ts0 = .error x
      unfold partsF
      rw [hp]
    | ok z =>
      obtain ⟨g, r⟩ := z
      rw [hp] at h3
      simp only at h3
      obtain ⟨rfl, rfl⟩ := h3
      refine ⟨r.length + 1, by omega, ?_⟩
      unfold partsF
      rw [hp]
      simp only [mkL_eq]
      cases moreF word part (r.length + 1) r <;> rfl
theorem PI.step (h : PI op word part s0 L (.ok (t :: r))) (ht : t.kind = 1 ∧ t.text = word) (hd : Did part (.ok r) f s2) : PI op word part s0 (L ++ [f]) s2 := by
  obtain ⟨h0, h1, h2⟩ := h
  obtain ⟨d1, d2, d3⟩ := hd
  refine ⟨by simp, d1, ?_⟩
  cases s0 with
  | error x => cases h2
  | ok ts0 =>
    simp only at h2 d3 ⊢
    obtain ⟨n, hn, he⟩ := h2
    obtain ⟨m, rfl⟩ : ∃ m, n = m + 1 := ⟨n - 1, by simp at hn; omega⟩
    rw [moreF] at he
    simp only [if_pos ht] at he
    cases hp : part r with
    | error x =>
      rw [hp] at he d3
      simp only at d3 he
      subst d3
      exact he
    | ok z =>
      obtain ⟨g, r2⟩ := z
      rw [hp] at he d3
      simp only at d3 he
      obtain ⟨rfl, rfl⟩ := d3
      refine ⟨m, by simp [toks] at d2 hn ⊢; omega, ?_⟩
      rw [he]
      cases moreF word part m r2 with
      | error x => rfl
      | ok z => obtain ⟨ks, r3⟩ := z; simp
theorem PI.stop {ts : List Tok} (h : PI op word part s0 L (.ok ts)) (hl : (toks (.ok ts)).length ≤ (toks s0).length) (ht : ∀ t r, ts = t :: r → ¬ (t.kind = 1 ∧ t.text = word)) : Did (partsF op word part) s0 (mkL op L) (.ok ts) := by
  obtain ⟨h0, h1, h2⟩ := h
  refine ⟨h1, hl, ?_⟩
  cases s0 with
  | error x => cases h2
  | ok ts0 =>
    simp only at h2 ⊢
    obtain ⟨n, hn, he⟩ := h2
    obtain ⟨m, rfl⟩ : ∃ m, n = m + 1 := ⟨n - 1, by omega⟩
    have : moreF word part (m + 1) ts = .ok ([], ts) := by
      cases ts with
      | nil => rw [moreF]
      | cons t r => rw [moreF]; simp only [if_neg (ht t r rfl)]
    rw [he, this]
    simp
theorem PI.err {x : Nat × Int} (h : PI op word part s0 L (.error x)) (g : Fm) : Did (partsF op word part) s0 g (.error x) := by
  obtain ⟨h0, h1, h2⟩ := h
  refine ⟨h1, by simp [toks], ?_⟩
  cases s0 with
  | error y => exact h2
  | ok ts0 => simp only at h2 ⊢; rw [h2]
end
end Go.Cz.Fo
namespace Go.Proofs.YtoeknmkephnekaaGreatDoor
open Go.RowKit Go.Cz Go.Cz.Lx Go.Cz.Fo
set_option linter.unusedSimpArgs false
set_option linter.unusedVariables false
attribute [local go_sem] bs_size bs_extract bs_append bs_toList
attribute [local irreducible] cList cPlan
theorem list_res {W : World} {tmps : Array Value} {g : Nat} {v0 v1 v2 v3 v4 : Value} (h4 : tmps.getD 8 undef = .pointer (some ⟨g, 0, none⟩)) (hb : W.heap[g]? = some (.cells #[v0, v1, v2, v3, v4] 24 (0, 0))) :
    (results Tryz.f133 tmps).run Tryz.prog W = .ok (.agg #[v0, v1, v2, v3, v4]) W := by
  have c0 : W.cell? ⟨g, 0, none⟩ = some v0 := by rw [cell_of_heap hb]; rfl
  have c1 : W.cell? ⟨g, 1, none⟩ = some v1 := by rw [cell_of_heap hb]; rfl
  have c2 : W.cell? ⟨g, 2, none⟩ = some v2 := by rw [cell_of_heap hb]; rfl
  have c3 : W.cell? ⟨g, 3, none⟩ = some v3 := by rw [cell_of_heap hb]; rfl
  have c4 : W.cell? ⟨g, 4, none⟩ = some v4 := by rw [cell_of_heap hb]; rfl
  have h4' : tmps[8]?.getD undef = .pointer (some ⟨g, 0, none⟩) := by simpa using h4
  simp [results, Tryz.results133, go_sem, h4', c0, c1, c2, c3, c4]
theorem all_res {W : World} {tmps : Array Value} {g : Nat} {v0 v1 v2 v3 v4 : Value} (h4 : tmps.getD 2 undef = .pointer (some ⟨g, 0, none⟩)) (hb : W.heap[g]? = some (.cells #[v0, v1, v2, v3, v4] 24 (0, 0))) :
    (results Tryz.f134 tmps).run Tryz.prog W = .ok (.agg #[v0, v1, v2, v3, v4]) W := by
  have c0 : W.cell? ⟨g, 0, none⟩ = some v0 := by rw [cell_of_heap hb]; rfl
  have c1 : W.cell? ⟨g, 1, none⟩ = some v1 := by rw [cell_of_heap hb]; rfl
  have c2 : W.cell? ⟨g, 2, none⟩ = some v2 := by rw [cell_of_heap hb]; rfl
  have c3 : W.cell? ⟨g, 3, none⟩ = some v3 := by rw [cell_of_heap hb]; rfl
  have c4 : W.cell? ⟨g, 4, none⟩ = some v4 := by rw [cell_of_heap hb]; rfl
  have h4' : tmps[2]?.getD undef = .pointer (some ⟨g, 0, none⟩) := by simpa using h4
  simp [results, Tryz.results134, go_sem, h4', c0, c1, c2, c3, c4]
theorem either_res {W : World} {tmps : Array Value} {g : Nat} {v0 v1 v2 v3 v4 : Value} (h4 : tmps.getD 2 undef = .pointer (some ⟨g, 0, none⟩)) (hb : W.heap[g]? = some (.cells #[v0, v1, v2, v3, v4] 24 (0, 0))) :
    (results Tryz.f105 tmps).run Tryz.prog W = .ok (.agg #[v0, v1, v2, v3, v4]) W := by
  have c0 : W.cell? ⟨g, 0, none⟩ = some v0 := by rw [cell_of_heap hb]; rfl
  have c1 : W.cell? ⟨g, 1, none⟩ = some v1 := by rw [cell_of_heap hb]; rfl
  have c2 : W.cell? ⟨g, 2, none⟩ = some v2 := by rw [cell_of_heap hb]; rfl
  have c3 : W.cell? ⟨g, 3, none⟩ = some v3 := by rw [cell_of_heap hb]; rfl
  have c4 : W.cell? ⟨g, 4, none⟩ = some v4 := by rw [cell_of_heap hb]; rfl
  have h4' : tmps[2]?.getD undef = .pointer (some ⟨g, 0, none⟩) := by simpa using h4
  simp [results, Tryz.results105, go_sem, h4', c0, c1, c2, c3, c4]
theorem one_res {W : World} {tmps : Array Value} {g : Nat} {v0 v1 v2 v3 v4 : Value} (h4 : tmps.getD 2 undef = .pointer (some ⟨g, 0, none⟩)) (hb : W.heap[g]? = some (.cells #[v0, v1, v2, v3, v4] 24 (0, 0))) :
    (results Tryz.f154 tmps).run Tryz.prog W = .ok (.agg #[v0, v1, v2, v3, v4]) W := by
  have c0 : W.cell? ⟨g, 0, none⟩ = some v0 := by rw [cell_of_heap hb]; rfl
  have c1 : W.cell? ⟨g, 1, none⟩ = some v1 := by rw [cell_of_heap hb]; rfl
  have c2 : W.cell? ⟨g, 2, none⟩ = some v2 := by rw [cell_of_heap hb]; rfl
  have c3 : W.cell? ⟨g, 3, none⟩ = some v3 := by rw [cell_of_heap hb]; rfl
  have c4 : W.cell? ⟨g, 4, none⟩ = some v4 := by rw [cell_of_heap hb]; rfl
  have h4' : tmps[2]?.getD undef = .pointer (some ⟨g, 0, none⟩) := by simpa using h4
  simp [results, Tryz.results154, go_sem, h4', c0, c1, c2, c3, c4]
abbrev fobj0 : Obj := .cells #[.int .i64 0, .string ⟨#[]⟩, .int .i64 0, .int .i64 0, .slice none 0 0] 24 (0, 0)
theorem info_fm : (Tryz.prog.info? 24).map (fun i => (i.zero, i.size, i.bytes)) = some (some (.agg #[.int .i64 0, .string ⟨#[]⟩, .int .i64 0, .int .i64 0, .slice none 0 0]), 5, 64) := by kernel_rfl
/-- What a function that reads a part does. -/
def PartC (w0 : World) (bp : Nat) (fin : Int) (fn : Nat) (part : List Tok → Res) (B : Nat) : Prop :=
  ∀ (ps : List Piece) (s : PSt) (w : World), (toks s).length ≤ B → Owns w0 w (parP w0 bp fin s :: ps) → Calls Tryz.prog fn #[.pointer (some ⟨bp, 0, none⟩)] w fun e w' => ∃ f kv s', e = .returned (fval f kv) ∧ Did part s f s' ∧ Owns w0 w' (fmP f kv :: parP w0 bp fin s' :: ps)
section
variable {w0 : World} {bp : Nat} {fin : Int}
set_option maxRecDepth 100000 in
set_option maxHeartbeats 8000000 in
theorem listO_c (part : List Tok → Res) (B : Nat) (hB : B ≤ 1000000) (HC : PartC w0 bp fin 154 part B) (ps : List Piece) (op : Int) (word : Bytes) (s0 : PSt) (w : World) (hs : (toks s0).length ≤ B) (hwl : word.length ≤ 10) (h : Owns w0 w (parP w0 bp fin s0 :: ps)) :
    Calls Tryz.prog 133 #[.pointer (some ⟨bp, 0, none⟩), .int .i64 op, .string (bs word), .func (.func 154) #[.pointer (some ⟨bp, 0, none⟩)] #[]] w fun e w' => ∃ f kv s', e = .returned (fval f kv) ∧ Did (partsF op word part) s0 f s' ∧ Owns w0 w' (fmP f kv :: parP w0 bp fin s' :: ps) := by
  have HCh := Lib.hid HC
  have HS := Lib.hid hs
  have HB := Lib.hid hB
  clear HC hs hB
  obtain ⟨W1, hW1⟩ : ∃ W1, W1 = w.alloc (.cells #[.int .i64 0, .string ⟨#[]⟩, .int .i64 0, .int .i64 0, .slice none 0 0] 24) := ⟨_, rfl⟩
  obtain ⟨b8, hb8⟩ : ∃ b8, b8 = w.heap.size := ⟨_, rfl⟩
  have HO : Hid (Owns w0 W1 (parP w0 bp fin s0 :: blk b8 fobj0 :: ps)) := by
    rw [hW1, hb8]
    exact Lib.hid (h.box fobj0).swap
  clear h
  go_enter Tryz.func133, Tryz.ntmps133
  go_wp2_with fail
  try rw [← hW1]
  try rw [← hb8]
  clear hW1 hb8
  refine (HCh.out (blk b8 fobj0 :: ps) s0 W1 HS.out HO.out).mono ?_
  rintro e W2 ⟨f, kv, s, rfl, hd, ho⟩
  have HPI0 : Hid (PI op word part s0 [f] s ∧ (toks s).length ≤ (toks s0).length) := ⟨PI.start hd, hd.2.1⟩
  obtain ⟨y2, m2, rfl⟩ := ho.fm.form
  obtain ⟨N2, hN2⟩ : ∃ N2, N2 = f.kids.length := ⟨_, rfl⟩
  rw [← hN2] at ho ⊢
  replace HO : Hid (Owns w0 (W2.alloc (.cells (fcells f (.slice y2 N2 m2)).toArray 24)) (kidsP [(f, .slice y2 N2 m2)] (.slice (some ⟨W2.heap.size, 0, none⟩) 1 1) :: parP w0 bp fin s :: blk b8 fobj0 :: ps)) := Lib.hid ho.kid1
  clear ho hd hN2
  go_wp2_with fail
  go_loopg [9] (toks s).length (fun gk v' wr => ∃ (L : List (Fm × Value)) (s : PSt) (v : Value), v = v' ∧ gk = (toks s).length ∧ L.length + (toks s).length ≤ 1000001 ∧ Hid (Owns w0 wr (kidsP L v :: parP w0 bp fin s :: blk b8 fobj0 :: ps)) ∧ Hid (PI op word part s0 (L.map Prod.fst) s ∧ (toks s).length ≤ (toks s0).length))
  case atStart => exact ⟨_, s, _, rfl, rfl, by have := HPI0.out.2; have := HS.out; have := HB.out; simp; omega, HO, HPI0⟩
  case round =>
    rename_i J1 K1 hJ1 hK1
    clear HO HPI0
    obtain ⟨L, s, v, rfl, rfl, hLl, HO, HPI⟩ := hrel
    have HL0 : Hid (L ≠ []) := by have := HPI.out.1.1; exact fun e => this (by rw [e]; rfl)
    rcases s with x | (_ | ⟨t, r⟩)
    · have HD : Hid (Did (partsF op word part) s0 (mkL op (L.map Prod.fst)) (.error x)) := HPI.out.1.err _
      obtain ⟨hf, yp, mp, hv, hp⟩ := HO.out.swap.par
      simp only [pobj, code, pos, toks, List.length_nil] at hp
      obtain ⟨bk, -⟩ := hp.blk
      have hbp := lt_of_block bk
      have cp0 := cell_of_heap bk (i := 0)
      simp only [List.getElem?_toArray, List.getElem?_cons_succ, List.getElem?_cons_zero] at cp0
      clear bk
      clear hf hv hp HPI hJ1 hK1
      -- the loop is over: HO (kidsP L v :: parP s :: blk b8 ..), HD : what was read
      obtain ⟨y, m, rfl⟩ := HO.out.kform
      obtain ⟨NL, hNL⟩ : ∃ NL, NL = L.length := ⟨_, rfl⟩
      have HNL := Lib.hid hNL
      have hNL1 : 1 ≤ NL := by rw [hNL]; exact List.length_pos_iff.2 HL0.out
      rw [← hNL] at HO ⊢
      clear hNL
      by_cases h1 : NL = 1
      · subst h1
        obtain ⟨⟨k, kv⟩, rfl⟩ : ∃ p, L = [p] := List.length_eq_one_iff.1 HNL.out.symm
        have HF := Lib.hid HO.out.konly.fm
        obtain ⟨y2, m2, rfl⟩ := HF.out.form
        obtain ⟨N2, hN2⟩ : ∃ N2, N2 = k.kids.length := ⟨_, rfl⟩
        rw [← hN2] at HO HF
        obtain ⟨gk, mk, e1, hgm, hgk, d0, d1, d2, d3, d4⟩ := HO.out.kget (j := 0) rfl
        simp only [Value.slice.injEq] at e1
        obtain ⟨rfl, -, rfl⟩ := e1
        simp only [Nat.zero_mul, Nat.zero_add] at d0 d1 d2 d3 d4
        replace HO := Lib.hid (HO.out.konly.re [2, 0, 1])
        simp only [fobj0] at HO
        focus
          obtain ⟨bk, -⟩ := HO.out.blk
          have hbe := lt_of_block bk
          have fe0 := free_of_heap bk (i := 0)
          have fe1 := free_of_heap bk (i := 1)
          have fe2 := free_of_heap bk (i := 2)
          have fe3 := free_of_heap bk (i := 3)
          have fe4 := free_of_heap bk (i := 4)
          have ce0 := cell_of_heap bk (i := 0)
          have ce1 := cell_of_heap bk (i := 1)
          have ce2 := cell_of_heap bk (i := 2)
          have ce3 := cell_of_heap bk (i := 3)
          have ce4 := cell_of_heap bk (i := 4)
          simp only [List.getElem?_toArray, List.getElem?_cons_succ, List.getElem?_cons_zero] at ce0 ce1 ce2 ce3 ce4
          clear bk
          clear hN2 hNL1
          go_wp2_with fail
        have h2 := ((((HO.out.store (i := 0) (.int .i64 k.op)).store (i := 1) (.string (bs k.name))).store (i := 2) (.int .i64 k.cmp)).store (i := 3) (.int .i64 k.num)).store (i := 4) (.slice y2 N2 m2)
        exact bodyPost_ret (list_res rfl h2.blk.1) (by rfl) ⟨k, _, _, rfl, HD.out, h2.pop⟩
      · have h1' : ((NL : Int) == 1) = false := by simp; omega
        have HM : Hid (mkL op (L.map Prod.fst) = .mk op [] 0 0 (L.map Prod.fst)) := by
          show _ = _
          rcases L with _ | ⟨a, _ | ⟨b, L⟩⟩
          · exact absurd rfl HL0.out
          · exact absurd HNL.out h1
          · rfl
        replace HO := Lib.hid ((HO.out.knode op [] 0 0).re [2, 0, 1])
        simp only [fobj0] at HO
        focus
          obtain ⟨bk, -⟩ := HO.out.blk
          have hbe := lt_of_block bk
          have fe0 := free_of_heap bk (i := 0)
          have fe1 := free_of_heap bk (i := 1)
          have fe2 := free_of_heap bk (i := 2)
          have fe3 := free_of_heap bk (i := 3)
          have fe4 := free_of_heap bk (i := 4)
          have ce0 := cell_of_heap bk (i := 0)
          have ce1 := cell_of_heap bk (i := 1)
          have ce2 := cell_of_heap bk (i := 2)
          have ce3 := cell_of_heap bk (i := 3)
          have ce4 := cell_of_heap bk (i := 4)
          simp only [List.getElem?_toArray, List.getElem?_cons_succ, List.getElem?_cons_zero] at ce0 ce1 ce2 ce3 ce4
          clear bk
          clear h1 hNL1
          go_wp2_with fail
        have h2 := ((((HO.out.store (i := 0) (.int .i64 op)).store (i := 1) (.string ⟨#[]⟩)).store (i := 2) (.int .i64 0)).store (i := 3) (.int .i64 0)).store (i := 4) (.slice y NL m)
        exact bodyPost_ret (list_res rfl h2.blk.1) (by rfl) ⟨_, _, _, rfl, HM.out ▸ HD.out, h2.pop⟩
    · have HD : Hid (Did (partsF op word part) s0 (mkL op (L.map Prod.fst)) (.ok [])) := HPI.out.1.stop HPI.out.2 (fun t r e => by cases e)
      obtain ⟨hf, yp, mp, hv, hp⟩ := HO.out.swap.par
      simp only [pobj, code, pos, toks, List.length_nil] at hp
      obtain ⟨bk, -⟩ := hp.blk
      have hbp := lt_of_block bk
      have cp0 := cell_of_heap bk (i := 0)
      simp only [List.getElem?_toArray, List.getElem?_cons_succ, List.getElem?_cons_zero] at cp0
      clear bk
      clear hf hv hp HPI hJ1 hK1
      -- the loop is over: HO (kidsP L v :: parP s :: blk b8 ..), HD : what was read
      obtain ⟨y, m, rfl⟩ := HO.out.kform
      obtain ⟨NL, hNL⟩ : ∃ NL, NL = L.length := ⟨_, rfl⟩
      have HNL := Lib.hid hNL
      have hNL1 : 1 ≤ NL := by rw [hNL]; exact List.length_pos_iff.2 HL0.out
      rw [← hNL] at HO ⊢
      clear hNL
      by_cases h1 : NL = 1
      · subst h1
        obtain ⟨⟨k, kv⟩, rfl⟩ : ∃ p, L = [p] := List.length_eq_one_iff.1 HNL.out.symm
        have HF := Lib.hid HO.out.konly.fm
        obtain ⟨y2, m2, rfl⟩ := HF.out.form
        obtain ⟨N2, hN2⟩ : ∃ N2, N2 = k.kids.length := ⟨_, rfl⟩
        rw [← hN2] at HO HF
        obtain ⟨gk, mk, e1, hgm, hgk, d0, d1, d2, d3, d4⟩ := HO.out.kget (j := 0) rfl
        simp only [Value.slice.injEq] at e1
        obtain ⟨rfl, -, rfl⟩ := e1
        simp only [Nat.zero_mul, Nat.zero_add] at d0 d1 d2 d3 d4
        replace HO := Lib.hid (HO.out.konly.re [2, 0, 1])
        simp only [fobj0] at HO
        focus
          obtain ⟨bk, -⟩ := HO.out.blk
          have hbe := lt_of_block bk
          have fe0 := free_of_heap bk (i := 0)
          have fe1 := free_of_heap bk (i := 1)
          have fe2 := free_of_heap bk (i := 2)
          have fe3 := free_of_heap bk (i := 3)
          have fe4 := free_of_heap bk (i := 4)
          have ce0 := cell_of_heap bk (i := 0)
          have ce1 := cell_of_heap bk (i := 1)
          have ce2 := cell_of_heap bk (i := 2)
          have ce3 := cell_of_heap bk (i := 3)
          have ce4 := cell_of_heap bk (i := 4)
          simp only [List.getElem?_toArray, List.getElem?_cons_succ, List.getElem?_cons_zero] at ce0 ce1 ce2 ce3 ce4
          clear bk
          clear hN2 hNL1
          go_wp2_with fail
        have h2 := ((((HO.out.store (i := 0) (.int .i64 k.op)).store (i := 1) (.string (bs k.name))).store (i := 2) (.int .i64 k.cmp)).store (i := 3) (.int .i64 k.num)).store (i := 4) (.slice y2 N2 m2)
        exact bodyPost_ret (list_res rfl h2.blk.1) (by rfl) ⟨k, _, _, rfl, HD.out, h2.pop⟩
      · have h1' : ((NL : Int) == 1) = false := by simp; omega
        have HM : Hid (mkL op (L.map Prod.fst) = .mk op [] 0 0 (L.map Prod.fst)) := by
          show _ = _
          rcases L with _ | ⟨a, _ | ⟨b, L⟩⟩
          · exact absurd rfl HL0.out
          · exact absurd HNL.out h1
          · rfl
        replace HO := Lib.hid ((HO.out.knode op [] 0 0).re [2, 0, 1])
        simp only [fobj0] at HO
        focus
          obtain ⟨bk, -⟩ := HO.out.blk
          have hbe := lt_of_block bk
          have fe0 := free_of_heap bk (i := 0)
          have fe1 := free_of_heap bk (i := 1)
          have fe2 := free_of_heap bk (i := 2)
          have fe3 := free_of_heap bk (i := 3)
          have fe4 := free_of_heap bk (i := 4)
          have ce0 := cell_of_heap bk (i := 0)
          have ce1 := cell_of_heap bk (i := 1)
          have ce2 := cell_of_heap bk (i := 2)
          have ce3 := cell_of_heap bk (i := 3)
          have ce4 := cell_of_heap bk (i := 4)
          simp only [List.getElem?_toArray, List.getElem?_cons_succ, List.getElem?_cons_zero] at ce0 ce1 ce2 ce3 ce4
          clear bk
          clear h1 hNL1
          go_wp2_with fail
        have h2 := ((((HO.out.store (i := 0) (.int .i64 op)).store (i := 1) (.string ⟨#[]⟩)).store (i := 2) (.int .i64 0)).store (i := 3) (.int .i64 0)).store (i := 4) (.slice y NL m)
        exact bodyPost_ret (list_res rfl h2.blk.1) (by rfl) ⟨_, _, _, rfl, HM.out ▸ HD.out, h2.pop⟩
    · obtain ⟨N, hN⟩ : ∃ N, N = (toks (.ok (t :: r))).length := ⟨_, rfl⟩
      have HN := Lib.hid hN
      have hN0 : 0 < N := by rw [hN]; simp [toks]
      obtain ⟨hf, yp, mp, hv, hp⟩ := HO.out.swap.par
      rw [← hN] at hv hp
      obtain ⟨g, off, rfl, hNm, hg, c0, c1, c2, c3⟩ := hv.get (j := 0) HO.out.base rfl
      simp only [pobj, code, pos] at hp
      simp only [Nat.zero_mul, Nat.add_zero] at c0 c1 c2 c3
      obtain ⟨bk, -⟩ := hp.blk
      have hbp := lt_of_block bk
      have cp0 := cell_of_heap bk (i := 0)
      simp only [List.getElem?_toArray, List.getElem?_cons_succ, List.getElem?_cons_zero] at cp0
      clear bk
      clear hf hv hp hN
      by_cases ht : t.kind = 1
      case neg =>
        have ht' : ((t.kind : Int) == 1) = false := by simp; omega
        have HD : Hid (Did (partsF op word part) s0 (mkL op (L.map Prod.fst)) (.ok (t :: r))) := HPI.out.1.stop HPI.out.2 (fun t' r' e h => by cases e; exact ht h.1)
        clear HPI hJ1 hK1 ht
        -- the loop is over: HO (kidsP L v :: parP s :: blk b8 ..), HD : what was read
        obtain ⟨y, m, rfl⟩ := HO.out.kform
        obtain ⟨NL, hNL⟩ : ∃ NL, NL = L.length := ⟨_, rfl⟩
        have HNL := Lib.hid hNL
        have hNL1 : 1 ≤ NL := by rw [hNL]; exact List.length_pos_iff.2 HL0.out
        rw [← hNL] at HO ⊢
        clear hNL
        by_cases h1 : NL = 1
        · subst h1
          obtain ⟨⟨k, kv⟩, rfl⟩ : ∃ p, L = [p] := List.length_eq_one_iff.1 HNL.out.symm
          have HF := Lib.hid HO.out.konly.fm
          obtain ⟨y2, m2, rfl⟩ := HF.out.form
          obtain ⟨N2, hN2⟩ : ∃ N2, N2 = k.kids.length := ⟨_, rfl⟩
          rw [← hN2] at HO HF
          obtain ⟨gk, mk, e1, hgm, hgk, d0, d1, d2, d3, d4⟩ := HO.out.kget (j := 0) rfl
          simp only [Value.slice.injEq] at e1
          obtain ⟨rfl, -, rfl⟩ := e1
          simp only [Nat.zero_mul, Nat.zero_add] at d0 d1 d2 d3 d4
          replace HO := Lib.hid (HO.out.konly.re [2, 0, 1])
          simp only [fobj0] at HO
          focus
            obtain ⟨bk, -⟩ := HO.out.blk
            have hbe := lt_of_block bk
            have fe0 := free_of_heap bk (i := 0)
            have fe1 := free_of_heap bk (i := 1)
            have fe2 := free_of_heap bk (i := 2)
            have fe3 := free_of_heap bk (i := 3)
            have fe4 := free_of_heap bk (i := 4)
            have ce0 := cell_of_heap bk (i := 0)
            have ce1 := cell_of_heap bk (i := 1)
            have ce2 := cell_of_heap bk (i := 2)
            have ce3 := cell_of_heap bk (i := 3)
            have ce4 := cell_of_heap bk (i := 4)
            simp only [List.getElem?_toArray, List.getElem?_cons_succ, List.getElem?_cons_zero] at ce0 ce1 ce2 ce3 ce4
            clear bk
            clear hN2 hNL1
            go_wp2_with fail
          have h2 := ((((HO.out.store (i := 0) (.int .i64 k.op)).store (i := 1) (.string (bs k.name))).store (i := 2) (.int .i64 k.cmp)).store (i := 3) (.int .i64 k.num)).store (i := 4) (.slice y2 N2 m2)
          exact bodyPost_ret (list_res rfl h2.blk.1) (by rfl) ⟨k, _, _, rfl, HD.out, h2.pop⟩
        · have h1' : ((NL : Int) == 1) = false := by simp; omega
          have HM : Hid (mkL op (L.map Prod.fst) = .mk op [] 0 0 (L.map Prod.fst)) := by
            show _ = _
            rcases L with _ | ⟨a, _ | ⟨b, L⟩⟩
            · exact absurd rfl HL0.out
            · exact absurd HNL.out h1
            · rfl
          replace HO := Lib.hid ((HO.out.knode op [] 0 0).re [2, 0, 1])
          simp only [fobj0] at HO
          focus
            obtain ⟨bk, -⟩ := HO.out.blk
            have hbe := lt_of_block bk
            have fe0 := free_of_heap bk (i := 0)
            have fe1 := free_of_heap bk (i := 1)
            have fe2 := free_of_heap bk (i := 2)
            have fe3 := free_of_heap bk (i := 3)
            have fe4 := free_of_heap bk (i := 4)
            have ce0 := cell_of_heap bk (i := 0)
            have ce1 := cell_of_heap bk (i := 1)
            have ce2 := cell_of_heap bk (i := 2)
            have ce3 := cell_of_heap bk (i := 3)
            have ce4 := cell_of_heap bk (i := 4)
            simp only [List.getElem?_toArray, List.getElem?_cons_succ, List.getElem?_cons_zero] at ce0 ce1 ce2 ce3 ce4
            clear bk
            clear h1 hNL1
            go_wp2_with fail
          have h2 := ((((HO.out.store (i := 0) (.int .i64 op)).store (i := 1) (.string ⟨#[]⟩)).store (i := 2) (.int .i64 0)).store (i := 3) (.int .i64 0)).store (i := 4) (.slice y NL m)
          exact bodyPost_ret (list_res rfl h2.blk.1) (by rfl) ⟨_, _, _, rfl, HM.out ▸ HD.out, h2.pop⟩
      have ht' : ((t.kind : Int) == 1) = true := by simp; omega
      by_cases hw : t.text = word
      case neg =>
        have hw' : (t.text == word) = false := by simpa using hw
        have HD : Hid (Did (partsF op word part) s0 (mkL op (L.map Prod.fst)) (.ok (t :: r))) := HPI.out.1.stop HPI.out.2 (fun t' r' e h => by cases e; exact hw h.2)
        clear HPI hJ1 hK1 ht hw
        -- the loop is over: HO (kidsP L v :: parP s :: blk b8 ..), HD : what was read
        obtain ⟨y, m, rfl⟩ := HO.out.kform
        obtain ⟨NL, hNL⟩ : ∃ NL, NL = L.length := ⟨_, rfl⟩
        have HNL := Lib.hid hNL
        have hNL1 : 1 ≤ NL := by rw [hNL]; exact List.length_pos_iff.2 HL0.out
        rw [← hNL] at HO ⊢
        clear hNL
        by_cases h1 : NL = 1
        · subst h1
          obtain ⟨⟨k, kv⟩, rfl⟩ : ∃ p, L = [p] := List.length_eq_one_iff.1 HNL.out.symm
          have HF := Lib.hid HO.out.konly.fm
          obtain ⟨y2, m2, rfl⟩ := HF.out.form
          obtain ⟨N2, hN2⟩ : ∃ N2, N2 = k.kids.length := ⟨_, rfl⟩
          rw [← hN2] at HO HF
          obtain ⟨gk, mk, e1, hgm, hgk, d0, d1, d2, d3, d4⟩ := HO.out.kget (j := 0) rfl
          simp only [Value.slice.injEq] at e1
          obtain ⟨rfl, -, rfl⟩ := e1
          simp only [Nat.zero_mul, Nat.zero_add] at d0 d1 d2 d3 d4
          replace HO := Lib.hid (HO.out.konly.re [2, 0, 1])
          simp only [fobj0] at HO
          focus
            obtain ⟨bk, -⟩ := HO.out.blk
            have hbe := lt_of_block bk
            have fe0 := free_of_heap bk (i := 0)
            have fe1 := free_of_heap bk (i := 1)
            have fe2 := free_of_heap bk (i := 2)
            have fe3 := free_of_heap bk (i := 3)
            have fe4 := free_of_heap bk (i := 4)
            have ce0 := cell_of_heap bk (i := 0)
            have ce1 := cell_of_heap bk (i := 1)
            have ce2 := cell_of_heap bk (i := 2)
            have ce3 := cell_of_heap bk (i := 3)
            have ce4 := cell_of_heap bk (i := 4)
            simp only [List.getElem?_toArray, List.getElem?_cons_succ, List.getElem?_cons_zero] at ce0 ce1 ce2 ce3 ce4
            clear bk
            clear hN2 hNL1
            go_wp2_with fail
          have h2 := ((((HO.out.store (i := 0) (.int .i64 k.op)).store (i := 1) (.string (bs k.name))).store (i := 2) (.int .i64 k.cmp)).store (i := 3) (.int .i64 k.num)).store (i := 4) (.slice y2 N2 m2)
          exact bodyPost_ret (list_res rfl h2.blk.1) (by rfl) ⟨k, _, _, rfl, HD.out, h2.pop⟩
        · have h1' : ((NL : Int) == 1) = false := by simp; omega
          have HM : Hid (mkL op (L.map Prod.fst) = .mk op [] 0 0 (L.map Prod.fst)) := by
            show _ = _
            rcases L with _ | ⟨a, _ | ⟨b, L⟩⟩
            · exact absurd rfl HL0.out
            · exact absurd HNL.out h1
            · rfl
          replace HO := Lib.hid ((HO.out.knode op [] 0 0).re [2, 0, 1])
          simp only [fobj0] at HO
          focus
            obtain ⟨bk, -⟩ := HO.out.blk
            have hbe := lt_of_block bk
            have fe0 := free_of_heap bk (i := 0)
            have fe1 := free_of_heap bk (i := 1)
            have fe2 := free_of_heap bk (i := 2)
            have fe3 := free_of_heap bk (i := 3)
            have fe4 := free_of_heap bk (i := 4)
            have ce0 := cell_of_heap bk (i := 0)
            have ce1 := cell_of_heap bk (i := 1)
            have ce2 := cell_of_heap bk (i := 2)
            have ce3 := cell_of_heap bk (i := 3)
            have ce4 := cell_of_heap bk (i := 4)
            simp only [List.getElem?_toArray, List.getElem?_cons_succ, List.getElem?_cons_zero] at ce0 ce1 ce2 ce3 ce4
            clear bk
            clear h1 hNL1
            go_wp2_with fail
          have h2 := ((((HO.out.store (i := 0) (.int .i64 op)).store (i := 1) (.string ⟨#[]⟩)).store (i := 2) (.int .i64 0)).store (i := 3) (.int .i64 0)).store (i := 4) (.slice y NL m)
          exact bodyPost_ret (list_res rfl h2.blk.1) (by rfl) ⟨_, _, _, rfl, HM.out ▸ HD.out, h2.pop⟩
      have hw' : (t.text == word) = true := by simpa using hw
      have HT : Hid (t.kind = 1 ∧ t.text = word) := ⟨ht, hw⟩
      clear ht hw
      rw [← HN.out] at hLl
      go_wp2_with fail
      clear hbp cp0 c0 c1 c2 c3 hg ht' hw' hN0 hNm
      go_at_call 153
      refine (take_c (w0 := w0) (bp := bp) (fin := fin) (kidsP L v :: blk b8 fobj0 :: ps) (.ok (t :: r)) wr HO.out.swap (by have h1 := HPI.out.2; have h2 := HS.out; have h3 := HB.out; omega)).mono ?_
      rintro e W3 ⟨rfl, ho⟩
      have HO3 : Hid (Owns w0 W3 (parP w0 bp fin (.ok r) :: kidsP L v :: blk b8 fobj0 :: ps)) := Lib.hid ho
      clear ho HO
      go_wp2_with fail
      refine (HCh.out (kidsP L v :: blk b8 fobj0 :: ps) (.ok r) W3 (by have h1 := HPI.out.2; have h2 := HS.out; simp [toks] at h1 h2 ⊢; omega) HO3.out).mono ?_
      rintro e W4 ⟨f, kv, s2, rfl, hd, ho⟩
      have HPI2 : Hid (PI op word part s0 ((L ++ [(f, kv)]).map Prod.fst) s2 ∧ (toks s2).length ≤ (toks s0).length ∧ (toks s2).length < N) := by
        refine ⟨by rw [List.map_append]; exact HPI.out.1.step HT.out hd, ?_, ?_⟩
        · have h1 := HPI.out.2; have h2 := hd.2.1; simp [toks] at h1 h2 ⊢; omega
        · rw [HN.out]; have h2 := hd.2.1; simp [toks] at h2 ⊢; omega
      obtain ⟨y2, m2, rfl⟩ := ho.fm.form
      obtain ⟨N2, hN2⟩ : ∃ N2, N2 = f.kids.length := ⟨_, rfl⟩
      rw [← hN2] at ho HPI2 ⊢
      have HO4 : Hid (Owns w0 (W4.alloc (.cells #[.int .i64 f.op, .string (bs f.name), .int .i64 f.cmp, .int .i64 f.num, .slice y2 N2 m2] 24)) (kidsP L v :: fmP f (.slice y2 N2 m2) :: parP w0 bp fin s2 :: blk b8 fobj0 :: ps)) := Lib.hid ((ho.alloc _).re [2, 0, 1])
      have hLl2 : L.length ≤ 1000001 := by omega
      clear ho hd hN2 HO3 HPI
      go_wp2_with (refine wpList_plain rfl fun K hK => wp_append (.tmp 42) (.tmp 45) 22 (by rfl) 24 _ 5 64 Tryz.underlying22 info_fm (by rfl) (by omega) v L.length _ (by rfl) HO4.out.krow W4.heap.size 1 1 (fcells f (.slice y2 N2 m2)) (by rfl) (by rfl) 24 (by exact new_heap W4 _ _ rfl) (by simp [fcells, Value.oneCell']) (by omega) (by omega) ?_; intro v' w2 hrow hgrow hblk; have HO5 := Lib.hid (HO4.out.kid hrow hgrow hblk); clear hrow hgrow hblk)
      go_roundg (toks s2).length
      case measure => have := HPI2.out.2.2; rw [HN.out] at this; exact this
      case rel => exact ⟨L ++ [(f, .slice y2 N2 m2)], s2, _, rfl, rfl, by have := HPI2.out.2.2; rw [List.length_append, List.length_singleton]; omega, HO5, Lib.hid ⟨HPI2.out.1, HPI2.out.2.1⟩⟩
set_option maxRecDepth 100000 in
set_option maxHeartbeats 8000000 in
theorem listA_c (part : List Tok → Res) (B : Nat) (hB : B ≤ 1000000) (HC : PartC w0 bp fin 134 part B) (ps : List Piece) (op : Int) (word : Bytes) (s0 : PSt) (w : World) (hs : (toks s0).length ≤ B) (hwl : word.length ≤ 10) (h : Owns w0 w (parP w0 bp fin s0 :: ps)) :
    Calls Tryz.prog 133 #[.pointer (some ⟨bp, 0, none⟩), .int .i64 op, .string (bs word), .func (.func 134) #[.pointer (some ⟨bp, 0, none⟩)] #[]] w fun e w' => ∃ f kv s', e = .returned (fval f kv) ∧ Did (partsF op word part) s0 f s' ∧ Owns w0 w' (fmP f kv :: parP w0 bp fin s' :: ps) := by
  have HCh := Lib.hid HC
  have HS := Lib.hid hs
  have HB := Lib.hid hB
  clear HC hs hB
  obtain ⟨W1, hW1⟩ : ∃ W1, W1 = w.alloc (.cells #[.int .i64 0, .string ⟨#[]⟩, .int .i64 0, .int .i64 0, .slice none 0 0] 24) := ⟨_, rfl⟩
  obtain ⟨b8, hb8⟩ : ∃ b8, b8 = w.heap.size := ⟨_, rfl⟩
  have HO : Hid (Owns w0 W1 (parP w0 bp fin s0 :: blk b8 fobj0 :: ps)) := by
    rw [hW1, hb8]
    exact Lib.hid (h.box fobj0).swap
  clear h
  go_enter Tryz.func133, Tryz.ntmps133
  go_wp2_with fail
  try rw [← hW1]
  try rw [← hb8]
  clear hW1 hb8
  refine (HCh.out (blk b8 fobj0 :: ps) s0 W1 HS.out HO.out).mono ?_
  rintro e W2 ⟨f, kv, s, rfl, hd, ho⟩
  have HPI0 : Hid (PI op word part s0 [f] s ∧ (toks s).length ≤ (toks s0).length) := ⟨PI.start hd, hd.2.1⟩
  obtain ⟨y2, m2, rfl⟩ := ho.fm.form
  obtain ⟨N2, hN2⟩ : ∃ N2, N2 = f.kids.length := ⟨_, rfl⟩
  rw [← hN2] at ho ⊢
  replace HO : Hid (Owns w0 (W2.alloc (.cells (fcells f (.slice y2 N2 m2)).toArray 24)) (kidsP [(f, .slice y2 N2 m2)] (.slice (some ⟨W2.heap.size, 0, none⟩) 1 1) :: parP w0 bp fin s :: blk b8 fobj0 :: ps)) := Lib.hid ho.kid1
  clear ho hd hN2
  go_wp2_with fail
  go_loopg [9] (toks s).length (fun gk v' wr => ∃ (L : List (Fm × Value)) (s : PSt) (v : Value), v = v' ∧ gk = (toks s).length ∧ L.length + (toks s).length ≤ 1000001 ∧ Hid (Owns w0 wr (kidsP L v :: parP w0 bp fin s :: blk b8 fobj0 :: ps)) ∧ Hid (PI op word part s0 (L.map Prod.fst) s ∧ (toks s).length ≤ (toks s0).length))
  case atStart => exact ⟨_, s, _, rfl, rfl, by have := HPI0.out.2; have := HS.out; have := HB.out; simp; omega, HO, HPI0⟩
  case round =>
    rename_i J1 K1 hJ1 hK1
    clear HO HPI0
    obtain ⟨L, s, v, rfl, rfl, hLl, HO, HPI⟩ := hrel
    have HL0 : Hid (L ≠ []) := by have := HPI.out.1.1; exact fun e => this (by rw [e]; rfl)
    rcases s with x | (_ | ⟨t, r⟩)
    · have HD : Hid (Did (partsF op word part) s0 (mkL op (L.map Prod.fst)) (.error x)) := HPI.out.1.err _
      obtain ⟨hf, yp, mp, hv, hp⟩ := HO.out.swap.par
      simp only [pobj, code, pos, toks, List.length_nil] at hp
      obtain ⟨bk, -⟩ := hp.blk
      have hbp := lt_of_block bk
      have cp0 := cell_of_heap bk (i := 0)
      simp only [List.getElem?_toArray, List.getElem?_cons_succ, List.getElem?_cons_zero] at cp0
      clear bk
      clear hf hv hp HPI hJ1 hK1
      -- the loop is over: HO (kidsP L v :: parP s :: blk b8 ..), HD : what was read
      obtain ⟨y, m, rfl⟩ := HO.out.kform
      obtain ⟨NL, hNL⟩ : ∃ NL, NL = L.length := ⟨_, rfl⟩
      have HNL := Lib.hid hNL
      have hNL1 : 1 ≤ NL := by rw [hNL]; exact List.length_pos_iff.2 HL0.out
      rw [← hNL] at HO ⊢
      clear hNL
      by_cases h1 : NL = 1
      · subst h1
        obtain ⟨⟨k, kv⟩, rfl⟩ : ∃ p, L = [p] := List.length_eq_one_iff.1 HNL.out.symm
        have HF := Lib.hid HO.out.konly.fm
        obtain ⟨y2, m2, rfl⟩ := HF.out.form
        obtain ⟨N2, hN2⟩ : ∃ N2, N2 = k.kids.length := ⟨_, rfl⟩
        rw [← hN2] at HO HF
        obtain ⟨gk, mk, e1, hgm, hgk, d0, d1, d2, d3, d4⟩ := HO.out.kget (j := 0) rfl
        simp only [Value.slice.injEq] at e1
        obtain ⟨rfl, -, rfl⟩ := e1
        simp only [Nat.zero_mul, Nat.zero_add] at d0 d1 d2 d3 d4
        replace HO := Lib.hid (HO.out.konly.re [2, 0, 1])
        simp only [fobj0] at HO
        focus
          obtain ⟨bk, -⟩ := HO.out.blk
          have hbe := lt_of_block bk
          have fe0 := free_of_heap bk (i := 0)
          have fe1 := free_of_heap bk (i := 1)
          have fe2 := free_of_heap bk (i := 2)
          have fe3 := free_of_heap bk (i := 3)
          have fe4 := free_of_heap bk (i := 4)
          have ce0 := cell_of_heap bk (i := 0)
          have ce1 := cell_of_heap bk (i := 1)
          have ce2 := cell_of_heap bk (i := 2)
          have ce3 := cell_of_heap bk (i := 3)
          have ce4 := cell_of_heap bk (i := 4)
          simp only [List.getElem?_toArray, List.getElem?_cons_succ, List.getElem?_cons_zero] at ce0 ce1 ce2 ce3 ce4
          clear bk
          clear hN2 hNL1
          go_wp2_with fail
        have h2 := ((((HO.out.store (i := 0) (.int .i64 k.op)).store (i := 1) (.string (bs k.name))).store (i := 2) (.int .i64 k.cmp)).store (i := 3) (.int .i64 k.num)).store (i := 4) (.slice y2 N2 m2)
        exact bodyPost_ret (list_res rfl h2.blk.1) (by rfl) ⟨k, _, _, rfl, HD.out, h2.pop⟩
      · have h1' : ((NL : Int) == 1) = false := by simp; omega
        have HM : Hid (mkL op (L.map Prod.fst) = .mk op [] 0 0 (L.map Prod.fst)) := by
          show _ = _
          rcases L with _ | ⟨a, _ | ⟨b, L⟩⟩
          · exact absurd rfl HL0.out
          · exact absurd HNL.out h1
          · rfl
        replace HO := Lib.hid ((HO.out.knode op [] 0 0).re [2, 0, 1])
        simp only [fobj0] at HO
        focus
          obtain ⟨bk, -⟩ := HO.out.blk
          have hbe := lt_of_block bk
          have fe0 := free_of_heap bk (i := 0)
          have fe1 := free_of_heap bk (i := 1)
          have fe2 := free_of_heap bk (i := 2)
          have fe3 := free_of_heap bk (i := 3)
          have fe4 := free_of_heap bk (i := 4)
          have ce0 := cell_of_heap bk (i := 0)
          have ce1 := cell_of_heap bk (i := 1)
          have ce2 := cell_of_heap bk (i := 2)
          have ce3 := cell_of_heap bk (i := 3)
          have ce4 := cell_of_heap bk (i := 4)
          simp only [List.getElem?_toArray, List.getElem?_cons_succ, List.getElem?_cons_zero] at ce0 ce1 ce2 ce3 ce4
          clear bk
          clear h1 hNL1
          go_wp2_with fail
        have h2 := ((((HO.out.store (i := 0) (.int .i64 op)).store (i := 1) (.string ⟨#[]⟩)).store (i := 2) (.int .i64 0)).store (i := 3) (.int .i64 0)).store (i := 4) (.slice y NL m)
        exact bodyPost_ret (list_res rfl h2.blk.1) (by rfl) ⟨_, _, _, rfl, HM.out ▸ HD.out, h2.pop⟩
    · have HD : Hid (Did (partsF op word part) s0 (mkL op (L.map Prod.fst)) (.ok [])) := HPI.out.1.stop HPI.out.2 (fun t r e => by cases e)
      obtain ⟨hf, yp, mp, hv, hp⟩ := HO.out.swap.par
      simp only [pobj, code, pos, toks, List.length_nil] at hp
      obtain ⟨bk, -⟩ := hp.blk
      have hbp := lt_of_block bk
      have cp0 := cell_of_heap bk (i := 0)
      simp only [List.getElem?_toArray, List.getElem?_cons_succ, List.getElem?_cons_zero] at cp0
      clear bk
      clear hf hv hp HPI hJ1 hK1
      -- the loop is over: HO (kidsP L v :: parP s :: blk b8 ..), HD : what was read
      obtain ⟨y, m, rfl⟩ := HO.out.kform
      obtain ⟨NL, hNL⟩ : ∃ NL, NL = L.length := ⟨_, rfl⟩
      have HNL := Lib.hid hNL
      have hNL1 : 1 ≤ NL := by rw [hNL]; exact List.length_pos_iff.2 HL0.out
      rw [← hNL] at HO ⊢
      clear hNL
      by_cases h1 : NL = 1
      · subst h1
        obtain ⟨⟨k, kv⟩, rfl⟩ : ∃ p, L = [p] := List.length_eq_one_iff.1 HNL.out.symm
        have HF := Lib.hid HO.out.konly.fm
        obtain ⟨y2, m2, rfl⟩ := HF.out.form
        obtain ⟨N2, hN2⟩ : ∃ N2, N2 = k.kids.length := ⟨_, rfl⟩
        rw [← hN2] at HO HF
        obtain ⟨gk, mk, e1, hgm, hgk, d0, d1, d2, d3, d4⟩ := HO.out.kget (j := 0) rfl
        simp only [Value.slice.injEq] at e1
        obtain ⟨rfl, -, rfl⟩ := e1
        simp only [Nat.zero_mul, Nat.zero_add] at d0 d1 d2 d3 d4
        replace HO := Lib.hid (HO.out.konly.re [2, 0, 1])
        simp only [fobj0] at HO
        focus
          obtain ⟨bk, -⟩ := HO.out.blk
          have hbe := lt_of_block bk
          have fe0 := free_of_heap bk (i := 0)
          have fe1 := free_of_heap bk (i := 1)
          have fe2 := free_of_heap bk (i := 2)
          have fe3 := free_of_heap bk (i := 3)
          have fe4 := free_of_heap bk (i := 4)
          have ce0 := cell_of_heap bk (i := 0)
          have ce1 := cell_of_heap bk (i := 1)
          have ce2 := cell_of_heap bk (i := 2)
          have ce3 := cell_of_heap bk (i := 3)
          have ce4 := cell_of_heap bk (i := 4)
          simp only [List.getElem?_toArray, List.getElem?_cons_succ, List.getElem?_cons_zero] at ce0 ce1 ce2 ce3 ce4
          clear bk
          clear hN2 hNL1
          go_wp2_with fail
        have h2 := ((((HO.out.store (i := 0) (.int .i64 k.op)).store (i := 1) (.string (bs k.name))).store (i := 2) (.int .i64 k.cmp)).store (i := 3) (.int .i64 k.num)).store (i := 4) (.slice y2 N2 m2)
        exact bodyPost_ret (list_res rfl h2.blk.1) (by rfl) ⟨k, _, _, rfl, HD.out, h2.pop⟩
      · have h1' : ((NL : Int) == 1) = false := by simp; omega
        have HM : Hid (mkL op (L.map Prod.fst) = .mk op [] 0 0 (L.map Prod.fst)) := by
          show _ = _
          rcases L with _ | ⟨a, _ | ⟨b, L⟩⟩
          · exact absurd rfl HL0.out
          · exact absurd HNL.out h1
          · rfl
        replace HO := Lib.hid ((HO.out.knode op [] 0 0).re [2, 0, 1])
        simp only [fobj0] at HO
        focus
          obtain ⟨bk, -⟩ := HO.out.blk
          have hbe := lt_of_block bk
          have fe0 := free_of_heap bk (i := 0)
          have fe1 := free_of_heap bk (i := 1)
          have fe2 := free_of_heap bk (i := 2)
          have fe3 := free_of_heap bk (i := 3)
          have fe4 := free_of_heap bk (i := 4)
          have ce0 := cell_of_heap bk (i := 0)
          have ce1 := cell_of_heap bk (i := 1)
          have ce2 := cell_of_heap bk (i := 2)
          have ce3 := cell_of_heap bk (i := 3)
          have ce4 := cell_of_heap bk (i := 4)
          simp only [List.getElem?_toArray, List.getElem?_cons_succ, List.getElem?_cons_zero] at ce0 ce1 ce2 ce3 ce4
          clear bk
          clear h1 hNL1
          go_wp2_with fail
        have h2 := ((((HO.out.store (i := 0) (.int .i64 op)).store (i := 1) (.string ⟨#[]⟩)).store (i := 2) (.int .i64 0)).store (i := 3) (.int .i64 0)).store (i := 4) (.slice y NL m)
        exact bodyPost_ret (list_res rfl h2.blk.1) (by rfl) ⟨_, _, _, rfl, HM.out ▸ HD.out, h2.pop⟩
    · obtain ⟨N, hN⟩ : ∃ N, N = (toks (.ok (t :: r))).length := ⟨_, rfl⟩
      have HN := Lib.hid hN
      have hN0 : 0 < N := by rw [hN]; simp [toks]
      obtain ⟨hf, yp, mp, hv, hp⟩ := HO.out.swap.par
      rw [← hN] at hv hp
      obtain ⟨g, off, rfl, hNm, hg, c0, c1, c2, c3⟩ := hv.get (j := 0) HO.out.base rfl
      simp only [pobj, code, pos] at hp
      simp only [Nat.zero_mul, Nat.add_zero] at c0 c1 c2 c3
      obtain ⟨bk, -⟩ := hp.blk
      have hbp := lt_of_block bk
      have cp0 := cell_of_heap bk (i := 0)
      simp only [List.getElem?_toArray, List.getElem?_cons_succ, List.getElem?_cons_zero] at cp0
      clear bk
      clear hf hv hp hN
      by_cases ht : t.kind = 1
      case neg =>
        have ht' : ((t.kind : Int) == 1) = false := by simp; omega
        have HD : Hid (Did (partsF op word part) s0 (mkL op (L.map Prod.fst)) (.ok (t :: r))) := HPI.out.1.stop HPI.out.2 (fun t' r' e h => by cases e; exact ht h.1)
        clear HPI hJ1 hK1 ht
        -- the loop is over: HO (kidsP L v :: parP s :: blk b8 ..), HD : what was read
        obtain ⟨y, m, rfl⟩ := HO.out.kform
        obtain ⟨NL, hNL⟩ : ∃ NL, NL = L.length := ⟨_, rfl⟩
        have HNL := Lib.hid hNL
        have hNL1 : 1 ≤ NL := by rw [hNL]; exact List.length_pos_iff.2 HL0.out
        rw [← hNL] at HO ⊢
        clear hNL
        by_cases h1 : NL = 1
        · subst h1
          obtain ⟨⟨k, kv⟩, rfl⟩ : ∃ p, L = [p] := List.length_eq_one_iff.1 HNL.out.symm
          have HF := Lib.hid HO.out.konly.fm
          obtain ⟨y2, m2, rfl⟩ := HF.out.form
          obtain ⟨N2, hN2⟩ : ∃ N2, N2 = k.kids.length := ⟨_, rfl⟩
          rw [← hN2] at HO HF
          obtain ⟨gk, mk, e1, hgm, hgk, d0, d1, d2, d3, d4⟩ := HO.out.kget (j := 0) rfl
          simp only [Value.slice.injEq] at e1
          obtain ⟨rfl, -, rfl⟩ := e1
          simp only [Nat.zero_mul, Nat.zero_add] at d0 d1 d2 d3 d4
          replace HO := Lib.hid (HO.out.konly.re [2, 0, 1])
          simp only [fobj0] at HO
          focus
            obtain ⟨bk, -⟩ := HO.out.blk
            have hbe := lt_of_block bk
            have fe0 := free_of_heap bk (i := 0)
            have fe1 := free_of_heap bk (i := 1)
            have fe2 := free_of_heap bk (i := 2)
            have fe3 := free_of_heap bk (i := 3)
            have fe4 := free_of_heap bk (i := 4)
            have ce0 := cell_of_heap bk (i := 0)
            have ce1 := cell_of_heap bk (i := 1)
            have ce2 := cell_of_heap bk (i := 2)
            have ce3 := cell_of_heap bk (i := 3)
            have ce4 := cell_of_heap bk (i := 4)
            simp only [List.getElem?_toArray, List.getElem?_cons_succ, List.getElem?_cons_zero] at ce0 ce1 ce2 ce3 ce4
            clear bk
            clear hN2 hNL1
            go_wp2_with fail
          have h2 := ((((HO.out.store (i := 0) (.int .i64 k.op)).store (i := 1) (.string (bs k.name))).store (i := 2) (.int .i64 k.cmp)).store (i := 3) (.int .i64 k.num)).store (i := 4) (.slice y2 N2 m2)
          exact bodyPost_ret (list_res rfl h2.blk.1) (by rfl) ⟨k, _, _, rfl, HD.out, h2.pop⟩
        · have h1' : ((NL : Int) == 1) = false := by simp; omega
          have HM : Hid (mkL op (L.map Prod.fst) = .mk op [] 0 0 (L.map Prod.fst)) := by
            show _ = _
            rcases L with _ | ⟨a, _ | ⟨b, L⟩⟩
            · exact absurd rfl HL0.out
            · exact absurd HNL.out h1
            · rfl
          replace HO := Lib.hid ((HO.out.knode op [] 0 0).re [2, 0, 1])
          simp only [fobj0] at HO
          focus
            obtain ⟨bk, -⟩ := HO.out.blk
            have hbe := lt_of_block bk
            have fe0 := free_of_heap bk (i := 0)
            have fe1 := free_of_heap bk (i := 1)
            have fe2 := free_of_heap bk (i := 2)
            have fe3 := free_of_heap bk (i := 3)
            have fe4 := free_of_heap bk (i := 4)
            have ce0 := cell_of_heap bk (i := 0)
            have ce1 := cell_of_heap bk (i := 1)
            have ce2 := cell_of_heap bk (i := 2)
            have ce3 := cell_of_heap bk (i := 3)
            have ce4 := cell_of_heap bk (i := 4)
            simp only [List.getElem?_toArray, List.getElem?_cons_succ, List.getElem?_cons_zero] at ce0 ce1 ce2 ce3 ce4
            clear bk
            clear h1 hNL1
            go_wp2_with fail
          have h2 := ((((HO.out.store (i := 0) (.int .i64 op)).store (i := 1) (.string ⟨#[]⟩)).store (i := 2) (.int .i64 0)).store (i := 3) (.int .i64 0)).store (i := 4) (.slice y NL m)
          exact bodyPost_ret (list_res rfl h2.blk.1) (by rfl) ⟨_, _, _, rfl, HM.out ▸ HD.out, h2.pop⟩
      have ht' : ((t.kind : Int) == 1) = true := by simp; omega
      by_cases hw : t.text = word
      case neg =>
        have hw' : (t.text == word) = false := by simpa using hw
        have HD : Hid (Did (partsF op word part) s0 (mkL op (L.map Prod.fst)) (.ok (t :: r))) := HPI.out.1.stop HPI.out.2 (fun t' r' e h => by cases e; exact hw h.2)
        clear HPI hJ1 hK1 ht hw
        -- the loop is over: HO (kidsP L v :: parP s :: blk b8 ..), HD : what was read
        obtain ⟨y, m, rfl⟩ := HO.out.kform
        obtain ⟨NL, hNL⟩ : ∃ NL, NL = L.length := ⟨_, rfl⟩
        have HNL := Lib.hid hNL
        have hNL1 : 1 ≤ NL := by rw [hNL]; exact List.length_pos_iff.2 HL0.out
        rw [← hNL] at HO ⊢
        clear hNL
        by_cases h1 : NL = 1
        · subst h1
          obtain ⟨⟨k, kv⟩, rfl⟩ : ∃ p, L = [p] := List.length_eq_one_iff.1 HNL.out.symm
          have HF := Lib.hid HO.out.konly.fm
          obtain ⟨y2, m2, rfl⟩ := HF.out.form
          obtain ⟨N2, hN2⟩ : ∃ N2, N2 = k.kids.length := ⟨_, rfl⟩
          rw [← hN2] at HO HF
          obtain ⟨gk, mk, e1, hgm, hgk, d0, d1, d2, d3, d4⟩ := HO.out.kget (j := 0) rfl
          simp only [Value.slice.injEq] at e1
          obtain ⟨rfl, -, rfl⟩ := e1
          simp only [Nat.zero_mul, Nat.zero_add] at d0 d1 d2 d3 d4
          replace HO := Lib.hid (HO.out.konly.re [2, 0, 1])
          simp only [fobj0] at HO
          focus
            obtain ⟨bk, -⟩ := HO.out.blk
            have hbe := lt_of_block bk
            have fe0 := free_of_heap bk (i := 0)
            have fe1 := free_of_heap bk (i := 1)
            have fe2 := free_of_heap bk (i := 2)
            have fe3 := free_of_heap bk (i := 3)
            have fe4 := free_of_heap bk (i := 4)
            have ce0 := cell_of_heap bk (i := 0)
            have ce1 := cell_of_heap bk (i := 1)
            have ce2 := cell_of_heap bk (i := 2)
            have ce3 := cell_of_heap bk (i := 3)
            have ce4 := cell_of_heap bk (i := 4)
            simp only [List.getElem?_toArray, List.getElem?_cons_succ, List.getElem?_cons_zero] at ce0 ce1 ce2 ce3 ce4
            clear bk
            clear hN2 hNL1
            go_wp2_with fail
          have h2 := ((((HO.out.store (i := 0) (.int .i64 k.op)).store (i := 1) (.string (bs k.name))).store (i := 2) (.int .i64 k.cmp)).store (i := 3) (.int .i64 k.num)).store (i := 4) (.slice y2 N2 m2)
          exact bodyPost_ret (list_res rfl h2.blk.1) (by rfl) ⟨k, _, _, rfl, HD.out, h2.pop⟩
        · have h1' : ((NL : Int) == 1) = false := by simp; omega
          have HM : Hid (mkL op (L.map Prod.fst) = .mk op [] 0 0 (L.map Prod.fst)) := by
            show _ = _
            rcases L with _ | ⟨a, _ | ⟨b, L⟩⟩
            · exact absurd rfl HL0.out
            · exact absurd HNL.out h1
            · rfl
          replace HO := Lib.hid ((HO.out.knode op [] 0 0).re [2, 0, 1])
          simp only [fobj0] at HO
          focus
            obtain ⟨bk, -⟩ := HO.out.blk
            have hbe := lt_of_block bk
            have fe0 := free_of_heap bk (i := 0)
            have fe1 := free_of_heap bk (i := 1)
            have fe2 := free_of_heap bk (i := 2)
            have fe3 := free_of_heap bk (i := 3)
            have fe4 := free_of_heap bk (i := 4)
            have ce0 := cell_of_heap bk (i := 0)
            have ce1 := cell_of_heap bk (i := 1)
            have ce2 := cell_of_heap bk (i := 2)
            have ce3 := cell_of_heap bk (i := 3)
            have ce4 := cell_of_heap bk (i := 4)
            simp only [List.getElem?_toArray, List.getElem?_cons_succ, List.getElem?_cons_zero] at ce0 ce1 ce2 ce3 ce4
            clear bk
            clear h1 hNL1
            go_wp2_with fail
          have h2 := ((((HO.out.store (i := 0) (.int .i64 op)).store (i := 1) (.string ⟨#[]⟩)).store (i := 2) (.int .i64 0)).store (i := 3) (.int .i64 0)).store (i := 4) (.slice y NL m)
          exact bodyPost_ret (list_res rfl h2.blk.1) (by rfl) ⟨_, _, _, rfl, HM.out ▸ HD.out, h2.pop⟩
      have hw' : (t.text == word) = true := by simpa using hw
      have HT : Hid (t.kind = 1 ∧ t.text = word) := ⟨ht, hw⟩
      clear ht hw
      rw [← HN.out] at hLl
      go_wp2_with fail
      clear hbp cp0 c0 c1 c2 c3 hg ht' hw' hN0 hNm
      go_at_call 153
      refine (take_c (w0 := w0) (bp := bp) (fin := fin) (kidsP L v :: blk b8 fobj0 :: ps) (.ok (t :: r)) wr HO.out.swap (by have h1 := HPI.out.2; have h2 := HS.out; have h3 := HB.out; omega)).mono ?_
      rintro e W3 ⟨rfl, ho⟩
      have HO3 : Hid (Owns w0 W3 (parP w0 bp fin (.ok r) :: kidsP L v :: blk b8 fobj0 :: ps)) := Lib.hid ho
      clear ho HO
      go_wp2_with fail
      refine (HCh.out (kidsP L v :: blk b8 fobj0 :: ps) (.ok r) W3 (by have h1 := HPI.out.2; have h2 := HS.out; simp [toks] at h1 h2 ⊢; omega) HO3.out).mono ?_
      rintro e W4 ⟨f, kv, s2, rfl, hd, ho⟩
      have HPI2 : Hid (PI op word part s0 ((L ++ [(f, kv)]).map Prod.fst) s2 ∧ (toks s2).length ≤ (toks s0).length ∧ (toks s2).length < N) := by
        refine ⟨by rw [List.map_append]; exact HPI.out.1.step HT.out hd, ?_, ?_⟩
        · have h1 := HPI.out.2; have h2 := hd.2.1; simp [toks] at h1 h2 ⊢; omega
        · rw [HN.out]; have h2 := hd.2.1; simp [toks] at h2 ⊢; omega
      obtain ⟨y2, m2, rfl⟩ := ho.fm.form
      obtain ⟨N2, hN2⟩ : ∃ N2, N2 = f.kids.length := ⟨_, rfl⟩
      rw [← hN2] at ho HPI2 ⊢
      have HO4 : Hid (Owns w0 (W4.alloc (.cells #[.int .i64 f.op, .string (bs f.name), .int .i64 f.cmp, .int .i64 f.num, .slice y2 N2 m2] 24)) (kidsP L v :: fmP f (.slice y2 N2 m2) :: parP w0 bp fin s2 :: blk b8 fobj0 :: ps)) := Lib.hid ((ho.alloc _).re [2, 0, 1])
      have hLl2 : L.length ≤ 1000001 := by omega
      clear ho hd hN2 HO3 HPI
      go_wp2_with (refine wpList_plain rfl fun K hK => wp_append (.tmp 42) (.tmp 45) 22 (by rfl) 24 _ 5 64 Tryz.underlying22 info_fm (by rfl) (by omega) v L.length _ (by rfl) HO4.out.krow W4.heap.size 1 1 (fcells f (.slice y2 N2 m2)) (by rfl) (by rfl) 24 (by exact new_heap W4 _ _ rfl) (by simp [fcells, Value.oneCell']) (by omega) (by omega) ?_; intro v' w2 hrow hgrow hblk; have HO5 := Lib.hid (HO4.out.kid hrow hgrow hblk); clear hrow hgrow hblk)
      go_roundg (toks s2).length
      case measure => have := HPI2.out.2.2; rw [HN.out] at this; exact this
      case rel => exact ⟨L ++ [(f, .slice y2 N2 m2)], s2, _, rfl, rfl, by have := HPI2.out.2.2; rw [List.length_append, List.length_singleton]; omega, HO5, Lib.hid ⟨HPI2.out.1, HPI2.out.2.1⟩⟩
end
end Go.Proofs.YtoeknmkephnekaaGreatDoor
