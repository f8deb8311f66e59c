/-
  The reference's reader: 'Fail', 'Token', 'Sees'.
-/
import Derived.Test.YtagoefnibgobcaaGreatDoorFmPars
namespace Go.Proofs.YtagoefnibgobcaaGreatDoor
open Go.RowKit Go.Cz Go.Cz.Lx Go.Cz.Fo
set_option linter.unusedSimpArgs false
set_option linter.unusedVariables false
attribute [local go_sem] bs_size bs_extract bs_append bs_toList
attribute [local irreducible] cList cPlan
abbrev rdobj (v : Value) (i : Nat) (fin : Int) (s : PSt) : Obj := .cells #[v, .int .i64 (i : Nat), .int .i64 fin, .int .i64 (code s : Nat), .int .i64 (pos s)] 78 (0, 0)
/-- The reader: all tokens in an older row, the index of the next one. -/
def rdP (w0 : World) (bp : Nat) (fin : Int) (all : List Tok) (v : Value) (s : PSt) : Piece where
  lies w S := S = [bp] ∧ PSt.fine s ∧ TokL w0 v all ∧ ∃ i : Nat, i ≤ all.length ∧ (∀ ts, s = .ok ts → all.drop i = ts) ∧ w.heap[bp]? = some (rdobj v i fin s)
  lt := by rintro w S ⟨rfl, -, -, i, -, -, h⟩ k hk; simp at hk; subst hk; exact lt_of_block h
  keep := by rintro w w' S T ⟨rfl, hf, hv, i, hi, hd, h⟩ hm hx; exact ⟨rfl, hf, hv, i, hi, hd, hm.heap h (hx bp (by simp))⟩
end Go.Proofs.YtagoefnibgobcaaGreatDoor
namespace Go.Cz
open Go.RowKit Go.Cz.Lx Go.Cz.Fo Go.Proofs.YtagoefnibgobcaaGreatDoor
set_option linter.unusedVariables false
section
variable {w0 w W : World} {ps : List Piece} {bp i : Nat} {fin : Int} {s : PSt} {v : Value} {all : List Tok}
theorem Owns.rd (h : Owns w0 w (rdP W bp fin all v s :: ps)) : PSt.fine s ∧ TokL W v all ∧ ∃ i, i ≤ all.length ∧ (∀ ts, s = .ok ts → all.drop i = ts) ∧ Owns w0 w (Cz.blk bp (rdobj v i fin s) :: ps) := by
  obtain ⟨S, ⟨rfl, hf, hv, i, hi, hd, h1⟩, -⟩ := h.first
  refine ⟨hf, hv, i, hi, hd, ?_⟩
  obtain ⟨S, ⟨rfl, -⟩, -, hq⟩ := h.open
  exact hq w _ [bp] ⟨rfl, h1⟩ (Mod.refl _ _) fun k hk => .inl hk
theorem Owns.asRd (h : Owns w0 w (Cz.blk bp (rdobj v i fin s) :: ps)) (hf : PSt.fine s) (hv : TokL W v all) (hi : i ≤ all.length) (hd : ∀ ts, s = .ok ts → all.drop i = ts) : Owns w0 w (rdP W bp fin all v s :: ps) :=
  h.turn fun S hS => ⟨hS.1, hf, hv, i, hi, hd, hS.2⟩
end
end Go.Cz
namespace Go.Cz.Fo
open Go.Cz.Lx
theorem drop_cons {all : List Tok} {i : Nat} {t : Tok} {r : List Tok} (h : all.drop i = t :: r) : i < all.length ∧ all[i]? = some t ∧ all.drop (i + 1) = r := by
  have hi : i < all.length := Decidable.byContradiction fun hx => by
    rw [List.drop_of_length_le (by omega)] at h
    cases h
  rw [List.drop_eq_getElem_cons hi] at h
  injection h with h1 h2
  exact ⟨hi, by rw [List.getElem?_eq_getElem hi, h1], h2⟩
theorem drop_nil {all : List Tok} {i : Nat} (h : all.drop i = []) (hi : i ≤ all.length) : i = all.length := by
  have := congrArg List.length h
  rw [List.length_drop, List.length_nil] at this
  omega
/-- Whether the next token has a kind and a text. -/
def seesB (s : PSt) (k : Nat) (u : Bytes) : Bool := match s with | .ok (t :: _) => decide (t.kind = k) && decide (t.text = u) | _ => false
end Go.Cz.Fo
namespace Go.Proofs.YtagoefnibgobcaaGreatDoor
open Go.RowKit Go.Cz Go.Cz.Lx Go.Cz.Fo
set_option linter.unusedSimpArgs false
set_option linter.unusedVariables false
attribute [local go_sem] bs_size bs_extract bs_append bs_toList
attribute [local irreducible] cList cPlan
section
variable {w0 : World} {bp : Nat} {fin : Int} {all : List Tok} {v : Value}
theorem rfail_c (ps : List Piece) (s : PSt) (e : Nat) (a : Int) (he : e ≠ 0) (he2 : e ≤ 1000) (w : World) (h : Owns w0 w (rdP w0 bp fin all v s :: ps)) :
    Calls Tryz.prog 60 #[.pointer (some ⟨bp, 0, none⟩), .int .i64 (e : Nat), .int .i64 a] w fun x w' => x = .returned (.tuple #[]) ∧ Owns w0 w' (rdP w0 bp fin all v (failS s e a) :: ps) := by
  obtain ⟨hf, hv, i, hi, hd, h1⟩ := h.rd
  have HO := Lib.hid h1
  have HV := Lib.hid hv
  have HI := Lib.hid hi
  cases s with
  | error x =>
    have hx : x.1 ≠ 0 := hf
    have hx' : ((x.1 : Int) == 0) = false := by simpa using hx
    have HE : Hid (failS (.error x) e a = .error x) := rfl
    have HP := Lib.hid h
    obtain ⟨c, hc⟩ : ∃ c, c = x.1 := ⟨_, rfl⟩
    simp only [rdobj, code, pos] at HO
    rw [← hc] at HO hx'
    clear h h1 hv hf hx hc hi hd
    obtain ⟨bk, -⟩ := HO.out.blk
    have hbp := lt_of_block bk
    have fp0 := free_of_heap bk (i := 0)
    have fp1 := free_of_heap bk (i := 1)
    have fp2 := free_of_heap bk (i := 2)
    have fp3 := free_of_heap bk (i := 3)
    have fp4 := free_of_heap bk (i := 4)
    have cp0 := cell_of_heap bk (i := 0)
    have cp1 := cell_of_heap bk (i := 1)
    have cp2 := cell_of_heap bk (i := 2)
    have cp3 := cell_of_heap bk (i := 3)
    have cp4 := cell_of_heap bk (i := 4)
    simp only [List.getElem?_toArray, List.getElem?_cons_succ, List.getElem?_cons_zero] at cp0 cp1 cp2 cp3 cp4
    clear bk
    go_enter Tryz.func60, Tryz.ntmps60
    go_wp2_with fail
    go_end0
    exact ⟨rfl, by rw [HE.out]; exact HP.out⟩
  | ok ts =>
    have HE : Hid (failS (.ok ts) e a = .error (e, a)) := rfl
    have HEe := Lib.hid he
    simp only [rdobj, code, pos] at HO
    clear h h1 hv hf he hi hd
    obtain ⟨bk, -⟩ := HO.out.blk
    have hbp := lt_of_block bk
    have fp0 := free_of_heap bk (i := 0)
    have fp1 := free_of_heap bk (i := 1)
    have fp2 := free_of_heap bk (i := 2)
    have fp3 := free_of_heap bk (i := 3)
    have fp4 := free_of_heap bk (i := 4)
    have cp0 := cell_of_heap bk (i := 0)
    have cp1 := cell_of_heap bk (i := 1)
    have cp2 := cell_of_heap bk (i := 2)
    have cp3 := cell_of_heap bk (i := 3)
    have cp4 := cell_of_heap bk (i := 4)
    simp only [List.getElem?_toArray, List.getElem?_cons_succ, List.getElem?_cons_zero] at cp0 cp1 cp2 cp3 cp4
    clear bk
    go_enter Tryz.func60, Tryz.ntmps60
    go_wp2_with fail
    go_end0
    refine ⟨rfl, ?_⟩
    rw [HE.out]
    have h2 := (HO.out.store (i := 3) (.int .i64 (e : Int))).store (i := 4) (.int .i64 a)
    exact Owns.asRd h2 HEe.out HV.out HI.out (fun ts h => by cases h)
theorem rtoken_res {W : World} {tmps : Array Value} {g : Nat} {v0 v1 v2 v3 : Value} (h4 : tmps.getD 2 undef = .pointer (some ⟨g, 0, none⟩)) (hb : W.heap[g]? = some (.cells #[v0, v1, v2, v3] 75 (0, 0))) :
    (results Tryz.f120 tmps).run Tryz.prog W = .ok (.agg #[v0, v1, v2, v3]) W := by
  have c0 : W.cell? ⟨g, 0, none⟩ = some v0 := by rw [cell_of_heap hb]; rfl
  have c1 : W.cell? ⟨g, 1, none⟩ = some v1 := by rw [cell_of_heap hb]; rfl
  have c2 : W.cell? ⟨g, 2, none⟩ = some v2 := by rw [cell_of_heap hb]; rfl
  have c3 : W.cell? ⟨g, 3, none⟩ = some v3 := by rw [cell_of_heap hb]; rfl
  have h4' : tmps[2]?.getD undef = .pointer (some ⟨g, 0, none⟩) := by simpa using h4
  simp [results, Tryz.results120, go_sem, h4', c0, c1, c2, c3]
set_option maxHeartbeats 4000000 in
theorem rtoken_c (ps : List Piece) (s : PSt) (w : World) (hN9 : all.length ≤ 1000000) (h : Owns w0 w (rdP w0 bp fin all v s :: ps)) :
    Calls Tryz.prog 120 #[.pointer (some ⟨bp, 0, none⟩)] w fun x w' => x = .returned (tval (nextT s)) ∧ Owns w0 w' (rdP w0 bp fin all v (nextS fin s) :: ps) := by
  obtain ⟨hf, hv, i, hi, hd, h1⟩ := h.rd
  have HPf := Lib.hid fun ps s => rfail_c (w0 := w0) (bp := bp) (fin := fin) (all := all) (v := v) ps s 6 fin (by omega) (by omega)
  obtain ⟨y, m, rfl⟩ := hv.form
  obtain ⟨N, hN⟩ : ∃ N, N = all.length := ⟨_, rfl⟩
  rw [← hN] at hv h1 hN9 HPf
  have HO := Lib.hid h1
  have HV := Lib.hid hv
  have HI := Lib.hid hi
  have HD := Lib.hid hd
  have HFi := Lib.hid hf
  have HNl := Lib.hid hN
  have hiN : i ≤ N := by omega
  simp only [← hN]
  clear h h1 hv hi hd hf hN
  rcases s with ⟨c, a⟩ | (_ | ⟨t, r⟩)
  · have HE : Hid (nextS fin (.error (c, a)) = .error (c, a) ∧ nextT (.error (c, a)) = zTok) := ⟨rfl, rfl⟩
    have hx0 : c ≠ 0 := HFi.out
    have hx' : ((c : Int) != 0) = true := by simpa using hx0
    clear hx0
    by_cases hlt : i < N
    · -- the box of the result, and the first region; .error (c, a) the reader's object's state
      obtain ⟨W1, hW1⟩ : ∃ W1, W1 = w.alloc (.cells #[.int .i64 0, .int .i64 0, .int .i64 0, .string ⟨#[]⟩] 75) := ⟨_, rfl⟩
      obtain ⟨b2, hb2⟩ : ∃ b2, b2 = w.heap.size := ⟨_, rfl⟩
      replace HO : Hid (Owns w0 W1 (blk bp (rdobj (.slice y N m) i fin (.error (c, a))) :: blk b2 tobj0 :: ps)) := by
        rw [hW1, hb2]
        exact Lib.hid (HO.out.box tobj0).swap
      simp only [rdobj, code, pos] at HO
      go_enter Tryz.func120, Tryz.ntmps120
      go_wp2_with fail
      rw [← hW1, ← hb2]
      clear hW1 hb2
      refine wp_region_can [] (List.range 10) (by decide +kernel) (by decide +kernel) ?_
      replace HO := Lib.hid HO.out.drew
      generalize hWd : World.drew _ = W2 at HO ⊢
      clear hWd
      focus
        obtain ⟨bk, -⟩ := HO.out.blk
        have hbp := lt_of_block bk
        have fp0 := free_of_heap bk (i := 0)
        have fp1 := free_of_heap bk (i := 1)
        have fp2 := free_of_heap bk (i := 2)
        have fp3 := free_of_heap bk (i := 3)
        have fp4 := free_of_heap bk (i := 4)
        have cp0 := cell_of_heap bk (i := 0)
        have cp1 := cell_of_heap bk (i := 1)
        have cp2 := cell_of_heap bk (i := 2)
        have cp3 := cell_of_heap bk (i := 3)
        have cp4 := cell_of_heap bk (i := 4)
        simp only [List.getElem?_toArray, List.getElem?_cons_succ, List.getElem?_cons_zero] at cp0 cp1 cp2 cp3 cp4
        clear bk
        iterate 10 (refine cl_do rfl rfl rfl (by first | rfl | simp [okB, lenV, plainV, Act.eval]) (fun _ _ => ?_); go_wp2_with fail)
        clear hbp fp0 fp1 fp2 fp3 fp4 cp0 cp1 cp2 cp3 cp4
      refine cl_nil ?_
      -- an error: the zero token
      have HO4 := Lib.hid HO.out.swap
      obtain ⟨bk, -⟩ := HO.out.blk
      have hbp := lt_of_block bk
      have fp0 := free_of_heap bk (i := 0)
      have fp1 := free_of_heap bk (i := 1)
      have fp2 := free_of_heap bk (i := 2)
      have fp3 := free_of_heap bk (i := 3)
      have fp4 := free_of_heap bk (i := 4)
      have cp0 := cell_of_heap bk (i := 0)
      have cp1 := cell_of_heap bk (i := 1)
      have cp2 := cell_of_heap bk (i := 2)
      have cp3 := cell_of_heap bk (i := 3)
      have cp4 := cell_of_heap bk (i := 4)
      simp only [List.getElem?_toArray, List.getElem?_cons_succ, List.getElem?_cons_zero] at cp0 cp1 cp2 cp3 cp4
      clear bk
      obtain ⟨bk, -⟩ := HO4.out.blk
      have ht := lt_of_block bk
      have ft0 := free_of_heap bk (i := 0)
      have ft1 := free_of_heap bk (i := 1)
      have ft2 := free_of_heap bk (i := 2)
      have ft3 := free_of_heap bk (i := 3)
      have ct0 := cell_of_heap bk (i := 0)
      have ct1 := cell_of_heap bk (i := 1)
      have ct2 := cell_of_heap bk (i := 2)
      have ct3 := cell_of_heap bk (i := 3)
      simp only [List.getElem?_toArray, List.getElem?_cons_succ, List.getElem?_cons_zero] at ct0 ct1 ct2 ct3
      clear bk
      go_wp2_with fail
      have h2 := (((HO4.out.store (i := 0) (.int .i64 0)).store (i := 1) (.int .i64 0)).store (i := 2) (.int .i64 0)).store (i := 3) (.string ⟨#[]⟩)
      refine bodyPost_ret (rtoken_res rfl h2.blk.1) (by rfl) ⟨by rw [HE.out.2]; rfl, ?_⟩
      rw [HE.out.1]
      exact Owns.asRd h2.pop (HFi.out) HV.out HI.out (fun ts h => by cases h)
    · obtain rfl : N = i := by omega
      clear hlt
      -- the box of the result, and the first region; .error (c, a) the reader's object's state
      obtain ⟨W1, hW1⟩ : ∃ W1, W1 = w.alloc (.cells #[.int .i64 0, .int .i64 0, .int .i64 0, .string ⟨#[]⟩] 75) := ⟨_, rfl⟩
      obtain ⟨b2, hb2⟩ : ∃ b2, b2 = w.heap.size := ⟨_, rfl⟩
      replace HO : Hid (Owns w0 W1 (blk bp (rdobj (.slice y N m) N fin (.error (c, a))) :: blk b2 tobj0 :: ps)) := by
        rw [hW1, hb2]
        exact Lib.hid (HO.out.box tobj0).swap
      simp only [rdobj, code, pos] at HO
      go_enter Tryz.func120, Tryz.ntmps120
      go_wp2_with fail
      rw [← hW1, ← hb2]
      clear hW1 hb2
      refine wp_region_can [] (List.range 10) (by decide +kernel) (by decide +kernel) ?_
      replace HO := Lib.hid HO.out.drew
      generalize hWd : World.drew _ = W2 at HO ⊢
      clear hWd
      focus
        obtain ⟨bk, -⟩ := HO.out.blk
        have hbp := lt_of_block bk
        have fp0 := free_of_heap bk (i := 0)
        have fp1 := free_of_heap bk (i := 1)
        have fp2 := free_of_heap bk (i := 2)
        have fp3 := free_of_heap bk (i := 3)
        have fp4 := free_of_heap bk (i := 4)
        have cp0 := cell_of_heap bk (i := 0)
        have cp1 := cell_of_heap bk (i := 1)
        have cp2 := cell_of_heap bk (i := 2)
        have cp3 := cell_of_heap bk (i := 3)
        have cp4 := cell_of_heap bk (i := 4)
        simp only [List.getElem?_toArray, List.getElem?_cons_succ, List.getElem?_cons_zero] at cp0 cp1 cp2 cp3 cp4
        clear bk
        iterate 10 (refine cl_do rfl rfl rfl (by first | rfl | simp [okB, lenV, plainV, Act.eval]) (fun _ _ => ?_); go_wp2_with fail)
        clear hbp fp0 fp1 fp2 fp3 fp4 cp0 cp1 cp2 cp3 cp4
      refine cl_nil ?_
      -- I >= len(L): Fail; the state is .error (c, a)
      focus
        obtain ⟨bk, -⟩ := HO.out.blk
        have hbp := lt_of_block bk
        have fp0 := free_of_heap bk (i := 0)
        have fp1 := free_of_heap bk (i := 1)
        have fp2 := free_of_heap bk (i := 2)
        have fp3 := free_of_heap bk (i := 3)
        have fp4 := free_of_heap bk (i := 4)
        have cp0 := cell_of_heap bk (i := 0)
        have cp1 := cell_of_heap bk (i := 1)
        have cp2 := cell_of_heap bk (i := 2)
        have cp3 := cell_of_heap bk (i := 3)
        have cp4 := cell_of_heap bk (i := 4)
        simp only [List.getElem?_toArray, List.getElem?_cons_succ, List.getElem?_cons_zero] at cp0 cp1 cp2 cp3 cp4
        clear bk
        go_wp2_with fail
        clear hbp fp0 fp1 fp2 fp3 fp4 cp0 cp1 cp2 cp3 cp4
      refine (HPf.out (blk b2 tobj0 :: ps) (.error (c, a)) W2 (Owns.asRd (s := .error (c, a)) HO.out HFi.out HV.out HI.out HD.out)).mono ?_
      rintro e W3 ⟨rfl, ho⟩
      replace HO := Lib.hid ho
      clear ho
      rw [show failS (.error (c, a)) 6 fin = .error (c, a) from rfl] at HO
      obtain ⟨hf, hv, i2, hi2, hd2, h1⟩ := HO.out.rd
      replace HO := Lib.hid h1
      replace HI := Lib.hid hi2
      replace HD := Lib.hid hd2
      clear hf hv hd2 h1 hi2
      simp only [rdobj, code, pos] at HO
      -- an error: the zero token
      have HO4 := Lib.hid HO.out.swap
      obtain ⟨bk, -⟩ := HO.out.blk
      have hbp := lt_of_block bk
      have fp0 := free_of_heap bk (i := 0)
      have fp1 := free_of_heap bk (i := 1)
      have fp2 := free_of_heap bk (i := 2)
      have fp3 := free_of_heap bk (i := 3)
      have fp4 := free_of_heap bk (i := 4)
      have cp0 := cell_of_heap bk (i := 0)
      have cp1 := cell_of_heap bk (i := 1)
      have cp2 := cell_of_heap bk (i := 2)
      have cp3 := cell_of_heap bk (i := 3)
      have cp4 := cell_of_heap bk (i := 4)
      simp only [List.getElem?_toArray, List.getElem?_cons_succ, List.getElem?_cons_zero] at cp0 cp1 cp2 cp3 cp4
      clear bk
      obtain ⟨bk, -⟩ := HO4.out.blk
      have ht := lt_of_block bk
      have ft0 := free_of_heap bk (i := 0)
      have ft1 := free_of_heap bk (i := 1)
      have ft2 := free_of_heap bk (i := 2)
      have ft3 := free_of_heap bk (i := 3)
      have ct0 := cell_of_heap bk (i := 0)
      have ct1 := cell_of_heap bk (i := 1)
      have ct2 := cell_of_heap bk (i := 2)
      have ct3 := cell_of_heap bk (i := 3)
      simp only [List.getElem?_toArray, List.getElem?_cons_succ, List.getElem?_cons_zero] at ct0 ct1 ct2 ct3
      clear bk
      go_wp2_with fail
      have h2 := (((HO4.out.store (i := 0) (.int .i64 0)).store (i := 1) (.int .i64 0)).store (i := 2) (.int .i64 0)).store (i := 3) (.string ⟨#[]⟩)
      refine bodyPost_ret (rtoken_res rfl h2.blk.1) (by rfl) ⟨by rw [HE.out.2]; rfl, ?_⟩
      rw [HE.out.1]
      exact Owns.asRd h2.pop (HFi.out) HV.out HI.out (fun ts h => by cases h)
  · have HE : Hid (nextS fin (.ok []) = .error (6, fin) ∧ nextT (.ok []) = zTok) := ⟨rfl, rfl⟩
    obtain rfl : N = i := by rw [HNl.out]; exact (drop_nil (HD.out [] rfl) (by have := HI.out; omega)).symm
    -- the box of the result, and the first region; .ok [] the reader's object's state
    obtain ⟨W1, hW1⟩ : ∃ W1, W1 = w.alloc (.cells #[.int .i64 0, .int .i64 0, .int .i64 0, .string ⟨#[]⟩] 75) := ⟨_, rfl⟩
    obtain ⟨b2, hb2⟩ : ∃ b2, b2 = w.heap.size := ⟨_, rfl⟩
    replace HO : Hid (Owns w0 W1 (blk bp (rdobj (.slice y N m) N fin (.ok [])) :: blk b2 tobj0 :: ps)) := by
      rw [hW1, hb2]
      exact Lib.hid (HO.out.box tobj0).swap
    simp only [rdobj, code, pos] at HO
    go_enter Tryz.func120, Tryz.ntmps120
    go_wp2_with fail
    rw [← hW1, ← hb2]
    clear hW1 hb2
    refine wp_region_can [] (List.range 10) (by decide +kernel) (by decide +kernel) ?_
    replace HO := Lib.hid HO.out.drew
    generalize hWd : World.drew _ = W2 at HO ⊢
    clear hWd
    focus
      obtain ⟨bk, -⟩ := HO.out.blk
      have hbp := lt_of_block bk
      have fp0 := free_of_heap bk (i := 0)
      have fp1 := free_of_heap bk (i := 1)
      have fp2 := free_of_heap bk (i := 2)
      have fp3 := free_of_heap bk (i := 3)
      have fp4 := free_of_heap bk (i := 4)
      have cp0 := cell_of_heap bk (i := 0)
      have cp1 := cell_of_heap bk (i := 1)
      have cp2 := cell_of_heap bk (i := 2)
      have cp3 := cell_of_heap bk (i := 3)
      have cp4 := cell_of_heap bk (i := 4)
      simp only [List.getElem?_toArray, List.getElem?_cons_succ, List.getElem?_cons_zero] at cp0 cp1 cp2 cp3 cp4
      clear bk
      iterate 10 (refine cl_do rfl rfl rfl (by first | rfl | simp [okB, lenV, plainV, Act.eval]) (fun _ _ => ?_); go_wp2_with fail)
      clear hbp fp0 fp1 fp2 fp3 fp4 cp0 cp1 cp2 cp3 cp4
    refine cl_nil ?_
    -- I >= len(L): Fail; the state is .ok []
    focus
      obtain ⟨bk, -⟩ := HO.out.blk
      have hbp := lt_of_block bk
      have fp0 := free_of_heap bk (i := 0)
      have fp1 := free_of_heap bk (i := 1)
      have fp2 := free_of_heap bk (i := 2)
      have fp3 := free_of_heap bk (i := 3)
      have fp4 := free_of_heap bk (i := 4)
      have cp0 := cell_of_heap bk (i := 0)
      have cp1 := cell_of_heap bk (i := 1)
      have cp2 := cell_of_heap bk (i := 2)
      have cp3 := cell_of_heap bk (i := 3)
      have cp4 := cell_of_heap bk (i := 4)
      simp only [List.getElem?_toArray, List.getElem?_cons_succ, List.getElem?_cons_zero] at cp0 cp1 cp2 cp3 cp4
      clear bk
      go_wp2_with fail
      clear hbp fp0 fp1 fp2 fp3 fp4 cp0 cp1 cp2 cp3 cp4
    refine (HPf.out (blk b2 tobj0 :: ps) (.ok []) W2 (Owns.asRd (s := .ok []) HO.out HFi.out HV.out HI.out HD.out)).mono ?_
    rintro e W3 ⟨rfl, ho⟩
    replace HO := Lib.hid ho
    clear ho
    rw [show failS (.ok []) 6 fin = .error (6, fin) from rfl] at HO
    obtain ⟨hf, hv, i2, hi2, hd2, h1⟩ := HO.out.rd
    replace HO := Lib.hid h1
    replace HI := Lib.hid hi2
    replace HD := Lib.hid hd2
    clear hf hv hd2 h1 hi2
    simp only [rdobj, code, pos] at HO
    have hx' : (((6 : Nat) : Int) != 0) = true := by decide
    -- an error: the zero token
    have HO4 := Lib.hid HO.out.swap
    obtain ⟨bk, -⟩ := HO.out.blk
    have hbp := lt_of_block bk
    have fp0 := free_of_heap bk (i := 0)
    have fp1 := free_of_heap bk (i := 1)
    have fp2 := free_of_heap bk (i := 2)
    have fp3 := free_of_heap bk (i := 3)
    have fp4 := free_of_heap bk (i := 4)
    have cp0 := cell_of_heap bk (i := 0)
    have cp1 := cell_of_heap bk (i := 1)
    have cp2 := cell_of_heap bk (i := 2)
    have cp3 := cell_of_heap bk (i := 3)
    have cp4 := cell_of_heap bk (i := 4)
    simp only [List.getElem?_toArray, List.getElem?_cons_succ, List.getElem?_cons_zero] at cp0 cp1 cp2 cp3 cp4
    clear bk
    obtain ⟨bk, -⟩ := HO4.out.blk
    have ht := lt_of_block bk
    have ft0 := free_of_heap bk (i := 0)
    have ft1 := free_of_heap bk (i := 1)
    have ft2 := free_of_heap bk (i := 2)
    have ft3 := free_of_heap bk (i := 3)
    have ct0 := cell_of_heap bk (i := 0)
    have ct1 := cell_of_heap bk (i := 1)
    have ct2 := cell_of_heap bk (i := 2)
    have ct3 := cell_of_heap bk (i := 3)
    simp only [List.getElem?_toArray, List.getElem?_cons_succ, List.getElem?_cons_zero] at ct0 ct1 ct2 ct3
    clear bk
    go_wp2_with fail
    have h2 := (((HO4.out.store (i := 0) (.int .i64 0)).store (i := 1) (.int .i64 0)).store (i := 2) (.int .i64 0)).store (i := 3) (.string ⟨#[]⟩)
    refine bodyPost_ret (rtoken_res rfl h2.blk.1) (by rfl) ⟨by rw [HE.out.2]; rfl, ?_⟩
    rw [HE.out.1]
    exact Owns.asRd h2.pop ((show PSt.fine (.error (6, fin)) from by simp [PSt.fine])) HV.out HI.out (fun ts h => by cases h)
  · have HE : Hid (nextS fin (.ok (t :: r)) = .ok r ∧ nextT (.ok (t :: r)) = t) := ⟨rfl, rfl⟩
    obtain ⟨hlt, hit, hdr⟩ := drop_cons (HD.out _ rfl)
    rw [← HNl.out] at hlt
    have HIt := Lib.hid hit
    have HDr := Lib.hid hdr
    clear hit hdr
    -- the box of the result, and the first region; .ok (t :: r) the reader's object's state
    obtain ⟨W1, hW1⟩ : ∃ W1, W1 = w.alloc (.cells #[.int .i64 0, .int .i64 0, .int .i64 0, .string ⟨#[]⟩] 75) := ⟨_, rfl⟩
    obtain ⟨b2, hb2⟩ : ∃ b2, b2 = w.heap.size := ⟨_, rfl⟩
    replace HO : Hid (Owns w0 W1 (blk bp (rdobj (.slice y N m) i fin (.ok (t :: r))) :: blk b2 tobj0 :: ps)) := by
      rw [hW1, hb2]
      exact Lib.hid (HO.out.box tobj0).swap
    simp only [rdobj, code, pos] at HO
    go_enter Tryz.func120, Tryz.ntmps120
    go_wp2_with fail
    rw [← hW1, ← hb2]
    clear hW1 hb2
    refine wp_region_can [] (List.range 10) (by decide +kernel) (by decide +kernel) ?_
    replace HO := Lib.hid HO.out.drew
    generalize hWd : World.drew _ = W2 at HO ⊢
    clear hWd
    focus
      obtain ⟨bk, -⟩ := HO.out.blk
      have hbp := lt_of_block bk
      have fp0 := free_of_heap bk (i := 0)
      have fp1 := free_of_heap bk (i := 1)
      have fp2 := free_of_heap bk (i := 2)
      have fp3 := free_of_heap bk (i := 3)
      have fp4 := free_of_heap bk (i := 4)
      have cp0 := cell_of_heap bk (i := 0)
      have cp1 := cell_of_heap bk (i := 1)
      have cp2 := cell_of_heap bk (i := 2)
      have cp3 := cell_of_heap bk (i := 3)
      have cp4 := cell_of_heap bk (i := 4)
      simp only [List.getElem?_toArray, List.getElem?_cons_succ, List.getElem?_cons_zero] at cp0 cp1 cp2 cp3 cp4
      clear bk
      iterate 10 (refine cl_do rfl rfl rfl (by first | rfl | simp [okB, lenV, plainV, Act.eval]) (fun _ _ => ?_); go_wp2_with fail)
      clear hbp fp0 fp1 fp2 fp3 fp4 cp0 cp1 cp2 cp3 cp4
    refine cl_nil ?_
    obtain ⟨g, off, rfl, hNm, -, -, -, -, -⟩ := HV.out.get HO.out.base HIt.out
    have HO3 := Lib.hid (HO.out.store (i := 1) (.int .i64 ((i : Int) + 1)))
    focus
      obtain ⟨bk, -⟩ := HO.out.blk
      have hbp := lt_of_block bk
      have fp0 := free_of_heap bk (i := 0)
      have fp1 := free_of_heap bk (i := 1)
      have fp2 := free_of_heap bk (i := 2)
      have fp3 := free_of_heap bk (i := 3)
      have fp4 := free_of_heap bk (i := 4)
      have cp0 := cell_of_heap bk (i := 0)
      have cp1 := cell_of_heap bk (i := 1)
      have cp2 := cell_of_heap bk (i := 2)
      have cp3 := cell_of_heap bk (i := 3)
      have cp4 := cell_of_heap bk (i := 4)
      simp only [List.getElem?_toArray, List.getElem?_cons_succ, List.getElem?_cons_zero] at cp0 cp1 cp2 cp3 cp4
      clear bk
      go_wp2_with fail
      clear hbp fp0 fp1 fp2 fp3 fp4 cp0 cp1 cp2 cp3 cp4
    replace HO := HO3
    clear HO3
    refine wp_region_can [] (List.range 12) (by decide +kernel) (by decide +kernel) ?_
    replace HO := Lib.hid HO.out.drew
    generalize hWd : World.drew _ = W3 at HO ⊢
    clear hWd
    obtain ⟨g', off', e, hNm', hg, c0, c1, c2, c3⟩ := HV.out.get HO.out.base HIt.out
    simp only [Option.some.injEq, Addr.mk.injEq, and_true] at e
    obtain ⟨rfl, rfl⟩ := e
    simp only [List.setIfInBounds_toArray, List.set_cons_succ, List.set_cons_zero] at HO
    have HO4 := Lib.hid HO.out.swap
    obtain ⟨bk, -⟩ := HO.out.blk
    have hbp := lt_of_block bk
    have fp0 := free_of_heap bk (i := 0)
    have fp1 := free_of_heap bk (i := 1)
    have fp2 := free_of_heap bk (i := 2)
    have fp3 := free_of_heap bk (i := 3)
    have fp4 := free_of_heap bk (i := 4)
    have cp0 := cell_of_heap bk (i := 0)
    have cp1 := cell_of_heap bk (i := 1)
    have cp2 := cell_of_heap bk (i := 2)
    have cp3 := cell_of_heap bk (i := 3)
    have cp4 := cell_of_heap bk (i := 4)
    simp only [List.getElem?_toArray, List.getElem?_cons_succ, List.getElem?_cons_zero] at cp0 cp1 cp2 cp3 cp4
    clear bk
    obtain ⟨bk, -⟩ := HO4.out.blk
    have ht := lt_of_block bk
    have ft0 := free_of_heap bk (i := 0)
    have ft1 := free_of_heap bk (i := 1)
    have ft2 := free_of_heap bk (i := 2)
    have ft3 := free_of_heap bk (i := 3)
    have ct0 := cell_of_heap bk (i := 0)
    have ct1 := cell_of_heap bk (i := 1)
    have ct2 := cell_of_heap bk (i := 2)
    have ct3 := cell_of_heap bk (i := 3)
    simp only [List.getElem?_toArray, List.getElem?_cons_succ, List.getElem?_cons_zero] at ct0 ct1 ct2 ct3
    clear bk
    iterate 12 (refine cl_do rfl rfl rfl (by first | rfl | simp [okB, lenV, plainV, Act.eval]) (fun _ _ => ?_); go_wp2_with fail)
    refine cl_nil ?_
    go_wp2_with fail
    have h2 := (((HO4.out.store (i := 0) (.int .i64 t.kind)).store (i := 1) (.int .i64 t.pos)).store (i := 2) (.int .i64 t.num)).store (i := 3) (.string (bs t.text))
    refine bodyPost_ret (rtoken_res rfl h2.blk.1) (by rfl) ⟨by rw [HE.out.2], ?_⟩
    rw [HE.out.1]
    have h3 := h2.pop
    rw [show ((i : Int) + 1) = ((i + 1 : Nat) : Int) by omega] at h3
    exact Owns.asRd (s := .ok r) (i := i + 1) h3 trivial HV.out (by have := HNl.out; omega) (fun ts h => by cases h; exact HDr.out)
set_option maxRecDepth 100000 in
set_option maxHeartbeats 8000000 in
theorem rsees_c (ps : List Piece) (s : PSt) (k : Nat) (u : Bytes) (w : World) (hN9 : all.length ≤ 1000000) (hu9 : u.length ≤ 10) (h : Owns w0 w (rdP w0 bp fin all v s :: ps)) :
    Calls Tryz.prog 85 #[.pointer (some ⟨bp, 0, none⟩), .int .i64 (k : Nat), .string (bs u)] w fun x w' => x = .returned (.bool (seesB s k u)) ∧ Owns w0 w' (rdP w0 bp fin all v s :: ps) := by
  obtain ⟨hf, hv, i, hi, hd, h1⟩ := h.rd
  have HP := Lib.hid h
  obtain ⟨y, m, rfl⟩ := hv.form
  obtain ⟨N, hN⟩ : ∃ N, N = all.length := ⟨_, rfl⟩
  rw [← hN] at hv h1 hN9 HP
  have HO := Lib.hid h1
  have HV := Lib.hid hv
  have HI := Lib.hid hi
  have HD := Lib.hid hd
  have HNl := Lib.hid hN
  have hiN : i ≤ N := by omega
  simp only [← hN]
  clear h h1 hv hi hd hN
  rcases s with ⟨c, a⟩ | (_ | ⟨t, r⟩)
  · have hx' : ((c : Int) == 0) = false := by have h0 : c ≠ 0 := hf; simpa using h0
    have HE : Hid (seesB (.error (c, a)) k u = false) := rfl
    simp only [rdobj, code, pos] at HO
    clear hf
    go_enter Tryz.func85, Tryz.ntmps85
    go_wp2_with fail
    refine wp_region_can [] (List.range 48) (by decide +kernel) (by decide +kernel) ?_
    replace HO := Lib.hid HO.out.drew
    replace HP := Lib.hid HP.out.drew
    generalize hWd : World.drew _ = W2 at HO HP ⊢
    clear hWd
    obtain ⟨bk, -⟩ := HO.out.blk
    have hbp := lt_of_block bk
    have fp0 := free_of_heap bk (i := 0)
    have fp1 := free_of_heap bk (i := 1)
    have fp2 := free_of_heap bk (i := 2)
    have fp3 := free_of_heap bk (i := 3)
    have fp4 := free_of_heap bk (i := 4)
    have cp0 := cell_of_heap bk (i := 0)
    have cp1 := cell_of_heap bk (i := 1)
    have cp2 := cell_of_heap bk (i := 2)
    have cp3 := cell_of_heap bk (i := 3)
    have cp4 := cell_of_heap bk (i := 4)
    simp only [List.getElem?_toArray, List.getElem?_cons_succ, List.getElem?_cons_zero] at cp0 cp1 cp2 cp3 cp4
    clear bk
    iterate 48 (first | (refine cl_do rfl rfl rfl (by first | rfl | simp [okB, lenV, plainV, Act.eval]) (fun _ _ => ?_); go_wp2_with fail) | (refine cl_yes rfl rfl rfl rfl (by first | rfl | simp [okB, lenV, plainV, Act.eval]) (fun _ _ => ?_); go_wp2_with fail) | (refine cl_no rfl rfl rfl ?_; go_simp))
    refine cl_nil ?_
    go_wp2_with fail
    go_ret
    exact ⟨by rw [HE.out]; rfl, HP.out⟩
  · have HE : Hid (seesB (.ok []) k u = false) := rfl
    obtain rfl : N = i := by rw [HNl.out]; exact (drop_nil (HD.out [] rfl) (by have := HI.out; omega)).symm
    simp only [rdobj, code, pos] at HO
    clear hf
    go_enter Tryz.func85, Tryz.ntmps85
    go_wp2_with fail
    refine wp_region_can [] (List.range 48) (by decide +kernel) (by decide +kernel) ?_
    replace HO := Lib.hid HO.out.drew
    replace HP := Lib.hid HP.out.drew
    generalize hWd : World.drew _ = W2 at HO HP ⊢
    clear hWd
    obtain ⟨bk, -⟩ := HO.out.blk
    have hbp := lt_of_block bk
    have fp0 := free_of_heap bk (i := 0)
    have fp1 := free_of_heap bk (i := 1)
    have fp2 := free_of_heap bk (i := 2)
    have fp3 := free_of_heap bk (i := 3)
    have fp4 := free_of_heap bk (i := 4)
    have cp0 := cell_of_heap bk (i := 0)
    have cp1 := cell_of_heap bk (i := 1)
    have cp2 := cell_of_heap bk (i := 2)
    have cp3 := cell_of_heap bk (i := 3)
    have cp4 := cell_of_heap bk (i := 4)
    simp only [List.getElem?_toArray, List.getElem?_cons_succ, List.getElem?_cons_zero] at cp0 cp1 cp2 cp3 cp4
    clear bk
    iterate 48 (first | (refine cl_do rfl rfl rfl (by first | rfl | simp [okB, lenV, plainV, Act.eval]) (fun _ _ => ?_); go_wp2_with fail) | (refine cl_yes rfl rfl rfl rfl (by first | rfl | simp [okB, lenV, plainV, Act.eval]) (fun _ _ => ?_); go_wp2_with fail) | (refine cl_no rfl rfl rfl ?_; go_simp))
    refine cl_nil ?_
    go_wp2_with fail
    go_ret
    exact ⟨by rw [HE.out]; rfl, HP.out⟩
  · obtain ⟨hlt, hit, hdr⟩ := drop_cons (HD.out _ rfl)
    rw [← HNl.out] at hlt
    have HIt := Lib.hid hit
    have HE0 : Hid (seesB (.ok (t :: r)) k u = (decide (t.kind = k) && decide (t.text = u))) := rfl
    simp only [rdobj, code, pos] at HO
    clear hf hit hdr
    by_cases hk : t.kind = k
    · have hk' : ((t.kind : Int) == (k : Int)) = true := by simp; omega
      by_cases hu : t.text = u
      · have hu' : (t.text == u) = true := by simpa using hu
        have HE : Hid (seesB (.ok (t :: r)) k u = true) := by show _ = _; rw [HE0.out, decide_eq_true hk, decide_eq_true hu]; rfl
        clear hk hu HE0
        go_enter Tryz.func85, Tryz.ntmps85
        go_wp2_with fail
        refine wp_region_can [] (List.range 48) (by decide +kernel) (by decide +kernel) ?_
        replace HO := Lib.hid HO.out.drew
        replace HP := Lib.hid HP.out.drew
        generalize hWd : World.drew _ = W2 at HO HP ⊢
        clear hWd
        obtain ⟨g, off, rfl, hNm, hg, c0, c1, c2, c3⟩ := HV.out.get HO.out.base HIt.out
        obtain ⟨bk, -⟩ := HO.out.blk
        have hbp := lt_of_block bk
        have fp0 := free_of_heap bk (i := 0)
        have fp1 := free_of_heap bk (i := 1)
        have fp2 := free_of_heap bk (i := 2)
        have fp3 := free_of_heap bk (i := 3)
        have fp4 := free_of_heap bk (i := 4)
        have cp0 := cell_of_heap bk (i := 0)
        have cp1 := cell_of_heap bk (i := 1)
        have cp2 := cell_of_heap bk (i := 2)
        have cp3 := cell_of_heap bk (i := 3)
        have cp4 := cell_of_heap bk (i := 4)
        simp only [List.getElem?_toArray, List.getElem?_cons_succ, List.getElem?_cons_zero] at cp0 cp1 cp2 cp3 cp4
        clear bk
        iterate 48 (first | (refine cl_do rfl rfl rfl (by first | rfl | simp [okB, lenV, plainV, Act.eval]) (fun _ _ => ?_); go_wp2_with fail) | (refine cl_yes rfl rfl rfl rfl (by first | rfl | simp [okB, lenV, plainV, Act.eval]) (fun _ _ => ?_); go_wp2_with fail) | (refine cl_no rfl rfl rfl ?_; go_simp))
        refine cl_nil ?_
        go_wp2_with fail
        go_ret
        exact ⟨by rw [HE.out]; rfl, HP.out⟩
      · have hu' : (t.text == u) = false := by simpa using hu
        have HE : Hid (seesB (.ok (t :: r)) k u = false) := by show _ = _; rw [HE0.out, decide_eq_false hu]; simp
        clear hk hu HE0
        go_enter Tryz.func85, Tryz.ntmps85
        go_wp2_with fail
        refine wp_region_can [] (List.range 48) (by decide +kernel) (by decide +kernel) ?_
        replace HO := Lib.hid HO.out.drew
        replace HP := Lib.hid HP.out.drew
        generalize hWd : World.drew _ = W2 at HO HP ⊢
        clear hWd
        obtain ⟨g, off, rfl, hNm, hg, c0, c1, c2, c3⟩ := HV.out.get HO.out.base HIt.out
        obtain ⟨bk, -⟩ := HO.out.blk
        have hbp := lt_of_block bk
        have fp0 := free_of_heap bk (i := 0)
        have fp1 := free_of_heap bk (i := 1)
        have fp2 := free_of_heap bk (i := 2)
        have fp3 := free_of_heap bk (i := 3)
        have fp4 := free_of_heap bk (i := 4)
        have cp0 := cell_of_heap bk (i := 0)
        have cp1 := cell_of_heap bk (i := 1)
        have cp2 := cell_of_heap bk (i := 2)
        have cp3 := cell_of_heap bk (i := 3)
        have cp4 := cell_of_heap bk (i := 4)
        simp only [List.getElem?_toArray, List.getElem?_cons_succ, List.getElem?_cons_zero] at cp0 cp1 cp2 cp3 cp4
        clear bk
        iterate 48 (first | (refine cl_do rfl rfl rfl (by first | rfl | simp [okB, lenV, plainV, Act.eval]) (fun _ _ => ?_); go_wp2_with fail) | (refine cl_yes rfl rfl rfl rfl (by first | rfl | simp [okB, lenV, plainV, Act.eval]) (fun _ _ => ?_); go_wp2_with fail) | (refine cl_no rfl rfl rfl ?_; go_simp))
        refine cl_nil ?_
        go_wp2_with fail
        go_ret
        exact ⟨by rw [HE.out]; rfl, HP.out⟩
    · have hk' : ((t.kind : Int) == (k : Int)) = false := by simp; omega
      have HE : Hid (seesB (.ok (t :: r)) k u = false) := by show _ = _; rw [HE0.out, decide_eq_false hk]; rfl
      clear hk HE0
      go_enter Tryz.func85, Tryz.ntmps85
      go_wp2_with fail
      refine wp_region_can [] (List.range 48) (by decide +kernel) (by decide +kernel) ?_
      replace HO := Lib.hid HO.out.drew
      replace HP := Lib.hid HP.out.drew
      generalize hWd : World.drew _ = W2 at HO HP ⊢
      clear hWd
      obtain ⟨g, off, rfl, hNm, hg, c0, c1, c2, c3⟩ := HV.out.get HO.out.base HIt.out
      obtain ⟨bk, -⟩ := HO.out.blk
      have hbp := lt_of_block bk
      have fp0 := free_of_heap bk (i := 0)
      have fp1 := free_of_heap bk (i := 1)
      have fp2 := free_of_heap bk (i := 2)
      have fp3 := free_of_heap bk (i := 3)
      have fp4 := free_of_heap bk (i := 4)
      have cp0 := cell_of_heap bk (i := 0)
      have cp1 := cell_of_heap bk (i := 1)
      have cp2 := cell_of_heap bk (i := 2)
      have cp3 := cell_of_heap bk (i := 3)
      have cp4 := cell_of_heap bk (i := 4)
      simp only [List.getElem?_toArray, List.getElem?_cons_succ, List.getElem?_cons_zero] at cp0 cp1 cp2 cp3 cp4
      clear bk
      iterate 48 (first | (refine cl_do rfl rfl rfl (by first | rfl | simp [okB, lenV, plainV, Act.eval]) (fun _ _ => ?_); go_wp2_with fail) | (refine cl_yes rfl rfl rfl rfl (by first | rfl | simp [okB, lenV, plainV, Act.eval]) (fun _ _ => ?_); go_wp2_with fail) | (refine cl_no rfl rfl rfl ?_; go_simp))
      refine cl_nil ?_
      go_wp2_with fail
      go_ret
      exact ⟨by rw [HE.out]; rfl, HP.out⟩
end
end Go.Proofs.YtagoefnibgobcaaGreatDoor
