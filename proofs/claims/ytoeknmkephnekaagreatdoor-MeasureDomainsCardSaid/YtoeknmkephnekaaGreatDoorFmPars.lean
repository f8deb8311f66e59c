/-
  The parser's memory; 'fail', 'take'.
-/
import Derived.Test.YtoeknmkephnekaaGreatDoorFmPiece
import Derived.Test.YtoeknmkephnekaaGreatDoorBase
import Derived.Deep.LoopGhost
import Derived.Laws.EntriesVeiled
import Derived.Handy
namespace Go.Cz.Fo
open Go.Cz.Lx
/-- Where a parser stands: the tokens that are left, or an error. -/
abbrev PSt := Except (Nat × Int) (List Tok)
def toks : PSt → List Tok | .ok ts => ts | .error _ => []
def code : PSt → Nat | .ok _ => 0 | .error x => x.1
def pos : PSt → Int | .ok _ => 0 | .error x => x.2
def failS : PSt → Nat → Int → PSt | .ok _, e, a => .error (e, a) | .error x, _, _ => .error x
def zTok : Tok := ⟨0, 0, 0, []⟩
def nextT : PSt → Tok | .ok (t :: _) => t | _ => zTok
def nextS (fin : Int) : PSt → PSt | .ok (_ :: r) => .ok r | .ok [] => .error (6, fin) | .error x => .error x
def PSt.fine : PSt → Prop | .ok _ => True | .error x => x.1 ≠ 0
theorem fine_fail {s : PSt} {e : Nat} {a : Int} (h : PSt.fine s) (he : e ≠ 0) : PSt.fine (failS s e a) := by cases s with | error x => exact h | ok l => exact he
theorem fine_next {s : PSt} {fin : Int} (h : PSt.fine s) : PSt.fine (nextS fin s) := by
  cases s with
  | error x => exact h
  | ok l => cases l <;> simp [nextS, PSt.fine]
theorem next_len (fin : Int) (s : PSt) : (toks (nextS fin s)).length ≤ (toks s).length := by
  cases s with
  | error x => simp [nextS]
  | ok l => cases l <;> simp [nextS, toks]
/-- A part was read: the formula and where the parser stands then. -/
def Did (part : List Tok → Res) (s : PSt) (f : Fm) (s' : PSt) : Prop :=
  PSt.fine s' ∧ (toks s').length ≤ (toks s).length ∧ match s with
    | .error x => s' = .error x
    | .ok ts => match part ts with
      | .ok (g, r) => f = g ∧ s' = .ok r
      | .error x => s' = .error x
end Go.Cz.Fo
namespace Go.Proofs.YtoeknmkephnekaaGreatDoor
open Go.RowKit Go.Cz Go.Cz.Lx Go.Cz.Fo
set_option linter.unusedSimpArgs false
set_option linter.unusedVariables false
attribute [local go_sem] bs_size bs_extract bs_append bs_toList
attribute [local irreducible] cList cPlan
abbrev pobj (v : Value) (fin : Int) (s : PSt) : Obj := .cells #[v, .int .i64 fin, .int .i64 (code s : Nat), .int .i64 (pos s)] 134 (0, 0)
/-- The parser. -/
def parP (w0 : World) (bp : Nat) (fin : Int) (s : PSt) : Piece where
  lies w S := S = [bp] ∧ PSt.fine s ∧ ∃ v, TokL w0 v (toks s) ∧ w.heap[bp]? = some (pobj v fin s)
  lt := by rintro w S ⟨rfl, -, v, -, h⟩ k hk; simp at hk; subst hk; exact lt_of_block h
  keep := by rintro w w' S T ⟨rfl, hf, v, hv, h⟩ hm hd; exact ⟨rfl, hf, v, hv, hm.heap h (hd bp (by simp))⟩
abbrev tval (t : Tok) : Value := .agg #[.int .i64 t.kind, .int .i64 t.pos, .int .i64 t.num, .string (bs t.text)]
end Go.Proofs.YtoeknmkephnekaaGreatDoor
namespace Go.Cz
open Go.RowKit Go.Cz.Lx Go.Cz.Fo Go.Proofs.YtoeknmkephnekaaGreatDoor
set_option linter.unusedVariables false
section
variable {w0 w W : World} {ps : List Piece} {bp : Nat} {fin : Int} {s : PSt} {v : Value}
theorem Owns.par (h : Owns w0 w (parP W bp fin s :: ps)) : PSt.fine s ∧ ∃ y m, TokL W (.slice y (toks s).length m) (toks s) ∧ Owns w0 w (Cz.blk bp (pobj (.slice y (toks s).length m) fin s) :: ps) := by
  obtain ⟨S, ⟨rfl, hf, v, hv, h1⟩, -⟩ := h.first
  obtain ⟨y, m, rfl⟩ := hv.form
  refine ⟨hf, y, m, hv, ?_⟩
  obtain ⟨S, ⟨rfl, -, v', -, h2⟩, -, hq⟩ := h.open
  exact hq w _ [bp] ⟨rfl, h1⟩ (Mod.refl _ _) fun k hk => .inl hk
theorem Owns.asPar (h : Owns w0 w (Cz.blk bp (pobj v fin s) :: ps)) (hf : PSt.fine s) (hv : TokL W v (toks s)) : Owns w0 w (parP W bp fin s :: ps) :=
  h.turn fun S hS => ⟨hS.1, hf, v, hv, hS.2⟩
end
end Go.Cz
namespace Go.Proofs.YtoeknmkephnekaaGreatDoor
open Go.RowKit Go.Cz Go.Cz.Lx Go.Cz.Fo
set_option linter.unusedSimpArgs false
set_option linter.unusedVariables false
attribute [local go_sem] bs_size bs_extract bs_append bs_toList
attribute [local irreducible] cList cPlan
section
variable {w0 : World} {bp : Nat} {fin : Int}
theorem fail_c (ps : List Piece) (s : PSt) (e : Nat) (a : Int) (he : e ≠ 0) (he2 : e ≤ 1000) (w : World) (h : Owns w0 w (parP w0 bp fin s :: ps)) :
    Calls Tryz.prog 106 #[.pointer (some ⟨bp, 0, none⟩), .int .i64 (e : Nat), .int .i64 a] w fun x w' => x = .returned (.tuple #[]) ∧ Owns w0 w' (parP w0 bp fin (failS s e a) :: ps) := by
  obtain ⟨hf, y, m, hv, h1⟩ := h.par
  have HO := Lib.hid h1
  obtain ⟨N, hN⟩ : ∃ N, N = (toks s).length := ⟨_, rfl⟩
  rw [← hN] at HO
  cases s with
  | error x =>
    have hx : x.1 ≠ 0 := hf
    have hx' : ((x.1 : Int) == 0) = false := by simpa using hx
    have HE : Hid (failS (.error x) e a = .error x) := rfl
    have HP := Lib.hid h
    obtain ⟨c, hc⟩ : ∃ c, c = x.1 := ⟨_, rfl⟩
    simp only [pobj, code, pos] at HO
    rw [← hc] at HO hx'
    clear h h1 hv hf hN hx hc
    obtain ⟨bk, -⟩ := HO.out.blk
    have hbp := lt_of_block bk
    have fp0 := free_of_heap bk (i := 0)
    have fp1 := free_of_heap bk (i := 1)
    have fp2 := free_of_heap bk (i := 2)
    have fp3 := free_of_heap bk (i := 3)
    have cp0 := cell_of_heap bk (i := 0)
    have cp1 := cell_of_heap bk (i := 1)
    have cp2 := cell_of_heap bk (i := 2)
    have cp3 := cell_of_heap bk (i := 3)
    simp only [List.getElem?_toArray, List.getElem?_cons_succ, List.getElem?_cons_zero] at cp0 cp1 cp2 cp3
    clear bk
    go_enter Tryz.func106, Tryz.ntmps106
    go_wp2_with fail
    go_end0
    exact ⟨rfl, by rw [HE.out]; exact HP.out⟩
  | ok ts =>
    have HE : Hid (failS (.ok ts) e a = .error (e, a)) := rfl
    have HEe := Lib.hid he
    simp only [pobj, code, pos] at HO
    clear h h1 hv hf hN he
    obtain ⟨bk, -⟩ := HO.out.blk
    have hbp := lt_of_block bk
    have fp0 := free_of_heap bk (i := 0)
    have fp1 := free_of_heap bk (i := 1)
    have fp2 := free_of_heap bk (i := 2)
    have fp3 := free_of_heap bk (i := 3)
    have cp0 := cell_of_heap bk (i := 0)
    have cp1 := cell_of_heap bk (i := 1)
    have cp2 := cell_of_heap bk (i := 2)
    have cp3 := cell_of_heap bk (i := 3)
    simp only [List.getElem?_toArray, List.getElem?_cons_succ, List.getElem?_cons_zero] at cp0 cp1 cp2 cp3
    clear bk
    go_enter Tryz.func106, Tryz.ntmps106
    go_wp2_with fail
    go_end0
    refine ⟨rfl, ?_⟩
    rw [HE.out]
    have h2 := ((HO.out.store (i := 2) (.int .i64 (e : Int))).store (i := 3) (.int .i64 a)).store (i := 0) (.slice none 0 0)
    exact Owns.asPar (v := .slice none 0 0) h2 HEe.out (TokL.nil _ _ _)
abbrev tobj (t : Tok) : Obj := .cells #[.int .i64 t.kind, .int .i64 t.pos, .int .i64 t.num, .string (bs t.text)] 40 (0, 0)
abbrev tobj0 : Obj := .cells #[.int .i64 0, .int .i64 0, .int .i64 0, .string ⟨#[]⟩] 40 (0, 0)
theorem take_res {W : World} {tmps : Array Value} {g : Nat} {v0 v1 v2 v3 : Value} (h4 : tmps.getD 2 undef = .pointer (some ⟨g, 0, none⟩)) (hb : W.heap[g]? = some (.cells #[v0, v1, v2, v3] 40 (0, 0))) :
    (results Tryz.f153 tmps).run Tryz.prog W = .ok (.agg #[v0, v1, v2, v3]) W := by
  have c0 : W.cell? ⟨g, 0, none⟩ = some v0 := by rw [cell_of_heap hb]; rfl
  have c1 : W.cell? ⟨g, 1, none⟩ = some v1 := by rw [cell_of_heap hb]; rfl
  have c2 : W.cell? ⟨g, 2, none⟩ = some v2 := by rw [cell_of_heap hb]; rfl
  have c3 : W.cell? ⟨g, 3, none⟩ = some v3 := by rw [cell_of_heap hb]; rfl
  have h4' : tmps[2]?.getD undef = .pointer (some ⟨g, 0, none⟩) := by simpa using h4
  simp [results, Tryz.results153, go_sem, h4', c0, c1, c2, c3]
set_option maxHeartbeats 2000000 in
theorem take_c (ps : List Piece) (s : PSt) (w : World) (h : Owns w0 w (parP w0 bp fin s :: ps)) (hN9 : (toks s).length ≤ 1000000) :
    Calls Tryz.prog 153 #[.pointer (some ⟨bp, 0, none⟩)] w fun x w' => x = .returned (tval (nextT s)) ∧ Owns w0 w' (parP w0 bp fin (nextS fin s) :: ps) := by
  obtain ⟨hf, y, m, hv, h1⟩ := h.par
  have HO := Lib.hid h1
  have HP := Lib.hid h
  clear h h1
  have HPf := Lib.hid fun ps s => fail_c (w0 := w0) (bp := bp) (fin := fin) ps s 6 fin (by omega) (by omega)
  rcases s with x | (_ | ⟨t, r⟩)
  · have HE : Hid (nextS fin (.error x) = failS (.error x) 6 fin ∧ nextT (.error x) = zTok) := ⟨rfl, rfl⟩
    simp only [pobj, code, pos, toks, List.length_nil] at HO
    clear hf hv hN9
    obtain ⟨W1, hW1⟩ : ∃ W1, W1 = w.alloc (.cells #[.int .i64 0, .int .i64 0, .int .i64 0, .string ⟨#[]⟩] 40) := ⟨_, rfl⟩
    obtain ⟨b2, hb2⟩ : ∃ b2, b2 = w.heap.size := ⟨_, rfl⟩
    have HO1 : Hid (Owns w0 W1 (parP w0 bp fin (.error x) :: blk b2 tobj0 :: ps)) := by
      rw [hW1, hb2]
      exact Lib.hid (HP.out.box tobj0).swap
    obtain ⟨bk, -⟩ := HO.out.blk
    have hbp := lt_of_block bk
    have fp0 := free_of_heap bk (i := 0)
    have fp1 := free_of_heap bk (i := 1)
    have fp2 := free_of_heap bk (i := 2)
    have fp3 := free_of_heap bk (i := 3)
    have cp0 := cell_of_heap bk (i := 0)
    have cp1 := cell_of_heap bk (i := 1)
    have cp2 := cell_of_heap bk (i := 2)
    have cp3 := cell_of_heap bk (i := 3)
    simp only [List.getElem?_toArray, List.getElem?_cons_succ, List.getElem?_cons_zero] at cp0 cp1 cp2 cp3
    clear bk
    go_enter Tryz.func153, Tryz.ntmps153
    go_wp2_with fail
    rw [← hW1, ← hb2]
    clear hW1 hb2 hbp fp0 fp1 fp2 fp3 cp0 cp1 cp2 cp3 HO HP
    go_at_call 106
    refine (HPf.out (blk b2 tobj0 :: ps) _ W1 HO1.out).mono ?_
    rintro e W2 ⟨rfl, ho⟩
    have HO2 := Lib.hid ho.swap
    clear ho HO1
    obtain ⟨bk, -⟩ := HO2.out.blk
    have ht := lt_of_block bk
    have ft0 := free_of_heap bk (i := 0)
    have ft1 := free_of_heap bk (i := 1)
    have ft2 := free_of_heap bk (i := 2)
    have ft3 := free_of_heap bk (i := 3)
    have ct0 := cell_of_heap bk (i := 0)
    have ct1 := cell_of_heap bk (i := 1)
    have ct2 := cell_of_heap bk (i := 2)
    have ct3 := cell_of_heap bk (i := 3)
    simp only [List.getElem?_toArray, List.getElem?_cons_succ, List.getElem?_cons_zero] at ct0 ct1 ct2 ct3
    clear bk
    go_wp2_with fail
    have h2 := (((HO2.out.store (i := 0) (.int .i64 0)).store (i := 1) (.int .i64 0)).store (i := 2) (.int .i64 0)).store (i := 3) (.string ⟨#[]⟩)
    refine bodyPost_ret (take_res rfl h2.blk.1) (by rfl) ⟨by rw [HE.out.2]; rfl, by rw [HE.out.1]; exact h2.pop⟩
  · have HE : Hid (nextS fin (.ok []) = failS (.ok []) 6 fin ∧ nextT (.ok []) = zTok) := ⟨rfl, rfl⟩
    simp only [pobj, code, pos, toks, List.length_nil] at HO
    clear hf hv hN9
    obtain ⟨W1, hW1⟩ : ∃ W1, W1 = w.alloc (.cells #[.int .i64 0, .int .i64 0, .int .i64 0, .string ⟨#[]⟩] 40) := ⟨_, rfl⟩
    obtain ⟨b2, hb2⟩ : ∃ b2, b2 = w.heap.size := ⟨_, rfl⟩
    have HO1 : Hid (Owns w0 W1 (parP w0 bp fin (.ok []) :: blk b2 tobj0 :: ps)) := by
      rw [hW1, hb2]
      exact Lib.hid (HP.out.box tobj0).swap
    obtain ⟨bk, -⟩ := HO.out.blk
    have hbp := lt_of_block bk
    have fp0 := free_of_heap bk (i := 0)
    have fp1 := free_of_heap bk (i := 1)
    have fp2 := free_of_heap bk (i := 2)
    have fp3 := free_of_heap bk (i := 3)
    have cp0 := cell_of_heap bk (i := 0)
    have cp1 := cell_of_heap bk (i := 1)
    have cp2 := cell_of_heap bk (i := 2)
    have cp3 := cell_of_heap bk (i := 3)
    simp only [List.getElem?_toArray, List.getElem?_cons_succ, List.getElem?_cons_zero] at cp0 cp1 cp2 cp3
    clear bk
    go_enter Tryz.func153, Tryz.ntmps153
    go_wp2_with fail
    rw [← hW1, ← hb2]
    clear hW1 hb2 hbp fp0 fp1 fp2 fp3 cp0 cp1 cp2 cp3 HO HP
    go_at_call 106
    refine (HPf.out (blk b2 tobj0 :: ps) _ W1 HO1.out).mono ?_
    rintro e W2 ⟨rfl, ho⟩
    have HO2 := Lib.hid ho.swap
    clear ho HO1
    obtain ⟨bk, -⟩ := HO2.out.blk
    have ht := lt_of_block bk
    have ft0 := free_of_heap bk (i := 0)
    have ft1 := free_of_heap bk (i := 1)
    have ft2 := free_of_heap bk (i := 2)
    have ft3 := free_of_heap bk (i := 3)
    have ct0 := cell_of_heap bk (i := 0)
    have ct1 := cell_of_heap bk (i := 1)
    have ct2 := cell_of_heap bk (i := 2)
    have ct3 := cell_of_heap bk (i := 3)
    simp only [List.getElem?_toArray, List.getElem?_cons_succ, List.getElem?_cons_zero] at ct0 ct1 ct2 ct3
    clear bk
    go_wp2_with fail
    have h2 := (((HO2.out.store (i := 0) (.int .i64 0)).store (i := 1) (.int .i64 0)).store (i := 2) (.int .i64 0)).store (i := 3) (.string ⟨#[]⟩)
    refine bodyPost_ret (take_res rfl h2.blk.1) (by rfl) ⟨by rw [HE.out.2]; rfl, by rw [HE.out.1]; exact h2.pop⟩
  · have HE : Hid (nextS fin (.ok (t :: r)) = .ok r ∧ nextT (.ok (t :: r)) = t) := ⟨rfl, rfl⟩
    obtain ⟨N, hN⟩ : ∃ N, N = (toks (.ok (t :: r))).length := ⟨_, rfl⟩
    have hN0 : 0 < N := by rw [hN]; simp [toks]
    rw [← hN] at HO hv hN9
    have HV := Lib.hid hv
    obtain ⟨g, off, rfl, hNm, hg, c0, c1, c2, c3⟩ := hv.get (j := 0) HO.out.base rfl
    simp only [pobj, code, pos] at HO
    simp only [Nat.zero_mul, Nat.add_zero] at c0 c1 c2 c3
    have HT := Lib.hid hv.tail
    obtain ⟨W1, hW1⟩ : ∃ W1, W1 = (w.alloc (.cells #[.int .i64 0, .int .i64 0, .int .i64 0, .string ⟨#[]⟩] 40)).alloc (.cells #[.int .i64 t.kind, .int .i64 t.pos, .int .i64 t.num, .string (bs t.text)] 40) := ⟨_, rfl⟩
    clear hv hN hf
    by_cases hm1 : m = 1
    · subst hm1
      obtain rfl : N = 1 := by omega
      have HT1 := Lib.hid (HT.out.2 rfl)
      clear HT hN0 hNm hN9
      obtain ⟨bk, -⟩ := HO.out.blk
      have hbp := lt_of_block bk
      have fp0 := free_of_heap bk (i := 0)
      have fp1 := free_of_heap bk (i := 1)
      have fp2 := free_of_heap bk (i := 2)
      have fp3 := free_of_heap bk (i := 3)
      have cp0 := cell_of_heap bk (i := 0)
      have cp1 := cell_of_heap bk (i := 1)
      have cp2 := cell_of_heap bk (i := 2)
      have cp3 := cell_of_heap bk (i := 3)
      simp only [List.getElem?_toArray, List.getElem?_cons_succ, List.getElem?_cons_zero] at cp0 cp1 cp2 cp3
      clear bk
      go_enter Tryz.func153, Tryz.ntmps153
      go_wp2_with fail
      have h2 := (((HO.out.store (i := 0) (.slice (some ⟨g, off, none⟩) 0 0)).box (tobj t)).alloc (tobj t))
      have h3 := h2.blk.1
      rw [World.size_setCell] at h3
      refine bodyPost_ret (take_res rfl h3) (by rfl) ⟨by rw [HE.out.2], ?_⟩
      rw [HE.out.1]
      exact Owns.asPar (v := .slice (some ⟨g, off, none⟩) 0 0) ((HO.out.store (i := 0) (.slice (some ⟨g, off, none⟩) 0 0)).alloc (tobj t) |>.alloc (tobj t)) trivial (HT1.out)
    · clear hN9
      obtain ⟨bk, -⟩ := HO.out.blk
      have hbp := lt_of_block bk
      have fp0 := free_of_heap bk (i := 0)
      have fp1 := free_of_heap bk (i := 1)
      have fp2 := free_of_heap bk (i := 2)
      have fp3 := free_of_heap bk (i := 3)
      have cp0 := cell_of_heap bk (i := 0)
      have cp1 := cell_of_heap bk (i := 1)
      have cp2 := cell_of_heap bk (i := 2)
      have cp3 := cell_of_heap bk (i := 3)
      simp only [List.getElem?_toArray, List.getElem?_cons_succ, List.getElem?_cons_zero] at cp0 cp1 cp2 cp3
      clear bk
      go_enter Tryz.func153, Tryz.ntmps153
      go_wp2_with fail
      have h2 := (((HO.out.store (i := 0) (.slice (some ⟨g, off + 4, none⟩) (N - 1) (m - 1))).box (tobj t)).alloc (tobj t))
      have h3 := h2.blk.1
      rw [World.size_setCell] at h3
      refine bodyPost_ret (take_res rfl h3) (by rfl) ⟨by rw [HE.out.2], ?_⟩
      rw [HE.out.1]
      exact Owns.asPar (v := .slice (some ⟨g, off + 4, none⟩) (N - 1) (m - 1)) ((HO.out.store (i := 0) (.slice (some ⟨g, off + 4, none⟩) (N - 1) (m - 1))).alloc (tobj t) |>.alloc (tobj t)) trivial (HT.out.1)
end
end Go.Proofs.YtoeknmkephnekaaGreatDoor
