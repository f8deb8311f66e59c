/-
  The parser's 'all', 'either', 'one'.
-/
import Derived.Test.YtoeknmkephnekaaGreatDoorFmList
import Derived.Test.YtoeknmkephnekaaGreatDoorFmText
import Derived.Lib.SlicesS
namespace Go.Cz.Fo
open Go.Cz.Lx
def symsL : List ByteArray := [bs [], bs [61], bs [33, 61], bs [60], bs [60, 61], bs [62], bs [62, 61]]
/-- What slices.Index of the symbols answers. -/
def symX (s : Bytes) : Int := Lib.idxOfS (symsL.take 7) (bs s)
theorem symX_eq (s : Bytes) : (symX s < 1 ↔ symI s = 0) ∧ (symI s ≠ 0 → symX s = symI s) := by
  have ne : ∀ {a b : Bytes}, a ≠ b → bs a ≠ bs b := fun h e => h (bs_inj e)
  by_cases h1 : s = [61]
  · subst h1; decide +kernel
  by_cases h2 : s = [33, 61]
  · subst h2; decide +kernel
  by_cases h3 : s = [60]
  · subst h3; decide +kernel
  by_cases h4 : s = [60, 61]
  · subst h4; decide +kernel
  by_cases h5 : s = [62]
  · subst h5; decide +kernel
  by_cases h6 : s = [62, 61]
  · subst h6; decide +kernel
  by_cases h0 : s = []
  · subst h0; decide +kernel
  have hI : symI s = 0 := by unfold symI; rw [if_neg h1, if_neg h2, if_neg h3, if_neg h4, if_neg h5, if_neg h6]
  have hX : symX s = -1 := Lib.idxOfS_miss symsL 7 (bs s) (by
    intro j hj
    rcases j with _ | _ | _ | _ | _ | _ | _ | j
    · exact ne fun e => h0 e.symm
    · exact ne fun e => h1 e.symm
    · exact ne fun e => h2 e.symm
    · exact ne fun e => h3 e.symm
    · exact ne fun e => h4 e.symm
    · exact ne fun e => h5 e.symm
    · exact ne fun e => h6 e.symm
    · omega)
  rw [hI, hX]
  decide
theorem fail_len (s : PSt) (e : Nat) (a : Int) : (toks (failS s e a)).length ≤ (toks s).length := by cases s <;> simp [failS, toks]
section
variable {fin : Int} {n : Nat} {t : Tok} {r : List Tok} {s s2 : PSt} {f : Fm}
theorem Did.bad {x : Nat × Int} {part : List Tok → Res} (h : PSt.fine s) (hs : (∃ y, s = .error y ∧ x = y) ∨ (∃ ts, s = .ok ts ∧ part ts = .error x ∧ x.1 ≠ 0)) (g : Fm) : Did part s g (.error x) := by
  rcases hs with ⟨y, rfl, rfl⟩ | ⟨ts, rfl, h1, h2⟩
  · exact ⟨h, Nat.le_refl _, rfl⟩
  · refine ⟨h2, by simp [toks], ?_⟩
    simp only
    rw [h1]
theorem one_none (g : Fm) (h : PSt.fine s) (hs : ∀ t r, s ≠ .ok (t :: r)) (e : Nat) (a : Int) : Did (oneF fin (n + 1)) s g (failS (nextS fin s) e a) := by
  rcases s with x | (_ | ⟨t, r⟩)
  · exact Did.bad h (.inl ⟨x, rfl, rfl⟩) g
  · exact Did.bad h (.inr ⟨[], rfl, by rw [oneF], by simp⟩) g
  · exact absurd rfl (hs t r)
theorem did_ok {part : List Tok → Res} {ts : List Tok} {g : Fm} {r : List Tok} (h : part ts = .ok (g, r)) (hl : r.length ≤ ts.length) : Did part (.ok ts) g (.ok r) := by
  refine ⟨trivial, hl, ?_⟩
  simp only
  rw [h]
  exact ⟨rfl, rfl⟩
theorem did_err {part : List Tok → Res} {ts : List Tok} {x : Nat × Int} (h : part ts = .error x) (hx : x.1 ≠ 0) (g : Fm) : Did part (.ok ts) g (.error x) := Did.bad (s := .ok ts) trivial (.inr ⟨ts, rfl, h, hx⟩) g
theorem one_not (h : t.kind = 1 ∧ t.text = wNot) (hd : Did (oneF fin n) (.ok r) f s2) : Did (oneF fin (n + 1)) (.ok (t :: r)) (.mk 4 [] 0 0 [f]) s2 := by
  obtain ⟨d1, d2, d3⟩ := hd
  refine ⟨d1, by simp [toks] at d2 ⊢; omega, ?_⟩
  simp only at d3 ⊢
  rw [oneF, if_pos h]
  cases hp : oneF fin n r with
  | error x => rw [hp] at d3; exact d3
  | ok z => obtain ⟨g, r2⟩ := z; rw [hp] at d3; obtain ⟨rfl, rfl⟩ := d3; exact ⟨rfl, rfl⟩
theorem one_true (h : t.kind = 1 ∧ t.text = wTrue) : Did (oneF fin (n + 1)) (.ok (t :: r)) (.mk 1 [] 0 0 []) (.ok r) :=
  did_ok (by rw [oneF, if_neg (by rw [h.2]; rintro ⟨-, h⟩; revert h; decide), if_pos h]) (by simp)
theorem one_false (h : t.kind = 1 ∧ t.text = wFalse) : Did (oneF fin (n + 1)) (.ok (t :: r)) (.mk 2 [] 0 0 []) (.ok r) :=
  did_ok (by rw [oneF, if_neg (by rw [h.2]; rintro ⟨-, h⟩; revert h; decide), if_neg (by rw [h.2]; rintro ⟨-, h⟩; revert h; decide), if_pos h]) (by simp)
theorem one_syn (h0 : ¬ (t.kind = 1 ∧ (t.text = wNot ∨ t.text = wTrue ∨ t.text = wFalse))) (h1 : ¬ (t.kind = 4 ∧ t.text = [40])) (h : t.kind ≠ 1 ∨ t.text = [] ∨ keyB t.text = true) (g : Fm) : Did (oneF fin (n + 1)) (.ok (t :: r)) g (failS (.ok r) 5 t.pos) :=
  did_err (by rw [oneF, if_neg fun e => h0 ⟨e.1, .inl e.2⟩, if_neg fun e => h0 ⟨e.1, .inr (.inl e.2)⟩, if_neg fun e => h0 ⟨e.1, .inr (.inr e.2)⟩, if_neg h1, if_pos h]) (by simp) g
theorem one_paren_did (h : t.kind = 4 ∧ t.text = [40]) (hd : Did (partsF 6 wOr (partsF 5 wAnd (oneF fin n))) (.ok r) f s2) :
    ((nextT s2).kind = 4 ∧ (nextT s2).text = [41] → Did (oneF fin (n + 1)) (.ok (t :: r)) f (nextS fin s2)) ∧
    (¬ ((nextT s2).kind = 4 ∧ (nextT s2).text = [41]) → Did (oneF fin (n + 1)) (.ok (t :: r)) f (failS (nextS fin s2) 5 (nextT s2).pos)) := by
  obtain ⟨d1, d2, d3⟩ := hd
  have hk : t.kind ≠ 1 := by rw [h.1]; decide
  have he : oneF fin (n + 1) (t :: r) = match partsF 6 wOr (partsF 5 wAnd (oneF fin n)) r with
      | .error e => .error e
      | .ok (f, []) => .error (6, fin)
      | .ok (f, u :: r2) => if u.kind = 4 ∧ u.text = [41] then .ok (f, r2) else .error (5, u.pos) := by
    rw [oneF, if_neg fun e => hk e.1, if_neg fun e => hk e.1, if_neg fun e => hk e.1, if_pos h]
    rfl
  simp only at d3
  cases hp : partsF 6 wOr (partsF 5 wAnd (oneF fin n)) r with
  | error x =>
    rw [hp] at d3 he
    simp only at d3
    subst d3
    exact ⟨fun e => absurd e.1 (show (0 : Nat) ≠ 4 by decide), fun _ => did_err he d1 f⟩
  | ok z =>
    obtain ⟨g, r2⟩ := z
    rw [hp] at d3 he
    obtain ⟨rfl, rfl⟩ := d3
    cases r2 with
    | nil => exact ⟨fun e => absurd e.1 (show (0 : Nat) ≠ 4 by decide), fun _ => did_err he (by simp) f⟩
    | cons u r3 =>
      simp only at he
      simp only [nextT, nextS, failS]
      refine ⟨fun e => did_ok (by rw [he, if_pos e]) (by simp [toks] at d2 ⊢; omega), fun e => did_err (by rw [he, if_neg e]) (by simp) f⟩
/-- Where the parser stands behind a comparison's first token, its second one, and in the end. -/
def stB (fin : Int) (s1 : PSt) : PSt := if (nextT s1).kind ≠ 4 ∨ symX (nextT s1).text < 1 then failS (nextS fin s1) 5 (nextT s1).pos else nextS fin s1
def stD (fin : Int) (sB : PSt) : PSt := if (nextT sB).kind ≠ 2 then failS (nextS fin sB) 5 (nextT sB).pos else nextS fin sB
def stE (m : Tok) (sD : PSt) : PSt := if 1000000 < m.num then failS sD 10 m.pos else sD
theorem fine_B {s1 : PSt} (h : PSt.fine s1) : PSt.fine (stB fin s1) := by unfold stB; split <;> first | (exact fine_fail (fine_next h) (by decide)) | (exact fine_next h)
theorem one_test (hk : t.kind = 1) (hn : t.text ≠ wNot) (ht : t.text ≠ wTrue) (hf : t.text ≠ wFalse) (h0 : t.text ≠ []) (hK : keyB t.text = false) :
    Did (oneF fin (n + 1)) (.ok (t :: r)) (.mk 3 t.text (symX (nextT (.ok r)).text) (nextT (stB fin (.ok r))).num []) (stE (nextT (stB fin (.ok r))) (stD fin (stB fin (.ok r)))) := by
  have he : oneF fin (n + 1) (t :: r) = testF fin t.text r := by
    rw [oneF, if_neg fun e => hn e.2, if_neg fun e => ht e.2, if_neg fun e => hf e.2, if_neg (by rw [hk]; simp), if_neg (by rw [hK]; simp [hk, h0])]
  have hbad : ∀ (x : Nat × Int), x.1 ≠ 0 → testF fin t.text r = .error x → stB fin (.ok r) = .error x → Did (oneF fin (n + 1)) (.ok (t :: r)) (.mk 3 t.text (symX (nextT (.ok r)).text) (nextT (stB fin (.ok r))).num []) (stE (nextT (stB fin (.ok r))) (stD fin (stB fin (.ok r)))) := by
    intro x hx h1 h2
    rw [h2]
    show Did _ _ _ (stE zTok (stD fin (.error x)))
    have e : stE zTok (stD fin (.error x)) = .error x := by simp [stE, stD, nextT, nextS, zTok, failS]
    rw [e]
    exact did_err (he.trans h1) hx _
  cases r with
  | nil => exact hbad (6, fin) (by simp) rfl (by simp [stB, nextT, nextS, zTok, failS])
  | cons c r2 =>
    have hs := symX_eq c.text
    by_cases hc : c.kind ≠ 4 ∨ symI c.text = 0
    · exact hbad (5, c.pos) (by simp) (by simp only [testF]; rw [if_pos hc]) (by
        unfold stB
        rw [if_pos (by
          show c.kind ≠ 4 ∨ symX c.text < 1
          exact hc.imp id hs.1.2)]
        rfl)
    · have hB : stB fin (.ok (c :: r2)) = .ok r2 := by
        unfold stB
        rw [if_neg (by
          show ¬ (c.kind ≠ 4 ∨ symX c.text < 1)
          exact fun h => hc (h.imp id hs.1.1))]
        rfl
      have hx : symX c.text = symI c.text := hs.2 fun h => hc (.inr h)
      rw [hB]
      cases r2 with
      | nil =>
        have he2 : testF fin t.text [c] = .error (6, fin) := by simp only [testF]; rw [if_neg hc]
        have e : stE (nextT (.ok [])) (stD fin (.ok [])) = .error (6, fin) := by simp [stE, stD, nextT, nextS, zTok, failS]
        rw [e]
        exact did_err (he.trans he2) (by simp) _
      | cons m r3 =>
        have he2 : testF fin t.text (c :: m :: r3) = if m.kind ≠ 2 then .error (5, m.pos) else if 1000000 < m.num then .error (10, m.pos) else .ok (.mk 3 t.text (symI c.text) m.num [], r3) := by simp only [testF]; rw [if_neg hc]
        show Did _ _ (.mk 3 t.text (symX c.text) m.num []) (stE m (stD fin (.ok (m :: r3))))
        by_cases hm : m.kind ≠ 2
        · have e : stE m (stD fin (.ok (m :: r3))) = .error (5, m.pos) := by
            unfold stD stE
            rw [if_pos (show (nextT (.ok (m :: r3))).kind ≠ 2 from hm)]
            split <;> rfl
          rw [e]
          exact did_err (by rw [he, he2, if_pos hm]) (by simp) _
        · have hD : stD fin (.ok (m :: r3)) = .ok r3 := by
            unfold stD
            rw [if_neg (show ¬ (nextT (.ok (m :: r3))).kind ≠ 2 from hm)]
            rfl
          rw [hD, hx]
          by_cases hb : 1000000 < m.num
          · have e : stE m (.ok r3) = .error (10, m.pos) := by unfold stE; rw [if_pos hb]; rfl
            rw [e]
            exact did_err (by rw [he, he2, if_neg hm, if_pos hb]) (by simp) _
          · have e : stE m (.ok r3) = .ok r3 := by unfold stE; rw [if_neg hb]
            rw [e]
            exact did_ok (by rw [he, he2, if_neg hm, if_neg hb]) (by simp; omega)
end
end Go.Cz.Fo
namespace Go.Cz.Fo
open Go.Cz.Lx
theorem nextT_ok {s : PSt} {t : Tok} (h : t = nextT s) (hk : t.kind ≠ 0) (fin : Int) : ∃ r, s = .ok (t :: r) ∧ nextS fin s = .ok r := by
  subst h
  rcases s with x | (_ | ⟨t, r⟩)
  · exact absurd rfl hk
  · exact absurd rfl hk
  · exact ⟨r, rfl, rfl⟩
theorem syn_any {fin : Int} {n : Nat} {s : PSt} {t : Tok} (ht : t = nextT s) (hf : PSt.fine s) (h0 : ¬ (t.kind = 1 ∧ (t.text = wNot ∨ t.text = wTrue ∨ t.text = wFalse))) (h1 : ¬ (t.kind = 4 ∧ t.text = [40])) (h : t.kind ≠ 1 ∨ t.text = [] ∨ keyB t.text = true) (g : Fm) : Did (oneF fin (n + 1)) s g (failS (nextS fin s) 5 t.pos) := by
  rcases s with x | (_ | ⟨t', r⟩)
  · exact one_none g hf (fun t r e => by cases e) 5 t.pos
  · exact one_none g hf (fun t r e => by cases e) 5 t.pos
  · subst ht
    exact one_syn h0 h1 h g
end Go.Cz.Fo
namespace Go.Proofs.YtoeknmkephnekaaGreatDoor
open Go.RowKit Go.Cz Go.Cz.Lx Go.Cz.Fo
set_option linter.unusedSimpArgs false
set_option linter.unusedVariables false
attribute [local go_sem] bs_size bs_extract bs_append bs_toList
attribute [local irreducible] cList cPlan
section
variable {w0 : World} {bp : Nat} {fin : Int}
theorem all_c (part : List Tok → Res) (B : Nat) (hB : B ≤ 1000000) (HC : PartC w0 bp fin 154 part B) : PartC w0 bp fin 134 (partsF 5 wAnd part) B := by
  intro ps s w hs h
  have HS := Lib.hid hs
  have HCh := Lib.hid HC
  clear hs HC
  obtain ⟨W1, hW1⟩ : ∃ W1, W1 = w.alloc (.cells #[.int .i64 0, .string ⟨#[]⟩, .int .i64 0, .int .i64 0, .slice none 0 0] 24) := ⟨_, rfl⟩
  obtain ⟨b2, hb2⟩ : ∃ b2, b2 = w.heap.size := ⟨_, rfl⟩
  have HO : Hid (Owns w0 W1 (parP w0 bp fin s :: blk b2 fobj0 :: ps)) := by
    rw [hW1, hb2]
    exact Lib.hid (h.box fobj0).swap
  clear h
  go_enter Tryz.func134, Tryz.ntmps134
  go_wp2_with fail
  rw [← hW1, ← hb2]
  clear hW1 hb2
  go_at_call 133
  refine (listO_c part B hB HCh.out (blk b2 fobj0 :: ps) 5 wAnd s W1 HS.out (by decide) HO.out).mono ?_
  rintro e W2 ⟨f, kv, s', rfl, hd, ho⟩
  obtain ⟨y2, m2, rfl⟩ := ho.fm.form
  obtain ⟨N2, hN2⟩ : ∃ N2, N2 = f.kids.length := ⟨_, rfl⟩
  rw [← hN2] at ho ⊢
  have HD := Lib.hid hd
  replace HO := Lib.hid (ho.re [2, 0, 1])
  simp only [fobj0] at HO
  clear ho hd hN2
  obtain ⟨bk, -⟩ := HO.out.blk
  have hbe := lt_of_block bk
  have fe0 := free_of_heap bk (i := 0)
  have fe1 := free_of_heap bk (i := 1)
  have fe2 := free_of_heap bk (i := 2)
  have fe3 := free_of_heap bk (i := 3)
  have fe4 := free_of_heap bk (i := 4)
  have ce0 := cell_of_heap bk (i := 0)
  have ce1 := cell_of_heap bk (i := 1)
  have ce2 := cell_of_heap bk (i := 2)
  have ce3 := cell_of_heap bk (i := 3)
  have ce4 := cell_of_heap bk (i := 4)
  simp only [List.getElem?_toArray, List.getElem?_cons_succ, List.getElem?_cons_zero] at ce0 ce1 ce2 ce3 ce4
  clear bk
  go_wp2_with fail
  have h2 := ((((HO.out.store (i := 0) (.int .i64 f.op)).store (i := 1) (.string (bs f.name))).store (i := 2) (.int .i64 f.cmp)).store (i := 3) (.int .i64 f.num)).store (i := 4) (.slice y2 N2 m2)
  exact bodyPost_ret (all_res rfl h2.blk.1) (by rfl) ⟨f, _, _, rfl, HD.out, h2.pop⟩
theorem either_c (part : List Tok → Res) (B : Nat) (hB : B ≤ 1000000) (HC : PartC w0 bp fin 134 part B) : PartC w0 bp fin 105 (partsF 6 wOr part) B := by
  intro ps s w hs h
  have HS := Lib.hid hs
  have HCh := Lib.hid HC
  clear hs HC
  obtain ⟨W1, hW1⟩ : ∃ W1, W1 = w.alloc (.cells #[.int .i64 0, .string ⟨#[]⟩, .int .i64 0, .int .i64 0, .slice none 0 0] 24) := ⟨_, rfl⟩
  obtain ⟨b2, hb2⟩ : ∃ b2, b2 = w.heap.size := ⟨_, rfl⟩
  have HO : Hid (Owns w0 W1 (parP w0 bp fin s :: blk b2 fobj0 :: ps)) := by
    rw [hW1, hb2]
    exact Lib.hid (h.box fobj0).swap
  clear h
  go_enter Tryz.func105, Tryz.ntmps105
  go_wp2_with fail
  rw [← hW1, ← hb2]
  clear hW1 hb2
  go_at_call 133
  refine (listA_c part B hB HCh.out (blk b2 fobj0 :: ps) 6 wOr s W1 HS.out (by decide) HO.out).mono ?_
  rintro e W2 ⟨f, kv, s', rfl, hd, ho⟩
  obtain ⟨y2, m2, rfl⟩ := ho.fm.form
  obtain ⟨N2, hN2⟩ : ∃ N2, N2 = f.kids.length := ⟨_, rfl⟩
  rw [← hN2] at ho ⊢
  have HD := Lib.hid hd
  replace HO := Lib.hid (ho.re [2, 0, 1])
  simp only [fobj0] at HO
  clear ho hd hN2
  obtain ⟨bk, -⟩ := HO.out.blk
  have hbe := lt_of_block bk
  have fe0 := free_of_heap bk (i := 0)
  have fe1 := free_of_heap bk (i := 1)
  have fe2 := free_of_heap bk (i := 2)
  have fe3 := free_of_heap bk (i := 3)
  have fe4 := free_of_heap bk (i := 4)
  have ce0 := cell_of_heap bk (i := 0)
  have ce1 := cell_of_heap bk (i := 1)
  have ce2 := cell_of_heap bk (i := 2)
  have ce3 := cell_of_heap bk (i := 3)
  have ce4 := cell_of_heap bk (i := 4)
  simp only [List.getElem?_toArray, List.getElem?_cons_succ, List.getElem?_cons_zero] at ce0 ce1 ce2 ce3 ce4
  clear bk
  go_wp2_with fail
  have h2 := ((((HO.out.store (i := 0) (.int .i64 f.op)).store (i := 1) (.string (bs f.name))).store (i := 2) (.int .i64 f.cmp)).store (i := 3) (.int .i64 f.num)).store (i := 4) (.slice y2 N2 m2)
  exact bodyPost_ret (either_res rfl h2.blk.1) (by rfl) ⟨f, _, _, rfl, HD.out, h2.pop⟩
abbrev f6 (u : Bytes) (x : Int) : Obj := .cells #[.int .i64 3, .string (bs u), .int .i64 x, .int .i64 0, .slice none 0 0] 24 (0, 0)
abbrev symO : Obj := .cells #[.string (bs []), .string (bs [61]), .string (bs [33, 61]), .string (bs [60]), .string (bs [60, 61]), .string (bs [62]), .string (bs [62, 61])] 76 (0, 0)
set_option maxRecDepth 100000 in
set_option maxHeartbeats 8000000 in
theorem one_step (n : Nat) (hn : n ≤ 1000000) (HI : ∀ n', n = n' + 1 → PartC w0 bp fin 154 (oneF fin (n' + 1)) n') : PartC w0 bp fin 154 (oneF fin (n + 1)) n := by
  intro ps s w hs h
  have HIh := Lib.hid HI
  have HS := Lib.hid hs
  have HNn := Lib.hid hn
  have HFi := Lib.hid h.par.1
  clear hs HI
  obtain ⟨W1, hW1⟩ : ∃ W1, W1 = w.alloc (.cells #[.int .i64 0, .string ⟨#[]⟩, .int .i64 0, .int .i64 0, .slice none 0 0] 24) := ⟨_, rfl⟩
  obtain ⟨b2, hb2⟩ : ∃ b2, b2 = w.heap.size := ⟨_, rfl⟩
  have HO : Hid (Owns w0 W1 (parP w0 bp fin s :: blk b2 fobj0 :: ps)) := by
    rw [hW1, hb2]
    exact Lib.hid (h.box fobj0).swap
  clear h
  go_enter Tryz.func154, Tryz.ntmps154
  go_wp2_with fail
  rw [← hW1, ← hb2]
  clear hW1 hb2
  go_at_call 153
  refine (take_c (w0 := w0) (bp := bp) (fin := fin) (blk b2 fobj0 :: ps) s W1 HO.out (by have := HS.out; omega)).mono ?_
  rintro e W2 ⟨rfl, ho⟩
  obtain ⟨⟨kd, po, nu, u⟩, ht⟩ : ∃ t, t = nextT s := ⟨_, rfl⟩
  obtain ⟨s1, hs1⟩ : ∃ s1, s1 = nextS fin s := ⟨_, rfl⟩
  rw [← ht]
  rw [← hs1] at ho
  simp only [tval]
  have HT := Lib.hid ht
  have HS1 := Lib.hid hs1
  obtain ⟨W3, hW3⟩ : ∃ W3, W3 = W2.alloc (.cells #[.int .i64 kd, .int .i64 po, .int .i64 nu, .string (bs u)] 40) := ⟨_, rfl⟩
  obtain ⟨b3, hb3⟩ : ∃ b3, b3 = W2.heap.size := ⟨_, rfl⟩
  replace HO : Hid (Owns w0 W3 (parP w0 bp fin s1 :: blk b3 (tobj ⟨kd, po, nu, u⟩) :: blk b2 fobj0 :: ps)) := by
    rw [hW3, hb3]
    exact Lib.hid (ho.box (tobj ⟨kd, po, nu, u⟩)).swap
  clear ho ht hs1
  by_cases hk : kd = 1
  case neg =>
    have hk' : ((kd : Int) == 1) = false := by simp; omega
    by_cases h4 : kd = 4 ∧ u = [40]
    case neg =>
      have HD : Hid (Did (oneF fin (n + 1)) s zeroF (failS s1 5 po)) := by
        rw [HS1.out]
        exact syn_any HT.out HFi.out (fun h => hk h.1) (fun h => h4 h) (.inl hk) zeroF
      by_cases h44 : kd = 4
      · have h44' : ((kd : Int) == 4) = true := by simp; omega
        have hu' : (u == [40]) = false := by simpa using fun e => h4 ⟨h44, e⟩
        clear h4 h44 hk
        go_wp2_with fail
        try rw [← hW3]
        try rw [← hb3]
        clear hW3 hb3
        go_at_call 106
        refine (fail_c (w0 := w0) (bp := bp) (fin := fin) (blk b3 (tobj ⟨kd, po, nu, u⟩) :: blk b2 fobj0 :: ps) s1 5 po (by omega) (by omega) _ HO.out).mono ?_
        rintro e W4 ⟨rfl, ho⟩
        replace HO := Lib.hid (ho.re [2, 0, 1])
        simp only [fobj0] at HO
        clear ho
        obtain ⟨bk, -⟩ := HO.out.blk
        have hbe := lt_of_block bk
        have fe0 := free_of_heap bk (i := 0)
        have fe1 := free_of_heap bk (i := 1)
        have fe2 := free_of_heap bk (i := 2)
        have fe3 := free_of_heap bk (i := 3)
        have fe4 := free_of_heap bk (i := 4)
        have ce0 := cell_of_heap bk (i := 0)
        have ce1 := cell_of_heap bk (i := 1)
        have ce2 := cell_of_heap bk (i := 2)
        have ce3 := cell_of_heap bk (i := 3)
        have ce4 := cell_of_heap bk (i := 4)
        simp only [List.getElem?_toArray, List.getElem?_cons_succ, List.getElem?_cons_zero] at ce0 ce1 ce2 ce3 ce4
        clear bk
        go_wp2_with fail
        have h2 := ((((HO.out.store (i := 0) (.int .i64 0)).store (i := 1) (.string ⟨#[]⟩)).store (i := 2) (.int .i64 0)).store (i := 3) (.int .i64 0)).store (i := 4) (.slice none 0 0)
        exact bodyPost_ret (one_res rfl h2.blk.1) (by rfl) ⟨zeroF, _, _, rfl, HD.out, h2.pop.swap.pop.leaf 0 [] 0 0 none 0⟩
      · have h44' : ((kd : Int) == 4) = false := by simp; omega
        clear h4 h44 hk
        go_wp2_with fail
        try rw [← hW3]
        try rw [← hb3]
        clear hW3 hb3
        go_at_call 106
        refine (fail_c (w0 := w0) (bp := bp) (fin := fin) (blk b3 (tobj ⟨kd, po, nu, u⟩) :: blk b2 fobj0 :: ps) s1 5 po (by omega) (by omega) _ HO.out).mono ?_
        rintro e W4 ⟨rfl, ho⟩
        replace HO := Lib.hid (ho.re [2, 0, 1])
        simp only [fobj0] at HO
        clear ho
        obtain ⟨bk, -⟩ := HO.out.blk
        have hbe := lt_of_block bk
        have fe0 := free_of_heap bk (i := 0)
        have fe1 := free_of_heap bk (i := 1)
        have fe2 := free_of_heap bk (i := 2)
        have fe3 := free_of_heap bk (i := 3)
        have fe4 := free_of_heap bk (i := 4)
        have ce0 := cell_of_heap bk (i := 0)
        have ce1 := cell_of_heap bk (i := 1)
        have ce2 := cell_of_heap bk (i := 2)
        have ce3 := cell_of_heap bk (i := 3)
        have ce4 := cell_of_heap bk (i := 4)
        simp only [List.getElem?_toArray, List.getElem?_cons_succ, List.getElem?_cons_zero] at ce0 ce1 ce2 ce3 ce4
        clear bk
        go_wp2_with fail
        have h2 := ((((HO.out.store (i := 0) (.int .i64 0)).store (i := 1) (.string ⟨#[]⟩)).store (i := 2) (.int .i64 0)).store (i := 3) (.int .i64 0)).store (i := 4) (.slice none 0 0)
        exact bodyPost_ret (one_res rfl h2.blk.1) (by rfl) ⟨zeroF, _, _, rfl, HD.out, h2.pop.swap.pop.leaf 0 [] 0 0 none 0⟩
    obtain ⟨r, e1, e2⟩ := nextT_ok HT.out (by show kd ≠ 0; omega) fin
    have h44' : ((kd : Int) == 4) = true := by simp; omega
    have hu' : (u == [40]) = true := by simpa using h4.2
    have HK : Hid (kd = 4 ∧ u = [40]) := Lib.hid h4
    obtain ⟨n', rfl⟩ : ∃ n', n = n' + 1 := by
      refine ⟨n - 1, ?_⟩
      have := HS.out
      rw [e1] at this
      simp [toks] at this
      omega
    have HE1 : Hid (s = .ok (⟨kd, po, nu, u⟩ :: r) ∧ s1 = .ok r ∧ r.length ≤ n') := by
      refine ⟨e1, HS1.out.trans e2, ?_⟩
      have := HS.out
      rw [e1] at this
      simp [toks] at this
      omega
    clear h4 hk e1 e2
    go_wp2_with fail
    try rw [← hW3]
    try rw [← hb3]
    clear hW3 hb3
    go_at_call 105
    have hE := either_c (w0 := w0) (bp := bp) (fin := fin) _ n' (by omega) (all_c _ n' (by omega) (HIh.out n' rfl))
    refine (hE (blk b3 (tobj ⟨kd, po, nu, u⟩) :: blk b2 fobj0 :: ps) s1 W3 (by rw [HE1.out.2.1]; exact HE1.out.2.2) HO.out).mono ?_
    clear hE
    rintro e W4 ⟨f, kv, s2, rfl, hd, ho⟩
    obtain ⟨y2, m2, rfl⟩ := ho.fm.form
    obtain ⟨N2, hN2⟩ : ∃ N2, N2 = f.kids.length := ⟨_, rfl⟩
    rw [← hN2] at ho ⊢
    have HP : Hid (_ ∧ _) := Lib.hid (one_paren_did (t := ⟨kd, po, nu, u⟩) HK.out (HE1.out.2.1 ▸ hd))
    have hl2 : (toks s2).length ≤ 1000000 := by have h1 := hd.2.1; rw [HE1.out.2.1] at h1; have := HE1.out.2.2; simp [toks] at h1 ⊢; omega
    obtain ⟨W5, hW5⟩ : ∃ W5, W5 = W4.alloc (.cells #[.int .i64 f.op, .string (bs f.name), .int .i64 f.cmp, .int .i64 f.num, .slice y2 N2 m2] 24) := ⟨_, rfl⟩
    obtain ⟨b5, hb5⟩ : ∃ b5, b5 = W4.heap.size := ⟨_, rfl⟩
    replace HO : Hid (Owns w0 W5 (parP w0 bp fin s2 :: fmP f (.slice y2 N2 m2) :: blk b5 (fobj f (.slice y2 N2 m2)) :: blk b3 (tobj ⟨kd, po, nu, u⟩) :: blk b2 fobj0 :: ps)) := by
      rw [hW5, hb5]
      exact Lib.hid ((ho.box (fobj f (.slice y2 N2 m2))).re [2, 1, 0])
    clear ho hd hN2 h44' hu'
    go_wp2_with fail
    rw [← hW5, ← hb5]
    clear hW5 hb5
    go_at_call 153
    refine (take_c (w0 := w0) (bp := bp) (fin := fin) (fmP f (.slice y2 N2 m2) :: blk b5 (fobj f (.slice y2 N2 m2)) :: blk b3 (tobj ⟨kd, po, nu, u⟩) :: blk b2 fobj0 :: ps) s2 W5 HO.out hl2).mono ?_
    rintro e W6 ⟨rfl, ho⟩
    obtain ⟨⟨kd2, po2, nu2, u2⟩, ht⟩ : ∃ t, t = nextT s2 := ⟨_, rfl⟩
    obtain ⟨s3, hs3⟩ : ∃ s3, s3 = nextS fin s2 := ⟨_, rfl⟩
    rw [← ht, ← hs3] at HP
    rw [← ht]
    rw [← hs3] at ho
    simp only [tval]
    have HO3 := Lib.hid (ho.re [3, 0, 1, 2])
    obtain ⟨W7, hW7⟩ : ∃ W7, W7 = (((W6.setCell ⟨b3, 0, none⟩ (.int .i64 kd2)).setCell ⟨b3, 1, none⟩ (.int .i64 po2)).setCell ⟨b3, 2, none⟩ (.int .i64 nu2)).setCell ⟨b3, 3, none⟩ (.string (bs u2)) := ⟨_, rfl⟩
    replace HO : Hid (Owns w0 W7 (blk b3 (tobj ⟨kd2, po2, nu2, u2⟩) :: parP w0 bp fin s3 :: fmP f (.slice y2 N2 m2) :: blk b5 (fobj f (.slice y2 N2 m2)) :: blk b2 fobj0 :: ps)) := by
      rw [hW7]
      exact Lib.hid ((((HO3.out.store (i := 0) (.int .i64 kd2)).store (i := 1) (.int .i64 po2)).store (i := 2) (.int .i64 nu2)).store (i := 3) (.string (bs u2)))
    clear ho ht hs3
    by_cases h41 : kd2 = 4 ∧ u2 = [41]
    · have hk2 : ((kd2 : Int) != 4) = false := by simp; omega
      have hu2 : (u2 == [41]) = true := by simpa using h41.2
      have HD : Hid (Did (oneF fin (n' + 1 + 1)) s f s3) := by
        rw [HE1.out.1]
        exact HP.out.1 h41
      clear h41
      subst hW7
      have n35 := Owns.ne (HO3.out.re [0, 3, 1, 2])
      have n35' := n35.symm
      have n32 := Owns.ne (HO3.out.re [0, 4, 1, 2, 3])
      have n32' := n32.symm
      have n25 := Owns.ne (HO3.out.re [3, 4, 0, 1, 2])
      have n25' := n25.symm
      have HO5 := Lib.hid (HO.out.re [4, 1, 2, 3, 0])
      simp only [fobj0] at HO5
      obtain ⟨bk, -⟩ := HO3.out.blk
      have hbt := lt_of_block bk
      have ft0 := free_of_heap bk (i := 0)
      have ft1 := free_of_heap bk (i := 1)
      have ft2 := free_of_heap bk (i := 2)
      have ft3 := free_of_heap bk (i := 3)
      have ct0 := cell_of_heap bk (i := 0)
      have ct1 := cell_of_heap bk (i := 1)
      have ct2 := cell_of_heap bk (i := 2)
      have ct3 := cell_of_heap bk (i := 3)
      simp only [List.getElem?_toArray, List.getElem?_cons_succ, List.getElem?_cons_zero] at ct0 ct1 ct2 ct3
      clear bk
      obtain ⟨bk, -⟩ := (HO3.out.re [3, 4, 0, 1, 2]).blk
      have hbv := lt_of_block bk
      have fv0 := free_of_heap bk (i := 0)
      have fv1 := free_of_heap bk (i := 1)
      have fv2 := free_of_heap bk (i := 2)
      have fv3 := free_of_heap bk (i := 3)
      have fv4 := free_of_heap bk (i := 4)
      have cv0 := cell_of_heap bk (i := 0)
      have cv1 := cell_of_heap bk (i := 1)
      have cv2 := cell_of_heap bk (i := 2)
      have cv3 := cell_of_heap bk (i := 3)
      have cv4 := cell_of_heap bk (i := 4)
      simp only [List.getElem?_toArray, List.getElem?_cons_succ, List.getElem?_cons_zero] at cv0 cv1 cv2 cv3 cv4
      clear bk
      obtain ⟨bk, -⟩ := (HO3.out.re [4, 3, 0, 1, 2]).blk
      have hbe := lt_of_block bk
      have fe0 := free_of_heap bk (i := 0)
      have fe1 := free_of_heap bk (i := 1)
      have fe2 := free_of_heap bk (i := 2)
      have fe3 := free_of_heap bk (i := 3)
      have fe4 := free_of_heap bk (i := 4)
      have ce0 := cell_of_heap bk (i := 0)
      have ce1 := cell_of_heap bk (i := 1)
      have ce2 := cell_of_heap bk (i := 2)
      have ce3 := cell_of_heap bk (i := 3)
      have ce4 := cell_of_heap bk (i := 4)
      simp only [List.getElem?_toArray, List.getElem?_cons_succ, List.getElem?_cons_zero] at ce0 ce1 ce2 ce3 ce4
      clear bk
      repeat (first | go_values | go_skip | go_guarded | go_step | go_upon)
      have h2 := ((((HO5.out.store (i := 0) (.int .i64 f.op)).store (i := 1) (.string (bs f.name))).store (i := 2) (.int .i64 f.cmp)).store (i := 3) (.int .i64 f.num)).store (i := 4) (.slice y2 N2 m2)
      exact bodyPost_ret (one_res rfl h2.blk.1) (by rfl) ⟨f, .slice y2 N2 m2, s3, rfl, HD.out, (h2.pop.re [2, 3, 1, 0]).pop.pop⟩
    · have HD : Hid (Did (oneF fin (n' + 1 + 1)) s f (failS s3 5 po2)) := by
        rw [HE1.out.1]
        exact HP.out.2 h41
      by_cases hk2 : kd2 = 4
      · have hk2' : ((kd2 : Int) != 4) = false := by simp; omega
        have hu2 : (u2 == [41]) = false := by simpa using fun e => h41 ⟨hk2, e⟩
        clear h41 hk2
        focus
          obtain ⟨bk, -⟩ := HO3.out.blk
          have hbt := lt_of_block bk
          have ft0 := free_of_heap bk (i := 0)
          have ft1 := free_of_heap bk (i := 1)
          have ft2 := free_of_heap bk (i := 2)
          have ft3 := free_of_heap bk (i := 3)
          have ct0 := cell_of_heap bk (i := 0)
          have ct1 := cell_of_heap bk (i := 1)
          have ct2 := cell_of_heap bk (i := 2)
          have ct3 := cell_of_heap bk (i := 3)
          simp only [List.getElem?_toArray, List.getElem?_cons_succ, List.getElem?_cons_zero] at ct0 ct1 ct2 ct3
          clear bk
          go_wp2_with fail
          rw [← hW7]
          clear hW7 hbt ft0 ft1 ft2 ft3 ct0 ct1 ct2 ct3
        go_at_call 106
        refine (fail_c (w0 := w0) (bp := bp) (fin := fin) (blk b3 (tobj ⟨kd2, po2, nu2, u2⟩) :: fmP f (.slice y2 N2 m2) :: blk b5 (fobj f (.slice y2 N2 m2)) :: blk b2 fobj0 :: ps) s3 5 po2 (by omega) (by omega) W7 HO.out.swap).mono ?_
        rintro e W8 ⟨rfl, ho⟩
        have n25 := Owns.ne (ho.re [3, 4, 0, 1, 2])
        have n25' := n25.symm
        have HO5 := Lib.hid (ho.re [4, 3, 0, 2, 1])
        simp only [fobj0] at HO5
        clear ho HO
        focus
          obtain ⟨bk, -⟩ := HO5.out.blk
          have hbe := lt_of_block bk
          have fe0 := free_of_heap bk (i := 0)
          have fe1 := free_of_heap bk (i := 1)
          have fe2 := free_of_heap bk (i := 2)
          have fe3 := free_of_heap bk (i := 3)
          have fe4 := free_of_heap bk (i := 4)
          have ce0 := cell_of_heap bk (i := 0)
          have ce1 := cell_of_heap bk (i := 1)
          have ce2 := cell_of_heap bk (i := 2)
          have ce3 := cell_of_heap bk (i := 3)
          have ce4 := cell_of_heap bk (i := 4)
          simp only [List.getElem?_toArray, List.getElem?_cons_succ, List.getElem?_cons_zero] at ce0 ce1 ce2 ce3 ce4
          clear bk
          obtain ⟨bk, -⟩ := (HO5.out.swap).blk
          have hbv := lt_of_block bk
          have fv0 := free_of_heap bk (i := 0)
          have fv1 := free_of_heap bk (i := 1)
          have fv2 := free_of_heap bk (i := 2)
          have fv3 := free_of_heap bk (i := 3)
          have fv4 := free_of_heap bk (i := 4)
          have cv0 := cell_of_heap bk (i := 0)
          have cv1 := cell_of_heap bk (i := 1)
          have cv2 := cell_of_heap bk (i := 2)
          have cv3 := cell_of_heap bk (i := 3)
          have cv4 := cell_of_heap bk (i := 4)
          simp only [List.getElem?_toArray, List.getElem?_cons_succ, List.getElem?_cons_zero] at cv0 cv1 cv2 cv3 cv4
          clear bk
          go_wp2_with fail
        have h2 := ((((HO5.out.store (i := 0) (.int .i64 f.op)).store (i := 1) (.string (bs f.name))).store (i := 2) (.int .i64 f.cmp)).store (i := 3) (.int .i64 f.num)).store (i := 4) (.slice y2 N2 m2)
        exact bodyPost_ret (one_res rfl h2.blk.1) (by rfl) ⟨f, _, _, rfl, HD.out, (h2.pop.re [0, 3, 2, 1]).pop.pop⟩
      · have hk2' : ((kd2 : Int) != 4) = true := by simp; omega
        clear h41 hk2
        focus
          obtain ⟨bk, -⟩ := HO3.out.blk
          have hbt := lt_of_block bk
          have ft0 := free_of_heap bk (i := 0)
          have ft1 := free_of_heap bk (i := 1)
          have ft2 := free_of_heap bk (i := 2)
          have ft3 := free_of_heap bk (i := 3)
          have ct0 := cell_of_heap bk (i := 0)
          have ct1 := cell_of_heap bk (i := 1)
          have ct2 := cell_of_heap bk (i := 2)
          have ct3 := cell_of_heap bk (i := 3)
          simp only [List.getElem?_toArray, List.getElem?_cons_succ, List.getElem?_cons_zero] at ct0 ct1 ct2 ct3
          clear bk
          go_wp2_with fail
          rw [← hW7]
          clear hW7 hbt ft0 ft1 ft2 ft3 ct0 ct1 ct2 ct3
        go_at_call 106
        refine (fail_c (w0 := w0) (bp := bp) (fin := fin) (blk b3 (tobj ⟨kd2, po2, nu2, u2⟩) :: fmP f (.slice y2 N2 m2) :: blk b5 (fobj f (.slice y2 N2 m2)) :: blk b2 fobj0 :: ps) s3 5 po2 (by omega) (by omega) W7 HO.out.swap).mono ?_
        rintro e W8 ⟨rfl, ho⟩
        have n25 := Owns.ne (ho.re [3, 4, 0, 1, 2])
        have n25' := n25.symm
        have HO5 := Lib.hid (ho.re [4, 3, 0, 2, 1])
        simp only [fobj0] at HO5
        clear ho HO
        focus
          obtain ⟨bk, -⟩ := HO5.out.blk
          have hbe := lt_of_block bk
          have fe0 := free_of_heap bk (i := 0)
          have fe1 := free_of_heap bk (i := 1)
          have fe2 := free_of_heap bk (i := 2)
          have fe3 := free_of_heap bk (i := 3)
          have fe4 := free_of_heap bk (i := 4)
          have ce0 := cell_of_heap bk (i := 0)
          have ce1 := cell_of_heap bk (i := 1)
          have ce2 := cell_of_heap bk (i := 2)
          have ce3 := cell_of_heap bk (i := 3)
          have ce4 := cell_of_heap bk (i := 4)
          simp only [List.getElem?_toArray, List.getElem?_cons_succ, List.getElem?_cons_zero] at ce0 ce1 ce2 ce3 ce4
          clear bk
          obtain ⟨bk, -⟩ := (HO5.out.swap).blk
          have hbv := lt_of_block bk
          have fv0 := free_of_heap bk (i := 0)
          have fv1 := free_of_heap bk (i := 1)
          have fv2 := free_of_heap bk (i := 2)
          have fv3 := free_of_heap bk (i := 3)
          have fv4 := free_of_heap bk (i := 4)
          have cv0 := cell_of_heap bk (i := 0)
          have cv1 := cell_of_heap bk (i := 1)
          have cv2 := cell_of_heap bk (i := 2)
          have cv3 := cell_of_heap bk (i := 3)
          have cv4 := cell_of_heap bk (i := 4)
          simp only [List.getElem?_toArray, List.getElem?_cons_succ, List.getElem?_cons_zero] at cv0 cv1 cv2 cv3 cv4
          clear bk
          go_wp2_with fail
        have h2 := ((((HO5.out.store (i := 0) (.int .i64 f.op)).store (i := 1) (.string (bs f.name))).store (i := 2) (.int .i64 f.cmp)).store (i := 3) (.int .i64 f.num)).store (i := 4) (.slice y2 N2 m2)
        exact bodyPost_ret (one_res rfl h2.blk.1) (by rfl) ⟨f, _, _, rfl, HD.out, (h2.pop.re [0, 3, 2, 1]).pop.pop⟩
  have hk' : ((kd : Int) == 1) = true := by simp; omega
  have hk4 : ((kd : Int) == 4) = false := by simp; omega
  obtain ⟨r, e1, e2⟩ := nextT_ok HT.out (by show kd ≠ 0; omega) fin
  have HKD : Hid (kd = 1) := hk
  clear hk
  by_cases hn1 : u = wNot
  · have hu' : (u == [110, 111, 116]) = true := by simpa [wNot] using hn1
    have HK : Hid (kd = 1 ∧ u = wNot) := Lib.hid ⟨HKD.out, hn1⟩
    obtain ⟨n', rfl⟩ : ∃ n', n = n' + 1 := by
      refine ⟨n - 1, ?_⟩
      have := HS.out
      rw [e1] at this
      simp [toks] at this
      omega
    have HE1 : Hid (s = .ok (⟨kd, po, nu, u⟩ :: r) ∧ s1 = .ok r ∧ r.length ≤ n') := by
      refine ⟨e1, HS1.out.trans e2, ?_⟩
      have := HS.out
      rw [e1] at this
      simp [toks] at this
      omega
    clear hn1 e1 e2
    go_wp2_with fail
    try rw [← hW3]
    try rw [← hb3]
    clear hW3 hb3
    refine (HIh.out n' rfl (blk b3 (tobj ⟨kd, po, nu, u⟩) :: blk b2 fobj0 :: ps) s1 W3 (by rw [HE1.out.2.1]; exact HE1.out.2.2) HO.out).mono ?_
    rintro e W4 ⟨f, kv, s2, rfl, hd, ho⟩
    obtain ⟨y2, m2, rfl⟩ := ho.fm.form
    obtain ⟨N2, hN2⟩ : ∃ N2, N2 = f.kids.length := ⟨_, rfl⟩
    rw [← hN2] at ho ⊢
    have HD : Hid (Did (oneF fin (n' + 1 + 1)) s (.mk 4 [] 0 0 [f]) s2) := by
      rw [HE1.out.1]
      exact one_not HK.out (HE1.out.2.1 ▸ hd)
    have hk1 := (ho.kid1.knode 4 [] 0 0).re [3, 1, 2, 0]
    replace HO : Hid (Owns w0 (W4.alloc (.cells #[.int .i64 f.op, .string (bs f.name), .int .i64 f.cmp, .int .i64 f.num, .slice y2 N2 m2] 24)) (blk b2 fobj0 :: parP w0 bp fin s2 :: blk b3 (tobj ⟨kd, po, nu, u⟩) :: fmP (.mk 4 [] 0 0 [f]) (.slice (some ⟨W4.heap.size, 0, none⟩) 1 1) :: ps)) := Lib.hid hk1
    simp only [fobj0] at HO
    clear ho hd hN2 hk1
    obtain ⟨bk, -⟩ := HO.out.blk
    have hbe := lt_of_block bk
    have fe0 := free_of_heap bk (i := 0)
    have fe1 := free_of_heap bk (i := 1)
    have fe2 := free_of_heap bk (i := 2)
    have fe3 := free_of_heap bk (i := 3)
    have fe4 := free_of_heap bk (i := 4)
    have ce0 := cell_of_heap bk (i := 0)
    have ce1 := cell_of_heap bk (i := 1)
    have ce2 := cell_of_heap bk (i := 2)
    have ce3 := cell_of_heap bk (i := 3)
    have ce4 := cell_of_heap bk (i := 4)
    simp only [List.getElem?_toArray, List.getElem?_cons_succ, List.getElem?_cons_zero] at ce0 ce1 ce2 ce3 ce4
    clear bk
    go_wp2_with fail
    have h2 := ((((HO.out.store (i := 0) (.int .i64 4)).store (i := 1) (.string ⟨#[]⟩)).store (i := 2) (.int .i64 0)).store (i := 3) (.int .i64 0)).store (i := 4) (.slice (some ⟨W4.heap.size, 0, none⟩) 1 1)
    exact bodyPost_ret (one_res rfl h2.blk.1) (by rfl) ⟨_, _, _, rfl, HD.out, (h2.pop.re [1, 2, 0]).pop⟩
  have hu1 : (u == [110, 111, 116]) = false := by simpa [wNot] using hn1
  by_cases hn2 : u = wTrue
  · have hu' : (u == [116, 114, 117, 101]) = true := by simpa [wTrue] using hn2
    have HK : Hid (kd = 1 ∧ u = wTrue) := Lib.hid ⟨HKD.out, hn2⟩
    clear hn1 hn2
    have HD : Hid (Did (oneF fin (n + 1)) s (.mk 1 [] 0 0 []) s1) := by
      rw [HS1.out, e2, e1]
      exact one_true HK.out
    have HO4 : Hid (Owns w0 W3 (blk b2 fobj0 :: parP w0 bp fin s1 :: blk b3 (tobj ⟨kd, po, nu, u⟩) :: ps)) := Lib.hid (HO.out.re [2, 0, 1])
    simp only [fobj0] at HO4
    rw [hW3] at HO4
    obtain ⟨bk, -⟩ := (HO4.out).blk
    have hbe := lt_of_block bk
    have fe0 := free_of_heap bk (i := 0)
    have fe1 := free_of_heap bk (i := 1)
    have fe2 := free_of_heap bk (i := 2)
    have fe3 := free_of_heap bk (i := 3)
    have fe4 := free_of_heap bk (i := 4)
    have ce0 := cell_of_heap bk (i := 0)
    have ce1 := cell_of_heap bk (i := 1)
    have ce2 := cell_of_heap bk (i := 2)
    have ce3 := cell_of_heap bk (i := 3)
    have ce4 := cell_of_heap bk (i := 4)
    simp only [List.getElem?_toArray, List.getElem?_cons_succ, List.getElem?_cons_zero] at ce0 ce1 ce2 ce3 ce4
    clear bk
    go_wp2_with fail
    have h2 := ((((HO4.out.store (i := 0) (.int .i64 1)).store (i := 1) (.string ⟨#[]⟩)).store (i := 2) (.int .i64 0)).store (i := 3) (.int .i64 0)).store (i := 4) (.slice none 0 0)
    exact bodyPost_ret (one_res rfl h2.blk.1) (by rfl) ⟨.mk 1 [] 0 0 [], _, _, rfl, HD.out, h2.pop.swap.pop.leaf 1 [] 0 0 none 0⟩
  have hu2 : (u == [116, 114, 117, 101]) = false := by simpa [wTrue] using hn2
  by_cases hn3 : u = wFalse
  · have hu' : (u == [102, 97, 108, 115, 101]) = true := by simpa [wFalse] using hn3
    have HK : Hid (kd = 1 ∧ u = wFalse) := Lib.hid ⟨HKD.out, hn3⟩
    clear hn1 hn2 hn3
    have HD : Hid (Did (oneF fin (n + 1)) s (.mk 2 [] 0 0 []) s1) := by
      rw [HS1.out, e2, e1]
      exact one_false HK.out
    have HO4 : Hid (Owns w0 W3 (blk b2 fobj0 :: parP w0 bp fin s1 :: blk b3 (tobj ⟨kd, po, nu, u⟩) :: ps)) := Lib.hid (HO.out.re [2, 0, 1])
    simp only [fobj0] at HO4
    rw [hW3] at HO4
    obtain ⟨bk, -⟩ := (HO4.out).blk
    have hbe := lt_of_block bk
    have fe0 := free_of_heap bk (i := 0)
    have fe1 := free_of_heap bk (i := 1)
    have fe2 := free_of_heap bk (i := 2)
    have fe3 := free_of_heap bk (i := 3)
    have fe4 := free_of_heap bk (i := 4)
    have ce0 := cell_of_heap bk (i := 0)
    have ce1 := cell_of_heap bk (i := 1)
    have ce2 := cell_of_heap bk (i := 2)
    have ce3 := cell_of_heap bk (i := 3)
    have ce4 := cell_of_heap bk (i := 4)
    simp only [List.getElem?_toArray, List.getElem?_cons_succ, List.getElem?_cons_zero] at ce0 ce1 ce2 ce3 ce4
    clear bk
    go_wp2_with fail
    have h2 := ((((HO4.out.store (i := 0) (.int .i64 2)).store (i := 1) (.string ⟨#[]⟩)).store (i := 2) (.int .i64 0)).store (i := 3) (.int .i64 0)).store (i := 4) (.slice none 0 0)
    exact bodyPost_ret (one_res rfl h2.blk.1) (by rfl) ⟨.mk 2 [] 0 0 [], _, _, rfl, HD.out, h2.pop.swap.pop.leaf 2 [] 0 0 none 0⟩
  have hu3 : (u == [102, 97, 108, 115, 101]) = false := by simpa [wFalse] using hn3
  by_cases hn0 : u = []
  · have hu' : (u == []) = true := by simpa using hn0
    have HD : Hid (Did (oneF fin (n + 1)) s zeroF (failS s1 5 po)) := by
      rw [HS1.out]
      exact syn_any HT.out HFi.out (by rintro ⟨-, h | h | h⟩; · exact hn1 h
                                       · exact hn2 h
                                       · exact hn3 h) (by rintro ⟨h, -⟩; have h2 : kd = 4 := h; have := HKD.out; omega) (.inr (.inl hn0)) zeroF
    clear hn1 hn2 hn3 hn0 e1 e2
    go_wp2_with fail
    try rw [← hW3]
    try rw [← hb3]
    clear hW3 hb3
    go_at_call 106
    refine (fail_c (w0 := w0) (bp := bp) (fin := fin) (blk b3 (tobj ⟨kd, po, nu, u⟩) :: blk b2 fobj0 :: ps) s1 5 po (by omega) (by omega) _ HO.out).mono ?_
    rintro e W4 ⟨rfl, ho⟩
    replace HO := Lib.hid (ho.re [2, 0, 1])
    simp only [fobj0] at HO
    clear ho
    obtain ⟨bk, -⟩ := HO.out.blk
    have hbe := lt_of_block bk
    have fe0 := free_of_heap bk (i := 0)
    have fe1 := free_of_heap bk (i := 1)
    have fe2 := free_of_heap bk (i := 2)
    have fe3 := free_of_heap bk (i := 3)
    have fe4 := free_of_heap bk (i := 4)
    have ce0 := cell_of_heap bk (i := 0)
    have ce1 := cell_of_heap bk (i := 1)
    have ce2 := cell_of_heap bk (i := 2)
    have ce3 := cell_of_heap bk (i := 3)
    have ce4 := cell_of_heap bk (i := 4)
    simp only [List.getElem?_toArray, List.getElem?_cons_succ, List.getElem?_cons_zero] at ce0 ce1 ce2 ce3 ce4
    clear bk
    go_wp2_with fail
    have h2 := ((((HO.out.store (i := 0) (.int .i64 0)).store (i := 1) (.string ⟨#[]⟩)).store (i := 2) (.int .i64 0)).store (i := 3) (.int .i64 0)).store (i := 4) (.slice none 0 0)
    exact bodyPost_ret (one_res rfl h2.blk.1) (by rfl) ⟨zeroF, _, _, rfl, HD.out, h2.pop.swap.pop.leaf 0 [] 0 0 none 0⟩
  have hu0 : (u == []) = false := by simpa using hn0
  obtain ⟨q, hq⟩ : ∃ q, q = keyB u := ⟨_, rfl⟩
  have HQ := Lib.hid hq
  have HU : Hid (u ≠ wNot ∧ u ≠ wTrue ∧ u ≠ wFalse ∧ u ≠ []) := ⟨hn1, hn2, hn3, hn0⟩
  have HE1 : Hid (s = .ok (⟨kd, po, nu, u⟩ :: r) ∧ s1 = .ok r) := ⟨e1, HS1.out.trans e2⟩
  clear hn1 hn2 hn3 hn0 e1 e2 hq
  go_wp2_with fail
  try rw [← hW3]
  try rw [← hb3]
  clear hW3 hb3
  go_at_call 67
  refine (key_c u W3).mono ?_
  rintro e W4 ⟨rfl, hb⟩
  rw [← HQ.out]
  replace HO := Lib.hid (HO.out.below hb)
  clear hb
  cases q
  case true =>
    have HD : Hid (Did (oneF fin (n + 1)) s zeroF (failS s1 5 po)) := by
      rw [HS1.out]
      exact syn_any HT.out HFi.out (by rintro ⟨-, h | h | h⟩; · exact HU.out.1 h
                                       · exact HU.out.2.1 h
                                       · exact HU.out.2.2.1 h) (by rintro ⟨h, -⟩; have h2 : kd = 4 := h; have := HKD.out; omega) (.inr (.inr HQ.out.symm)) zeroF
    focus
      obtain ⟨bk, -⟩ := (HO.out.swap).blk
      have hbt := lt_of_block bk
      have ft0 := free_of_heap bk (i := 0)
      have ft1 := free_of_heap bk (i := 1)
      have ft2 := free_of_heap bk (i := 2)
      have ft3 := free_of_heap bk (i := 3)
      have ct0 := cell_of_heap bk (i := 0)
      have ct1 := cell_of_heap bk (i := 1)
      have ct2 := cell_of_heap bk (i := 2)
      have ct3 := cell_of_heap bk (i := 3)
      simp only [List.getElem?_toArray, List.getElem?_cons_succ, List.getElem?_cons_zero] at ct0 ct1 ct2 ct3
      clear bk
      go_wp2_with fail
      clear hbt ft0 ft1 ft2 ft3 ct0 ct1 ct2 ct3
    go_at_call 106
    refine (fail_c (w0 := w0) (bp := bp) (fin := fin) (blk b3 (tobj ⟨kd, po, nu, u⟩) :: blk b2 fobj0 :: ps) s1 5 po (by omega) (by omega) _ HO.out).mono ?_
    rintro e W4 ⟨rfl, ho⟩
    replace HO := Lib.hid (ho.re [2, 0, 1])
    simp only [fobj0] at HO
    clear ho
    obtain ⟨bk, -⟩ := HO.out.blk
    have hbe := lt_of_block bk
    have fe0 := free_of_heap bk (i := 0)
    have fe1 := free_of_heap bk (i := 1)
    have fe2 := free_of_heap bk (i := 2)
    have fe3 := free_of_heap bk (i := 3)
    have fe4 := free_of_heap bk (i := 4)
    have ce0 := cell_of_heap bk (i := 0)
    have ce1 := cell_of_heap bk (i := 1)
    have ce2 := cell_of_heap bk (i := 2)
    have ce3 := cell_of_heap bk (i := 3)
    have ce4 := cell_of_heap bk (i := 4)
    simp only [List.getElem?_toArray, List.getElem?_cons_succ, List.getElem?_cons_zero] at ce0 ce1 ce2 ce3 ce4
    clear bk
    go_wp2_with fail
    have h2 := ((((HO.out.store (i := 0) (.int .i64 0)).store (i := 1) (.string ⟨#[]⟩)).store (i := 2) (.int .i64 0)).store (i := 3) (.int .i64 0)).store (i := 4) (.slice none 0 0)
    exact bodyPost_ret (one_res rfl h2.blk.1) (by rfl) ⟨zeroF, _, _, rfl, HD.out, h2.pop.swap.pop.leaf 0 [] 0 0 none 0⟩
  clear hk' hk4 hu0 hu1 hu2 hu3
  obtain ⟨W5, hW5⟩ : ∃ W5, W5 = W4.alloc (.cells #[.int .i64 3, .string (bs u), .int .i64 0, .int .i64 0, .slice none 0 0] 24) := ⟨_, rfl⟩
  obtain ⟨b6, hb6⟩ : ∃ b6, b6 = W4.heap.size := ⟨_, rfl⟩
  replace HO : Hid (Owns w0 W5 (parP w0 bp fin s1 :: blk b6 (f6 u 0) :: blk b3 (tobj ⟨kd, po, nu, u⟩) :: blk b2 fobj0 :: ps)) := by
    rw [hW5, hb6]
    exact Lib.hid (HO.out.box (f6 u 0)).swap
  go_wp2_with fail
  rw [← hW5, ← hb6]
  clear hW5 hb6
  go_at_call 153
  refine (take_c (w0 := w0) (bp := bp) (fin := fin) (blk b6 (f6 u 0) :: blk b3 (tobj ⟨kd, po, nu, u⟩) :: blk b2 fobj0 :: ps) s1 W5 HO.out (by rw [HS1.out]; have := next_len fin s; have := HS.out; have := HNn.out; omega)).mono ?_
  rintro e W6 ⟨rfl, ho⟩
  obtain ⟨⟨k2, p2, n2, u2⟩, ht⟩ : ∃ t, t = nextT s1 := ⟨_, rfl⟩
  obtain ⟨s2, hs2⟩ : ∃ s2, s2 = nextS fin s1 := ⟨_, rfl⟩
  rw [← ht]
  rw [← hs2] at ho
  simp only [tval]
  have HT2 := Lib.hid ht
  have HS2 := Lib.hid hs2
  have HO3 := Lib.hid (ho.re [2, 0, 1])
  obtain ⟨W7, hW7⟩ : ∃ W7, W7 = (((W6.setCell ⟨b3, 0, none⟩ (.int .i64 k2)).setCell ⟨b3, 1, none⟩ (.int .i64 p2)).setCell ⟨b3, 2, none⟩ (.int .i64 n2)).setCell ⟨b3, 3, none⟩ (.string (bs u2)) := ⟨_, rfl⟩
  replace HO : Hid (Owns w0 W7 (blk b3 (tobj ⟨k2, p2, n2, u2⟩) :: parP w0 bp fin s2 :: blk b6 (f6 u 0) :: blk b2 fobj0 :: ps)) := by
    rw [hW7]
    exact Lib.hid ((((HO3.out.store (i := 0) (.int .i64 k2)).store (i := 1) (.int .i64 p2)).store (i := 2) (.int .i64 n2)).store (i := 3) (.string (bs u2)))
  clear ho ht hs2
  focus
    obtain ⟨bk, -⟩ := HO3.out.blk
    have hbt := lt_of_block bk
    have ft0 := free_of_heap bk (i := 0)
    have ft1 := free_of_heap bk (i := 1)
    have ft2 := free_of_heap bk (i := 2)
    have ft3 := free_of_heap bk (i := 3)
    have ct0 := cell_of_heap bk (i := 0)
    have ct1 := cell_of_heap bk (i := 1)
    have ct2 := cell_of_heap bk (i := 2)
    have ct3 := cell_of_heap bk (i := 3)
    simp only [List.getElem?_toArray, List.getElem?_cons_succ, List.getElem?_cons_zero] at ct0 ct1 ct2 ct3
    clear bk
    go_wp2_with fail
    rw [← hW7]
    clear hW7 hbt ft0 ft1 ft2 ft3 ct0 ct1 ct2 ct3
  clear HO3
  go_at_call 101
  refine (symbols_c W7).mono ?_
  rintro e W8 ⟨rfl, hb⟩
  replace HO := Lib.hid (HO.out.below hb)
  clear hb
  obtain ⟨W9, hW9⟩ : ∃ W9, W9 = W8.alloc (.cells #[.string (bs []), .string (bs [61]), .string (bs [33, 61]), .string (bs [60]), .string (bs [60, 61]), .string (bs [62]), .string (bs [62, 61])] 76) := ⟨_, rfl⟩
  obtain ⟨b7, hb7⟩ : ∃ b7, b7 = W8.heap.size := ⟨_, rfl⟩
  replace HO : Hid (Owns w0 W9 (blk b7 symO :: blk b3 (tobj ⟨k2, p2, n2, u2⟩) :: parP w0 bp fin s2 :: blk b6 (f6 u 0) :: blk b2 fobj0 :: ps)) := by
    rw [hW9, hb7]
    exact Lib.hid (HO.out.box symO)
  go_wp2_with fail
  rw [← hW9, ← hb7]
  clear hW9 hb7
  refine wp_region_can [3] (List.range 6) (by decide +kernel) (by decide +kernel) ?_
  replace HO := Lib.hid HO.out.drew
  obtain ⟨W10, hW10⟩ : ∃ W10, W10 = W9.drew := ⟨_, rfl⟩
  rw [← hW10] at HO ⊢
  clear hW10
  obtain ⟨bk, -⟩ := (HO.out.swap).blk
  have hbt := lt_of_block bk
  have ft0 := free_of_heap bk (i := 0)
  have ft1 := free_of_heap bk (i := 1)
  have ft2 := free_of_heap bk (i := 2)
  have ft3 := free_of_heap bk (i := 3)
  have ct0 := cell_of_heap bk (i := 0)
  have ct1 := cell_of_heap bk (i := 1)
  have ct2 := cell_of_heap bk (i := 2)
  have ct3 := cell_of_heap bk (i := 3)
  simp only [List.getElem?_toArray, List.getElem?_cons_succ, List.getElem?_cons_zero] at ct0 ct1 ct2 ct3
  clear bk
  obtain ⟨bk, -⟩ := HO.out.blk
  have hb7 := lt_of_block bk
  clear bk
  iterate 3 (refine cl_do rfl rfl rfl (by first | rfl | simp [okB, lenV, plainV, Act.eval]) (fun _ _ => ?_); go_wp2_with fail)
  refine cl_call (i := 3) rfl rfl rfl (fun K hK => ?_)
  go_wp2_with fail
  go_at_call 126
  have hcell : ∀ j, j < symsL.length → W10.cell? ⟨b7, 0 + j, none⟩ = some (.string (symsL.getD j ByteArray.empty)) := by
    obtain ⟨bk, -⟩ := HO.out.blk
    intro j hj
    rw [Nat.zero_add, cell_of_heap bk]
    rcases j with _ | _ | _ | _ | _ | _ | _ | j
    iterate 7 rfl
    have : symsL.length = 7 := rfl
    omega
  refine (Tryz.slices_Index_string b7 0 7 7 symsL (bs u2) W10 (by decide) (by decide) hcell).mono ?_
  clear hcell hbt ft0 ft1 ft2 ft3 ct0 ct1 ct2 ct3 hb7
  rintro e w2 ⟨rfl, rfl⟩
  obtain ⟨x, hx⟩ : ∃ x, x = symX u2 := ⟨_, rfl⟩
  rw [show Lib.idxOfS (symsL.take 7) (bs u2) = x from hx.symm]
  have HX := Lib.hid hx
  clear hx
  go_wp2_with fail
  refine And.intro (Below.refl _ _) ?_
  have HO3 := Lib.hid (HO.out.re [3, 1, 2, 0])
  obtain ⟨W11, hW11⟩ : ∃ W11, W11 = w2.setCell ⟨b6, 2, none⟩ (.int .i64 x) := ⟨_, rfl⟩
  replace HO : Hid (Owns w0 W11 (blk b3 (tobj ⟨k2, p2, n2, u2⟩) :: blk b6 (f6 u x) :: parP w0 bp fin s2 :: blk b2 fobj0 :: ps)) := by
    rw [hW11]
    exact Lib.hid ((HO3.out.store (i := 2) (.int .i64 x)).re [3, 1, 0, 2]).pop
  focus
    obtain ⟨bk, -⟩ := HO3.out.blk
    have hbe := lt_of_block bk
    have fe0 := free_of_heap bk (i := 0)
    have fe1 := free_of_heap bk (i := 1)
    have fe2 := free_of_heap bk (i := 2)
    have fe3 := free_of_heap bk (i := 3)
    have fe4 := free_of_heap bk (i := 4)
    have ce0 := cell_of_heap bk (i := 0)
    have ce1 := cell_of_heap bk (i := 1)
    have ce2 := cell_of_heap bk (i := 2)
    have ce3 := cell_of_heap bk (i := 3)
    have ce4 := cell_of_heap bk (i := 4)
    simp only [List.getElem?_toArray, List.getElem?_cons_succ, List.getElem?_cons_zero] at ce0 ce1 ce2 ce3 ce4
    clear bk
    iterate 2 (refine cl_do rfl rfl rfl (by first | rfl | simp [okB, lenV, plainV, Act.eval]) (fun _ _ => ?_); go_wp2_with fail)
    rw [← hW11]
    clear hW11 hbe fe0 fe1 fe2 fe3 fe4 ce0 ce1 ce2 ce3 ce4
  refine cl_nil ?_
  clear HO3
  have HLen : Hid ((toks s2).length ≤ 1000000) := by
    show _ ≤ _
    have h1 := next_len fin s1
    have h2 := next_len fin s
    have h3 := HS.out
    have h4 := HNn.out
    rw [← HS2.out] at h1
    rw [← HS1.out] at h2
    omega
  have HDt : Hid (∀ (sB : PSt) (m : Tok) (sD sE : PSt), sB = stB fin s1 → m = nextT sB → sD = stD fin sB → sE = stE m sD → Did (oneF fin (n + 1)) s (.mk 3 u x m.num []) sE) := by
    rintro sB m sD sE rfl rfl rfl rfl
    have h := one_test (fin := fin) (n := n) (t := ⟨kd, po, nu, u⟩) (r := r) HKD.out HU.out.1 HU.out.2.1 HU.out.2.2.1 HU.out.2.2.2 HQ.out.symm
    rw [← HE1.out.2, ← HE1.out.1, ← HT2.out] at h
    rw [HX.out]
    exact h
  by_cases hk2 : k2 = 4
  · have hk2' : ((k2 : Int) != 4) = false := by simp; omega
    by_cases hx1 : x < 1
    · have HB : Hid (failS s2 5 p2 = stB fin s1) := by
        show _ = _
        rw [stB, ← HT2.out, if_pos (.inr (by rw [← HX.out]; exact hx1)), ← HS2.out]
      clear hk2
      focus
        obtain ⟨bk, -⟩ := HO.out.blk
        have hbt := lt_of_block bk
        have ft0 := free_of_heap bk (i := 0)
        have ft1 := free_of_heap bk (i := 1)
        have ft2 := free_of_heap bk (i := 2)
        have ft3 := free_of_heap bk (i := 3)
        have ct0 := cell_of_heap bk (i := 0)
        have ct1 := cell_of_heap bk (i := 1)
        have ct2 := cell_of_heap bk (i := 2)
        have ct3 := cell_of_heap bk (i := 3)
        simp only [List.getElem?_toArray, List.getElem?_cons_succ, List.getElem?_cons_zero] at ct0 ct1 ct2 ct3
        clear bk
        obtain ⟨bk, -⟩ := HO.out.swap.blk
        have hbe := lt_of_block bk
        have fe0 := free_of_heap bk (i := 0)
        have fe1 := free_of_heap bk (i := 1)
        have fe2 := free_of_heap bk (i := 2)
        have fe3 := free_of_heap bk (i := 3)
        have fe4 := free_of_heap bk (i := 4)
        have ce0 := cell_of_heap bk (i := 0)
        have ce1 := cell_of_heap bk (i := 1)
        have ce2 := cell_of_heap bk (i := 2)
        have ce3 := cell_of_heap bk (i := 3)
        have ce4 := cell_of_heap bk (i := 4)
        simp only [List.getElem?_toArray, List.getElem?_cons_succ, List.getElem?_cons_zero] at ce0 ce1 ce2 ce3 ce4
        clear bk
        go_wp2_with fail
        clear hbt ft0 ft1 ft2 ft3 ct0 ct1 ct2 ct3 hbe fe0 fe1 fe2 fe3 fe4 ce0 ce1 ce2 ce3 ce4
      go_at_call 106
      refine (fail_c (w0 := w0) (bp := bp) (fin := fin) (blk b3 (tobj ⟨k2, p2, n2, u2⟩) :: blk b6 (f6 u x) :: blk b2 fobj0 :: ps) s2 5 p2 (by omega) (by omega) W11 (HO.out.re [2, 0, 1])).mono ?_
      rintro e W12 ⟨rfl, ho⟩
      replace HO := Lib.hid ho
      replace HLen : Hid ((toks (failS s2 5 p2)).length ≤ 1000000) := Lib.hid (Nat.le_trans (fail_len _ _ _) HLen.out)
      obtain ⟨sB, hsB⟩ : ∃ sB, sB = failS s2 5 p2 := ⟨_, rfl⟩
      rw [← hsB] at HB HO HLen
      clear ho hsB
      go_wp2_with fail
      go_at_call 153
      refine (take_c (w0 := w0) (bp := bp) (fin := fin) (blk b3 (tobj ⟨k2, p2, n2, u2⟩) :: blk b6 (f6 u x) :: blk b2 fobj0 :: ps) sB _ HO.out HLen.out).mono ?_
      rintro e W12 ⟨rfl, ho⟩
      obtain ⟨⟨k3, p3, n3, u3⟩, ht⟩ : ∃ t, t = nextT sB := ⟨_, rfl⟩
      obtain ⟨s4, hs4⟩ : ∃ s4, s4 = nextS fin sB := ⟨_, rfl⟩
      rw [← ht]
      rw [← hs4] at ho
      simp only [tval]
      have HT3 := Lib.hid ht
      have HS4 := Lib.hid hs4
      have HO3 := Lib.hid ho.swap
      obtain ⟨W13, hW13⟩ : ∃ W13, W13 = (((W12.setCell ⟨b3, 0, none⟩ (.int .i64 k3)).setCell ⟨b3, 1, none⟩ (.int .i64 p3)).setCell ⟨b3, 2, none⟩ (.int .i64 n3)).setCell ⟨b3, 3, none⟩ (.string (bs u3)) := ⟨_, rfl⟩
      replace HO : Hid (Owns w0 W13 (parP w0 bp fin s4 :: blk b3 (tobj ⟨k3, p3, n3, u3⟩) :: blk b6 (f6 u x) :: blk b2 fobj0 :: ps)) := by
        rw [hW13]
        exact Lib.hid ((((HO3.out.store (i := 0) (.int .i64 k3)).store (i := 1) (.int .i64 p3)).store (i := 2) (.int .i64 n3)).store (i := 3) (.string (bs u3))).swap
      clear ho ht hs4
      by_cases hk3 : k3 = 2
      · have hk3' : ((k3 : Int) != 2) = false := by simp; omega
        have HDD : Hid (s4 = stD fin sB) := by
          show _ = _
          rw [stD, ← HT3.out, if_neg (by simpa using hk3), ← HS4.out]
        clear hk3
        by_cases hn3 : 1000000 < n3
        · have hn3' : (1000000 : Int) < (n3 : Int) := by omega
          have HD : Hid (Did (oneF fin (n + 1)) s (.mk 3 u x n3 []) (failS s4 10 p3)) := HDt.out sB ⟨k3, p3, n3, u3⟩ s4 (failS s4 10 p3) HB.out HT3.out HDD.out (by rw [stE, if_pos hn3])
          clear hn3
          focus
            obtain ⟨bk, -⟩ := HO3.out.blk
            have hbt := lt_of_block bk
            have ft0 := free_of_heap bk (i := 0)
            have ft1 := free_of_heap bk (i := 1)
            have ft2 := free_of_heap bk (i := 2)
            have ft3 := free_of_heap bk (i := 3)
            have ct0 := cell_of_heap bk (i := 0)
            have ct1 := cell_of_heap bk (i := 1)
            have ct2 := cell_of_heap bk (i := 2)
            have ct3 := cell_of_heap bk (i := 3)
            simp only [List.getElem?_toArray, List.getElem?_cons_succ, List.getElem?_cons_zero] at ct0 ct1 ct2 ct3
            clear bk
            go_wp2_with fail
            rw [← hW13]
            clear hW13 hbt ft0 ft1 ft2 ft3 ct0 ct1 ct2 ct3
          go_at_call 106
          refine (fail_c (w0 := w0) (bp := bp) (fin := fin) (blk b3 (tobj ⟨k3, p3, n3, u3⟩) :: blk b6 (f6 u x) :: blk b2 fobj0 :: ps) s4 10 p3 (by omega) (by omega) _ HO.out).mono ?_
          clear HO
          rintro e W14 ⟨rfl, ho⟩
          have HO := Lib.hid ho
          clear ho
          simp only []
          obtain ⟨bk, -⟩ := HO.out.swap.blk
          have hbt := lt_of_block bk
          have ft0 := free_of_heap bk (i := 0)
          have ft1 := free_of_heap bk (i := 1)
          have ft2 := free_of_heap bk (i := 2)
          have ft3 := free_of_heap bk (i := 3)
          have ct0 := cell_of_heap bk (i := 0)
          have ct1 := cell_of_heap bk (i := 1)
          have ct2 := cell_of_heap bk (i := 2)
          have ct3 := cell_of_heap bk (i := 3)
          simp only [List.getElem?_toArray, List.getElem?_cons_succ, List.getElem?_cons_zero] at ct0 ct1 ct2 ct3
          clear bk
          obtain ⟨bk, -⟩ := (HO.out.re [2, 0, 1]).blk
          have hbe := lt_of_block bk
          have fe0 := free_of_heap bk (i := 0)
          have fe1 := free_of_heap bk (i := 1)
          have fe2 := free_of_heap bk (i := 2)
          have fe3 := free_of_heap bk (i := 3)
          have fe4 := free_of_heap bk (i := 4)
          have ce0 := cell_of_heap bk (i := 0)
          have ce1 := cell_of_heap bk (i := 1)
          have ce2 := cell_of_heap bk (i := 2)
          have ce3 := cell_of_heap bk (i := 3)
          have ce4 := cell_of_heap bk (i := 4)
          simp only [List.getElem?_toArray, List.getElem?_cons_succ, List.getElem?_cons_zero] at ce0 ce1 ce2 ce3 ce4
          clear bk
          obtain ⟨bk, -⟩ := (HO.out.re [3, 0, 1, 2]).blk
          have hbz := lt_of_block bk
          have fz0 := free_of_heap bk (i := 0)
          have fz1 := free_of_heap bk (i := 1)
          have fz2 := free_of_heap bk (i := 2)
          have fz3 := free_of_heap bk (i := 3)
          have fz4 := free_of_heap bk (i := 4)
          have cz0 := cell_of_heap bk (i := 0)
          have cz1 := cell_of_heap bk (i := 1)
          have cz2 := cell_of_heap bk (i := 2)
          have cz3 := cell_of_heap bk (i := 3)
          have cz4 := cell_of_heap bk (i := 4)
          simp only [List.getElem?_toArray, List.getElem?_cons_succ, List.getElem?_cons_zero] at cz0 cz1 cz2 cz3 cz4
          clear bk
          have m36 := Owns.ne (HO.out.re [1, 2, 0])
          have m36' := m36.symm
          have m32 := Owns.ne (HO.out.re [1, 3, 0, 2])
          have m32' := m32.symm
          have m62 := Owns.ne (HO.out.re [2, 3, 0, 1])
          have m62' := m62.symm
          repeat (first | go_values | go_skip | go_guarded | go_step | go_upon)
          have h1 := ((HO.out.re [2, 0, 1]).store (i := 3) (.int .i64 n3)).re [3, 1, 2, 0]
          have h2 := ((((Owns.store h1 (i := 0) (.int .i64 3)).store (i := 1) (.string (bs u))).store (i := 2) (.int .i64 x)).store (i := 3) (.int .i64 n3)).store (i := 4) (.slice none 0 0)
          have h3 := (h2.pop.re [1, 2, 0]).pop.pop.leaf 3 u x n3 none 0
          exact bodyPost_ret (one_res rfl h2.blk.1) (by rfl) (by first | exact ⟨_, _, _, rfl, HD.out, h3⟩ | exact ⟨_, _, rfl, _, HD.out, h3⟩)
        · have hn3' : ¬ (1000000 : Int) < (n3 : Int) := by omega
          have HD : Hid (Did (oneF fin (n + 1)) s (.mk 3 u x n3 []) s4) := HDt.out sB ⟨k3, p3, n3, u3⟩ s4 s4 HB.out HT3.out HDD.out (by rw [stE, if_neg hn3])
          clear hn3
          subst hW13
          obtain ⟨bk, -⟩ := HO3.out.blk
          have hbt := lt_of_block bk
          have ft0 := free_of_heap bk (i := 0)
          have ft1 := free_of_heap bk (i := 1)
          have ft2 := free_of_heap bk (i := 2)
          have ft3 := free_of_heap bk (i := 3)
          have ct0 := cell_of_heap bk (i := 0)
          have ct1 := cell_of_heap bk (i := 1)
          have ct2 := cell_of_heap bk (i := 2)
          have ct3 := cell_of_heap bk (i := 3)
          simp only [List.getElem?_toArray, List.getElem?_cons_succ, List.getElem?_cons_zero] at ct0 ct1 ct2 ct3
          clear bk
          obtain ⟨bk, -⟩ := (HO3.out.re [2, 0, 1]).blk
          have hbe := lt_of_block bk
          have fe0 := free_of_heap bk (i := 0)
          have fe1 := free_of_heap bk (i := 1)
          have fe2 := free_of_heap bk (i := 2)
          have fe3 := free_of_heap bk (i := 3)
          have fe4 := free_of_heap bk (i := 4)
          have ce0 := cell_of_heap bk (i := 0)
          have ce1 := cell_of_heap bk (i := 1)
          have ce2 := cell_of_heap bk (i := 2)
          have ce3 := cell_of_heap bk (i := 3)
          have ce4 := cell_of_heap bk (i := 4)
          simp only [List.getElem?_toArray, List.getElem?_cons_succ, List.getElem?_cons_zero] at ce0 ce1 ce2 ce3 ce4
          clear bk
          obtain ⟨bk, -⟩ := (HO3.out.re [3, 0, 1, 2]).blk
          have hbz := lt_of_block bk
          have fz0 := free_of_heap bk (i := 0)
          have fz1 := free_of_heap bk (i := 1)
          have fz2 := free_of_heap bk (i := 2)
          have fz3 := free_of_heap bk (i := 3)
          have fz4 := free_of_heap bk (i := 4)
          have cz0 := cell_of_heap bk (i := 0)
          have cz1 := cell_of_heap bk (i := 1)
          have cz2 := cell_of_heap bk (i := 2)
          have cz3 := cell_of_heap bk (i := 3)
          have cz4 := cell_of_heap bk (i := 4)
          simp only [List.getElem?_toArray, List.getElem?_cons_succ, List.getElem?_cons_zero] at cz0 cz1 cz2 cz3 cz4
          clear bk
          have m36 := Owns.ne (HO3.out.re [0, 2, 1])
          have m36' := m36.symm
          have m32 := Owns.ne (HO3.out.re [0, 3, 1, 2])
          have m32' := m32.symm
          have m62 := Owns.ne (HO3.out.re [2, 3, 0, 1])
          have m62' := m62.symm
          repeat (first | go_values | go_skip | go_guarded | go_step | go_upon)
          have h1 := ((HO.out.re [2, 0, 1]).store (i := 3) (.int .i64 n3)).re [3, 1, 2, 0]
          have h2 := ((((Owns.store h1 (i := 0) (.int .i64 3)).store (i := 1) (.string (bs u))).store (i := 2) (.int .i64 x)).store (i := 3) (.int .i64 n3)).store (i := 4) (.slice none 0 0)
          have h3 := (h2.pop.re [1, 2, 0]).pop.pop.leaf 3 u x n3 none 0
          exact bodyPost_ret (one_res rfl h2.blk.1) (by rfl) (by first | exact ⟨_, _, _, rfl, HD.out, h3⟩ | exact ⟨_, _, rfl, _, HD.out, h3⟩)
      · have hk3' : ((k3 : Int) != 2) = true := by simp; omega
        have HDD : Hid (failS s4 5 p3 = stD fin sB) := by
          show _ = _
          rw [stD, ← HT3.out, if_pos (by simpa using hk3), ← HS4.out]
        clear hk3
        focus
          obtain ⟨bk, -⟩ := HO3.out.blk
          have hbt := lt_of_block bk
          have ft0 := free_of_heap bk (i := 0)
          have ft1 := free_of_heap bk (i := 1)
          have ft2 := free_of_heap bk (i := 2)
          have ft3 := free_of_heap bk (i := 3)
          have ct0 := cell_of_heap bk (i := 0)
          have ct1 := cell_of_heap bk (i := 1)
          have ct2 := cell_of_heap bk (i := 2)
          have ct3 := cell_of_heap bk (i := 3)
          simp only [List.getElem?_toArray, List.getElem?_cons_succ, List.getElem?_cons_zero] at ct0 ct1 ct2 ct3
          clear bk
          go_wp2_with fail
          rw [← hW13]
          clear hW13 hbt ft0 ft1 ft2 ft3 ct0 ct1 ct2 ct3
        go_at_call 106
        refine (fail_c (w0 := w0) (bp := bp) (fin := fin) (blk b3 (tobj ⟨k3, p3, n3, u3⟩) :: blk b6 (f6 u x) :: blk b2 fobj0 :: ps) s4 5 p3 (by omega) (by omega) _ HO.out).mono ?_
        clear HO
        rintro e W14 ⟨rfl, ho⟩
        have HO := Lib.hid ho
        clear ho
        simp only []
        by_cases hn3 : 1000000 < n3
        · have hn3' : (1000000 : Int) < (n3 : Int) := by omega
          have HD : Hid (Did (oneF fin (n + 1)) s (.mk 3 u x n3 []) (failS (failS s4 5 p3) 10 p3)) := HDt.out sB ⟨k3, p3, n3, u3⟩ _ _ HB.out HT3.out HDD.out (by rw [stE, if_pos hn3])
          clear hn3
          focus
            obtain ⟨bk, -⟩ := HO.out.swap.blk
            have hbt := lt_of_block bk
            have ft0 := free_of_heap bk (i := 0)
            have ft1 := free_of_heap bk (i := 1)
            have ft2 := free_of_heap bk (i := 2)
            have ft3 := free_of_heap bk (i := 3)
            have ct0 := cell_of_heap bk (i := 0)
            have ct1 := cell_of_heap bk (i := 1)
            have ct2 := cell_of_heap bk (i := 2)
            have ct3 := cell_of_heap bk (i := 3)
            simp only [List.getElem?_toArray, List.getElem?_cons_succ, List.getElem?_cons_zero] at ct0 ct1 ct2 ct3
            clear bk
            go_wp2_with fail
            clear hbt ft0 ft1 ft2 ft3 ct0 ct1 ct2 ct3
          go_at_call 106
          refine (fail_c (w0 := w0) (bp := bp) (fin := fin) (blk b3 (tobj ⟨k3, p3, n3, u3⟩) :: blk b6 (f6 u x) :: blk b2 fobj0 :: ps) (failS s4 5 p3) 10 p3 (by omega) (by omega) _ HO.out).mono ?_
          clear HO
          rintro e W14 ⟨rfl, ho⟩
          have HO := Lib.hid ho
          clear ho
          simp only []
          obtain ⟨bk, -⟩ := HO.out.swap.blk
          have hbt := lt_of_block bk
          have ft0 := free_of_heap bk (i := 0)
          have ft1 := free_of_heap bk (i := 1)
          have ft2 := free_of_heap bk (i := 2)
          have ft3 := free_of_heap bk (i := 3)
          have ct0 := cell_of_heap bk (i := 0)
          have ct1 := cell_of_heap bk (i := 1)
          have ct2 := cell_of_heap bk (i := 2)
          have ct3 := cell_of_heap bk (i := 3)
          simp only [List.getElem?_toArray, List.getElem?_cons_succ, List.getElem?_cons_zero] at ct0 ct1 ct2 ct3
          clear bk
          obtain ⟨bk, -⟩ := (HO.out.re [2, 0, 1]).blk
          have hbe := lt_of_block bk
          have fe0 := free_of_heap bk (i := 0)
          have fe1 := free_of_heap bk (i := 1)
          have fe2 := free_of_heap bk (i := 2)
          have fe3 := free_of_heap bk (i := 3)
          have fe4 := free_of_heap bk (i := 4)
          have ce0 := cell_of_heap bk (i := 0)
          have ce1 := cell_of_heap bk (i := 1)
          have ce2 := cell_of_heap bk (i := 2)
          have ce3 := cell_of_heap bk (i := 3)
          have ce4 := cell_of_heap bk (i := 4)
          simp only [List.getElem?_toArray, List.getElem?_cons_succ, List.getElem?_cons_zero] at ce0 ce1 ce2 ce3 ce4
          clear bk
          obtain ⟨bk, -⟩ := (HO.out.re [3, 0, 1, 2]).blk
          have hbz := lt_of_block bk
          have fz0 := free_of_heap bk (i := 0)
          have fz1 := free_of_heap bk (i := 1)
          have fz2 := free_of_heap bk (i := 2)
          have fz3 := free_of_heap bk (i := 3)
          have fz4 := free_of_heap bk (i := 4)
          have cz0 := cell_of_heap bk (i := 0)
          have cz1 := cell_of_heap bk (i := 1)
          have cz2 := cell_of_heap bk (i := 2)
          have cz3 := cell_of_heap bk (i := 3)
          have cz4 := cell_of_heap bk (i := 4)
          simp only [List.getElem?_toArray, List.getElem?_cons_succ, List.getElem?_cons_zero] at cz0 cz1 cz2 cz3 cz4
          clear bk
          have m36 := Owns.ne (HO.out.re [1, 2, 0])
          have m36' := m36.symm
          have m32 := Owns.ne (HO.out.re [1, 3, 0, 2])
          have m32' := m32.symm
          have m62 := Owns.ne (HO.out.re [2, 3, 0, 1])
          have m62' := m62.symm
          repeat (first | go_values | go_skip | go_guarded | go_step | go_upon)
          have h1 := ((HO.out.re [2, 0, 1]).store (i := 3) (.int .i64 n3)).re [3, 1, 2, 0]
          have h2 := ((((Owns.store h1 (i := 0) (.int .i64 3)).store (i := 1) (.string (bs u))).store (i := 2) (.int .i64 x)).store (i := 3) (.int .i64 n3)).store (i := 4) (.slice none 0 0)
          have h3 := (h2.pop.re [1, 2, 0]).pop.pop.leaf 3 u x n3 none 0
          exact bodyPost_ret (one_res rfl h2.blk.1) (by rfl) (by first | exact ⟨_, _, _, rfl, HD.out, h3⟩ | exact ⟨_, _, rfl, _, HD.out, h3⟩)
        · have hn3' : ¬ (1000000 : Int) < (n3 : Int) := by omega
          have HD : Hid (Did (oneF fin (n + 1)) s (.mk 3 u x n3 []) (failS s4 5 p3)) := HDt.out sB ⟨k3, p3, n3, u3⟩ _ _ HB.out HT3.out HDD.out (by rw [stE, if_neg hn3])
          clear hn3
          obtain ⟨bk, -⟩ := HO.out.swap.blk
          have hbt := lt_of_block bk
          have ft0 := free_of_heap bk (i := 0)
          have ft1 := free_of_heap bk (i := 1)
          have ft2 := free_of_heap bk (i := 2)
          have ft3 := free_of_heap bk (i := 3)
          have ct0 := cell_of_heap bk (i := 0)
          have ct1 := cell_of_heap bk (i := 1)
          have ct2 := cell_of_heap bk (i := 2)
          have ct3 := cell_of_heap bk (i := 3)
          simp only [List.getElem?_toArray, List.getElem?_cons_succ, List.getElem?_cons_zero] at ct0 ct1 ct2 ct3
          clear bk
          obtain ⟨bk, -⟩ := (HO.out.re [2, 0, 1]).blk
          have hbe := lt_of_block bk
          have fe0 := free_of_heap bk (i := 0)
          have fe1 := free_of_heap bk (i := 1)
          have fe2 := free_of_heap bk (i := 2)
          have fe3 := free_of_heap bk (i := 3)
          have fe4 := free_of_heap bk (i := 4)
          have ce0 := cell_of_heap bk (i := 0)
          have ce1 := cell_of_heap bk (i := 1)
          have ce2 := cell_of_heap bk (i := 2)
          have ce3 := cell_of_heap bk (i := 3)
          have ce4 := cell_of_heap bk (i := 4)
          simp only [List.getElem?_toArray, List.getElem?_cons_succ, List.getElem?_cons_zero] at ce0 ce1 ce2 ce3 ce4
          clear bk
          obtain ⟨bk, -⟩ := (HO.out.re [3, 0, 1, 2]).blk
          have hbz := lt_of_block bk
          have fz0 := free_of_heap bk (i := 0)
          have fz1 := free_of_heap bk (i := 1)
          have fz2 := free_of_heap bk (i := 2)
          have fz3 := free_of_heap bk (i := 3)
          have fz4 := free_of_heap bk (i := 4)
          have cz0 := cell_of_heap bk (i := 0)
          have cz1 := cell_of_heap bk (i := 1)
          have cz2 := cell_of_heap bk (i := 2)
          have cz3 := cell_of_heap bk (i := 3)
          have cz4 := cell_of_heap bk (i := 4)
          simp only [List.getElem?_toArray, List.getElem?_cons_succ, List.getElem?_cons_zero] at cz0 cz1 cz2 cz3 cz4
          clear bk
          have m36 := Owns.ne (HO.out.re [1, 2, 0])
          have m36' := m36.symm
          have m32 := Owns.ne (HO.out.re [1, 3, 0, 2])
          have m32' := m32.symm
          have m62 := Owns.ne (HO.out.re [2, 3, 0, 1])
          have m62' := m62.symm
          repeat (first | go_values | go_skip | go_guarded | go_step | go_upon)
          have h1 := ((HO.out.re [2, 0, 1]).store (i := 3) (.int .i64 n3)).re [3, 1, 2, 0]
          have h2 := ((((Owns.store h1 (i := 0) (.int .i64 3)).store (i := 1) (.string (bs u))).store (i := 2) (.int .i64 x)).store (i := 3) (.int .i64 n3)).store (i := 4) (.slice none 0 0)
          have h3 := (h2.pop.re [1, 2, 0]).pop.pop.leaf 3 u x n3 none 0
          exact bodyPost_ret (one_res rfl h2.blk.1) (by rfl) (by first | exact ⟨_, _, _, rfl, HD.out, h3⟩ | exact ⟨_, _, rfl, _, HD.out, h3⟩)
    · have HB : Hid (s2 = stB fin s1) := by
        show _ = _
        rw [stB, ← HT2.out, if_neg (by rintro (h | h); · exact h hk2
                                       · rw [← HX.out] at h; exact hx1 h), ← HS2.out]
      replace HO := Lib.hid (HO.out.re [2, 0, 1])
      obtain ⟨sB, hsB⟩ : ∃ sB, sB = s2 := ⟨_, rfl⟩
      rw [← hsB] at HB HO HLen
      clear hk2 hsB
      focus
        obtain ⟨bk, -⟩ := HO.out.swap.blk
        have hbt := lt_of_block bk
        have ft0 := free_of_heap bk (i := 0)
        have ft1 := free_of_heap bk (i := 1)
        have ft2 := free_of_heap bk (i := 2)
        have ft3 := free_of_heap bk (i := 3)
        have ct0 := cell_of_heap bk (i := 0)
        have ct1 := cell_of_heap bk (i := 1)
        have ct2 := cell_of_heap bk (i := 2)
        have ct3 := cell_of_heap bk (i := 3)
        simp only [List.getElem?_toArray, List.getElem?_cons_succ, List.getElem?_cons_zero] at ct0 ct1 ct2 ct3
        clear bk
        obtain ⟨bk, -⟩ := (HO.out.re [2, 0, 1]).blk
        have hbe := lt_of_block bk
        have fe0 := free_of_heap bk (i := 0)
        have fe1 := free_of_heap bk (i := 1)
        have fe2 := free_of_heap bk (i := 2)
        have fe3 := free_of_heap bk (i := 3)
        have fe4 := free_of_heap bk (i := 4)
        have ce0 := cell_of_heap bk (i := 0)
        have ce1 := cell_of_heap bk (i := 1)
        have ce2 := cell_of_heap bk (i := 2)
        have ce3 := cell_of_heap bk (i := 3)
        have ce4 := cell_of_heap bk (i := 4)
        simp only [List.getElem?_toArray, List.getElem?_cons_succ, List.getElem?_cons_zero] at ce0 ce1 ce2 ce3 ce4
        clear bk
        go_wp2_with fail
        clear hbt ft0 ft1 ft2 ft3 ct0 ct1 ct2 ct3 hbe fe0 fe1 fe2 fe3 fe4 ce0 ce1 ce2 ce3 ce4
      go_at_call 153
      refine (take_c (w0 := w0) (bp := bp) (fin := fin) (blk b3 (tobj ⟨k2, p2, n2, u2⟩) :: blk b6 (f6 u x) :: blk b2 fobj0 :: ps) sB _ HO.out HLen.out).mono ?_
      rintro e W12 ⟨rfl, ho⟩
      obtain ⟨⟨k3, p3, n3, u3⟩, ht⟩ : ∃ t, t = nextT sB := ⟨_, rfl⟩
      obtain ⟨s4, hs4⟩ : ∃ s4, s4 = nextS fin sB := ⟨_, rfl⟩
      rw [← ht]
      rw [← hs4] at ho
      simp only [tval]
      have HT3 := Lib.hid ht
      have HS4 := Lib.hid hs4
      have HO3 := Lib.hid ho.swap
      obtain ⟨W13, hW13⟩ : ∃ W13, W13 = (((W12.setCell ⟨b3, 0, none⟩ (.int .i64 k3)).setCell ⟨b3, 1, none⟩ (.int .i64 p3)).setCell ⟨b3, 2, none⟩ (.int .i64 n3)).setCell ⟨b3, 3, none⟩ (.string (bs u3)) := ⟨_, rfl⟩
      replace HO : Hid (Owns w0 W13 (parP w0 bp fin s4 :: blk b3 (tobj ⟨k3, p3, n3, u3⟩) :: blk b6 (f6 u x) :: blk b2 fobj0 :: ps)) := by
        rw [hW13]
        exact Lib.hid ((((HO3.out.store (i := 0) (.int .i64 k3)).store (i := 1) (.int .i64 p3)).store (i := 2) (.int .i64 n3)).store (i := 3) (.string (bs u3))).swap
      clear ho ht hs4
      by_cases hk3 : k3 = 2
      · have hk3' : ((k3 : Int) != 2) = false := by simp; omega
        have HDD : Hid (s4 = stD fin sB) := by
          show _ = _
          rw [stD, ← HT3.out, if_neg (by simpa using hk3), ← HS4.out]
        clear hk3
        by_cases hn3 : 1000000 < n3
        · have hn3' : (1000000 : Int) < (n3 : Int) := by omega
          have HD : Hid (Did (oneF fin (n + 1)) s (.mk 3 u x n3 []) (failS s4 10 p3)) := HDt.out sB ⟨k3, p3, n3, u3⟩ s4 (failS s4 10 p3) HB.out HT3.out HDD.out (by rw [stE, if_pos hn3])
          clear hn3
          focus
            obtain ⟨bk, -⟩ := HO3.out.blk
            have hbt := lt_of_block bk
            have ft0 := free_of_heap bk (i := 0)
            have ft1 := free_of_heap bk (i := 1)
            have ft2 := free_of_heap bk (i := 2)
            have ft3 := free_of_heap bk (i := 3)
            have ct0 := cell_of_heap bk (i := 0)
            have ct1 := cell_of_heap bk (i := 1)
            have ct2 := cell_of_heap bk (i := 2)
            have ct3 := cell_of_heap bk (i := 3)
            simp only [List.getElem?_toArray, List.getElem?_cons_succ, List.getElem?_cons_zero] at ct0 ct1 ct2 ct3
            clear bk
            go_wp2_with fail
            rw [← hW13]
            clear hW13 hbt ft0 ft1 ft2 ft3 ct0 ct1 ct2 ct3
          go_at_call 106
          refine (fail_c (w0 := w0) (bp := bp) (fin := fin) (blk b3 (tobj ⟨k3, p3, n3, u3⟩) :: blk b6 (f6 u x) :: blk b2 fobj0 :: ps) s4 10 p3 (by omega) (by omega) _ HO.out).mono ?_
          clear HO
          rintro e W14 ⟨rfl, ho⟩
          have HO := Lib.hid ho
          clear ho
          simp only []
          obtain ⟨bk, -⟩ := HO.out.swap.blk
          have hbt := lt_of_block bk
          have ft0 := free_of_heap bk (i := 0)
          have ft1 := free_of_heap bk (i := 1)
          have ft2 := free_of_heap bk (i := 2)
          have ft3 := free_of_heap bk (i := 3)
          have ct0 := cell_of_heap bk (i := 0)
          have ct1 := cell_of_heap bk (i := 1)
          have ct2 := cell_of_heap bk (i := 2)
          have ct3 := cell_of_heap bk (i := 3)
          simp only [List.getElem?_toArray, List.getElem?_cons_succ, List.getElem?_cons_zero] at ct0 ct1 ct2 ct3
          clear bk
          obtain ⟨bk, -⟩ := (HO.out.re [2, 0, 1]).blk
          have hbe := lt_of_block bk
          have fe0 := free_of_heap bk (i := 0)
          have fe1 := free_of_heap bk (i := 1)
          have fe2 := free_of_heap bk (i := 2)
          have fe3 := free_of_heap bk (i := 3)
          have fe4 := free_of_heap bk (i := 4)
          have ce0 := cell_of_heap bk (i := 0)
          have ce1 := cell_of_heap bk (i := 1)
          have ce2 := cell_of_heap bk (i := 2)
          have ce3 := cell_of_heap bk (i := 3)
          have ce4 := cell_of_heap bk (i := 4)
          simp only [List.getElem?_toArray, List.getElem?_cons_succ, List.getElem?_cons_zero] at ce0 ce1 ce2 ce3 ce4
          clear bk
          obtain ⟨bk, -⟩ := (HO.out.re [3, 0, 1, 2]).blk
          have hbz := lt_of_block bk
          have fz0 := free_of_heap bk (i := 0)
          have fz1 := free_of_heap bk (i := 1)
          have fz2 := free_of_heap bk (i := 2)
          have fz3 := free_of_heap bk (i := 3)
          have fz4 := free_of_heap bk (i := 4)
          have cz0 := cell_of_heap bk (i := 0)
          have cz1 := cell_of_heap bk (i := 1)
          have cz2 := cell_of_heap bk (i := 2)
          have cz3 := cell_of_heap bk (i := 3)
          have cz4 := cell_of_heap bk (i := 4)
          simp only [List.getElem?_toArray, List.getElem?_cons_succ, List.getElem?_cons_zero] at cz0 cz1 cz2 cz3 cz4
          clear bk
          have m36 := Owns.ne (HO.out.re [1, 2, 0])
          have m36' := m36.symm
          have m32 := Owns.ne (HO.out.re [1, 3, 0, 2])
          have m32' := m32.symm
          have m62 := Owns.ne (HO.out.re [2, 3, 0, 1])
          have m62' := m62.symm
          repeat (first | go_values | go_skip | go_guarded | go_step | go_upon)
          have h1 := ((HO.out.re [2, 0, 1]).store (i := 3) (.int .i64 n3)).re [3, 1, 2, 0]
          have h2 := ((((Owns.store h1 (i := 0) (.int .i64 3)).store (i := 1) (.string (bs u))).store (i := 2) (.int .i64 x)).store (i := 3) (.int .i64 n3)).store (i := 4) (.slice none 0 0)
          have h3 := (h2.pop.re [1, 2, 0]).pop.pop.leaf 3 u x n3 none 0
          exact bodyPost_ret (one_res rfl h2.blk.1) (by rfl) (by first | exact ⟨_, _, _, rfl, HD.out, h3⟩ | exact ⟨_, _, rfl, _, HD.out, h3⟩)
        · have hn3' : ¬ (1000000 : Int) < (n3 : Int) := by omega
          have HD : Hid (Did (oneF fin (n + 1)) s (.mk 3 u x n3 []) s4) := HDt.out sB ⟨k3, p3, n3, u3⟩ s4 s4 HB.out HT3.out HDD.out (by rw [stE, if_neg hn3])
          clear hn3
          subst hW13
          obtain ⟨bk, -⟩ := HO3.out.blk
          have hbt := lt_of_block bk
          have ft0 := free_of_heap bk (i := 0)
          have ft1 := free_of_heap bk (i := 1)
          have ft2 := free_of_heap bk (i := 2)
          have ft3 := free_of_heap bk (i := 3)
          have ct0 := cell_of_heap bk (i := 0)
          have ct1 := cell_of_heap bk (i := 1)
          have ct2 := cell_of_heap bk (i := 2)
          have ct3 := cell_of_heap bk (i := 3)
          simp only [List.getElem?_toArray, List.getElem?_cons_succ, List.getElem?_cons_zero] at ct0 ct1 ct2 ct3
          clear bk
          obtain ⟨bk, -⟩ := (HO3.out.re [2, 0, 1]).blk
          have hbe := lt_of_block bk
          have fe0 := free_of_heap bk (i := 0)
          have fe1 := free_of_heap bk (i := 1)
          have fe2 := free_of_heap bk (i := 2)
          have fe3 := free_of_heap bk (i := 3)
          have fe4 := free_of_heap bk (i := 4)
          have ce0 := cell_of_heap bk (i := 0)
          have ce1 := cell_of_heap bk (i := 1)
          have ce2 := cell_of_heap bk (i := 2)
          have ce3 := cell_of_heap bk (i := 3)
          have ce4 := cell_of_heap bk (i := 4)
          simp only [List.getElem?_toArray, List.getElem?_cons_succ, List.getElem?_cons_zero] at ce0 ce1 ce2 ce3 ce4
          clear bk
          obtain ⟨bk, -⟩ := (HO3.out.re [3, 0, 1, 2]).blk
          have hbz := lt_of_block bk
          have fz0 := free_of_heap bk (i := 0)
          have fz1 := free_of_heap bk (i := 1)
          have fz2 := free_of_heap bk (i := 2)
          have fz3 := free_of_heap bk (i := 3)
          have fz4 := free_of_heap bk (i := 4)
          have cz0 := cell_of_heap bk (i := 0)
          have cz1 := cell_of_heap bk (i := 1)
          have cz2 := cell_of_heap bk (i := 2)
          have cz3 := cell_of_heap bk (i := 3)
          have cz4 := cell_of_heap bk (i := 4)
          simp only [List.getElem?_toArray, List.getElem?_cons_succ, List.getElem?_cons_zero] at cz0 cz1 cz2 cz3 cz4
          clear bk
          have m36 := Owns.ne (HO3.out.re [0, 2, 1])
          have m36' := m36.symm
          have m32 := Owns.ne (HO3.out.re [0, 3, 1, 2])
          have m32' := m32.symm
          have m62 := Owns.ne (HO3.out.re [2, 3, 0, 1])
          have m62' := m62.symm
          repeat (first | go_values | go_skip | go_guarded | go_step | go_upon)
          have h1 := ((HO.out.re [2, 0, 1]).store (i := 3) (.int .i64 n3)).re [3, 1, 2, 0]
          have h2 := ((((Owns.store h1 (i := 0) (.int .i64 3)).store (i := 1) (.string (bs u))).store (i := 2) (.int .i64 x)).store (i := 3) (.int .i64 n3)).store (i := 4) (.slice none 0 0)
          have h3 := (h2.pop.re [1, 2, 0]).pop.pop.leaf 3 u x n3 none 0
          exact bodyPost_ret (one_res rfl h2.blk.1) (by rfl) (by first | exact ⟨_, _, _, rfl, HD.out, h3⟩ | exact ⟨_, _, rfl, _, HD.out, h3⟩)
      · have hk3' : ((k3 : Int) != 2) = true := by simp; omega
        have HDD : Hid (failS s4 5 p3 = stD fin sB) := by
          show _ = _
          rw [stD, ← HT3.out, if_pos (by simpa using hk3), ← HS4.out]
        clear hk3
        focus
          obtain ⟨bk, -⟩ := HO3.out.blk
          have hbt := lt_of_block bk
          have ft0 := free_of_heap bk (i := 0)
          have ft1 := free_of_heap bk (i := 1)
          have ft2 := free_of_heap bk (i := 2)
          have ft3 := free_of_heap bk (i := 3)
          have ct0 := cell_of_heap bk (i := 0)
          have ct1 := cell_of_heap bk (i := 1)
          have ct2 := cell_of_heap bk (i := 2)
          have ct3 := cell_of_heap bk (i := 3)
          simp only [List.getElem?_toArray, List.getElem?_cons_succ, List.getElem?_cons_zero] at ct0 ct1 ct2 ct3
          clear bk
          go_wp2_with fail
          rw [← hW13]
          clear hW13 hbt ft0 ft1 ft2 ft3 ct0 ct1 ct2 ct3
        go_at_call 106
        refine (fail_c (w0 := w0) (bp := bp) (fin := fin) (blk b3 (tobj ⟨k3, p3, n3, u3⟩) :: blk b6 (f6 u x) :: blk b2 fobj0 :: ps) s4 5 p3 (by omega) (by omega) _ HO.out).mono ?_
        clear HO
        rintro e W14 ⟨rfl, ho⟩
        have HO := Lib.hid ho
        clear ho
        simp only []
        by_cases hn3 : 1000000 < n3
        · have hn3' : (1000000 : Int) < (n3 : Int) := by omega
          have HD : Hid (Did (oneF fin (n + 1)) s (.mk 3 u x n3 []) (failS (failS s4 5 p3) 10 p3)) := HDt.out sB ⟨k3, p3, n3, u3⟩ _ _ HB.out HT3.out HDD.out (by rw [stE, if_pos hn3])
          clear hn3
          focus
            obtain ⟨bk, -⟩ := HO.out.swap.blk
            have hbt := lt_of_block bk
            have ft0 := free_of_heap bk (i := 0)
            have ft1 := free_of_heap bk (i := 1)
            have ft2 := free_of_heap bk (i := 2)
            have ft3 := free_of_heap bk (i := 3)
            have ct0 := cell_of_heap bk (i := 0)
            have ct1 := cell_of_heap bk (i := 1)
            have ct2 := cell_of_heap bk (i := 2)
            have ct3 := cell_of_heap bk (i := 3)
            simp only [List.getElem?_toArray, List.getElem?_cons_succ, List.getElem?_cons_zero] at ct0 ct1 ct2 ct3
            clear bk
            go_wp2_with fail
            clear hbt ft0 ft1 ft2 ft3 ct0 ct1 ct2 ct3
          go_at_call 106
          refine (fail_c (w0 := w0) (bp := bp) (fin := fin) (blk b3 (tobj ⟨k3, p3, n3, u3⟩) :: blk b6 (f6 u x) :: blk b2 fobj0 :: ps) (failS s4 5 p3) 10 p3 (by omega) (by omega) _ HO.out).mono ?_
          clear HO
          rintro e W14 ⟨rfl, ho⟩
          have HO := Lib.hid ho
          clear ho
          simp only []
          obtain ⟨bk, -⟩ := HO.out.swap.blk
          have hbt := lt_of_block bk
          have ft0 := free_of_heap bk (i := 0)
          have ft1 := free_of_heap bk (i := 1)
          have ft2 := free_of_heap bk (i := 2)
          have ft3 := free_of_heap bk (i := 3)
          have ct0 := cell_of_heap bk (i := 0)
          have ct1 := cell_of_heap bk (i := 1)
          have ct2 := cell_of_heap bk (i := 2)
          have ct3 := cell_of_heap bk (i := 3)
          simp only [List.getElem?_toArray, List.getElem?_cons_succ, List.getElem?_cons_zero] at ct0 ct1 ct2 ct3
          clear bk
          obtain ⟨bk, -⟩ := (HO.out.re [2, 0, 1]).blk
          have hbe := lt_of_block bk
          have fe0 := free_of_heap bk (i := 0)
          have fe1 := free_of_heap bk (i := 1)
          have fe2 := free_of_heap bk (i := 2)
          have fe3 := free_of_heap bk (i := 3)
          have fe4 := free_of_heap bk (i := 4)
          have ce0 := cell_of_heap bk (i := 0)
          have ce1 := cell_of_heap bk (i := 1)
          have ce2 := cell_of_heap bk (i := 2)
          have ce3 := cell_of_heap bk (i := 3)
          have ce4 := cell_of_heap bk (i := 4)
          simp only [List.getElem?_toArray, List.getElem?_cons_succ, List.getElem?_cons_zero] at ce0 ce1 ce2 ce3 ce4
          clear bk
          obtain ⟨bk, -⟩ := (HO.out.re [3, 0, 1, 2]).blk
          have hbz := lt_of_block bk
          have fz0 := free_of_heap bk (i := 0)
          have fz1 := free_of_heap bk (i := 1)
          have fz2 := free_of_heap bk (i := 2)
          have fz3 := free_of_heap bk (i := 3)
          have fz4 := free_of_heap bk (i := 4)
          have cz0 := cell_of_heap bk (i := 0)
          have cz1 := cell_of_heap bk (i := 1)
          have cz2 := cell_of_heap bk (i := 2)
          have cz3 := cell_of_heap bk (i := 3)
          have cz4 := cell_of_heap bk (i := 4)
          simp only [List.getElem?_toArray, List.getElem?_cons_succ, List.getElem?_cons_zero] at cz0 cz1 cz2 cz3 cz4
          clear bk
          have m36 := Owns.ne (HO.out.re [1, 2, 0])
          have m36' := m36.symm
          have m32 := Owns.ne (HO.out.re [1, 3, 0, 2])
          have m32' := m32.symm
          have m62 := Owns.ne (HO.out.re [2, 3, 0, 1])
          have m62' := m62.symm
          repeat (first | go_values | go_skip | go_guarded | go_step | go_upon)
          have h1 := ((HO.out.re [2, 0, 1]).store (i := 3) (.int .i64 n3)).re [3, 1, 2, 0]
          have h2 := ((((Owns.store h1 (i := 0) (.int .i64 3)).store (i := 1) (.string (bs u))).store (i := 2) (.int .i64 x)).store (i := 3) (.int .i64 n3)).store (i := 4) (.slice none 0 0)
          have h3 := (h2.pop.re [1, 2, 0]).pop.pop.leaf 3 u x n3 none 0
          exact bodyPost_ret (one_res rfl h2.blk.1) (by rfl) (by first | exact ⟨_, _, _, rfl, HD.out, h3⟩ | exact ⟨_, _, rfl, _, HD.out, h3⟩)
        · have hn3' : ¬ (1000000 : Int) < (n3 : Int) := by omega
          have HD : Hid (Did (oneF fin (n + 1)) s (.mk 3 u x n3 []) (failS s4 5 p3)) := HDt.out sB ⟨k3, p3, n3, u3⟩ _ _ HB.out HT3.out HDD.out (by rw [stE, if_neg hn3])
          clear hn3
          obtain ⟨bk, -⟩ := HO.out.swap.blk
          have hbt := lt_of_block bk
          have ft0 := free_of_heap bk (i := 0)
          have ft1 := free_of_heap bk (i := 1)
          have ft2 := free_of_heap bk (i := 2)
          have ft3 := free_of_heap bk (i := 3)
          have ct0 := cell_of_heap bk (i := 0)
          have ct1 := cell_of_heap bk (i := 1)
          have ct2 := cell_of_heap bk (i := 2)
          have ct3 := cell_of_heap bk (i := 3)
          simp only [List.getElem?_toArray, List.getElem?_cons_succ, List.getElem?_cons_zero] at ct0 ct1 ct2 ct3
          clear bk
          obtain ⟨bk, -⟩ := (HO.out.re [2, 0, 1]).blk
          have hbe := lt_of_block bk
          have fe0 := free_of_heap bk (i := 0)
          have fe1 := free_of_heap bk (i := 1)
          have fe2 := free_of_heap bk (i := 2)
          have fe3 := free_of_heap bk (i := 3)
          have fe4 := free_of_heap bk (i := 4)
          have ce0 := cell_of_heap bk (i := 0)
          have ce1 := cell_of_heap bk (i := 1)
          have ce2 := cell_of_heap bk (i := 2)
          have ce3 := cell_of_heap bk (i := 3)
          have ce4 := cell_of_heap bk (i := 4)
          simp only [List.getElem?_toArray, List.getElem?_cons_succ, List.getElem?_cons_zero] at ce0 ce1 ce2 ce3 ce4
          clear bk
          obtain ⟨bk, -⟩ := (HO.out.re [3, 0, 1, 2]).blk
          have hbz := lt_of_block bk
          have fz0 := free_of_heap bk (i := 0)
          have fz1 := free_of_heap bk (i := 1)
          have fz2 := free_of_heap bk (i := 2)
          have fz3 := free_of_heap bk (i := 3)
          have fz4 := free_of_heap bk (i := 4)
          have cz0 := cell_of_heap bk (i := 0)
          have cz1 := cell_of_heap bk (i := 1)
          have cz2 := cell_of_heap bk (i := 2)
          have cz3 := cell_of_heap bk (i := 3)
          have cz4 := cell_of_heap bk (i := 4)
          simp only [List.getElem?_toArray, List.getElem?_cons_succ, List.getElem?_cons_zero] at cz0 cz1 cz2 cz3 cz4
          clear bk
          have m36 := Owns.ne (HO.out.re [1, 2, 0])
          have m36' := m36.symm
          have m32 := Owns.ne (HO.out.re [1, 3, 0, 2])
          have m32' := m32.symm
          have m62 := Owns.ne (HO.out.re [2, 3, 0, 1])
          have m62' := m62.symm
          repeat (first | go_values | go_skip | go_guarded | go_step | go_upon)
          have h1 := ((HO.out.re [2, 0, 1]).store (i := 3) (.int .i64 n3)).re [3, 1, 2, 0]
          have h2 := ((((Owns.store h1 (i := 0) (.int .i64 3)).store (i := 1) (.string (bs u))).store (i := 2) (.int .i64 x)).store (i := 3) (.int .i64 n3)).store (i := 4) (.slice none 0 0)
          have h3 := (h2.pop.re [1, 2, 0]).pop.pop.leaf 3 u x n3 none 0
          exact bodyPost_ret (one_res rfl h2.blk.1) (by rfl) (by first | exact ⟨_, _, _, rfl, HD.out, h3⟩ | exact ⟨_, _, rfl, _, HD.out, h3⟩)
  · have hk2' : ((k2 : Int) != 4) = true := by simp; omega
    have HB : Hid (failS s2 5 p2 = stB fin s1) := by
      show _ = _
      rw [stB, ← HT2.out, if_pos (.inl hk2), ← HS2.out]
    clear hk2
    focus
      obtain ⟨bk, -⟩ := HO.out.blk
      have hbt := lt_of_block bk
      have ft0 := free_of_heap bk (i := 0)
      have ft1 := free_of_heap bk (i := 1)
      have ft2 := free_of_heap bk (i := 2)
      have ft3 := free_of_heap bk (i := 3)
      have ct0 := cell_of_heap bk (i := 0)
      have ct1 := cell_of_heap bk (i := 1)
      have ct2 := cell_of_heap bk (i := 2)
      have ct3 := cell_of_heap bk (i := 3)
      simp only [List.getElem?_toArray, List.getElem?_cons_succ, List.getElem?_cons_zero] at ct0 ct1 ct2 ct3
      clear bk
      obtain ⟨bk, -⟩ := HO.out.swap.blk
      have hbe := lt_of_block bk
      have fe0 := free_of_heap bk (i := 0)
      have fe1 := free_of_heap bk (i := 1)
      have fe2 := free_of_heap bk (i := 2)
      have fe3 := free_of_heap bk (i := 3)
      have fe4 := free_of_heap bk (i := 4)
      have ce0 := cell_of_heap bk (i := 0)
      have ce1 := cell_of_heap bk (i := 1)
      have ce2 := cell_of_heap bk (i := 2)
      have ce3 := cell_of_heap bk (i := 3)
      have ce4 := cell_of_heap bk (i := 4)
      simp only [List.getElem?_toArray, List.getElem?_cons_succ, List.getElem?_cons_zero] at ce0 ce1 ce2 ce3 ce4
      clear bk
      go_wp2_with fail
      clear hbt ft0 ft1 ft2 ft3 ct0 ct1 ct2 ct3 hbe fe0 fe1 fe2 fe3 fe4 ce0 ce1 ce2 ce3 ce4
    go_at_call 106
    refine (fail_c (w0 := w0) (bp := bp) (fin := fin) (blk b3 (tobj ⟨k2, p2, n2, u2⟩) :: blk b6 (f6 u x) :: blk b2 fobj0 :: ps) s2 5 p2 (by omega) (by omega) W11 (HO.out.re [2, 0, 1])).mono ?_
    rintro e W12 ⟨rfl, ho⟩
    replace HO := Lib.hid ho
    replace HLen : Hid ((toks (failS s2 5 p2)).length ≤ 1000000) := Lib.hid (Nat.le_trans (fail_len _ _ _) HLen.out)
    obtain ⟨sB, hsB⟩ : ∃ sB, sB = failS s2 5 p2 := ⟨_, rfl⟩
    rw [← hsB] at HB HO HLen
    clear ho hsB
    go_wp2_with fail
    go_at_call 153
    refine (take_c (w0 := w0) (bp := bp) (fin := fin) (blk b3 (tobj ⟨k2, p2, n2, u2⟩) :: blk b6 (f6 u x) :: blk b2 fobj0 :: ps) sB _ HO.out HLen.out).mono ?_
    rintro e W12 ⟨rfl, ho⟩
    obtain ⟨⟨k3, p3, n3, u3⟩, ht⟩ : ∃ t, t = nextT sB := ⟨_, rfl⟩
    obtain ⟨s4, hs4⟩ : ∃ s4, s4 = nextS fin sB := ⟨_, rfl⟩
    rw [← ht]
    rw [← hs4] at ho
    simp only [tval]
    have HT3 := Lib.hid ht
    have HS4 := Lib.hid hs4
    have HO3 := Lib.hid ho.swap
    obtain ⟨W13, hW13⟩ : ∃ W13, W13 = (((W12.setCell ⟨b3, 0, none⟩ (.int .i64 k3)).setCell ⟨b3, 1, none⟩ (.int .i64 p3)).setCell ⟨b3, 2, none⟩ (.int .i64 n3)).setCell ⟨b3, 3, none⟩ (.string (bs u3)) := ⟨_, rfl⟩
    replace HO : Hid (Owns w0 W13 (parP w0 bp fin s4 :: blk b3 (tobj ⟨k3, p3, n3, u3⟩) :: blk b6 (f6 u x) :: blk b2 fobj0 :: ps)) := by
      rw [hW13]
      exact Lib.hid ((((HO3.out.store (i := 0) (.int .i64 k3)).store (i := 1) (.int .i64 p3)).store (i := 2) (.int .i64 n3)).store (i := 3) (.string (bs u3))).swap
    clear ho ht hs4
    by_cases hk3 : k3 = 2
    · have hk3' : ((k3 : Int) != 2) = false := by simp; omega
      have HDD : Hid (s4 = stD fin sB) := by
        show _ = _
        rw [stD, ← HT3.out, if_neg (by simpa using hk3), ← HS4.out]
      clear hk3
      by_cases hn3 : 1000000 < n3
      · have hn3' : (1000000 : Int) < (n3 : Int) := by omega
        have HD : Hid (Did (oneF fin (n + 1)) s (.mk 3 u x n3 []) (failS s4 10 p3)) := HDt.out sB ⟨k3, p3, n3, u3⟩ s4 (failS s4 10 p3) HB.out HT3.out HDD.out (by rw [stE, if_pos hn3])
        clear hn3
        focus
          obtain ⟨bk, -⟩ := HO3.out.blk
          have hbt := lt_of_block bk
          have ft0 := free_of_heap bk (i := 0)
          have ft1 := free_of_heap bk (i := 1)
          have ft2 := free_of_heap bk (i := 2)
          have ft3 := free_of_heap bk (i := 3)
          have ct0 := cell_of_heap bk (i := 0)
          have ct1 := cell_of_heap bk (i := 1)
          have ct2 := cell_of_heap bk (i := 2)
          have ct3 := cell_of_heap bk (i := 3)
          simp only [List.getElem?_toArray, List.getElem?_cons_succ, List.getElem?_cons_zero] at ct0 ct1 ct2 ct3
          clear bk
          go_wp2_with fail
          rw [← hW13]
          clear hW13 hbt ft0 ft1 ft2 ft3 ct0 ct1 ct2 ct3
        go_at_call 106
        refine (fail_c (w0 := w0) (bp := bp) (fin := fin) (blk b3 (tobj ⟨k3, p3, n3, u3⟩) :: blk b6 (f6 u x) :: blk b2 fobj0 :: ps) s4 10 p3 (by omega) (by omega) _ HO.out).mono ?_
        clear HO
        rintro e W14 ⟨rfl, ho⟩
        have HO := Lib.hid ho
        clear ho
        simp only []
        obtain ⟨bk, -⟩ := HO.out.swap.blk
        have hbt := lt_of_block bk
        have ft0 := free_of_heap bk (i := 0)
        have ft1 := free_of_heap bk (i := 1)
        have ft2 := free_of_heap bk (i := 2)
        have ft3 := free_of_heap bk (i := 3)
        have ct0 := cell_of_heap bk (i := 0)
        have ct1 := cell_of_heap bk (i := 1)
        have ct2 := cell_of_heap bk (i := 2)
        have ct3 := cell_of_heap bk (i := 3)
        simp only [List.getElem?_toArray, List.getElem?_cons_succ, List.getElem?_cons_zero] at ct0 ct1 ct2 ct3
        clear bk
        obtain ⟨bk, -⟩ := (HO.out.re [2, 0, 1]).blk
        have hbe := lt_of_block bk
        have fe0 := free_of_heap bk (i := 0)
        have fe1 := free_of_heap bk (i := 1)
        have fe2 := free_of_heap bk (i := 2)
        have fe3 := free_of_heap bk (i := 3)
        have fe4 := free_of_heap bk (i := 4)
        have ce0 := cell_of_heap bk (i := 0)
        have ce1 := cell_of_heap bk (i := 1)
        have ce2 := cell_of_heap bk (i := 2)
        have ce3 := cell_of_heap bk (i := 3)
        have ce4 := cell_of_heap bk (i := 4)
        simp only [List.getElem?_toArray, List.getElem?_cons_succ, List.getElem?_cons_zero] at ce0 ce1 ce2 ce3 ce4
        clear bk
        obtain ⟨bk, -⟩ := (HO.out.re [3, 0, 1, 2]).blk
        have hbz := lt_of_block bk
        have fz0 := free_of_heap bk (i := 0)
        have fz1 := free_of_heap bk (i := 1)
        have fz2 := free_of_heap bk (i := 2)
        have fz3 := free_of_heap bk (i := 3)
        have fz4 := free_of_heap bk (i := 4)
        have cz0 := cell_of_heap bk (i := 0)
        have cz1 := cell_of_heap bk (i := 1)
        have cz2 := cell_of_heap bk (i := 2)
        have cz3 := cell_of_heap bk (i := 3)
        have cz4 := cell_of_heap bk (i := 4)
        simp only [List.getElem?_toArray, List.getElem?_cons_succ, List.getElem?_cons_zero] at cz0 cz1 cz2 cz3 cz4
        clear bk
        have m36 := Owns.ne (HO.out.re [1, 2, 0])
        have m36' := m36.symm
        have m32 := Owns.ne (HO.out.re [1, 3, 0, 2])
        have m32' := m32.symm
        have m62 := Owns.ne (HO.out.re [2, 3, 0, 1])
        have m62' := m62.symm
        repeat (first | go_values | go_skip | go_guarded | go_step | go_upon)
        have h1 := ((HO.out.re [2, 0, 1]).store (i := 3) (.int .i64 n3)).re [3, 1, 2, 0]
        have h2 := ((((Owns.store h1 (i := 0) (.int .i64 3)).store (i := 1) (.string (bs u))).store (i := 2) (.int .i64 x)).store (i := 3) (.int .i64 n3)).store (i := 4) (.slice none 0 0)
        have h3 := (h2.pop.re [1, 2, 0]).pop.pop.leaf 3 u x n3 none 0
        exact bodyPost_ret (one_res rfl h2.blk.1) (by rfl) (by first | exact ⟨_, _, _, rfl, HD.out, h3⟩ | exact ⟨_, _, rfl, _, HD.out, h3⟩)
      · have hn3' : ¬ (1000000 : Int) < (n3 : Int) := by omega
        have HD : Hid (Did (oneF fin (n + 1)) s (.mk 3 u x n3 []) s4) := HDt.out sB ⟨k3, p3, n3, u3⟩ s4 s4 HB.out HT3.out HDD.out (by rw [stE, if_neg hn3])
        clear hn3
        subst hW13
        obtain ⟨bk, -⟩ := HO3.out.blk
        have hbt := lt_of_block bk
        have ft0 := free_of_heap bk (i := 0)
        have ft1 := free_of_heap bk (i := 1)
        have ft2 := free_of_heap bk (i := 2)
        have ft3 := free_of_heap bk (i := 3)
        have ct0 := cell_of_heap bk (i := 0)
        have ct1 := cell_of_heap bk (i := 1)
        have ct2 := cell_of_heap bk (i := 2)
        have ct3 := cell_of_heap bk (i := 3)
        simp only [List.getElem?_toArray, List.getElem?_cons_succ, List.getElem?_cons_zero] at ct0 ct1 ct2 ct3
        clear bk
        obtain ⟨bk, -⟩ := (HO3.out.re [2, 0, 1]).blk
        have hbe := lt_of_block bk
        have fe0 := free_of_heap bk (i := 0)
        have fe1 := free_of_heap bk (i := 1)
        have fe2 := free_of_heap bk (i := 2)
        have fe3 := free_of_heap bk (i := 3)
        have fe4 := free_of_heap bk (i := 4)
        have ce0 := cell_of_heap bk (i := 0)
        have ce1 := cell_of_heap bk (i := 1)
        have ce2 := cell_of_heap bk (i := 2)
        have ce3 := cell_of_heap bk (i := 3)
        have ce4 := cell_of_heap bk (i := 4)
        simp only [List.getElem?_toArray, List.getElem?_cons_succ, List.getElem?_cons_zero] at ce0 ce1 ce2 ce3 ce4
        clear bk
        obtain ⟨bk, -⟩ := (HO3.out.re [3, 0, 1, 2]).blk
        have hbz := lt_of_block bk
        have fz0 := free_of_heap bk (i := 0)
        have fz1 := free_of_heap bk (i := 1)
        have fz2 := free_of_heap bk (i := 2)
        have fz3 := free_of_heap bk (i := 3)
        have fz4 := free_of_heap bk (i := 4)
        have cz0 := cell_of_heap bk (i := 0)
        have cz1 := cell_of_heap bk (i := 1)
        have cz2 := cell_of_heap bk (i := 2)
        have cz3 := cell_of_heap bk (i := 3)
        have cz4 := cell_of_heap bk (i := 4)
        simp only [List.getElem?_toArray, List.getElem?_cons_succ, List.getElem?_cons_zero] at cz0 cz1 cz2 cz3 cz4
        clear bk
        have m36 := Owns.ne (HO3.out.re [0, 2, 1])
        have m36' := m36.symm
        have m32 := Owns.ne (HO3.out.re [0, 3, 1, 2])
        have m32' := m32.symm
        have m62 := Owns.ne (HO3.out.re [2, 3, 0, 1])
        have m62' := m62.symm
        repeat (first | go_values | go_skip | go_guarded | go_step | go_upon)
        have h1 := ((HO.out.re [2, 0, 1]).store (i := 3) (.int .i64 n3)).re [3, 1, 2, 0]
        have h2 := ((((Owns.store h1 (i := 0) (.int .i64 3)).store (i := 1) (.string (bs u))).store (i := 2) (.int .i64 x)).store (i := 3) (.int .i64 n3)).store (i := 4) (.slice none 0 0)
        have h3 := (h2.pop.re [1, 2, 0]).pop.pop.leaf 3 u x n3 none 0
        exact bodyPost_ret (one_res rfl h2.blk.1) (by rfl) (by first | exact ⟨_, _, _, rfl, HD.out, h3⟩ | exact ⟨_, _, rfl, _, HD.out, h3⟩)
    · have hk3' : ((k3 : Int) != 2) = true := by simp; omega
      have HDD : Hid (failS s4 5 p3 = stD fin sB) := by
        show _ = _
        rw [stD, ← HT3.out, if_pos (by simpa using hk3), ← HS4.out]
      clear hk3
      focus
        obtain ⟨bk, -⟩ := HO3.out.blk
        have hbt := lt_of_block bk
        have ft0 := free_of_heap bk (i := 0)
        have ft1 := free_of_heap bk (i := 1)
        have ft2 := free_of_heap bk (i := 2)
        have ft3 := free_of_heap bk (i := 3)
        have ct0 := cell_of_heap bk (i := 0)
        have ct1 := cell_of_heap bk (i := 1)
        have ct2 := cell_of_heap bk (i := 2)
        have ct3 := cell_of_heap bk (i := 3)
        simp only [List.getElem?_toArray, List.getElem?_cons_succ, List.getElem?_cons_zero] at ct0 ct1 ct2 ct3
        clear bk
        go_wp2_with fail
        rw [← hW13]
        clear hW13 hbt ft0 ft1 ft2 ft3 ct0 ct1 ct2 ct3
      go_at_call 106
      refine (fail_c (w0 := w0) (bp := bp) (fin := fin) (blk b3 (tobj ⟨k3, p3, n3, u3⟩) :: blk b6 (f6 u x) :: blk b2 fobj0 :: ps) s4 5 p3 (by omega) (by omega) _ HO.out).mono ?_
      clear HO
      rintro e W14 ⟨rfl, ho⟩
      have HO := Lib.hid ho
      clear ho
      simp only []
      by_cases hn3 : 1000000 < n3
      · have hn3' : (1000000 : Int) < (n3 : Int) := by omega
        have HD : Hid (Did (oneF fin (n + 1)) s (.mk 3 u x n3 []) (failS (failS s4 5 p3) 10 p3)) := HDt.out sB ⟨k3, p3, n3, u3⟩ _ _ HB.out HT3.out HDD.out (by rw [stE, if_pos hn3])
        clear hn3
        focus
          obtain ⟨bk, -⟩ := HO.out.swap.blk
          have hbt := lt_of_block bk
          have ft0 := free_of_heap bk (i := 0)
          have ft1 := free_of_heap bk (i := 1)
          have ft2 := free_of_heap bk (i := 2)
          have ft3 := free_of_heap bk (i := 3)
          have ct0 := cell_of_heap bk (i := 0)
          have ct1 := cell_of_heap bk (i := 1)
          have ct2 := cell_of_heap bk (i := 2)
          have ct3 := cell_of_heap bk (i := 3)
          simp only [List.getElem?_toArray, List.getElem?_cons_succ, List.getElem?_cons_zero] at ct0 ct1 ct2 ct3
          clear bk
          go_wp2_with fail
          clear hbt ft0 ft1 ft2 ft3 ct0 ct1 ct2 ct3
        go_at_call 106
        refine (fail_c (w0 := w0) (bp := bp) (fin := fin) (blk b3 (tobj ⟨k3, p3, n3, u3⟩) :: blk b6 (f6 u x) :: blk b2 fobj0 :: ps) (failS s4 5 p3) 10 p3 (by omega) (by omega) _ HO.out).mono ?_
        clear HO
        rintro e W14 ⟨rfl, ho⟩
        have HO := Lib.hid ho
        clear ho
        simp only []
        obtain ⟨bk, -⟩ := HO.out.swap.blk
        have hbt := lt_of_block bk
        have ft0 := free_of_heap bk (i := 0)
        have ft1 := free_of_heap bk (i := 1)
        have ft2 := free_of_heap bk (i := 2)
        have ft3 := free_of_heap bk (i := 3)
        have ct0 := cell_of_heap bk (i := 0)
        have ct1 := cell_of_heap bk (i := 1)
        have ct2 := cell_of_heap bk (i := 2)
        have ct3 := cell_of_heap bk (i := 3)
        simp only [List.getElem?_toArray, List.getElem?_cons_succ, List.getElem?_cons_zero] at ct0 ct1 ct2 ct3
        clear bk
        obtain ⟨bk, -⟩ := (HO.out.re [2, 0, 1]).blk
        have hbe := lt_of_block bk
        have fe0 := free_of_heap bk (i := 0)
        have fe1 := free_of_heap bk (i := 1)
        have fe2 := free_of_heap bk (i := 2)
        have fe3 := free_of_heap bk (i := 3)
        have fe4 := free_of_heap bk (i := 4)
        have ce0 := cell_of_heap bk (i := 0)
        have ce1 := cell_of_heap bk (i := 1)
        have ce2 := cell_of_heap bk (i := 2)
        have ce3 := cell_of_heap bk (i := 3)
        have ce4 := cell_of_heap bk (i := 4)
        simp only [List.getElem?_toArray, List.getElem?_cons_succ, List.getElem?_cons_zero] at ce0 ce1 ce2 ce3 ce4
        clear bk
        obtain ⟨bk, -⟩ := (HO.out.re [3, 0, 1, 2]).blk
        have hbz := lt_of_block bk
        have fz0 := free_of_heap bk (i := 0)
        have fz1 := free_of_heap bk (i := 1)
        have fz2 := free_of_heap bk (i := 2)
        have fz3 := free_of_heap bk (i := 3)
        have fz4 := free_of_heap bk (i := 4)
        have cz0 := cell_of_heap bk (i := 0)
        have cz1 := cell_of_heap bk (i := 1)
        have cz2 := cell_of_heap bk (i := 2)
        have cz3 := cell_of_heap bk (i := 3)
        have cz4 := cell_of_heap bk (i := 4)
        simp only [List.getElem?_toArray, List.getElem?_cons_succ, List.getElem?_cons_zero] at cz0 cz1 cz2 cz3 cz4
        clear bk
        have m36 := Owns.ne (HO.out.re [1, 2, 0])
        have m36' := m36.symm
        have m32 := Owns.ne (HO.out.re [1, 3, 0, 2])
        have m32' := m32.symm
        have m62 := Owns.ne (HO.out.re [2, 3, 0, 1])
        have m62' := m62.symm
        repeat (first | go_values | go_skip | go_guarded | go_step | go_upon)
        have h1 := ((HO.out.re [2, 0, 1]).store (i := 3) (.int .i64 n3)).re [3, 1, 2, 0]
        have h2 := ((((Owns.store h1 (i := 0) (.int .i64 3)).store (i := 1) (.string (bs u))).store (i := 2) (.int .i64 x)).store (i := 3) (.int .i64 n3)).store (i := 4) (.slice none 0 0)
        have h3 := (h2.pop.re [1, 2, 0]).pop.pop.leaf 3 u x n3 none 0
        exact bodyPost_ret (one_res rfl h2.blk.1) (by rfl) (by first | exact ⟨_, _, _, rfl, HD.out, h3⟩ | exact ⟨_, _, rfl, _, HD.out, h3⟩)
      · have hn3' : ¬ (1000000 : Int) < (n3 : Int) := by omega
        have HD : Hid (Did (oneF fin (n + 1)) s (.mk 3 u x n3 []) (failS s4 5 p3)) := HDt.out sB ⟨k3, p3, n3, u3⟩ _ _ HB.out HT3.out HDD.out (by rw [stE, if_neg hn3])
        clear hn3
        obtain ⟨bk, -⟩ := HO.out.swap.blk
        have hbt := lt_of_block bk
        have ft0 := free_of_heap bk (i := 0)
        have ft1 := free_of_heap bk (i := 1)
        have ft2 := free_of_heap bk (i := 2)
        have ft3 := free_of_heap bk (i := 3)
        have ct0 := cell_of_heap bk (i := 0)
        have ct1 := cell_of_heap bk (i := 1)
        have ct2 := cell_of_heap bk (i := 2)
        have ct3 := cell_of_heap bk (i := 3)
        simp only [List.getElem?_toArray, List.getElem?_cons_succ, List.getElem?_cons_zero] at ct0 ct1 ct2 ct3
        clear bk
        obtain ⟨bk, -⟩ := (HO.out.re [2, 0, 1]).blk
        have hbe := lt_of_block bk
        have fe0 := free_of_heap bk (i := 0)
        have fe1 := free_of_heap bk (i := 1)
        have fe2 := free_of_heap bk (i := 2)
        have fe3 := free_of_heap bk (i := 3)
        have fe4 := free_of_heap bk (i := 4)
        have ce0 := cell_of_heap bk (i := 0)
        have ce1 := cell_of_heap bk (i := 1)
        have ce2 := cell_of_heap bk (i := 2)
        have ce3 := cell_of_heap bk (i := 3)
        have ce4 := cell_of_heap bk (i := 4)
        simp only [List.getElem?_toArray, List.getElem?_cons_succ, List.getElem?_cons_zero] at ce0 ce1 ce2 ce3 ce4
        clear bk
        obtain ⟨bk, -⟩ := (HO.out.re [3, 0, 1, 2]).blk
        have hbz := lt_of_block bk
        have fz0 := free_of_heap bk (i := 0)
        have fz1 := free_of_heap bk (i := 1)
        have fz2 := free_of_heap bk (i := 2)
        have fz3 := free_of_heap bk (i := 3)
        have fz4 := free_of_heap bk (i := 4)
        have cz0 := cell_of_heap bk (i := 0)
        have cz1 := cell_of_heap bk (i := 1)
        have cz2 := cell_of_heap bk (i := 2)
        have cz3 := cell_of_heap bk (i := 3)
        have cz4 := cell_of_heap bk (i := 4)
        simp only [List.getElem?_toArray, List.getElem?_cons_succ, List.getElem?_cons_zero] at cz0 cz1 cz2 cz3 cz4
        clear bk
        have m36 := Owns.ne (HO.out.re [1, 2, 0])
        have m36' := m36.symm
        have m32 := Owns.ne (HO.out.re [1, 3, 0, 2])
        have m32' := m32.symm
        have m62 := Owns.ne (HO.out.re [2, 3, 0, 1])
        have m62' := m62.symm
        repeat (first | go_values | go_skip | go_guarded | go_step | go_upon)
        have h1 := ((HO.out.re [2, 0, 1]).store (i := 3) (.int .i64 n3)).re [3, 1, 2, 0]
        have h2 := ((((Owns.store h1 (i := 0) (.int .i64 3)).store (i := 1) (.string (bs u))).store (i := 2) (.int .i64 x)).store (i := 3) (.int .i64 n3)).store (i := 4) (.slice none 0 0)
        have h3 := (h2.pop.re [1, 2, 0]).pop.pop.leaf 3 u x n3 none 0
        exact bodyPost_ret (one_res rfl h2.blk.1) (by rfl) (by first | exact ⟨_, _, _, rfl, HD.out, h3⟩ | exact ⟨_, _, rfl, _, HD.out, h3⟩)
theorem one_c (n : Nat) (hn : n ≤ 1000000) : PartC w0 bp fin 154 (oneF fin (n + 1)) n := by
  induction n with
  | zero => exact one_step 0 hn fun n' h => by omega
  | succ n ih => exact one_step (n + 1) hn fun n' h => by obtain rfl : n' = n := by omega
                                                          exact ih (by omega)
theorem eitherN_c (n : Nat) (hn : n ≤ 1000000) : PartC w0 bp fin 105 (eitherF fin (n + 1)) n :=
  either_c _ n hn (all_c _ n hn (one_c n hn))
end
end Go.Proofs.YtoeknmkephnekaaGreatDoor
