/-
  The reference's reader: 'not'.
-/
import Derived.Test.YtagoefnibgobcaaGreatDoorFmRList
import Derived.Test.YtagoefnibgobcaaGreatDoorFmOne
import Derived.Test.YtagoefnibgobcaaGreatDoorFmRText
namespace Go.Cz.Fo
open Go.Cz.Lx
/-- The comparison of a token. -/
def xT (t : Tok) : Nat := if t.kind = 4 then symI t.text else 0
def xK (t : Tok) (k : Nat) : Nat := if t.kind = 4 ∧ symI t.text < k then symI t.text else 0
theorem xT_le (t : Tok) : xT t ≤ 6 := by
  unfold xT
  split
  · exact symI_le _
  · omega
theorem xK_last (t : Tok) : xK t 7 = xT t := by
  have := symI_le t.text
  unfold xK xT
  by_cases h : t.kind = 4
  · rw [if_pos ⟨h, by omega⟩, if_pos h]
  · rw [if_neg (fun e => h e.1), if_neg h]
theorem xK_one (t : Tok) : xK t 1 = 0 := by
  unfold xK
  split
  · omega
  · rfl
theorem sym_iff {s : Bytes} {k : Nat} (h1 : 1 ≤ k) (h6 : k ≤ 6) : s = symB (k : Int) ↔ symI s = k := by
  constructor
  · intro h
    have := (sym_back (m := (k : Int)) (by omega) (by omega)).1
    rw [← h] at this
    omega
  · intro h
    unfold symI at h
    have hk : k = 1 ∨ k = 2 ∨ k = 3 ∨ k = 4 ∨ k = 5 ∨ k = 6 := by omega
    rcases hk with rfl | rfl | rfl | rfl | rfl | rfl
    all_goals
      repeat' split at h
      all_goals first | (rename_i e; rw [e]; rfl) | omega
theorem xK_hit {t : Tok} {k : Nat} (h4 : t.kind = 4) (h : symI t.text = k) : xK t (k + 1) = k := by
  unfold xK
  rw [if_pos ⟨h4, by omega⟩, h]
theorem xK_miss {t : Tok} {k : Nat} (h : ¬ (t.kind = 4 ∧ symI t.text = k)) : xK t (k + 1) = xK t k := by
  unfold xK
  by_cases h4 : t.kind = 4
  · have : symI t.text ≠ k := fun e => h ⟨h4, e⟩
    by_cases hl : symI t.text < k
    · rw [if_pos ⟨h4, by omega⟩, if_pos ⟨h4, hl⟩]
    · rw [if_neg (by rintro ⟨-, h⟩; omega), if_neg (by rintro ⟨-, h⟩; omega)]
  · rw [if_neg (fun e => h4 e.1), if_neg (fun e => h4 e.1)]
theorem stR_eq {fin : Int} {s : PSt} : stB fin s = if xT (nextT s) = 0 then failS (nextS fin s) 5 (nextT s).pos else nextS fin s := by
  unfold stB xT
  have h := (symX_eq (nextT s).text).1
  by_cases h4 : (nextT s).kind = 4
  · rw [if_pos h4]
    by_cases h0 : symI (nextT s).text = 0
    · rw [if_pos (.inr (h.2 h0)), if_pos h0]
    · rw [if_neg (by rintro (e | e); · exact e h4
                     · exact h0 (h.1 e)), if_neg h0]
  · rw [if_pos (.inl h4), if_neg h4, if_pos rfl]
theorem did_any {part : List Tok → Res} {s : PSt} {f : Fm} {y : Nat × Int} (h : Did part s f (.error y)) (g : Fm) : Did part s g (.error y) := by
  obtain ⟨h1, h2, h3⟩ := h
  refine ⟨h1, h2, ?_⟩
  cases s with
  | error x => exact h3
  | ok ts =>
    simp only at h3 ⊢
    cases hp : part ts with
    | ok z => rw [hp] at h3; exact absurd h3.2 (by simp)
    | error x => rw [hp] at h3; exact h3
theorem st_err {fin : Int} (y : Nat × Int) : stE (nextT (.error y)) (stD fin (.error y)) = .error y := by simp [stE, stD, nextT, nextS, zTok, failS]
theorem stB_err {fin : Int} (y : Nat × Int) : stB fin (.error y) = .error y := by simp [stB, nextT, nextS, zTok, failS]
theorem fail_err (s : PSt) (e : Nat) (a : Int) : ∃ y, failS s e a = .error y := by
  cases s with
  | error x => exact ⟨x, rfl⟩
  | ok ts => exact ⟨_, rfl⟩
section
variable {fin : Int} {n : Nat} {t : Tok} {r : List Tok} {s s1 : PSt}
/-- What is read of a comparison. -/
theorem rest_good (hk : t.kind = 1) (hn : t.text ≠ wNot) (ht : t.text ≠ wTrue) (hf : t.text ≠ wFalse) (h0 : t.text ≠ []) (hK : keyB t.text = false) :
    ∀ (sB : PSt) (m : Tok) (sD sE : PSt), sB = stB fin (.ok r) → m = nextT sB → sD = stD fin sB → sE = stE m sD → Did (oneF fin (n + 1)) (.ok (t :: r)) (.mk 3 t.text (xT (nextT (.ok r)) : Nat) m.num []) sE := by
  rintro sB m sD sE rfl rfl rfl rfl
  have h := one_test (fin := fin) (n := n) (t := t) (r := r) hk hn ht hf h0 hK
  by_cases hx : xT (nextT (.ok r)) = 0
  · obtain ⟨y, hy⟩ : ∃ y, stB fin (.ok r) = .error y := by
      rw [stR_eq, if_pos hx]
      exact fail_err _ _ _
    rw [hy, st_err] at h ⊢
    exact did_any h _
  · have e : symX (nextT (.ok r)).text = (xT (nextT (.ok r)) : Nat) := by
      unfold xT at hx ⊢
      by_cases h4 : (nextT (.ok r)).kind = 4
      · rw [if_pos h4] at hx ⊢
        exact (symX_eq _).2 hx
      · rw [if_neg h4] at hx
        exact absurd rfl hx
    rw [e] at h
    exact h
theorem rest_bad (u : Bytes) (h : ∀ g, Did (oneF fin (n + 1)) s g (failS s1 5 (t.pos : Int))) :
    ∀ (sB : PSt) (m : Tok) (sD sE : PSt), sB = stB fin (failS s1 5 (t.pos : Int)) → m = nextT sB → sD = stD fin sB → sE = stE m sD → Did (oneF fin (n + 1)) s (.mk 3 u (xT (nextT (failS s1 5 (t.pos : Int))) : Nat) m.num []) sE := by
  rintro sB m sD sE rfl rfl rfl rfl
  obtain ⟨y, hy⟩ := fail_err s1 5 (t.pos : Int)
  rw [hy] at h ⊢
  rw [stB_err, st_err]
  exact h _
end
end Go.Cz.Fo
namespace Go.Proofs.YtagoefnibgobcaaGreatDoor
open Go.RowKit Go.Cz Go.Cz.Lx Go.Cz.Fo
set_option linter.unusedSimpArgs false
set_option linter.unusedVariables false
attribute [local go_sem] bs_size bs_extract bs_append bs_toList
attribute [local irreducible] cList cPlan
theorem sym_cell {W : World} {g k : Nat} (bk : W.heap[g]? = some symObj) (h1 : 1 ≤ k) (h6 : k ≤ 6) : W.cell? ⟨g, k, none⟩ = some (.string (bs (symB (k : Int)))) := by
  have hk : k = 1 ∨ k = 2 ∨ k = 3 ∨ k = 4 ∨ k = 5 ∨ k = 6 := by omega
  rcases hk with rfl | rfl | rfl | rfl | rfl | rfl <;> rw [cell_of_heap bk] <;> rfl
section
variable {w0 : World} {bp : Nat} {fin : Int} {all : List Tok} {v : Value}
abbrev f7 (u : Bytes) (x : Int) : Obj := .cells #[.int .i64 3, .string (bs u), .int .i64 x, .int .i64 0, .slice none 0 0] 24 (0, 0)
set_option maxRecDepth 100000 in
set_option maxHeartbeats 8000000 in
theorem rnot_step (n : Nat) (hn : n ≤ 1000000) (hN9 : all.length ≤ 1000000) (hNm : NameOk all) (HI : ∀ n', n = n' + 1 → RPartC w0 bp fin all v 107 (oneF fin (n' + 1)) n') : RPartC w0 bp fin all v 107 (oneF fin (n + 1)) n := by
  intro ps s w hs h
  have HIh := Lib.hid HI
  have HS := Lib.hid hs
  have HNn := Lib.hid hn
  have HN := Lib.hid hN9
  have HFi := Lib.hid h.rd.1
  have HNe : Hid (∀ t r, s = .ok (t :: r) → t.kind = 1 → t.text ≠ []) := Lib.hid fun t r e hk => by
    obtain ⟨-, -, i, -, hd, -⟩ := h.rd
    have h1 := (drop_cons (hd _ e)).2.1
    exact name_some (hNm t (List.mem_of_getElem? h1) hk)
  clear hs HI hN9 hNm
  obtain ⟨W1, hW1⟩ : ∃ W1, W1 = w.alloc (.cells #[.int .i64 0, .string ⟨#[]⟩, .int .i64 0, .int .i64 0, .slice none 0 0] 24) := ⟨_, rfl⟩
  obtain ⟨b2, hb2⟩ : ∃ b2, b2 = w.heap.size := ⟨_, rfl⟩
  have HO : Hid (Owns w0 W1 (rdP w0 bp fin all v s :: blk b2 fobj0 :: ps)) := by
    rw [hW1, hb2]
    exact Lib.hid (h.box fobj0).swap
  clear h
  go_enter Tryz.func107, Tryz.ntmps107
  go_wp2_with fail
  rw [← hW1, ← hb2]
  clear hW1 hb2
  try go_at_call 120
  refine (rtoken_c (w0 := w0) (bp := bp) (fin := fin) (all := all) (v := v) (blk b2 fobj0 :: ps) s W1 HN.out HO.out).mono ?_
  rintro e W2 ⟨rfl, ho⟩
  obtain ⟨⟨kd, po, nu, u⟩, ht⟩ : ∃ t, t = nextT s := ⟨_, rfl⟩
  obtain ⟨s1, hs1⟩ : ∃ s1, s1 = nextS fin s := ⟨_, rfl⟩
  rw [← ht]
  rw [← hs1] at ho
  simp only [tval]
  have HT := Lib.hid ht
  have HS1 := Lib.hid hs1
  obtain ⟨W3, hW3⟩ : ∃ W3, W3 = W2.alloc (.cells #[.int .i64 kd, .int .i64 po, .int .i64 nu, .string (bs u)] 75) := ⟨_, rfl⟩
  obtain ⟨b3, hb3⟩ : ∃ b3, b3 = W2.heap.size := ⟨_, rfl⟩
  replace HO : Hid (Owns w0 W3 (rdP w0 bp fin all v s1 :: blk b3 (tobj ⟨kd, po, nu, u⟩) :: blk b2 fobj0 :: ps)) := by
    rw [hW3, hb3]
    exact Lib.hid (ho.box (tobj ⟨kd, po, nu, u⟩)).swap
  clear ho ht hs1
  by_cases hk : kd = 1
  case neg =>
    have hk' : ((kd : Int) == 1) = false := by simp; omega
    have hkn : ((kd : Int) != 1) = true := by simp; omega
    by_cases h4 : kd = 4 ∧ u = [40]
    case neg =>
      have HDt := Lib.hid (rest_bad (fin := fin) (n := n) (s := s) (s1 := s1) (t := ⟨kd, po, nu, u⟩) u (fun g => by
        rw [HS1.out]
        exact syn_any HT.out HFi.out (fun h => hk h.1) (fun h => h4 h) (.inl hk) g))
      simp only [] at HDt
      by_cases h44 : kd = 4
      · have h44' : ((kd : Int) == 4) = true := by simp; omega
        have hu' : (u == [40]) = false := by simpa using fun e => h4 ⟨h44, e⟩
        clear h4 h44 hk
        -- the token's box is loaded
        go_wp2_with fail
        try rw [← hW3]
        try rw [← hb3]
        clear hW3 hb3
        focus
          obtain ⟨bk, -⟩ := HO.out.swap.blk
          have hbt := lt_of_block bk
          have ft0 := free_of_heap bk (i := 0)
          have ft1 := free_of_heap bk (i := 1)
          have ft2 := free_of_heap bk (i := 2)
          have ft3 := free_of_heap bk (i := 3)
          have ct0 := cell_of_heap bk (i := 0)
          have ct1 := cell_of_heap bk (i := 1)
          have ct2 := cell_of_heap bk (i := 2)
          have ct3 := cell_of_heap bk (i := 3)
          simp only [List.getElem?_toArray, List.getElem?_cons_succ, List.getElem?_cons_zero] at ct0 ct1 ct2 ct3
          clear bk
          go_wp2_with fail
          clear hbt ft0 ft1 ft2 ft3 ct0 ct1 ct2 ct3
        -- Fail(ErrSyntax), and what follows; the box of the token was loaded
        try go_at_call 60
        refine (rfail_c (w0 := w0) (bp := bp) (fin := fin) (all := all) (v := v) (blk b3 (tobj ⟨kd, po, nu, u⟩) :: blk b2 fobj0 :: ps) s1 5 po (by omega) (by omega) _ HO.out).mono ?_
        rintro e Wc ⟨rfl, ho⟩
        replace HO := Lib.hid ho
        obtain ⟨sR, hsR⟩ : ∃ sR, sR = failS s1 5 po := ⟨_, rfl⟩
        rw [← hsR] at HO HDt
        clear ho hsR
        -- HO : rdP sR, the token's box b3, the result's box b2; HDt : what is read of a comparison from sR on
        obtain ⟨W5, hW5⟩ : ∃ W5, W5 = Wc.alloc (.cells #[.int .i64 3, .string (bs u), .int .i64 0, .int .i64 0, .slice none 0 0] 24) := ⟨_, rfl⟩
        obtain ⟨b6, hb6⟩ : ∃ b6, b6 = Wc.heap.size := ⟨_, rfl⟩
        have HO5 : Hid (Owns w0 W5 (rdP w0 bp fin all v sR :: blk b6 (f7 u 0) :: blk b3 (tobj ⟨kd, po, nu, u⟩) :: blk b2 fobj0 :: ps)) := by
          rw [hW5, hb6]
          exact Lib.hid (HO.out.box (f7 u 0)).swap
        focus
          obtain ⟨bk, -⟩ := HO.out.swap.blk
          have hbt := lt_of_block bk
          have ft0 := free_of_heap bk (i := 0)
          have ft1 := free_of_heap bk (i := 1)
          have ft2 := free_of_heap bk (i := 2)
          have ft3 := free_of_heap bk (i := 3)
          have ct0 := cell_of_heap bk (i := 0)
          have ct1 := cell_of_heap bk (i := 1)
          have ct2 := cell_of_heap bk (i := 2)
          have ct3 := cell_of_heap bk (i := 3)
          simp only [List.getElem?_toArray, List.getElem?_cons_succ, List.getElem?_cons_zero] at ct0 ct1 ct2 ct3
          clear bk
          go_wp2_with fail
          rw [← hW5, ← hb6]
          clear hW5 hb6
          clear hbt ft0 ft1 ft2 ft3 ct0 ct1 ct2 ct3
        replace HO := HO5
        clear HO5
        try go_at_call 120
        refine (rtoken_c (w0 := w0) (bp := bp) (fin := fin) (all := all) (v := v) (blk b6 (f7 u 0) :: blk b3 (tobj ⟨kd, po, nu, u⟩) :: blk b2 fobj0 :: ps) sR W5 HN.out HO.out).mono ?_
        rintro e W6 ⟨rfl, ho⟩
        obtain ⟨⟨k2, p2, n2, u2⟩, ht⟩ : ∃ t, t = nextT sR := ⟨_, rfl⟩
        obtain ⟨s2, hs2⟩ : ∃ s2, s2 = nextS fin sR := ⟨_, rfl⟩
        rw [← ht]
        rw [← hs2] at ho
        simp only [tval]
        have HT2 := Lib.hid ht
        have HS2 := Lib.hid hs2
        have HO3 := Lib.hid (ho.re [2, 0, 1])
        obtain ⟨W7, hW7⟩ : ∃ W7, W7 = (((W6.setCell ⟨b3, 0, none⟩ (.int .i64 k2)).setCell ⟨b3, 1, none⟩ (.int .i64 p2)).setCell ⟨b3, 2, none⟩ (.int .i64 n2)).setCell ⟨b3, 3, none⟩ (.string (bs u2)) := ⟨_, rfl⟩
        replace HO : Hid (Owns w0 W7 (blk b3 (tobj ⟨k2, p2, n2, u2⟩) :: rdP w0 bp fin all v s2 :: blk b6 (f7 u 0) :: blk b2 fobj0 :: ps)) := by
          rw [hW7]
          exact Lib.hid ((((HO3.out.store (i := 0) (.int .i64 k2)).store (i := 1) (.int .i64 p2)).store (i := 2) (.int .i64 n2)).store (i := 3) (.string (bs u2)))
        clear ho ht hs2
        focus
          obtain ⟨bk, -⟩ := HO3.out.blk
          have hbt := lt_of_block bk
          have ft0 := free_of_heap bk (i := 0)
          have ft1 := free_of_heap bk (i := 1)
          have ft2 := free_of_heap bk (i := 2)
          have ft3 := free_of_heap bk (i := 3)
          have ct0 := cell_of_heap bk (i := 0)
          have ct1 := cell_of_heap bk (i := 1)
          have ct2 := cell_of_heap bk (i := 2)
          have ct3 := cell_of_heap bk (i := 3)
          simp only [List.getElem?_toArray, List.getElem?_cons_succ, List.getElem?_cons_zero] at ct0 ct1 ct2 ct3
          clear bk
          go_wp2_with fail
          rw [← hW7]
          clear hW7
          clear hbt ft0 ft1 ft2 ft3 ct0 ct1 ct2 ct3
        clear HO3
        have H0 : Hid (Owns w0 W7 (blk b3 (tobj ⟨k2, p2, n2, u2⟩) :: rdP w0 bp fin all v s2 :: blk b6 (f7 u ((xK ⟨k2, p2, n2, u2⟩ 1 : Nat) : Int)) :: blk b2 fobj0 :: ps)) := by
          rw [xK_one]
          exact HO
        go_loopg [6] 6 (fun gk kv wr => ∃ k : Nat, gk = 7 - k ∧ 1 ≤ k ∧ k ≤ 7 ∧ kv = .int .i64 (k : Int) ∧ Hid (Owns w0 wr (blk b3 (tobj ⟨k2, p2, n2, u2⟩) :: rdP w0 bp fin all v s2 :: blk b6 (f7 u ((xK ⟨k2, p2, n2, u2⟩ k : Nat) : Int)) :: blk b2 fobj0 :: ps)))
        case atStart => exact ⟨1, rfl, by omega, by omega, rfl, H0⟩
        case round =>
          rename_i J1 K1 hJ1 hK1
          clear HO H0
          obtain ⟨k, rfl, hk1, hk7, rfl, HO⟩ := hrel
          go_wp2_with fail
          try go_at_call 75
          refine (comparisons_c wr).mono ?_
          rintro e W8 ⟨gs, rfl, hgs, hW8⟩
          have hb8 : Below wr.heap.size wr W8 := by rw [hW8]; exact (Below.refl _ _).alloc (Nat.le_refl _) _
          replace HO := Lib.hid (HO.out.below hb8)
          clear hW8 hgs hb8
          by_cases hlt : k < 7
          · have hk6 : k ≤ 6 := by omega
            go_wp2_with fail
            refine wp_region_can [6] (List.range 12) (by decide +kernel) (by decide +kernel) ?_
            replace HO := Lib.hid HO.out.drew
            generalize hWd : World.drew _ = W9 at HO ⊢
            clear hWd
            by_cases h24 : k2 = 4
            · have h24' : ((k2 : Int) == 4) = true := by simp; omega
              have H24 := Lib.hid h24
              clear h24
              focus
                obtain ⟨bk, -⟩ := HO.out.blk
                have hbt := lt_of_block bk
                have ft0 := free_of_heap bk (i := 0)
                have ft1 := free_of_heap bk (i := 1)
                have ft2 := free_of_heap bk (i := 2)
                have ft3 := free_of_heap bk (i := 3)
                have ct0 := cell_of_heap bk (i := 0)
                have ct1 := cell_of_heap bk (i := 1)
                have ct2 := cell_of_heap bk (i := 2)
                have ct3 := cell_of_heap bk (i := 3)
                simp only [List.getElem?_toArray, List.getElem?_cons_succ, List.getElem?_cons_zero] at ct0 ct1 ct2 ct3
                clear bk
                iterate 6 (first | (refine cl_do rfl rfl rfl (by first | rfl | simp [okB, lenV, plainV, Act.eval]) (fun _ _ => ?_); go_wp2_with fail) | (refine cl_yes rfl rfl rfl rfl (by first | rfl | simp [okB, lenV, plainV, Act.eval]) (fun _ _ => ?_); go_wp2_with fail))
                clear hbt ft0 ft1 ft2 ft3 ct0 ct1 ct2 ct3
              refine cl_ycall (i := 6) rfl rfl rfl (by first | rfl | simp [okB, lenV, plainV, Act.eval]) (fun K hK => ?_)
              go_wp2_with fail
              try go_at_call 75
              refine (comparisons_c W9).mono ?_
              rintro e W10 ⟨g2, rfl, hg2, hW10⟩
              have hb10 : Below W9.heap.size W9 W10 := by rw [hW10]; exact (Below.refl _ _).alloc (Nat.le_refl _) _
              have bks : W10.heap[g2]? = some symObj := by rw [hW10]; exact new_heap _ _ _ hg2
              have hg2l := lt_of_block bks
              have cs := sym_cell bks hk1 hk6
              have Hb := Lib.hid hb10
              replace HO := Lib.hid (HO.out.below hb10)
              clear hW10 hg2 hb10 bks
              go_wp2_with fail
              refine And.intro Hb.out ?_
              clear Hb
              by_cases hm : u2 = symB (k : Int)
              · have hm' : (u2 == symB (k : Int)) = true := by simpa using hm
                have HX : Hid (xK ⟨k2, p2, n2, u2⟩ (k + 1) = k) := Lib.hid (xK_hit H24.out ((sym_iff hk1 hk6).1 hm))
                clear hm
                iterate 5 (first | (refine cl_do rfl rfl rfl (by first | rfl | simp [okB, lenV, plainV, Act.eval]) (fun _ _ => ?_); go_wp2_with fail) | (refine cl_yes rfl rfl rfl rfl (by first | rfl | simp [okB, lenV, plainV, Act.eval]) (fun _ _ => ?_); go_wp2_with fail))
                refine cl_nil ?_
                have HO6 := Lib.hid (HO.out.re [2, 0, 1])
                have HO7 : Hid (Owns w0 (W10.setCell ⟨b6, 2, none⟩ (.int .i64 (k : Int))) (blk b3 (tobj ⟨k2, p2, n2, u2⟩) :: rdP w0 bp fin all v s2 :: blk b6 (f7 u ((xK ⟨k2, p2, n2, u2⟩ (k + 1) : Nat) : Int)) :: blk b2 fobj0 :: ps)) := by
                  rw [HX.out]
                  exact Lib.hid ((HO6.out.store (i := 2) (.int .i64 (k : Int))).re [1, 2, 0])
                focus
                  obtain ⟨bk, -⟩ := HO6.out.blk
                  have hbe := lt_of_block bk
                  have fe0 := free_of_heap bk (i := 0)
                  have fe1 := free_of_heap bk (i := 1)
                  have fe2 := free_of_heap bk (i := 2)
                  have fe3 := free_of_heap bk (i := 3)
                  have fe4 := free_of_heap bk (i := 4)
                  have ce0 := cell_of_heap bk (i := 0)
                  have ce1 := cell_of_heap bk (i := 1)
                  have ce2 := cell_of_heap bk (i := 2)
                  have ce3 := cell_of_heap bk (i := 3)
                  have ce4 := cell_of_heap bk (i := 4)
                  simp only [List.getElem?_toArray, List.getElem?_cons_succ, List.getElem?_cons_zero] at ce0 ce1 ce2 ce3 ce4
                  clear bk
                  clear HO
                  go_wp2_with fail
                  go_roundg (7 - (k + 1))
                  case measure => omega
                  case rel => exact ⟨k + 1, rfl, by omega, by omega, by go_num, HO7⟩
              · have hm' : (u2 == symB (k : Int)) = false := by simpa using hm
                have HX : Hid (xK ⟨k2, p2, n2, u2⟩ (k + 1) = xK ⟨k2, p2, n2, u2⟩ k) := Lib.hid (xK_miss fun h => hm ((sym_iff hk1 hk6).2 h.2))
                clear hm
                iterate 5 (first | (refine cl_do rfl rfl rfl (by first | rfl | simp [okB, lenV, plainV, Act.eval]) (fun _ _ => ?_); go_wp2_with fail) | (refine cl_yes rfl rfl rfl rfl (by first | rfl | simp [okB, lenV, plainV, Act.eval]) (fun _ _ => ?_); go_wp2_with fail))
                refine cl_nil ?_
                rw [← HX.out] at HO
                go_wp2_with fail
                go_roundg (7 - (k + 1))
                case measure => omega
                case rel => exact ⟨k + 1, rfl, by omega, by omega, by go_num, HO⟩
            · have h24' : ((k2 : Int) == 4) = false := by simp; omega
              have HX : Hid (xK ⟨k2, p2, n2, u2⟩ (k + 1) = xK ⟨k2, p2, n2, u2⟩ k) := Lib.hid (xK_miss fun h => h24 h.1)
              clear h24
              focus
                obtain ⟨bk, -⟩ := HO.out.blk
                have hbt := lt_of_block bk
                have ft0 := free_of_heap bk (i := 0)
                have ft1 := free_of_heap bk (i := 1)
                have ft2 := free_of_heap bk (i := 2)
                have ft3 := free_of_heap bk (i := 3)
                have ct0 := cell_of_heap bk (i := 0)
                have ct1 := cell_of_heap bk (i := 1)
                have ct2 := cell_of_heap bk (i := 2)
                have ct3 := cell_of_heap bk (i := 3)
                simp only [List.getElem?_toArray, List.getElem?_cons_succ, List.getElem?_cons_zero] at ct0 ct1 ct2 ct3
                clear bk
                iterate 12 (first | (refine cl_do rfl rfl rfl (by first | rfl | simp [okB, lenV, plainV, Act.eval]) (fun _ _ => ?_); go_wp2_with fail) | (refine cl_no rfl rfl rfl ?_; go_simp))
                clear hbt ft0 ft1 ft2 ft3 ct0 ct1 ct2 ct3
              refine cl_nil ?_
              rw [← HX.out] at HO
              go_wp2_with fail
              go_roundg (7 - (k + 1))
              case measure => omega
              case rel => exact ⟨k + 1, rfl, by omega, by omega, by go_num, HO⟩
          · obtain rfl : k = 7 := by omega
            obtain ⟨x, hx⟩ : ∃ x, x = xT ⟨k2, p2, n2, u2⟩ := ⟨_, rfl⟩
            rw [xK_last, ← hx] at HO
            have hx6 : x ≤ 6 := by rw [hx]; exact xT_le _
            have HX := Lib.hid hx
            rw [HT2.out] at HX
            rw [← HX.out] at HDt
            clear hx hJ1 hK1 hlt hk1 hk7
            by_cases hx0 : x = 0
            · have hx0' : ((x : Int) == 0) = true := by simpa using hx0
              have HB0 : Hid (failS s2 5 p2 = stB fin sR) := by
                show _ = _
                rw [stR_eq, ← HX.out, if_pos hx0, ← HT2.out, ← HS2.out]
              clear hx0
              focus
                obtain ⟨bk, -⟩ := HO.out.blk
                have hbt := lt_of_block bk
                have ft0 := free_of_heap bk (i := 0)
                have ft1 := free_of_heap bk (i := 1)
                have ft2 := free_of_heap bk (i := 2)
                have ft3 := free_of_heap bk (i := 3)
                have ct0 := cell_of_heap bk (i := 0)
                have ct1 := cell_of_heap bk (i := 1)
                have ct2 := cell_of_heap bk (i := 2)
                have ct3 := cell_of_heap bk (i := 3)
                simp only [List.getElem?_toArray, List.getElem?_cons_succ, List.getElem?_cons_zero] at ct0 ct1 ct2 ct3
                clear bk
                obtain ⟨bk, -⟩ := (HO.out.re [2, 0, 1]).blk
                have hbe := lt_of_block bk
                have fe0 := free_of_heap bk (i := 0)
                have fe1 := free_of_heap bk (i := 1)
                have fe2 := free_of_heap bk (i := 2)
                have fe3 := free_of_heap bk (i := 3)
                have fe4 := free_of_heap bk (i := 4)
                have ce0 := cell_of_heap bk (i := 0)
                have ce1 := cell_of_heap bk (i := 1)
                have ce2 := cell_of_heap bk (i := 2)
                have ce3 := cell_of_heap bk (i := 3)
                have ce4 := cell_of_heap bk (i := 4)
                simp only [List.getElem?_toArray, List.getElem?_cons_succ, List.getElem?_cons_zero] at ce0 ce1 ce2 ce3 ce4
                clear bk
                go_wp2_with fail
                clear hbt ft0 ft1 ft2 ft3 ct0 ct1 ct2 ct3
                clear hbe fe0 fe1 fe2 fe3 fe4 ce0 ce1 ce2 ce3 ce4
              try go_at_call 60
              refine (rfail_c (w0 := w0) (bp := bp) (fin := fin) (all := all) (v := v) (blk b3 (tobj ⟨k2, p2, n2, u2⟩) :: blk b6 (f7 u (x : Int)) :: blk b2 fobj0 :: ps) s2 5 p2 (by omega) (by omega) _ (HO.out.re [1, 0, 2])).mono ?_
              rintro e W11 ⟨rfl, ho⟩
              replace HO := Lib.hid ho
              obtain ⟨sB, hsB⟩ : ∃ sB, sB = failS s2 5 p2 := ⟨_, rfl⟩
              have HB : Hid (sB = stB fin sR) := by show _ = _; rw [hsB]; exact HB0.out
              rw [← hsB] at HO
              clear ho hsB HB0
              go_wp2_with fail
              try go_at_call 120
              refine (rtoken_c (w0 := w0) (bp := bp) (fin := fin) (all := all) (v := v) (blk b3 (tobj ⟨k2, p2, n2, u2⟩) :: blk b6 (f7 u x) :: blk b2 fobj0 :: ps) sB _ HN.out HO.out).mono ?_
              rintro e W12 ⟨rfl, ho⟩
              obtain ⟨⟨k3, p3, n3, u3⟩, ht⟩ : ∃ t, t = nextT sB := ⟨_, rfl⟩
              obtain ⟨s4, hs4⟩ : ∃ s4, s4 = nextS fin sB := ⟨_, rfl⟩
              rw [← ht]
              rw [← hs4] at ho
              simp only [tval]
              have HT3 := Lib.hid ht
              have HS4 := Lib.hid hs4
              have HO3 := Lib.hid ho.swap
              obtain ⟨W13, hW13⟩ : ∃ W13, W13 = (((W12.setCell ⟨b3, 0, none⟩ (.int .i64 k3)).setCell ⟨b3, 1, none⟩ (.int .i64 p3)).setCell ⟨b3, 2, none⟩ (.int .i64 n3)).setCell ⟨b3, 3, none⟩ (.string (bs u3)) := ⟨_, rfl⟩
              replace HO : Hid (Owns w0 W13 (rdP w0 bp fin all v s4 :: blk b3 (tobj ⟨k3, p3, n3, u3⟩) :: blk b6 (f7 u x) :: blk b2 fobj0 :: ps)) := by
                rw [hW13]
                exact Lib.hid ((((HO3.out.store (i := 0) (.int .i64 k3)).store (i := 1) (.int .i64 p3)).store (i := 2) (.int .i64 n3)).store (i := 3) (.string (bs u3))).swap
              clear ho ht hs4
              by_cases hk3 : k3 = 2
              · have hk3' : ((k3 : Int) != 2) = false := by simp; omega
                have HDD : Hid (s4 = stD fin sB) := by
                  show _ = _
                  rw [stD, ← HT3.out, if_neg (by simpa using hk3), ← HS4.out]
                clear hk3
                by_cases hn3 : 1000000 < n3
                · have hn3' : (1000000 : Int) < (n3 : Int) := by omega
                  have HD : Hid (Did (oneF fin (n + 1)) s (.mk 3 u x n3 []) (failS s4 10 p3)) := HDt.out sB ⟨k3, p3, n3, u3⟩ s4 (failS s4 10 p3) HB.out HT3.out HDD.out (by rw [stE, if_pos hn3])
                  clear hn3
                  focus
                    obtain ⟨bk, -⟩ := HO3.out.blk
                    have hbt := lt_of_block bk
                    have ft0 := free_of_heap bk (i := 0)
                    have ft1 := free_of_heap bk (i := 1)
                    have ft2 := free_of_heap bk (i := 2)
                    have ft3 := free_of_heap bk (i := 3)
                    have ct0 := cell_of_heap bk (i := 0)
                    have ct1 := cell_of_heap bk (i := 1)
                    have ct2 := cell_of_heap bk (i := 2)
                    have ct3 := cell_of_heap bk (i := 3)
                    simp only [List.getElem?_toArray, List.getElem?_cons_succ, List.getElem?_cons_zero] at ct0 ct1 ct2 ct3
                    clear bk
                    go_wp2_with fail
                    rw [← hW13]
                    clear hW13
                    clear hbt ft0 ft1 ft2 ft3 ct0 ct1 ct2 ct3
                  try go_at_call 60
                  refine (rfail_c (w0 := w0) (bp := bp) (fin := fin) (all := all) (v := v) (blk b3 (tobj ⟨k3, p3, n3, u3⟩) :: blk b6 (f7 u x) :: blk b2 fobj0 :: ps) s4 10 p3 (by omega) (by omega) _ HO.out).mono ?_
                  clear HO
                  rintro e W14 ⟨rfl, ho⟩
                  have HO := Lib.hid ho
                  clear ho
                  simp only []
                  obtain ⟨bk, -⟩ := HO.out.swap.blk
                  have hbt := lt_of_block bk
                  have ft0 := free_of_heap bk (i := 0)
                  have ft1 := free_of_heap bk (i := 1)
                  have ft2 := free_of_heap bk (i := 2)
                  have ft3 := free_of_heap bk (i := 3)
                  have ct0 := cell_of_heap bk (i := 0)
                  have ct1 := cell_of_heap bk (i := 1)
                  have ct2 := cell_of_heap bk (i := 2)
                  have ct3 := cell_of_heap bk (i := 3)
                  simp only [List.getElem?_toArray, List.getElem?_cons_succ, List.getElem?_cons_zero] at ct0 ct1 ct2 ct3
                  clear bk
                  obtain ⟨bk, -⟩ := (HO.out.re [2, 0, 1]).blk
                  have hbe := lt_of_block bk
                  have fe0 := free_of_heap bk (i := 0)
                  have fe1 := free_of_heap bk (i := 1)
                  have fe2 := free_of_heap bk (i := 2)
                  have fe3 := free_of_heap bk (i := 3)
                  have fe4 := free_of_heap bk (i := 4)
                  have ce0 := cell_of_heap bk (i := 0)
                  have ce1 := cell_of_heap bk (i := 1)
                  have ce2 := cell_of_heap bk (i := 2)
                  have ce3 := cell_of_heap bk (i := 3)
                  have ce4 := cell_of_heap bk (i := 4)
                  simp only [List.getElem?_toArray, List.getElem?_cons_succ, List.getElem?_cons_zero] at ce0 ce1 ce2 ce3 ce4
                  clear bk
                  obtain ⟨bk, -⟩ := (HO.out.re [3, 0, 1, 2]).blk
                  have hbz := lt_of_block bk
                  have fz0 := free_of_heap bk (i := 0)
                  have fz1 := free_of_heap bk (i := 1)
                  have fz2 := free_of_heap bk (i := 2)
                  have fz3 := free_of_heap bk (i := 3)
                  have fz4 := free_of_heap bk (i := 4)
                  have cz0 := cell_of_heap bk (i := 0)
                  have cz1 := cell_of_heap bk (i := 1)
                  have cz2 := cell_of_heap bk (i := 2)
                  have cz3 := cell_of_heap bk (i := 3)
                  have cz4 := cell_of_heap bk (i := 4)
                  simp only [List.getElem?_toArray, List.getElem?_cons_succ, List.getElem?_cons_zero] at cz0 cz1 cz2 cz3 cz4
                  clear bk
                  have m36 := Owns.ne (HO.out.re [1, 2, 0])
                  have m36' := m36.symm
                  have m32 := Owns.ne (HO.out.re [1, 3, 0, 2])
                  have m32' := m32.symm
                  have m62 := Owns.ne (HO.out.re [2, 3, 0, 1])
                  have m62' := m62.symm
                  repeat (first | go_values | go_skip | go_guarded | go_step | go_upon)
                  have h1 := ((HO.out.re [2, 0, 1]).store (i := 3) (.int .i64 n3)).re [3, 1, 2, 0]
                  have h2 := ((((Owns.store h1 (i := 0) (.int .i64 3)).store (i := 1) (.string (bs u))).store (i := 2) (.int .i64 x)).store (i := 3) (.int .i64 n3)).store (i := 4) (.slice none 0 0)
                  have h3 := (h2.pop.re [1, 2, 0]).pop.pop.leaf 3 u x n3 none 0
                  exact bodyPost_ret (rnot_res rfl h2.blk.1) (by rfl) (by first | exact ⟨_, _, _, rfl, HD.out, h3⟩ | exact ⟨_, _, rfl, _, HD.out, h3⟩)
                · have hn3' : ¬ (1000000 : Int) < (n3 : Int) := by omega
                  have HD : Hid (Did (oneF fin (n + 1)) s (.mk 3 u x n3 []) s4) := HDt.out sB ⟨k3, p3, n3, u3⟩ s4 s4 HB.out HT3.out HDD.out (by rw [stE, if_neg hn3])
                  clear hn3
                  subst hW13
                  obtain ⟨bk, -⟩ := HO3.out.blk
                  have hbt := lt_of_block bk
                  have ft0 := free_of_heap bk (i := 0)
                  have ft1 := free_of_heap bk (i := 1)
                  have ft2 := free_of_heap bk (i := 2)
                  have ft3 := free_of_heap bk (i := 3)
                  have ct0 := cell_of_heap bk (i := 0)
                  have ct1 := cell_of_heap bk (i := 1)
                  have ct2 := cell_of_heap bk (i := 2)
                  have ct3 := cell_of_heap bk (i := 3)
                  simp only [List.getElem?_toArray, List.getElem?_cons_succ, List.getElem?_cons_zero] at ct0 ct1 ct2 ct3
                  clear bk
                  obtain ⟨bk, -⟩ := (HO3.out.re [2, 0, 1]).blk
                  have hbe := lt_of_block bk
                  have fe0 := free_of_heap bk (i := 0)
                  have fe1 := free_of_heap bk (i := 1)
                  have fe2 := free_of_heap bk (i := 2)
                  have fe3 := free_of_heap bk (i := 3)
                  have fe4 := free_of_heap bk (i := 4)
                  have ce0 := cell_of_heap bk (i := 0)
                  have ce1 := cell_of_heap bk (i := 1)
                  have ce2 := cell_of_heap bk (i := 2)
                  have ce3 := cell_of_heap bk (i := 3)
                  have ce4 := cell_of_heap bk (i := 4)
                  simp only [List.getElem?_toArray, List.getElem?_cons_succ, List.getElem?_cons_zero] at ce0 ce1 ce2 ce3 ce4
                  clear bk
                  obtain ⟨bk, -⟩ := (HO3.out.re [3, 0, 1, 2]).blk
                  have hbz := lt_of_block bk
                  have fz0 := free_of_heap bk (i := 0)
                  have fz1 := free_of_heap bk (i := 1)
                  have fz2 := free_of_heap bk (i := 2)
                  have fz3 := free_of_heap bk (i := 3)
                  have fz4 := free_of_heap bk (i := 4)
                  have cz0 := cell_of_heap bk (i := 0)
                  have cz1 := cell_of_heap bk (i := 1)
                  have cz2 := cell_of_heap bk (i := 2)
                  have cz3 := cell_of_heap bk (i := 3)
                  have cz4 := cell_of_heap bk (i := 4)
                  simp only [List.getElem?_toArray, List.getElem?_cons_succ, List.getElem?_cons_zero] at cz0 cz1 cz2 cz3 cz4
                  clear bk
                  have m36 := Owns.ne (HO3.out.re [0, 2, 1])
                  have m36' := m36.symm
                  have m32 := Owns.ne (HO3.out.re [0, 3, 1, 2])
                  have m32' := m32.symm
                  have m62 := Owns.ne (HO3.out.re [2, 3, 0, 1])
                  have m62' := m62.symm
                  repeat (first | go_values | go_skip | go_guarded | go_step | go_upon)
                  have h1 := ((HO.out.re [2, 0, 1]).store (i := 3) (.int .i64 n3)).re [3, 1, 2, 0]
                  have h2 := ((((Owns.store h1 (i := 0) (.int .i64 3)).store (i := 1) (.string (bs u))).store (i := 2) (.int .i64 x)).store (i := 3) (.int .i64 n3)).store (i := 4) (.slice none 0 0)
                  have h3 := (h2.pop.re [1, 2, 0]).pop.pop.leaf 3 u x n3 none 0
                  exact bodyPost_ret (rnot_res rfl h2.blk.1) (by rfl) (by first | exact ⟨_, _, _, rfl, HD.out, h3⟩ | exact ⟨_, _, rfl, _, HD.out, h3⟩)
              · have hk3' : ((k3 : Int) != 2) = true := by simp; omega
                have HDD : Hid (failS s4 5 p3 = stD fin sB) := by
                  show _ = _
                  rw [stD, ← HT3.out, if_pos (by simpa using hk3), ← HS4.out]
                clear hk3
                focus
                  obtain ⟨bk, -⟩ := HO3.out.blk
                  have hbt := lt_of_block bk
                  have ft0 := free_of_heap bk (i := 0)
                  have ft1 := free_of_heap bk (i := 1)
                  have ft2 := free_of_heap bk (i := 2)
                  have ft3 := free_of_heap bk (i := 3)
                  have ct0 := cell_of_heap bk (i := 0)
                  have ct1 := cell_of_heap bk (i := 1)
                  have ct2 := cell_of_heap bk (i := 2)
                  have ct3 := cell_of_heap bk (i := 3)
                  simp only [List.getElem?_toArray, List.getElem?_cons_succ, List.getElem?_cons_zero] at ct0 ct1 ct2 ct3
                  clear bk
                  go_wp2_with fail
                  rw [← hW13]
                  clear hW13
                  clear hbt ft0 ft1 ft2 ft3 ct0 ct1 ct2 ct3
                try go_at_call 60
                refine (rfail_c (w0 := w0) (bp := bp) (fin := fin) (all := all) (v := v) (blk b3 (tobj ⟨k3, p3, n3, u3⟩) :: blk b6 (f7 u x) :: blk b2 fobj0 :: ps) s4 5 p3 (by omega) (by omega) _ HO.out).mono ?_
                clear HO
                rintro e W14 ⟨rfl, ho⟩
                have HO := Lib.hid ho
                clear ho
                simp only []
                by_cases hn3 : 1000000 < n3
                · have hn3' : (1000000 : Int) < (n3 : Int) := by omega
                  have HD : Hid (Did (oneF fin (n + 1)) s (.mk 3 u x n3 []) (failS (failS s4 5 p3) 10 p3)) := HDt.out sB ⟨k3, p3, n3, u3⟩ _ _ HB.out HT3.out HDD.out (by rw [stE, if_pos hn3])
                  clear hn3
                  focus
                    obtain ⟨bk, -⟩ := HO.out.swap.blk
                    have hbt := lt_of_block bk
                    have ft0 := free_of_heap bk (i := 0)
                    have ft1 := free_of_heap bk (i := 1)
                    have ft2 := free_of_heap bk (i := 2)
                    have ft3 := free_of_heap bk (i := 3)
                    have ct0 := cell_of_heap bk (i := 0)
                    have ct1 := cell_of_heap bk (i := 1)
                    have ct2 := cell_of_heap bk (i := 2)
                    have ct3 := cell_of_heap bk (i := 3)
                    simp only [List.getElem?_toArray, List.getElem?_cons_succ, List.getElem?_cons_zero] at ct0 ct1 ct2 ct3
                    clear bk
                    go_wp2_with fail
                    clear hbt ft0 ft1 ft2 ft3 ct0 ct1 ct2 ct3
                  try go_at_call 60
                  refine (rfail_c (w0 := w0) (bp := bp) (fin := fin) (all := all) (v := v) (blk b3 (tobj ⟨k3, p3, n3, u3⟩) :: blk b6 (f7 u x) :: blk b2 fobj0 :: ps) (failS s4 5 p3) 10 p3 (by omega) (by omega) _ HO.out).mono ?_
                  clear HO
                  rintro e W14 ⟨rfl, ho⟩
                  have HO := Lib.hid ho
                  clear ho
                  simp only []
                  obtain ⟨bk, -⟩ := HO.out.swap.blk
                  have hbt := lt_of_block bk
                  have ft0 := free_of_heap bk (i := 0)
                  have ft1 := free_of_heap bk (i := 1)
                  have ft2 := free_of_heap bk (i := 2)
                  have ft3 := free_of_heap bk (i := 3)
                  have ct0 := cell_of_heap bk (i := 0)
                  have ct1 := cell_of_heap bk (i := 1)
                  have ct2 := cell_of_heap bk (i := 2)
                  have ct3 := cell_of_heap bk (i := 3)
                  simp only [List.getElem?_toArray, List.getElem?_cons_succ, List.getElem?_cons_zero] at ct0 ct1 ct2 ct3
                  clear bk
                  obtain ⟨bk, -⟩ := (HO.out.re [2, 0, 1]).blk
                  have hbe := lt_of_block bk
                  have fe0 := free_of_heap bk (i := 0)
                  have fe1 := free_of_heap bk (i := 1)
                  have fe2 := free_of_heap bk (i := 2)
                  have fe3 := free_of_heap bk (i := 3)
                  have fe4 := free_of_heap bk (i := 4)
                  have ce0 := cell_of_heap bk (i := 0)
                  have ce1 := cell_of_heap bk (i := 1)
                  have ce2 := cell_of_heap bk (i := 2)
                  have ce3 := cell_of_heap bk (i := 3)
                  have ce4 := cell_of_heap bk (i := 4)
                  simp only [List.getElem?_toArray, List.getElem?_cons_succ, List.getElem?_cons_zero] at ce0 ce1 ce2 ce3 ce4
                  clear bk
                  obtain ⟨bk, -⟩ := (HO.out.re [3, 0, 1, 2]).blk
                  have hbz := lt_of_block bk
                  have fz0 := free_of_heap bk (i := 0)
                  have fz1 := free_of_heap bk (i := 1)
                  have fz2 := free_of_heap bk (i := 2)
                  have fz3 := free_of_heap bk (i := 3)
                  have fz4 := free_of_heap bk (i := 4)
                  have cz0 := cell_of_heap bk (i := 0)
                  have cz1 := cell_of_heap bk (i := 1)
                  have cz2 := cell_of_heap bk (i := 2)
                  have cz3 := cell_of_heap bk (i := 3)
                  have cz4 := cell_of_heap bk (i := 4)
                  simp only [List.getElem?_toArray, List.getElem?_cons_succ, List.getElem?_cons_zero] at cz0 cz1 cz2 cz3 cz4
                  clear bk
                  have m36 := Owns.ne (HO.out.re [1, 2, 0])
                  have m36' := m36.symm
                  have m32 := Owns.ne (HO.out.re [1, 3, 0, 2])
                  have m32' := m32.symm
                  have m62 := Owns.ne (HO.out.re [2, 3, 0, 1])
                  have m62' := m62.symm
                  repeat (first | go_values | go_skip | go_guarded | go_step | go_upon)
                  have h1 := ((HO.out.re [2, 0, 1]).store (i := 3) (.int .i64 n3)).re [3, 1, 2, 0]
                  have h2 := ((((Owns.store h1 (i := 0) (.int .i64 3)).store (i := 1) (.string (bs u))).store (i := 2) (.int .i64 x)).store (i := 3) (.int .i64 n3)).store (i := 4) (.slice none 0 0)
                  have h3 := (h2.pop.re [1, 2, 0]).pop.pop.leaf 3 u x n3 none 0
                  exact bodyPost_ret (rnot_res rfl h2.blk.1) (by rfl) (by first | exact ⟨_, _, _, rfl, HD.out, h3⟩ | exact ⟨_, _, rfl, _, HD.out, h3⟩)
                · have hn3' : ¬ (1000000 : Int) < (n3 : Int) := by omega
                  have HD : Hid (Did (oneF fin (n + 1)) s (.mk 3 u x n3 []) (failS s4 5 p3)) := HDt.out sB ⟨k3, p3, n3, u3⟩ _ _ HB.out HT3.out HDD.out (by rw [stE, if_neg hn3])
                  clear hn3
                  obtain ⟨bk, -⟩ := HO.out.swap.blk
                  have hbt := lt_of_block bk
                  have ft0 := free_of_heap bk (i := 0)
                  have ft1 := free_of_heap bk (i := 1)
                  have ft2 := free_of_heap bk (i := 2)
                  have ft3 := free_of_heap bk (i := 3)
                  have ct0 := cell_of_heap bk (i := 0)
                  have ct1 := cell_of_heap bk (i := 1)
                  have ct2 := cell_of_heap bk (i := 2)
                  have ct3 := cell_of_heap bk (i := 3)
                  simp only [List.getElem?_toArray, List.getElem?_cons_succ, List.getElem?_cons_zero] at ct0 ct1 ct2 ct3
                  clear bk
                  obtain ⟨bk, -⟩ := (HO.out.re [2, 0, 1]).blk
                  have hbe := lt_of_block bk
                  have fe0 := free_of_heap bk (i := 0)
                  have fe1 := free_of_heap bk (i := 1)
                  have fe2 := free_of_heap bk (i := 2)
                  have fe3 := free_of_heap bk (i := 3)
                  have fe4 := free_of_heap bk (i := 4)
                  have ce0 := cell_of_heap bk (i := 0)
                  have ce1 := cell_of_heap bk (i := 1)
                  have ce2 := cell_of_heap bk (i := 2)
                  have ce3 := cell_of_heap bk (i := 3)
                  have ce4 := cell_of_heap bk (i := 4)
                  simp only [List.getElem?_toArray, List.getElem?_cons_succ, List.getElem?_cons_zero] at ce0 ce1 ce2 ce3 ce4
                  clear bk
                  obtain ⟨bk, -⟩ := (HO.out.re [3, 0, 1, 2]).blk
                  have hbz := lt_of_block bk
                  have fz0 := free_of_heap bk (i := 0)
                  have fz1 := free_of_heap bk (i := 1)
                  have fz2 := free_of_heap bk (i := 2)
                  have fz3 := free_of_heap bk (i := 3)
                  have fz4 := free_of_heap bk (i := 4)
                  have cz0 := cell_of_heap bk (i := 0)
                  have cz1 := cell_of_heap bk (i := 1)
                  have cz2 := cell_of_heap bk (i := 2)
                  have cz3 := cell_of_heap bk (i := 3)
                  have cz4 := cell_of_heap bk (i := 4)
                  simp only [List.getElem?_toArray, List.getElem?_cons_succ, List.getElem?_cons_zero] at cz0 cz1 cz2 cz3 cz4
                  clear bk
                  have m36 := Owns.ne (HO.out.re [1, 2, 0])
                  have m36' := m36.symm
                  have m32 := Owns.ne (HO.out.re [1, 3, 0, 2])
                  have m32' := m32.symm
                  have m62 := Owns.ne (HO.out.re [2, 3, 0, 1])
                  have m62' := m62.symm
                  repeat (first | go_values | go_skip | go_guarded | go_step | go_upon)
                  have h1 := ((HO.out.re [2, 0, 1]).store (i := 3) (.int .i64 n3)).re [3, 1, 2, 0]
                  have h2 := ((((Owns.store h1 (i := 0) (.int .i64 3)).store (i := 1) (.string (bs u))).store (i := 2) (.int .i64 x)).store (i := 3) (.int .i64 n3)).store (i := 4) (.slice none 0 0)
                  have h3 := (h2.pop.re [1, 2, 0]).pop.pop.leaf 3 u x n3 none 0
                  exact bodyPost_ret (rnot_res rfl h2.blk.1) (by rfl) (by first | exact ⟨_, _, _, rfl, HD.out, h3⟩ | exact ⟨_, _, rfl, _, HD.out, h3⟩)
            · have hx0' : ((x : Int) == 0) = false := by simpa using hx0
              have HB0 : Hid (s2 = stB fin sR) := by
                show _ = _
                rw [stR_eq, ← HX.out, if_neg hx0, ← HS2.out]
              clear hx0
              focus
                obtain ⟨bk, -⟩ := (HO.out.re [2, 0, 1]).blk
                have hbe := lt_of_block bk
                have fe0 := free_of_heap bk (i := 0)
                have fe1 := free_of_heap bk (i := 1)
                have fe2 := free_of_heap bk (i := 2)
                have fe3 := free_of_heap bk (i := 3)
                have fe4 := free_of_heap bk (i := 4)
                have ce0 := cell_of_heap bk (i := 0)
                have ce1 := cell_of_heap bk (i := 1)
                have ce2 := cell_of_heap bk (i := 2)
                have ce3 := cell_of_heap bk (i := 3)
                have ce4 := cell_of_heap bk (i := 4)
                simp only [List.getElem?_toArray, List.getElem?_cons_succ, List.getElem?_cons_zero] at ce0 ce1 ce2 ce3 ce4
                clear bk
                go_wp2_with fail
                clear hbe fe0 fe1 fe2 fe3 fe4 ce0 ce1 ce2 ce3 ce4
              replace HO := Lib.hid (HO.out.re [1, 0, 2])
              obtain ⟨sB, hsB⟩ : ∃ sB, sB = s2 := ⟨_, rfl⟩
              have HB : Hid (sB = stB fin sR) := by show _ = _; rw [hsB]; exact HB0.out
              rw [← hsB] at HO
              clear hsB HB0
              try go_at_call 120
              refine (rtoken_c (w0 := w0) (bp := bp) (fin := fin) (all := all) (v := v) (blk b3 (tobj ⟨k2, p2, n2, u2⟩) :: blk b6 (f7 u x) :: blk b2 fobj0 :: ps) sB _ HN.out HO.out).mono ?_
              rintro e W12 ⟨rfl, ho⟩
              obtain ⟨⟨k3, p3, n3, u3⟩, ht⟩ : ∃ t, t = nextT sB := ⟨_, rfl⟩
              obtain ⟨s4, hs4⟩ : ∃ s4, s4 = nextS fin sB := ⟨_, rfl⟩
              rw [← ht]
              rw [← hs4] at ho
              simp only [tval]
              have HT3 := Lib.hid ht
              have HS4 := Lib.hid hs4
              have HO3 := Lib.hid ho.swap
              obtain ⟨W13, hW13⟩ : ∃ W13, W13 = (((W12.setCell ⟨b3, 0, none⟩ (.int .i64 k3)).setCell ⟨b3, 1, none⟩ (.int .i64 p3)).setCell ⟨b3, 2, none⟩ (.int .i64 n3)).setCell ⟨b3, 3, none⟩ (.string (bs u3)) := ⟨_, rfl⟩
              replace HO : Hid (Owns w0 W13 (rdP w0 bp fin all v s4 :: blk b3 (tobj ⟨k3, p3, n3, u3⟩) :: blk b6 (f7 u x) :: blk b2 fobj0 :: ps)) := by
                rw [hW13]
                exact Lib.hid ((((HO3.out.store (i := 0) (.int .i64 k3)).store (i := 1) (.int .i64 p3)).store (i := 2) (.int .i64 n3)).store (i := 3) (.string (bs u3))).swap
              clear ho ht hs4
              by_cases hk3 : k3 = 2
              · have hk3' : ((k3 : Int) != 2) = false := by simp; omega
                have HDD : Hid (s4 = stD fin sB) := by
                  show _ = _
                  rw [stD, ← HT3.out, if_neg (by simpa using hk3), ← HS4.out]
                clear hk3
                by_cases hn3 : 1000000 < n3
                · have hn3' : (1000000 : Int) < (n3 : Int) := by omega
                  have HD : Hid (Did (oneF fin (n + 1)) s (.mk 3 u x n3 []) (failS s4 10 p3)) := HDt.out sB ⟨k3, p3, n3, u3⟩ s4 (failS s4 10 p3) HB.out HT3.out HDD.out (by rw [stE, if_pos hn3])
                  clear hn3
                  focus
                    obtain ⟨bk, -⟩ := HO3.out.blk
                    have hbt := lt_of_block bk
                    have ft0 := free_of_heap bk (i := 0)
                    have ft1 := free_of_heap bk (i := 1)
                    have ft2 := free_of_heap bk (i := 2)
                    have ft3 := free_of_heap bk (i := 3)
                    have ct0 := cell_of_heap bk (i := 0)
                    have ct1 := cell_of_heap bk (i := 1)
                    have ct2 := cell_of_heap bk (i := 2)
                    have ct3 := cell_of_heap bk (i := 3)
                    simp only [List.getElem?_toArray, List.getElem?_cons_succ, List.getElem?_cons_zero] at ct0 ct1 ct2 ct3
                    clear bk
                    go_wp2_with fail
                    rw [← hW13]
                    clear hW13
                    clear hbt ft0 ft1 ft2 ft3 ct0 ct1 ct2 ct3
                  try go_at_call 60
                  refine (rfail_c (w0 := w0) (bp := bp) (fin := fin) (all := all) (v := v) (blk b3 (tobj ⟨k3, p3, n3, u3⟩) :: blk b6 (f7 u x) :: blk b2 fobj0 :: ps) s4 10 p3 (by omega) (by omega) _ HO.out).mono ?_
                  clear HO
                  rintro e W14 ⟨rfl, ho⟩
                  have HO := Lib.hid ho
                  clear ho
                  simp only []
                  obtain ⟨bk, -⟩ := HO.out.swap.blk
                  have hbt := lt_of_block bk
                  have ft0 := free_of_heap bk (i := 0)
                  have ft1 := free_of_heap bk (i := 1)
                  have ft2 := free_of_heap bk (i := 2)
                  have ft3 := free_of_heap bk (i := 3)
                  have ct0 := cell_of_heap bk (i := 0)
                  have ct1 := cell_of_heap bk (i := 1)
                  have ct2 := cell_of_heap bk (i := 2)
                  have ct3 := cell_of_heap bk (i := 3)
                  simp only [List.getElem?_toArray, List.getElem?_cons_succ, List.getElem?_cons_zero] at ct0 ct1 ct2 ct3
                  clear bk
                  obtain ⟨bk, -⟩ := (HO.out.re [2, 0, 1]).blk
                  have hbe := lt_of_block bk
                  have fe0 := free_of_heap bk (i := 0)
                  have fe1 := free_of_heap bk (i := 1)
                  have fe2 := free_of_heap bk (i := 2)
                  have fe3 := free_of_heap bk (i := 3)
                  have fe4 := free_of_heap bk (i := 4)
                  have ce0 := cell_of_heap bk (i := 0)
                  have ce1 := cell_of_heap bk (i := 1)
                  have ce2 := cell_of_heap bk (i := 2)
                  have ce3 := cell_of_heap bk (i := 3)
                  have ce4 := cell_of_heap bk (i := 4)
                  simp only [List.getElem?_toArray, List.getElem?_cons_succ, List.getElem?_cons_zero] at ce0 ce1 ce2 ce3 ce4
                  clear bk
                  obtain ⟨bk, -⟩ := (HO.out.re [3, 0, 1, 2]).blk
                  have hbz := lt_of_block bk
                  have fz0 := free_of_heap bk (i := 0)
                  have fz1 := free_of_heap bk (i := 1)
                  have fz2 := free_of_heap bk (i := 2)
                  have fz3 := free_of_heap bk (i := 3)
                  have fz4 := free_of_heap bk (i := 4)
                  have cz0 := cell_of_heap bk (i := 0)
                  have cz1 := cell_of_heap bk (i := 1)
                  have cz2 := cell_of_heap bk (i := 2)
                  have cz3 := cell_of_heap bk (i := 3)
                  have cz4 := cell_of_heap bk (i := 4)
                  simp only [List.getElem?_toArray, List.getElem?_cons_succ, List.getElem?_cons_zero] at cz0 cz1 cz2 cz3 cz4
                  clear bk
                  have m36 := Owns.ne (HO.out.re [1, 2, 0])
                  have m36' := m36.symm
                  have m32 := Owns.ne (HO.out.re [1, 3, 0, 2])
                  have m32' := m32.symm
                  have m62 := Owns.ne (HO.out.re [2, 3, 0, 1])
                  have m62' := m62.symm
                  repeat (first | go_values | go_skip | go_guarded | go_step | go_upon)
                  have h1 := ((HO.out.re [2, 0, 1]).store (i := 3) (.int .i64 n3)).re [3, 1, 2, 0]
                  have h2 := ((((Owns.store h1 (i := 0) (.int .i64 3)).store (i := 1) (.string (bs u))).store (i := 2) (.int .i64 x)).store (i := 3) (.int .i64 n3)).store (i := 4) (.slice none 0 0)
                  have h3 := (h2.pop.re [1, 2, 0]).pop.pop.leaf 3 u x n3 none 0
                  exact bodyPost_ret (rnot_res rfl h2.blk.1) (by rfl) (by first | exact ⟨_, _, _, rfl, HD.out, h3⟩ | exact ⟨_, _, rfl, _, HD.out, h3⟩)
                · have hn3' : ¬ (1000000 : Int) < (n3 : Int) := by omega
                  have HD : Hid (Did (oneF fin (n + 1)) s (.mk 3 u x n3 []) s4) := HDt.out sB ⟨k3, p3, n3, u3⟩ s4 s4 HB.out HT3.out HDD.out (by rw [stE, if_neg hn3])
                  clear hn3
                  subst hW13
                  obtain ⟨bk, -⟩ := HO3.out.blk
                  have hbt := lt_of_block bk
                  have ft0 := free_of_heap bk (i := 0)
                  have ft1 := free_of_heap bk (i := 1)
                  have ft2 := free_of_heap bk (i := 2)
                  have ft3 := free_of_heap bk (i := 3)
                  have ct0 := cell_of_heap bk (i := 0)
                  have ct1 := cell_of_heap bk (i := 1)
                  have ct2 := cell_of_heap bk (i := 2)
                  have ct3 := cell_of_heap bk (i := 3)
                  simp only [List.getElem?_toArray, List.getElem?_cons_succ, List.getElem?_cons_zero] at ct0 ct1 ct2 ct3
                  clear bk
                  obtain ⟨bk, -⟩ := (HO3.out.re [2, 0, 1]).blk
                  have hbe := lt_of_block bk
                  have fe0 := free_of_heap bk (i := 0)
                  have fe1 := free_of_heap bk (i := 1)
                  have fe2 := free_of_heap bk (i := 2)
                  have fe3 := free_of_heap bk (i := 3)
                  have fe4 := free_of_heap bk (i := 4)
                  have ce0 := cell_of_heap bk (i := 0)
                  have ce1 := cell_of_heap bk (i := 1)
                  have ce2 := cell_of_heap bk (i := 2)
                  have ce3 := cell_of_heap bk (i := 3)
                  have ce4 := cell_of_heap bk (i := 4)
                  simp only [List.getElem?_toArray, List.getElem?_cons_succ, List.getElem?_cons_zero] at ce0 ce1 ce2 ce3 ce4
                  clear bk
                  obtain ⟨bk, -⟩ := (HO3.out.re [3, 0, 1, 2]).blk
                  have hbz := lt_of_block bk
                  have fz0 := free_of_heap bk (i := 0)
                  have fz1 := free_of_heap bk (i := 1)
                  have fz2 := free_of_heap bk (i := 2)
                  have fz3 := free_of_heap bk (i := 3)
                  have fz4 := free_of_heap bk (i := 4)
                  have cz0 := cell_of_heap bk (i := 0)
                  have cz1 := cell_of_heap bk (i := 1)
                  have cz2 := cell_of_heap bk (i := 2)
                  have cz3 := cell_of_heap bk (i := 3)
                  have cz4 := cell_of_heap bk (i := 4)
                  simp only [List.getElem?_toArray, List.getElem?_cons_succ, List.getElem?_cons_zero] at cz0 cz1 cz2 cz3 cz4
                  clear bk
                  have m36 := Owns.ne (HO3.out.re [0, 2, 1])
                  have m36' := m36.symm
                  have m32 := Owns.ne (HO3.out.re [0, 3, 1, 2])
                  have m32' := m32.symm
                  have m62 := Owns.ne (HO3.out.re [2, 3, 0, 1])
                  have m62' := m62.symm
                  repeat (first | go_values | go_skip | go_guarded | go_step | go_upon)
                  have h1 := ((HO.out.re [2, 0, 1]).store (i := 3) (.int .i64 n3)).re [3, 1, 2, 0]
                  have h2 := ((((Owns.store h1 (i := 0) (.int .i64 3)).store (i := 1) (.string (bs u))).store (i := 2) (.int .i64 x)).store (i := 3) (.int .i64 n3)).store (i := 4) (.slice none 0 0)
                  have h3 := (h2.pop.re [1, 2, 0]).pop.pop.leaf 3 u x n3 none 0
                  exact bodyPost_ret (rnot_res rfl h2.blk.1) (by rfl) (by first | exact ⟨_, _, _, rfl, HD.out, h3⟩ | exact ⟨_, _, rfl, _, HD.out, h3⟩)
              · have hk3' : ((k3 : Int) != 2) = true := by simp; omega
                have HDD : Hid (failS s4 5 p3 = stD fin sB) := by
                  show _ = _
                  rw [stD, ← HT3.out, if_pos (by simpa using hk3), ← HS4.out]
                clear hk3
                focus
                  obtain ⟨bk, -⟩ := HO3.out.blk
                  have hbt := lt_of_block bk
                  have ft0 := free_of_heap bk (i := 0)
                  have ft1 := free_of_heap bk (i := 1)
                  have ft2 := free_of_heap bk (i := 2)
                  have ft3 := free_of_heap bk (i := 3)
                  have ct0 := cell_of_heap bk (i := 0)
                  have ct1 := cell_of_heap bk (i := 1)
                  have ct2 := cell_of_heap bk (i := 2)
                  have ct3 := cell_of_heap bk (i := 3)
                  simp only [List.getElem?_toArray, List.getElem?_cons_succ, List.getElem?_cons_zero] at ct0 ct1 ct2 ct3
                  clear bk
                  go_wp2_with fail
                  rw [← hW13]
                  clear hW13
                  clear hbt ft0 ft1 ft2 ft3 ct0 ct1 ct2 ct3
                try go_at_call 60
                refine (rfail_c (w0 := w0) (bp := bp) (fin := fin) (all := all) (v := v) (blk b3 (tobj ⟨k3, p3, n3, u3⟩) :: blk b6 (f7 u x) :: blk b2 fobj0 :: ps) s4 5 p3 (by omega) (by omega) _ HO.out).mono ?_
                clear HO
                rintro e W14 ⟨rfl, ho⟩
                have HO := Lib.hid ho
                clear ho
                simp only []
                by_cases hn3 : 1000000 < n3
                · have hn3' : (1000000 : Int) < (n3 : Int) := by omega
                  have HD : Hid (Did (oneF fin (n + 1)) s (.mk 3 u x n3 []) (failS (failS s4 5 p3) 10 p3)) := HDt.out sB ⟨k3, p3, n3, u3⟩ _ _ HB.out HT3.out HDD.out (by rw [stE, if_pos hn3])
                  clear hn3
                  focus
                    obtain ⟨bk, -⟩ := HO.out.swap.blk
                    have hbt := lt_of_block bk
                    have ft0 := free_of_heap bk (i := 0)
                    have ft1 := free_of_heap bk (i := 1)
                    have ft2 := free_of_heap bk (i := 2)
                    have ft3 := free_of_heap bk (i := 3)
                    have ct0 := cell_of_heap bk (i := 0)
                    have ct1 := cell_of_heap bk (i := 1)
                    have ct2 := cell_of_heap bk (i := 2)
                    have ct3 := cell_of_heap bk (i := 3)
                    simp only [List.getElem?_toArray, List.getElem?_cons_succ, List.getElem?_cons_zero] at ct0 ct1 ct2 ct3
                    clear bk
                    go_wp2_with fail
                    clear hbt ft0 ft1 ft2 ft3 ct0 ct1 ct2 ct3
                  try go_at_call 60
                  refine (rfail_c (w0 := w0) (bp := bp) (fin := fin) (all := all) (v := v) (blk b3 (tobj ⟨k3, p3, n3, u3⟩) :: blk b6 (f7 u x) :: blk b2 fobj0 :: ps) (failS s4 5 p3) 10 p3 (by omega) (by omega) _ HO.out).mono ?_
                  clear HO
                  rintro e W14 ⟨rfl, ho⟩
                  have HO := Lib.hid ho
                  clear ho
                  simp only []
                  obtain ⟨bk, -⟩ := HO.out.swap.blk
                  have hbt := lt_of_block bk
                  have ft0 := free_of_heap bk (i := 0)
                  have ft1 := free_of_heap bk (i := 1)
                  have ft2 := free_of_heap bk (i := 2)
                  have ft3 := free_of_heap bk (i := 3)
                  have ct0 := cell_of_heap bk (i := 0)
                  have ct1 := cell_of_heap bk (i := 1)
                  have ct2 := cell_of_heap bk (i := 2)
                  have ct3 := cell_of_heap bk (i := 3)
                  simp only [List.getElem?_toArray, List.getElem?_cons_succ, List.getElem?_cons_zero] at ct0 ct1 ct2 ct3
                  clear bk
                  obtain ⟨bk, -⟩ := (HO.out.re [2, 0, 1]).blk
                  have hbe := lt_of_block bk
                  have fe0 := free_of_heap bk (i := 0)
                  have fe1 := free_of_heap bk (i := 1)
                  have fe2 := free_of_heap bk (i := 2)
                  have fe3 := free_of_heap bk (i := 3)
                  have fe4 := free_of_heap bk (i := 4)
                  have ce0 := cell_of_heap bk (i := 0)
                  have ce1 := cell_of_heap bk (i := 1)
                  have ce2 := cell_of_heap bk (i := 2)
                  have ce3 := cell_of_heap bk (i := 3)
                  have ce4 := cell_of_heap bk (i := 4)
                  simp only [List.getElem?_toArray, List.getElem?_cons_succ, List.getElem?_cons_zero] at ce0 ce1 ce2 ce3 ce4
                  clear bk
                  obtain ⟨bk, -⟩ := (HO.out.re [3, 0, 1, 2]).blk
                  have hbz := lt_of_block bk
                  have fz0 := free_of_heap bk (i := 0)
                  have fz1 := free_of_heap bk (i := 1)
                  have fz2 := free_of_heap bk (i := 2)
                  have fz3 := free_of_heap bk (i := 3)
                  have fz4 := free_of_heap bk (i := 4)
                  have cz0 := cell_of_heap bk (i := 0)
                  have cz1 := cell_of_heap bk (i := 1)
                  have cz2 := cell_of_heap bk (i := 2)
                  have cz3 := cell_of_heap bk (i := 3)
                  have cz4 := cell_of_heap bk (i := 4)
                  simp only [List.getElem?_toArray, List.getElem?_cons_succ, List.getElem?_cons_zero] at cz0 cz1 cz2 cz3 cz4
                  clear bk
                  have m36 := Owns.ne (HO.out.re [1, 2, 0])
                  have m36' := m36.symm
                  have m32 := Owns.ne (HO.out.re [1, 3, 0, 2])
                  have m32' := m32.symm
                  have m62 := Owns.ne (HO.out.re [2, 3, 0, 1])
                  have m62' := m62.symm
                  repeat (first | go_values | go_skip | go_guarded | go_step | go_upon)
                  have h1 := ((HO.out.re [2, 0, 1]).store (i := 3) (.int .i64 n3)).re [3, 1, 2, 0]
                  have h2 := ((((Owns.store h1 (i := 0) (.int .i64 3)).store (i := 1) (.string (bs u))).store (i := 2) (.int .i64 x)).store (i := 3) (.int .i64 n3)).store (i := 4) (.slice none 0 0)
                  have h3 := (h2.pop.re [1, 2, 0]).pop.pop.leaf 3 u x n3 none 0
                  exact bodyPost_ret (rnot_res rfl h2.blk.1) (by rfl) (by first | exact ⟨_, _, _, rfl, HD.out, h3⟩ | exact ⟨_, _, rfl, _, HD.out, h3⟩)
                · have hn3' : ¬ (1000000 : Int) < (n3 : Int) := by omega
                  have HD : Hid (Did (oneF fin (n + 1)) s (.mk 3 u x n3 []) (failS s4 5 p3)) := HDt.out sB ⟨k3, p3, n3, u3⟩ _ _ HB.out HT3.out HDD.out (by rw [stE, if_neg hn3])
                  clear hn3
                  obtain ⟨bk, -⟩ := HO.out.swap.blk
                  have hbt := lt_of_block bk
                  have ft0 := free_of_heap bk (i := 0)
                  have ft1 := free_of_heap bk (i := 1)
                  have ft2 := free_of_heap bk (i := 2)
                  have ft3 := free_of_heap bk (i := 3)
                  have ct0 := cell_of_heap bk (i := 0)
                  have ct1 := cell_of_heap bk (i := 1)
                  have ct2 := cell_of_heap bk (i := 2)
                  have ct3 := cell_of_heap bk (i := 3)
                  simp only [List.getElem?_toArray, List.getElem?_cons_succ, List.getElem?_cons_zero] at ct0 ct1 ct2 ct3
                  clear bk
                  obtain ⟨bk, -⟩ := (HO.out.re [2, 0, 1]).blk
                  have hbe := lt_of_block bk
                  have fe0 := free_of_heap bk (i := 0)
                  have fe1 := free_of_heap bk (i := 1)
                  have fe2 := free_of_heap bk (i := 2)
                  have fe3 := free_of_heap bk (i := 3)
                  have fe4 := free_of_heap bk (i := 4)
                  have ce0 := cell_of_heap bk (i := 0)
                  have ce1 := cell_of_heap bk (i := 1)
                  have ce2 := cell_of_heap bk (i := 2)
                  have ce3 := cell_of_heap bk (i := 3)
                  have ce4 := cell_of_heap bk (i := 4)
                  simp only [List.getElem?_toArray, List.getElem?_cons_succ, List.getElem?_cons_zero] at ce0 ce1 ce2 ce3 ce4
                  clear bk
                  obtain ⟨bk, -⟩ := (HO.out.re [3, 0, 1, 2]).blk
                  have hbz := lt_of_block bk
                  have fz0 := free_of_heap bk (i := 0)
                  have fz1 := free_of_heap bk (i := 1)
                  have fz2 := free_of_heap bk (i := 2)
                  have fz3 := free_of_heap bk (i := 3)
                  have fz4 := free_of_heap bk (i := 4)
                  have cz0 := cell_of_heap bk (i := 0)
                  have cz1 := cell_of_heap bk (i := 1)
                  have cz2 := cell_of_heap bk (i := 2)
                  have cz3 := cell_of_heap bk (i := 3)
                  have cz4 := cell_of_heap bk (i := 4)
                  simp only [List.getElem?_toArray, List.getElem?_cons_succ, List.getElem?_cons_zero] at cz0 cz1 cz2 cz3 cz4
                  clear bk
                  have m36 := Owns.ne (HO.out.re [1, 2, 0])
                  have m36' := m36.symm
                  have m32 := Owns.ne (HO.out.re [1, 3, 0, 2])
                  have m32' := m32.symm
                  have m62 := Owns.ne (HO.out.re [2, 3, 0, 1])
                  have m62' := m62.symm
                  repeat (first | go_values | go_skip | go_guarded | go_step | go_upon)
                  have h1 := ((HO.out.re [2, 0, 1]).store (i := 3) (.int .i64 n3)).re [3, 1, 2, 0]
                  have h2 := ((((Owns.store h1 (i := 0) (.int .i64 3)).store (i := 1) (.string (bs u))).store (i := 2) (.int .i64 x)).store (i := 3) (.int .i64 n3)).store (i := 4) (.slice none 0 0)
                  have h3 := (h2.pop.re [1, 2, 0]).pop.pop.leaf 3 u x n3 none 0
                  exact bodyPost_ret (rnot_res rfl h2.blk.1) (by rfl) (by first | exact ⟨_, _, _, rfl, HD.out, h3⟩ | exact ⟨_, _, rfl, _, HD.out, h3⟩)
      · have h44' : ((kd : Int) == 4) = false := by simp; omega
        clear h4 h44 hk
        -- the token's box is loaded
        go_wp2_with fail
        try rw [← hW3]
        try rw [← hb3]
        clear hW3 hb3
        focus
          obtain ⟨bk, -⟩ := HO.out.swap.blk
          have hbt := lt_of_block bk
          have ft0 := free_of_heap bk (i := 0)
          have ft1 := free_of_heap bk (i := 1)
          have ft2 := free_of_heap bk (i := 2)
          have ft3 := free_of_heap bk (i := 3)
          have ct0 := cell_of_heap bk (i := 0)
          have ct1 := cell_of_heap bk (i := 1)
          have ct2 := cell_of_heap bk (i := 2)
          have ct3 := cell_of_heap bk (i := 3)
          simp only [List.getElem?_toArray, List.getElem?_cons_succ, List.getElem?_cons_zero] at ct0 ct1 ct2 ct3
          clear bk
          go_wp2_with fail
          clear hbt ft0 ft1 ft2 ft3 ct0 ct1 ct2 ct3
        -- Fail(ErrSyntax), and what follows; the box of the token was loaded
        try go_at_call 60
        refine (rfail_c (w0 := w0) (bp := bp) (fin := fin) (all := all) (v := v) (blk b3 (tobj ⟨kd, po, nu, u⟩) :: blk b2 fobj0 :: ps) s1 5 po (by omega) (by omega) _ HO.out).mono ?_
        rintro e Wc ⟨rfl, ho⟩
        replace HO := Lib.hid ho
        obtain ⟨sR, hsR⟩ : ∃ sR, sR = failS s1 5 po := ⟨_, rfl⟩
        rw [← hsR] at HO HDt
        clear ho hsR
        -- HO : rdP sR, the token's box b3, the result's box b2; HDt : what is read of a comparison from sR on
        obtain ⟨W5, hW5⟩ : ∃ W5, W5 = Wc.alloc (.cells #[.int .i64 3, .string (bs u), .int .i64 0, .int .i64 0, .slice none 0 0] 24) := ⟨_, rfl⟩
        obtain ⟨b6, hb6⟩ : ∃ b6, b6 = Wc.heap.size := ⟨_, rfl⟩
        have HO5 : Hid (Owns w0 W5 (rdP w0 bp fin all v sR :: blk b6 (f7 u 0) :: blk b3 (tobj ⟨kd, po, nu, u⟩) :: blk b2 fobj0 :: ps)) := by
          rw [hW5, hb6]
          exact Lib.hid (HO.out.box (f7 u 0)).swap
        focus
          obtain ⟨bk, -⟩ := HO.out.swap.blk
          have hbt := lt_of_block bk
          have ft0 := free_of_heap bk (i := 0)
          have ft1 := free_of_heap bk (i := 1)
          have ft2 := free_of_heap bk (i := 2)
          have ft3 := free_of_heap bk (i := 3)
          have ct0 := cell_of_heap bk (i := 0)
          have ct1 := cell_of_heap bk (i := 1)
          have ct2 := cell_of_heap bk (i := 2)
          have ct3 := cell_of_heap bk (i := 3)
          simp only [List.getElem?_toArray, List.getElem?_cons_succ, List.getElem?_cons_zero] at ct0 ct1 ct2 ct3
          clear bk
          go_wp2_with fail
          rw [← hW5, ← hb6]
          clear hW5 hb6
          clear hbt ft0 ft1 ft2 ft3 ct0 ct1 ct2 ct3
        replace HO := HO5
        clear HO5
        try go_at_call 120
        refine (rtoken_c (w0 := w0) (bp := bp) (fin := fin) (all := all) (v := v) (blk b6 (f7 u 0) :: blk b3 (tobj ⟨kd, po, nu, u⟩) :: blk b2 fobj0 :: ps) sR W5 HN.out HO.out).mono ?_
        rintro e W6 ⟨rfl, ho⟩
        obtain ⟨⟨k2, p2, n2, u2⟩, ht⟩ : ∃ t, t = nextT sR := ⟨_, rfl⟩
        obtain ⟨s2, hs2⟩ : ∃ s2, s2 = nextS fin sR := ⟨_, rfl⟩
        rw [← ht]
        rw [← hs2] at ho
        simp only [tval]
        have HT2 := Lib.hid ht
        have HS2 := Lib.hid hs2
        have HO3 := Lib.hid (ho.re [2, 0, 1])
        obtain ⟨W7, hW7⟩ : ∃ W7, W7 = (((W6.setCell ⟨b3, 0, none⟩ (.int .i64 k2)).setCell ⟨b3, 1, none⟩ (.int .i64 p2)).setCell ⟨b3, 2, none⟩ (.int .i64 n2)).setCell ⟨b3, 3, none⟩ (.string (bs u2)) := ⟨_, rfl⟩
        replace HO : Hid (Owns w0 W7 (blk b3 (tobj ⟨k2, p2, n2, u2⟩) :: rdP w0 bp fin all v s2 :: blk b6 (f7 u 0) :: blk b2 fobj0 :: ps)) := by
          rw [hW7]
          exact Lib.hid ((((HO3.out.store (i := 0) (.int .i64 k2)).store (i := 1) (.int .i64 p2)).store (i := 2) (.int .i64 n2)).store (i := 3) (.string (bs u2)))
        clear ho ht hs2
        focus
          obtain ⟨bk, -⟩ := HO3.out.blk
          have hbt := lt_of_block bk
          have ft0 := free_of_heap bk (i := 0)
          have ft1 := free_of_heap bk (i := 1)
          have ft2 := free_of_heap bk (i := 2)
          have ft3 := free_of_heap bk (i := 3)
          have ct0 := cell_of_heap bk (i := 0)
          have ct1 := cell_of_heap bk (i := 1)
          have ct2 := cell_of_heap bk (i := 2)
          have ct3 := cell_of_heap bk (i := 3)
          simp only [List.getElem?_toArray, List.getElem?_cons_succ, List.getElem?_cons_zero] at ct0 ct1 ct2 ct3
          clear bk
          go_wp2_with fail
          rw [← hW7]
          clear hW7
          clear hbt ft0 ft1 ft2 ft3 ct0 ct1 ct2 ct3
        clear HO3
        have H0 : Hid (Owns w0 W7 (blk b3 (tobj ⟨k2, p2, n2, u2⟩) :: rdP w0 bp fin all v s2 :: blk b6 (f7 u ((xK ⟨k2, p2, n2, u2⟩ 1 : Nat) : Int)) :: blk b2 fobj0 :: ps)) := by
          rw [xK_one]
          exact HO
        go_loopg [6] 6 (fun gk kv wr => ∃ k : Nat, gk = 7 - k ∧ 1 ≤ k ∧ k ≤ 7 ∧ kv = .int .i64 (k : Int) ∧ Hid (Owns w0 wr (blk b3 (tobj ⟨k2, p2, n2, u2⟩) :: rdP w0 bp fin all v s2 :: blk b6 (f7 u ((xK ⟨k2, p2, n2, u2⟩ k : Nat) : Int)) :: blk b2 fobj0 :: ps)))
        case atStart => exact ⟨1, rfl, by omega, by omega, rfl, H0⟩
        case round =>
          rename_i J1 K1 hJ1 hK1
          clear HO H0
          obtain ⟨k, rfl, hk1, hk7, rfl, HO⟩ := hrel
          go_wp2_with fail
          try go_at_call 75
          refine (comparisons_c wr).mono ?_
          rintro e W8 ⟨gs, rfl, hgs, hW8⟩
          have hb8 : Below wr.heap.size wr W8 := by rw [hW8]; exact (Below.refl _ _).alloc (Nat.le_refl _) _
          replace HO := Lib.hid (HO.out.below hb8)
          clear hW8 hgs hb8
          by_cases hlt : k < 7
          · have hk6 : k ≤ 6 := by omega
            go_wp2_with fail
            refine wp_region_can [6] (List.range 12) (by decide +kernel) (by decide +kernel) ?_
            replace HO := Lib.hid HO.out.drew
            generalize hWd : World.drew _ = W9 at HO ⊢
            clear hWd
            by_cases h24 : k2 = 4
            · have h24' : ((k2 : Int) == 4) = true := by simp; omega
              have H24 := Lib.hid h24
              clear h24
              focus
                obtain ⟨bk, -⟩ := HO.out.blk
                have hbt := lt_of_block bk
                have ft0 := free_of_heap bk (i := 0)
                have ft1 := free_of_heap bk (i := 1)
                have ft2 := free_of_heap bk (i := 2)
                have ft3 := free_of_heap bk (i := 3)
                have ct0 := cell_of_heap bk (i := 0)
                have ct1 := cell_of_heap bk (i := 1)
                have ct2 := cell_of_heap bk (i := 2)
                have ct3 := cell_of_heap bk (i := 3)
                simp only [List.getElem?_toArray, List.getElem?_cons_succ, List.getElem?_cons_zero] at ct0 ct1 ct2 ct3
                clear bk
                iterate 6 (first | (refine cl_do rfl rfl rfl (by first | rfl | simp [okB, lenV, plainV, Act.eval]) (fun _ _ => ?_); go_wp2_with fail) | (refine cl_yes rfl rfl rfl rfl (by first | rfl | simp [okB, lenV, plainV, Act.eval]) (fun _ _ => ?_); go_wp2_with fail))
                clear hbt ft0 ft1 ft2 ft3 ct0 ct1 ct2 ct3
              refine cl_ycall (i := 6) rfl rfl rfl (by first | rfl | simp [okB, lenV, plainV, Act.eval]) (fun K hK => ?_)
              go_wp2_with fail
              try go_at_call 75
              refine (comparisons_c W9).mono ?_
              rintro e W10 ⟨g2, rfl, hg2, hW10⟩
              have hb10 : Below W9.heap.size W9 W10 := by rw [hW10]; exact (Below.refl _ _).alloc (Nat.le_refl _) _
              have bks : W10.heap[g2]? = some symObj := by rw [hW10]; exact new_heap _ _ _ hg2
              have hg2l := lt_of_block bks
              have cs := sym_cell bks hk1 hk6
              have Hb := Lib.hid hb10
              replace HO := Lib.hid (HO.out.below hb10)
              clear hW10 hg2 hb10 bks
              go_wp2_with fail
              refine And.intro Hb.out ?_
              clear Hb
              by_cases hm : u2 = symB (k : Int)
              · have hm' : (u2 == symB (k : Int)) = true := by simpa using hm
                have HX : Hid (xK ⟨k2, p2, n2, u2⟩ (k + 1) = k) := Lib.hid (xK_hit H24.out ((sym_iff hk1 hk6).1 hm))
                clear hm
                iterate 5 (first | (refine cl_do rfl rfl rfl (by first | rfl | simp [okB, lenV, plainV, Act.eval]) (fun _ _ => ?_); go_wp2_with fail) | (refine cl_yes rfl rfl rfl rfl (by first | rfl | simp [okB, lenV, plainV, Act.eval]) (fun _ _ => ?_); go_wp2_with fail))
                refine cl_nil ?_
                have HO6 := Lib.hid (HO.out.re [2, 0, 1])
                have HO7 : Hid (Owns w0 (W10.setCell ⟨b6, 2, none⟩ (.int .i64 (k : Int))) (blk b3 (tobj ⟨k2, p2, n2, u2⟩) :: rdP w0 bp fin all v s2 :: blk b6 (f7 u ((xK ⟨k2, p2, n2, u2⟩ (k + 1) : Nat) : Int)) :: blk b2 fobj0 :: ps)) := by
                  rw [HX.out]
                  exact Lib.hid ((HO6.out.store (i := 2) (.int .i64 (k : Int))).re [1, 2, 0])
                focus
                  obtain ⟨bk, -⟩ := HO6.out.blk
                  have hbe := lt_of_block bk
                  have fe0 := free_of_heap bk (i := 0)
                  have fe1 := free_of_heap bk (i := 1)
                  have fe2 := free_of_heap bk (i := 2)
                  have fe3 := free_of_heap bk (i := 3)
                  have fe4 := free_of_heap bk (i := 4)
                  have ce0 := cell_of_heap bk (i := 0)
                  have ce1 := cell_of_heap bk (i := 1)
                  have ce2 := cell_of_heap bk (i := 2)
                  have ce3 := cell_of_heap bk (i := 3)
                  have ce4 := cell_of_heap bk (i := 4)
                  simp only [List.getElem?_toArray, List.getElem?_cons_succ, List.getElem?_cons_zero] at ce0 ce1 ce2 ce3 ce4
                  clear bk
                  clear HO
                  go_wp2_with fail
                  go_roundg (7 - (k + 1))
                  case measure => omega
                  case rel => exact ⟨k + 1, rfl, by omega, by omega, by go_num, HO7⟩
              · have hm' : (u2 == symB (k : Int)) = false := by simpa using hm
                have HX : Hid (xK ⟨k2, p2, n2, u2⟩ (k + 1) = xK ⟨k2, p2, n2, u2⟩ k) := Lib.hid (xK_miss fun h => hm ((sym_iff hk1 hk6).2 h.2))
                clear hm
                iterate 5 (first | (refine cl_do rfl rfl rfl (by first | rfl | simp [okB, lenV, plainV, Act.eval]) (fun _ _ => ?_); go_wp2_with fail) | (refine cl_yes rfl rfl rfl rfl (by first | rfl | simp [okB, lenV, plainV, Act.eval]) (fun _ _ => ?_); go_wp2_with fail))
                refine cl_nil ?_
                rw [← HX.out] at HO
                go_wp2_with fail
                go_roundg (7 - (k + 1))
                case measure => omega
                case rel => exact ⟨k + 1, rfl, by omega, by omega, by go_num, HO⟩
            · have h24' : ((k2 : Int) == 4) = false := by simp; omega
              have HX : Hid (xK ⟨k2, p2, n2, u2⟩ (k + 1) = xK ⟨k2, p2, n2, u2⟩ k) := Lib.hid (xK_miss fun h => h24 h.1)
              clear h24
              focus
                obtain ⟨bk, -⟩ := HO.out.blk
                have hbt := lt_of_block bk
                have ft0 := free_of_heap bk (i := 0)
                have ft1 := free_of_heap bk (i := 1)
                have ft2 := free_of_heap bk (i := 2)
                have ft3 := free_of_heap bk (i := 3)
                have ct0 := cell_of_heap bk (i := 0)
                have ct1 := cell_of_heap bk (i := 1)
                have ct2 := cell_of_heap bk (i := 2)
                have ct3 := cell_of_heap bk (i := 3)
                simp only [List.getElem?_toArray, List.getElem?_cons_succ, List.getElem?_cons_zero] at ct0 ct1 ct2 ct3
                clear bk
                iterate 12 (first | (refine cl_do rfl rfl rfl (by first | rfl | simp [okB, lenV, plainV, Act.eval]) (fun _ _ => ?_); go_wp2_with fail) | (refine cl_no rfl rfl rfl ?_; go_simp))
                clear hbt ft0 ft1 ft2 ft3 ct0 ct1 ct2 ct3
              refine cl_nil ?_
              rw [← HX.out] at HO
              go_wp2_with fail
              go_roundg (7 - (k + 1))
              case measure => omega
              case rel => exact ⟨k + 1, rfl, by omega, by omega, by go_num, HO⟩
          · obtain rfl : k = 7 := by omega
            obtain ⟨x, hx⟩ : ∃ x, x = xT ⟨k2, p2, n2, u2⟩ := ⟨_, rfl⟩
            rw [xK_last, ← hx] at HO
            have hx6 : x ≤ 6 := by rw [hx]; exact xT_le _
            have HX := Lib.hid hx
            rw [HT2.out] at HX
            rw [← HX.out] at HDt
            clear hx hJ1 hK1 hlt hk1 hk7
            by_cases hx0 : x = 0
            · have hx0' : ((x : Int) == 0) = true := by simpa using hx0
              have HB0 : Hid (failS s2 5 p2 = stB fin sR) := by
                show _ = _
                rw [stR_eq, ← HX.out, if_pos hx0, ← HT2.out, ← HS2.out]
              clear hx0
              focus
                obtain ⟨bk, -⟩ := HO.out.blk
                have hbt := lt_of_block bk
                have ft0 := free_of_heap bk (i := 0)
                have ft1 := free_of_heap bk (i := 1)
                have ft2 := free_of_heap bk (i := 2)
                have ft3 := free_of_heap bk (i := 3)
                have ct0 := cell_of_heap bk (i := 0)
                have ct1 := cell_of_heap bk (i := 1)
                have ct2 := cell_of_heap bk (i := 2)
                have ct3 := cell_of_heap bk (i := 3)
                simp only [List.getElem?_toArray, List.getElem?_cons_succ, List.getElem?_cons_zero] at ct0 ct1 ct2 ct3
                clear bk
                obtain ⟨bk, -⟩ := (HO.out.re [2, 0, 1]).blk
                have hbe := lt_of_block bk
                have fe0 := free_of_heap bk (i := 0)
                have fe1 := free_of_heap bk (i := 1)
                have fe2 := free_of_heap bk (i := 2)
                have fe3 := free_of_heap bk (i := 3)
                have fe4 := free_of_heap bk (i := 4)
                have ce0 := cell_of_heap bk (i := 0)
                have ce1 := cell_of_heap bk (i := 1)
                have ce2 := cell_of_heap bk (i := 2)
                have ce3 := cell_of_heap bk (i := 3)
                have ce4 := cell_of_heap bk (i := 4)
                simp only [List.getElem?_toArray, List.getElem?_cons_succ, List.getElem?_cons_zero] at ce0 ce1 ce2 ce3 ce4
                clear bk
                go_wp2_with fail
                clear hbt ft0 ft1 ft2 ft3 ct0 ct1 ct2 ct3
                clear hbe fe0 fe1 fe2 fe3 fe4 ce0 ce1 ce2 ce3 ce4
              try go_at_call 60
              refine (rfail_c (w0 := w0) (bp := bp) (fin := fin) (all := all) (v := v) (blk b3 (tobj ⟨k2, p2, n2, u2⟩) :: blk b6 (f7 u (x : Int)) :: blk b2 fobj0 :: ps) s2 5 p2 (by omega) (by omega) _ (HO.out.re [1, 0, 2])).mono ?_
              rintro e W11 ⟨rfl, ho⟩
              replace HO := Lib.hid ho
              obtain ⟨sB, hsB⟩ : ∃ sB, sB = failS s2 5 p2 := ⟨_, rfl⟩
              have HB : Hid (sB = stB fin sR) := by show _ = _; rw [hsB]; exact HB0.out
              rw [← hsB] at HO
              clear ho hsB HB0
              go_wp2_with fail
              try go_at_call 120
              refine (rtoken_c (w0 := w0) (bp := bp) (fin := fin) (all := all) (v := v) (blk b3 (tobj ⟨k2, p2, n2, u2⟩) :: blk b6 (f7 u x) :: blk b2 fobj0 :: ps) sB _ HN.out HO.out).mono ?_
              rintro e W12 ⟨rfl, ho⟩
              obtain ⟨⟨k3, p3, n3, u3⟩, ht⟩ : ∃ t, t = nextT sB := ⟨_, rfl⟩
              obtain ⟨s4, hs4⟩ : ∃ s4, s4 = nextS fin sB := ⟨_, rfl⟩
              rw [← ht]
              rw [← hs4] at ho
              simp only [tval]
              have HT3 := Lib.hid ht
              have HS4 := Lib.hid hs4
              have HO3 := Lib.hid ho.swap
              obtain ⟨W13, hW13⟩ : ∃ W13, W13 = (((W12.setCell ⟨b3, 0, none⟩ (.int .i64 k3)).setCell ⟨b3, 1, none⟩ (.int .i64 p3)).setCell ⟨b3, 2, none⟩ (.int .i64 n3)).setCell ⟨b3, 3, none⟩ (.string (bs u3)) := ⟨_, rfl⟩
              replace HO : Hid (Owns w0 W13 (rdP w0 bp fin all v s4 :: blk b3 (tobj ⟨k3, p3, n3, u3⟩) :: blk b6 (f7 u x) :: blk b2 fobj0 :: ps)) := by
                rw [hW13]
                exact Lib.hid ((((HO3.out.store (i := 0) (.int .i64 k3)).store (i := 1) (.int .i64 p3)).store (i := 2) (.int .i64 n3)).store (i := 3) (.string (bs u3))).swap
              clear ho ht hs4
              by_cases hk3 : k3 = 2
              · have hk3' : ((k3 : Int) != 2) = false := by simp; omega
                have HDD : Hid (s4 = stD fin sB) := by
                  show _ = _
                  rw [stD, ← HT3.out, if_neg (by simpa using hk3), ← HS4.out]
                clear hk3
                by_cases hn3 : 1000000 < n3
                · have hn3' : (1000000 : Int) < (n3 : Int) := by omega
                  have HD : Hid (Did (oneF fin (n + 1)) s (.mk 3 u x n3 []) (failS s4 10 p3)) := HDt.out sB ⟨k3, p3, n3, u3⟩ s4 (failS s4 10 p3) HB.out HT3.out HDD.out (by rw [stE, if_pos hn3])
                  clear hn3
                  focus
                    obtain ⟨bk, -⟩ := HO3.out.blk
                    have hbt := lt_of_block bk
                    have ft0 := free_of_heap bk (i := 0)
                    have ft1 := free_of_heap bk (i := 1)
                    have ft2 := free_of_heap bk (i := 2)
                    have ft3 := free_of_heap bk (i := 3)
                    have ct0 := cell_of_heap bk (i := 0)
                    have ct1 := cell_of_heap bk (i := 1)
                    have ct2 := cell_of_heap bk (i := 2)
                    have ct3 := cell_of_heap bk (i := 3)
                    simp only [List.getElem?_toArray, List.getElem?_cons_succ, List.getElem?_cons_zero] at ct0 ct1 ct2 ct3
                    clear bk
                    go_wp2_with fail
                    rw [← hW13]
                    clear hW13
                    clear hbt ft0 ft1 ft2 ft3 ct0 ct1 ct2 ct3
                  try go_at_call 60
                  refine (rfail_c (w0 := w0) (bp := bp) (fin := fin) (all := all) (v := v) (blk b3 (tobj ⟨k3, p3, n3, u3⟩) :: blk b6 (f7 u x) :: blk b2 fobj0 :: ps) s4 10 p3 (by omega) (by omega) _ HO.out).mono ?_
                  clear HO
                  rintro e W14 ⟨rfl, ho⟩
                  have HO := Lib.hid ho
                  clear ho
                  simp only []
                  obtain ⟨bk, -⟩ := HO.out.swap.blk
                  have hbt := lt_of_block bk
                  have ft0 := free_of_heap bk (i := 0)
                  have ft1 := free_of_heap bk (i := 1)
                  have ft2 := free_of_heap bk (i := 2)
                  have ft3 := free_of_heap bk (i := 3)
                  have ct0 := cell_of_heap bk (i := 0)
                  have ct1 := cell_of_heap bk (i := 1)
                  have ct2 := cell_of_heap bk (i := 2)
                  have ct3 := cell_of_heap bk (i := 3)
                  simp only [List.getElem?_toArray, List.getElem?_cons_succ, List.getElem?_cons_zero] at ct0 ct1 ct2 ct3
                  clear bk
                  obtain ⟨bk, -⟩ := (HO.out.re [2, 0, 1]).blk
                  have hbe := lt_of_block bk
                  have fe0 := free_of_heap bk (i := 0)
                  have fe1 := free_of_heap bk (i := 1)
                  have fe2 := free_of_heap bk (i := 2)
                  have fe3 := free_of_heap bk (i := 3)
                  have fe4 := free_of_heap bk (i := 4)
                  have ce0 := cell_of_heap bk (i := 0)
                  have ce1 := cell_of_heap bk (i := 1)
                  have ce2 := cell_of_heap bk (i := 2)
                  have ce3 := cell_of_heap bk (i := 3)
                  have ce4 := cell_of_heap bk (i := 4)
                  simp only [List.getElem?_toArray, List.getElem?_cons_succ, List.getElem?_cons_zero] at ce0 ce1 ce2 ce3 ce4
                  clear bk
                  obtain ⟨bk, -⟩ := (HO.out.re [3, 0, 1, 2]).blk
                  have hbz := lt_of_block bk
                  have fz0 := free_of_heap bk (i := 0)
                  have fz1 := free_of_heap bk (i := 1)
                  have fz2 := free_of_heap bk (i := 2)
                  have fz3 := free_of_heap bk (i := 3)
                  have fz4 := free_of_heap bk (i := 4)
                  have cz0 := cell_of_heap bk (i := 0)
                  have cz1 := cell_of_heap bk (i := 1)
                  have cz2 := cell_of_heap bk (i := 2)
                  have cz3 := cell_of_heap bk (i := 3)
                  have cz4 := cell_of_heap bk (i := 4)
                  simp only [List.getElem?_toArray, List.getElem?_cons_succ, List.getElem?_cons_zero] at cz0 cz1 cz2 cz3 cz4
                  clear bk
                  have m36 := Owns.ne (HO.out.re [1, 2, 0])
                  have m36' := m36.symm
                  have m32 := Owns.ne (HO.out.re [1, 3, 0, 2])
                  have m32' := m32.symm
                  have m62 := Owns.ne (HO.out.re [2, 3, 0, 1])
                  have m62' := m62.symm
                  repeat (first | go_values | go_skip | go_guarded | go_step | go_upon)
                  have h1 := ((HO.out.re [2, 0, 1]).store (i := 3) (.int .i64 n3)).re [3, 1, 2, 0]
                  have h2 := ((((Owns.store h1 (i := 0) (.int .i64 3)).store (i := 1) (.string (bs u))).store (i := 2) (.int .i64 x)).store (i := 3) (.int .i64 n3)).store (i := 4) (.slice none 0 0)
                  have h3 := (h2.pop.re [1, 2, 0]).pop.pop.leaf 3 u x n3 none 0
                  exact bodyPost_ret (rnot_res rfl h2.blk.1) (by rfl) (by first | exact ⟨_, _, _, rfl, HD.out, h3⟩ | exact ⟨_, _, rfl, _, HD.out, h3⟩)
                · have hn3' : ¬ (1000000 : Int) < (n3 : Int) := by omega
                  have HD : Hid (Did (oneF fin (n + 1)) s (.mk 3 u x n3 []) s4) := HDt.out sB ⟨k3, p3, n3, u3⟩ s4 s4 HB.out HT3.out HDD.out (by rw [stE, if_neg hn3])
                  clear hn3
                  subst hW13
                  obtain ⟨bk, -⟩ := HO3.out.blk
                  have hbt := lt_of_block bk
                  have ft0 := free_of_heap bk (i := 0)
                  have ft1 := free_of_heap bk (i := 1)
                  have ft2 := free_of_heap bk (i := 2)
                  have ft3 := free_of_heap bk (i := 3)
                  have ct0 := cell_of_heap bk (i := 0)
                  have ct1 := cell_of_heap bk (i := 1)
                  have ct2 := cell_of_heap bk (i := 2)
                  have ct3 := cell_of_heap bk (i := 3)
                  simp only [List.getElem?_toArray, List.getElem?_cons_succ, List.getElem?_cons_zero] at ct0 ct1 ct2 ct3
                  clear bk
                  obtain ⟨bk, -⟩ := (HO3.out.re [2, 0, 1]).blk
                  have hbe := lt_of_block bk
                  have fe0 := free_of_heap bk (i := 0)
                  have fe1 := free_of_heap bk (i := 1)
                  have fe2 := free_of_heap bk (i := 2)
                  have fe3 := free_of_heap bk (i := 3)
                  have fe4 := free_of_heap bk (i := 4)
                  have ce0 := cell_of_heap bk (i := 0)
                  have ce1 := cell_of_heap bk (i := 1)
                  have ce2 := cell_of_heap bk (i := 2)
                  have ce3 := cell_of_heap bk (i := 3)
                  have ce4 := cell_of_heap bk (i := 4)
                  simp only [List.getElem?_toArray, List.getElem?_cons_succ, List.getElem?_cons_zero] at ce0 ce1 ce2 ce3 ce4
                  clear bk
                  obtain ⟨bk, -⟩ := (HO3.out.re [3, 0, 1, 2]).blk
                  have hbz := lt_of_block bk
                  have fz0 := free_of_heap bk (i := 0)
                  have fz1 := free_of_heap bk (i := 1)
                  have fz2 := free_of_heap bk (i := 2)
                  have fz3 := free_of_heap bk (i := 3)
                  have fz4 := free_of_heap bk (i := 4)
                  have cz0 := cell_of_heap bk (i := 0)
                  have cz1 := cell_of_heap bk (i := 1)
                  have cz2 := cell_of_heap bk (i := 2)
                  have cz3 := cell_of_heap bk (i := 3)
                  have cz4 := cell_of_heap bk (i := 4)
                  simp only [List.getElem?_toArray, List.getElem?_cons_succ, List.getElem?_cons_zero] at cz0 cz1 cz2 cz3 cz4
                  clear bk
                  have m36 := Owns.ne (HO3.out.re [0, 2, 1])
                  have m36' := m36.symm
                  have m32 := Owns.ne (HO3.out.re [0, 3, 1, 2])
                  have m32' := m32.symm
                  have m62 := Owns.ne (HO3.out.re [2, 3, 0, 1])
                  have m62' := m62.symm
                  repeat (first | go_values | go_skip | go_guarded | go_step | go_upon)
                  have h1 := ((HO.out.re [2, 0, 1]).store (i := 3) (.int .i64 n3)).re [3, 1, 2, 0]
                  have h2 := ((((Owns.store h1 (i := 0) (.int .i64 3)).store (i := 1) (.string (bs u))).store (i := 2) (.int .i64 x)).store (i := 3) (.int .i64 n3)).store (i := 4) (.slice none 0 0)
                  have h3 := (h2.pop.re [1, 2, 0]).pop.pop.leaf 3 u x n3 none 0
                  exact bodyPost_ret (rnot_res rfl h2.blk.1) (by rfl) (by first | exact ⟨_, _, _, rfl, HD.out, h3⟩ | exact ⟨_, _, rfl, _, HD.out, h3⟩)
              · have hk3' : ((k3 : Int) != 2) = true := by simp; omega
                have HDD : Hid (failS s4 5 p3 = stD fin sB) := by
                  show _ = _
                  rw [stD, ← HT3.out, if_pos (by simpa using hk3), ← HS4.out]
                clear hk3
                focus
                  obtain ⟨bk, -⟩ := HO3.out.blk
                  have hbt := lt_of_block bk
                  have ft0 := free_of_heap bk (i := 0)
                  have ft1 := free_of_heap bk (i := 1)
                  have ft2 := free_of_heap bk (i := 2)
                  have ft3 := free_of_heap bk (i := 3)
                  have ct0 := cell_of_heap bk (i := 0)
                  have ct1 := cell_of_heap bk (i := 1)
                  have ct2 := cell_of_heap bk (i := 2)
                  have ct3 := cell_of_heap bk (i := 3)
                  simp only [List.getElem?_toArray, List.getElem?_cons_succ, List.getElem?_cons_zero] at ct0 ct1 ct2 ct3
                  clear bk
                  go_wp2_with fail
                  rw [← hW13]
                  clear hW13
                  clear hbt ft0 ft1 ft2 ft3 ct0 ct1 ct2 ct3
                try go_at_call 60
                refine (rfail_c (w0 := w0) (bp := bp) (fin := fin) (all := all) (v := v) (blk b3 (tobj ⟨k3, p3, n3, u3⟩) :: blk b6 (f7 u x) :: blk b2 fobj0 :: ps) s4 5 p3 (by omega) (by omega) _ HO.out).mono ?_
                clear HO
                rintro e W14 ⟨rfl, ho⟩
                have HO := Lib.hid ho
                clear ho
                simp only []
                by_cases hn3 : 1000000 < n3
                · have hn3' : (1000000 : Int) < (n3 : Int) := by omega
                  have HD : Hid (Did (oneF fin (n + 1)) s (.mk 3 u x n3 []) (failS (failS s4 5 p3) 10 p3)) := HDt.out sB ⟨k3, p3, n3, u3⟩ _ _ HB.out HT3.out HDD.out (by rw [stE, if_pos hn3])
                  clear hn3
                  focus
                    obtain ⟨bk, -⟩ := HO.out.swap.blk
                    have hbt := lt_of_block bk
                    have ft0 := free_of_heap bk (i := 0)
                    have ft1 := free_of_heap bk (i := 1)
                    have ft2 := free_of_heap bk (i := 2)
                    have ft3 := free_of_heap bk (i := 3)
                    have ct0 := cell_of_heap bk (i := 0)
                    have ct1 := cell_of_heap bk (i := 1)
                    have ct2 := cell_of_heap bk (i := 2)
                    have ct3 := cell_of_heap bk (i := 3)
                    simp only [List.getElem?_toArray, List.getElem?_cons_succ, List.getElem?_cons_zero] at ct0 ct1 ct2 ct3
                    clear bk
                    go_wp2_with fail
                    clear hbt ft0 ft1 ft2 ft3 ct0 ct1 ct2 ct3
                  try go_at_call 60
                  refine (rfail_c (w0 := w0) (bp := bp) (fin := fin) (all := all) (v := v) (blk b3 (tobj ⟨k3, p3, n3, u3⟩) :: blk b6 (f7 u x) :: blk b2 fobj0 :: ps) (failS s4 5 p3) 10 p3 (by omega) (by omega) _ HO.out).mono ?_
                  clear HO
                  rintro e W14 ⟨rfl, ho⟩
                  have HO := Lib.hid ho
                  clear ho
                  simp only []
                  obtain ⟨bk, -⟩ := HO.out.swap.blk
                  have hbt := lt_of_block bk
                  have ft0 := free_of_heap bk (i := 0)
                  have ft1 := free_of_heap bk (i := 1)
                  have ft2 := free_of_heap bk (i := 2)
                  have ft3 := free_of_heap bk (i := 3)
                  have ct0 := cell_of_heap bk (i := 0)
                  have ct1 := cell_of_heap bk (i := 1)
                  have ct2 := cell_of_heap bk (i := 2)
                  have ct3 := cell_of_heap bk (i := 3)
                  simp only [List.getElem?_toArray, List.getElem?_cons_succ, List.getElem?_cons_zero] at ct0 ct1 ct2 ct3
                  clear bk
                  obtain ⟨bk, -⟩ := (HO.out.re [2, 0, 1]).blk
                  have hbe := lt_of_block bk
                  have fe0 := free_of_heap bk (i := 0)
                  have fe1 := free_of_heap bk (i := 1)
                  have fe2 := free_of_heap bk (i := 2)
                  have fe3 := free_of_heap bk (i := 3)
                  have fe4 := free_of_heap bk (i := 4)
                  have ce0 := cell_of_heap bk (i := 0)
                  have ce1 := cell_of_heap bk (i := 1)
                  have ce2 := cell_of_heap bk (i := 2)
                  have ce3 := cell_of_heap bk (i := 3)
                  have ce4 := cell_of_heap bk (i := 4)
                  simp only [List.getElem?_toArray, List.getElem?_cons_succ, List.getElem?_cons_zero] at ce0 ce1 ce2 ce3 ce4
                  clear bk
                  obtain ⟨bk, -⟩ := (HO.out.re [3, 0, 1, 2]).blk
                  have hbz := lt_of_block bk
                  have fz0 := free_of_heap bk (i := 0)
                  have fz1 := free_of_heap bk (i := 1)
                  have fz2 := free_of_heap bk (i := 2)
                  have fz3 := free_of_heap bk (i := 3)
                  have fz4 := free_of_heap bk (i := 4)
                  have cz0 := cell_of_heap bk (i := 0)
                  have cz1 := cell_of_heap bk (i := 1)
                  have cz2 := cell_of_heap bk (i := 2)
                  have cz3 := cell_of_heap bk (i := 3)
                  have cz4 := cell_of_heap bk (i := 4)
                  simp only [List.getElem?_toArray, List.getElem?_cons_succ, List.getElem?_cons_zero] at cz0 cz1 cz2 cz3 cz4
                  clear bk
                  have m36 := Owns.ne (HO.out.re [1, 2, 0])
                  have m36' := m36.symm
                  have m32 := Owns.ne (HO.out.re [1, 3, 0, 2])
                  have m32' := m32.symm
                  have m62 := Owns.ne (HO.out.re [2, 3, 0, 1])
                  have m62' := m62.symm
                  repeat (first | go_values | go_skip | go_guarded | go_step | go_upon)
                  have h1 := ((HO.out.re [2, 0, 1]).store (i := 3) (.int .i64 n3)).re [3, 1, 2, 0]
                  have h2 := ((((Owns.store h1 (i := 0) (.int .i64 3)).store (i := 1) (.string (bs u))).store (i := 2) (.int .i64 x)).store (i := 3) (.int .i64 n3)).store (i := 4) (.slice none 0 0)
                  have h3 := (h2.pop.re [1, 2, 0]).pop.pop.leaf 3 u x n3 none 0
                  exact bodyPost_ret (rnot_res rfl h2.blk.1) (by rfl) (by first | exact ⟨_, _, _, rfl, HD.out, h3⟩ | exact ⟨_, _, rfl, _, HD.out, h3⟩)
                · have hn3' : ¬ (1000000 : Int) < (n3 : Int) := by omega
                  have HD : Hid (Did (oneF fin (n + 1)) s (.mk 3 u x n3 []) (failS s4 5 p3)) := HDt.out sB ⟨k3, p3, n3, u3⟩ _ _ HB.out HT3.out HDD.out (by rw [stE, if_neg hn3])
                  clear hn3
                  obtain ⟨bk, -⟩ := HO.out.swap.blk
                  have hbt := lt_of_block bk
                  have ft0 := free_of_heap bk (i := 0)
                  have ft1 := free_of_heap bk (i := 1)
                  have ft2 := free_of_heap bk (i := 2)
                  have ft3 := free_of_heap bk (i := 3)
                  have ct0 := cell_of_heap bk (i := 0)
                  have ct1 := cell_of_heap bk (i := 1)
                  have ct2 := cell_of_heap bk (i := 2)
                  have ct3 := cell_of_heap bk (i := 3)
                  simp only [List.getElem?_toArray, List.getElem?_cons_succ, List.getElem?_cons_zero] at ct0 ct1 ct2 ct3
                  clear bk
                  obtain ⟨bk, -⟩ := (HO.out.re [2, 0, 1]).blk
                  have hbe := lt_of_block bk
                  have fe0 := free_of_heap bk (i := 0)
                  have fe1 := free_of_heap bk (i := 1)
                  have fe2 := free_of_heap bk (i := 2)
                  have fe3 := free_of_heap bk (i := 3)
                  have fe4 := free_of_heap bk (i := 4)
                  have ce0 := cell_of_heap bk (i := 0)
                  have ce1 := cell_of_heap bk (i := 1)
                  have ce2 := cell_of_heap bk (i := 2)
                  have ce3 := cell_of_heap bk (i := 3)
                  have ce4 := cell_of_heap bk (i := 4)
                  simp only [List.getElem?_toArray, List.getElem?_cons_succ, List.getElem?_cons_zero] at ce0 ce1 ce2 ce3 ce4
                  clear bk
                  obtain ⟨bk, -⟩ := (HO.out.re [3, 0, 1, 2]).blk
                  have hbz := lt_of_block bk
                  have fz0 := free_of_heap bk (i := 0)
                  have fz1 := free_of_heap bk (i := 1)
                  have fz2 := free_of_heap bk (i := 2)
                  have fz3 := free_of_heap bk (i := 3)
                  have fz4 := free_of_heap bk (i := 4)
                  have cz0 := cell_of_heap bk (i := 0)
                  have cz1 := cell_of_heap bk (i := 1)
                  have cz2 := cell_of_heap bk (i := 2)
                  have cz3 := cell_of_heap bk (i := 3)
                  have cz4 := cell_of_heap bk (i := 4)
                  simp only [List.getElem?_toArray, List.getElem?_cons_succ, List.getElem?_cons_zero] at cz0 cz1 cz2 cz3 cz4
                  clear bk
                  have m36 := Owns.ne (HO.out.re [1, 2, 0])
                  have m36' := m36.symm
                  have m32 := Owns.ne (HO.out.re [1, 3, 0, 2])
                  have m32' := m32.symm
                  have m62 := Owns.ne (HO.out.re [2, 3, 0, 1])
                  have m62' := m62.symm
                  repeat (first | go_values | go_skip | go_guarded | go_step | go_upon)
                  have h1 := ((HO.out.re [2, 0, 1]).store (i := 3) (.int .i64 n3)).re [3, 1, 2, 0]
                  have h2 := ((((Owns.store h1 (i := 0) (.int .i64 3)).store (i := 1) (.string (bs u))).store (i := 2) (.int .i64 x)).store (i := 3) (.int .i64 n3)).store (i := 4) (.slice none 0 0)
                  have h3 := (h2.pop.re [1, 2, 0]).pop.pop.leaf 3 u x n3 none 0
                  exact bodyPost_ret (rnot_res rfl h2.blk.1) (by rfl) (by first | exact ⟨_, _, _, rfl, HD.out, h3⟩ | exact ⟨_, _, rfl, _, HD.out, h3⟩)
            · have hx0' : ((x : Int) == 0) = false := by simpa using hx0
              have HB0 : Hid (s2 = stB fin sR) := by
                show _ = _
                rw [stR_eq, ← HX.out, if_neg hx0, ← HS2.out]
              clear hx0
              focus
                obtain ⟨bk, -⟩ := (HO.out.re [2, 0, 1]).blk
                have hbe := lt_of_block bk
                have fe0 := free_of_heap bk (i := 0)
                have fe1 := free_of_heap bk (i := 1)
                have fe2 := free_of_heap bk (i := 2)
                have fe3 := free_of_heap bk (i := 3)
                have fe4 := free_of_heap bk (i := 4)
                have ce0 := cell_of_heap bk (i := 0)
                have ce1 := cell_of_heap bk (i := 1)
                have ce2 := cell_of_heap bk (i := 2)
                have ce3 := cell_of_heap bk (i := 3)
                have ce4 := cell_of_heap bk (i := 4)
                simp only [List.getElem?_toArray, List.getElem?_cons_succ, List.getElem?_cons_zero] at ce0 ce1 ce2 ce3 ce4
                clear bk
                go_wp2_with fail
                clear hbe fe0 fe1 fe2 fe3 fe4 ce0 ce1 ce2 ce3 ce4
              replace HO := Lib.hid (HO.out.re [1, 0, 2])
              obtain ⟨sB, hsB⟩ : ∃ sB, sB = s2 := ⟨_, rfl⟩
              have HB : Hid (sB = stB fin sR) := by show _ = _; rw [hsB]; exact HB0.out
              rw [← hsB] at HO
              clear hsB HB0
              try go_at_call 120
              refine (rtoken_c (w0 := w0) (bp := bp) (fin := fin) (all := all) (v := v) (blk b3 (tobj ⟨k2, p2, n2, u2⟩) :: blk b6 (f7 u x) :: blk b2 fobj0 :: ps) sB _ HN.out HO.out).mono ?_
              rintro e W12 ⟨rfl, ho⟩
              obtain ⟨⟨k3, p3, n3, u3⟩, ht⟩ : ∃ t, t = nextT sB := ⟨_, rfl⟩
              obtain ⟨s4, hs4⟩ : ∃ s4, s4 = nextS fin sB := ⟨_, rfl⟩
              rw [← ht]
              rw [← hs4] at ho
              simp only [tval]
              have HT3 := Lib.hid ht
              have HS4 := Lib.hid hs4
              have HO3 := Lib.hid ho.swap
              obtain ⟨W13, hW13⟩ : ∃ W13, W13 = (((W12.setCell ⟨b3, 0, none⟩ (.int .i64 k3)).setCell ⟨b3, 1, none⟩ (.int .i64 p3)).setCell ⟨b3, 2, none⟩ (.int .i64 n3)).setCell ⟨b3, 3, none⟩ (.string (bs u3)) := ⟨_, rfl⟩
              replace HO : Hid (Owns w0 W13 (rdP w0 bp fin all v s4 :: blk b3 (tobj ⟨k3, p3, n3, u3⟩) :: blk b6 (f7 u x) :: blk b2 fobj0 :: ps)) := by
                rw [hW13]
                exact Lib.hid ((((HO3.out.store (i := 0) (.int .i64 k3)).store (i := 1) (.int .i64 p3)).store (i := 2) (.int .i64 n3)).store (i := 3) (.string (bs u3))).swap
              clear ho ht hs4
              by_cases hk3 : k3 = 2
              · have hk3' : ((k3 : Int) != 2) = false := by simp; omega
                have HDD : Hid (s4 = stD fin sB) := by
                  show _ = _
                  rw [stD, ← HT3.out, if_neg (by simpa using hk3), ← HS4.out]
                clear hk3
                by_cases hn3 : 1000000 < n3
                · have hn3' : (1000000 : Int) < (n3 : Int) := by omega
                  have HD : Hid (Did (oneF fin (n + 1)) s (.mk 3 u x n3 []) (failS s4 10 p3)) := HDt.out sB ⟨k3, p3, n3, u3⟩ s4 (failS s4 10 p3) HB.out HT3.out HDD.out (by rw [stE, if_pos hn3])
                  clear hn3
                  focus
                    obtain ⟨bk, -⟩ := HO3.out.blk
                    have hbt := lt_of_block bk
                    have ft0 := free_of_heap bk (i := 0)
                    have ft1 := free_of_heap bk (i := 1)
                    have ft2 := free_of_heap bk (i := 2)
                    have ft3 := free_of_heap bk (i := 3)
                    have ct0 := cell_of_heap bk (i := 0)
                    have ct1 := cell_of_heap bk (i := 1)
                    have ct2 := cell_of_heap bk (i := 2)
                    have ct3 := cell_of_heap bk (i := 3)
                    simp only [List.getElem?_toArray, List.getElem?_cons_succ, List.getElem?_cons_zero] at ct0 ct1 ct2 ct3
                    clear bk
                    go_wp2_with fail
                    rw [← hW13]
                    clear hW13
                    clear hbt ft0 ft1 ft2 ft3 ct0 ct1 ct2 ct3
                  try go_at_call 60
                  refine (rfail_c (w0 := w0) (bp := bp) (fin := fin) (all := all) (v := v) (blk b3 (tobj ⟨k3, p3, n3, u3⟩) :: blk b6 (f7 u x) :: blk b2 fobj0 :: ps) s4 10 p3 (by omega) (by omega) _ HO.out).mono ?_
                  clear HO
                  rintro e W14 ⟨rfl, ho⟩
                  have HO := Lib.hid ho
                  clear ho
                  simp only []
                  obtain ⟨bk, -⟩ := HO.out.swap.blk
                  have hbt := lt_of_block bk
                  have ft0 := free_of_heap bk (i := 0)
                  have ft1 := free_of_heap bk (i := 1)
                  have ft2 := free_of_heap bk (i := 2)
                  have ft3 := free_of_heap bk (i := 3)
                  have ct0 := cell_of_heap bk (i := 0)
                  have ct1 := cell_of_heap bk (i := 1)
                  have ct2 := cell_of_heap bk (i := 2)
                  have ct3 := cell_of_heap bk (i := 3)
                  simp only [List.getElem?_toArray, List.getElem?_cons_succ, List.getElem?_cons_zero] at ct0 ct1 ct2 ct3
                  clear bk
                  obtain ⟨bk, -⟩ := (HO.out.re [2, 0, 1]).blk
                  have hbe := lt_of_block bk
                  have fe0 := free_of_heap bk (i := 0)
                  have fe1 := free_of_heap bk (i := 1)
                  have fe2 := free_of_heap bk (i := 2)
                  have fe3 := free_of_heap bk (i := 3)
                  have fe4 := free_of_heap bk (i := 4)
                  have ce0 := cell_of_heap bk (i := 0)
                  have ce1 := cell_of_heap bk (i := 1)
                  have ce2 := cell_of_heap bk (i := 2)
                  have ce3 := cell_of_heap bk (i := 3)
                  have ce4 := cell_of_heap bk (i := 4)
                  simp only [List.getElem?_toArray, List.getElem?_cons_succ, List.getElem?_cons_zero] at ce0 ce1 ce2 ce3 ce4
                  clear bk
                  obtain ⟨bk, -⟩ := (HO.out.re [3, 0, 1, 2]).blk
                  have hbz := lt_of_block bk
                  have fz0 := free_of_heap bk (i := 0)
                  have fz1 := free_of_heap bk (i := 1)
                  have fz2 := free_of_heap bk (i := 2)
                  have fz3 := free_of_heap bk (i := 3)
                  have fz4 := free_of_heap bk (i := 4)
                  have cz0 := cell_of_heap bk (i := 0)
                  have cz1 := cell_of_heap bk (i := 1)
                  have cz2 := cell_of_heap bk (i := 2)
                  have cz3 := cell_of_heap bk (i := 3)
                  have cz4 := cell_of_heap bk (i := 4)
                  simp only [List.getElem?_toArray, List.getElem?_cons_succ, List.getElem?_cons_zero] at cz0 cz1 cz2 cz3 cz4
                  clear bk
                  have m36 := Owns.ne (HO.out.re [1, 2, 0])
                  have m36' := m36.symm
                  have m32 := Owns.ne (HO.out.re [1, 3, 0, 2])
                  have m32' := m32.symm
                  have m62 := Owns.ne (HO.out.re [2, 3, 0, 1])
                  have m62' := m62.symm
                  repeat (first | go_values | go_skip | go_guarded | go_step | go_upon)
                  have h1 := ((HO.out.re [2, 0, 1]).store (i := 3) (.int .i64 n3)).re [3, 1, 2, 0]
                  have h2 := ((((Owns.store h1 (i := 0) (.int .i64 3)).store (i := 1) (.string (bs u))).store (i := 2) (.int .i64 x)).store (i := 3) (.int .i64 n3)).store (i := 4) (.slice none 0 0)
                  have h3 := (h2.pop.re [1, 2, 0]).pop.pop.leaf 3 u x n3 none 0
                  exact bodyPost_ret (rnot_res rfl h2.blk.1) (by rfl) (by first | exact ⟨_, _, _, rfl, HD.out, h3⟩ | exact ⟨_, _, rfl, _, HD.out, h3⟩)
                · have hn3' : ¬ (1000000 : Int) < (n3 : Int) := by omega
                  have HD : Hid (Did (oneF fin (n + 1)) s (.mk 3 u x n3 []) s4) := HDt.out sB ⟨k3, p3, n3, u3⟩ s4 s4 HB.out HT3.out HDD.out (by rw [stE, if_neg hn3])
                  clear hn3
                  subst hW13
                  obtain ⟨bk, -⟩ := HO3.out.blk
                  have hbt := lt_of_block bk
                  have ft0 := free_of_heap bk (i := 0)
                  have ft1 := free_of_heap bk (i := 1)
                  have ft2 := free_of_heap bk (i := 2)
                  have ft3 := free_of_heap bk (i := 3)
                  have ct0 := cell_of_heap bk (i := 0)
                  have ct1 := cell_of_heap bk (i := 1)
                  have ct2 := cell_of_heap bk (i := 2)
                  have ct3 := cell_of_heap bk (i := 3)
                  simp only [List.getElem?_toArray, List.getElem?_cons_succ, List.getElem?_cons_zero] at ct0 ct1 ct2 ct3
                  clear bk
                  obtain ⟨bk, -⟩ := (HO3.out.re [2, 0, 1]).blk
                  have hbe := lt_of_block bk
                  have fe0 := free_of_heap bk (i := 0)
                  have fe1 := free_of_heap bk (i := 1)
                  have fe2 := free_of_heap bk (i := 2)
                  have fe3 := free_of_heap bk (i := 3)
                  have fe4 := free_of_heap bk (i := 4)
                  have ce0 := cell_of_heap bk (i := 0)
                  have ce1 := cell_of_heap bk (i := 1)
                  have ce2 := cell_of_heap bk (i := 2)
                  have ce3 := cell_of_heap bk (i := 3)
                  have ce4 := cell_of_heap bk (i := 4)
                  simp only [List.getElem?_toArray, List.getElem?_cons_succ, List.getElem?_cons_zero] at ce0 ce1 ce2 ce3 ce4
                  clear bk
                  obtain ⟨bk, -⟩ := (HO3.out.re [3, 0, 1, 2]).blk
                  have hbz := lt_of_block bk
                  have fz0 := free_of_heap bk (i := 0)
                  have fz1 := free_of_heap bk (i := 1)
                  have fz2 := free_of_heap bk (i := 2)
                  have fz3 := free_of_heap bk (i := 3)
                  have fz4 := free_of_heap bk (i := 4)
                  have cz0 := cell_of_heap bk (i := 0)
                  have cz1 := cell_of_heap bk (i := 1)
                  have cz2 := cell_of_heap bk (i := 2)
                  have cz3 := cell_of_heap bk (i := 3)
                  have cz4 := cell_of_heap bk (i := 4)
                  simp only [List.getElem?_toArray, List.getElem?_cons_succ, List.getElem?_cons_zero] at cz0 cz1 cz2 cz3 cz4
                  clear bk
                  have m36 := Owns.ne (HO3.out.re [0, 2, 1])
                  have m36' := m36.symm
                  have m32 := Owns.ne (HO3.out.re [0, 3, 1, 2])
                  have m32' := m32.symm
                  have m62 := Owns.ne (HO3.out.re [2, 3, 0, 1])
                  have m62' := m62.symm
                  repeat (first | go_values | go_skip | go_guarded | go_step | go_upon)
                  have h1 := ((HO.out.re [2, 0, 1]).store (i := 3) (.int .i64 n3)).re [3, 1, 2, 0]
                  have h2 := ((((Owns.store h1 (i := 0) (.int .i64 3)).store (i := 1) (.string (bs u))).store (i := 2) (.int .i64 x)).store (i := 3) (.int .i64 n3)).store (i := 4) (.slice none 0 0)
                  have h3 := (h2.pop.re [1, 2, 0]).pop.pop.leaf 3 u x n3 none 0
                  exact bodyPost_ret (rnot_res rfl h2.blk.1) (by rfl) (by first | exact ⟨_, _, _, rfl, HD.out, h3⟩ | exact ⟨_, _, rfl, _, HD.out, h3⟩)
              · have hk3' : ((k3 : Int) != 2) = true := by simp; omega
                have HDD : Hid (failS s4 5 p3 = stD fin sB) := by
                  show _ = _
                  rw [stD, ← HT3.out, if_pos (by simpa using hk3), ← HS4.out]
                clear hk3
                focus
                  obtain ⟨bk, -⟩ := HO3.out.blk
                  have hbt := lt_of_block bk
                  have ft0 := free_of_heap bk (i := 0)
                  have ft1 := free_of_heap bk (i := 1)
                  have ft2 := free_of_heap bk (i := 2)
                  have ft3 := free_of_heap bk (i := 3)
                  have ct0 := cell_of_heap bk (i := 0)
                  have ct1 := cell_of_heap bk (i := 1)
                  have ct2 := cell_of_heap bk (i := 2)
                  have ct3 := cell_of_heap bk (i := 3)
                  simp only [List.getElem?_toArray, List.getElem?_cons_succ, List.getElem?_cons_zero] at ct0 ct1 ct2 ct3
                  clear bk
                  go_wp2_with fail
                  rw [← hW13]
                  clear hW13
                  clear hbt ft0 ft1 ft2 ft3 ct0 ct1 ct2 ct3
                try go_at_call 60
                refine (rfail_c (w0 := w0) (bp := bp) (fin := fin) (all := all) (v := v) (blk b3 (tobj ⟨k3, p3, n3, u3⟩) :: blk b6 (f7 u x) :: blk b2 fobj0 :: ps) s4 5 p3 (by omega) (by omega) _ HO.out).mono ?_
                clear HO
                rintro e W14 ⟨rfl, ho⟩
                have HO := Lib.hid ho
                clear ho
                simp only []
                by_cases hn3 : 1000000 < n3
                · have hn3' : (1000000 : Int) < (n3 : Int) := by omega
                  have HD : Hid (Did (oneF fin (n + 1)) s (.mk 3 u x n3 []) (failS (failS s4 5 p3) 10 p3)) := HDt.out sB ⟨k3, p3, n3, u3⟩ _ _ HB.out HT3.out HDD.out (by rw [stE, if_pos hn3])
                  clear hn3
                  focus
                    obtain ⟨bk, -⟩ := HO.out.swap.blk
                    have hbt := lt_of_block bk
                    have ft0 := free_of_heap bk (i := 0)
                    have ft1 := free_of_heap bk (i := 1)
                    have ft2 := free_of_heap bk (i := 2)
                    have ft3 := free_of_heap bk (i := 3)
                    have ct0 := cell_of_heap bk (i := 0)
                    have ct1 := cell_of_heap bk (i := 1)
                    have ct2 := cell_of_heap bk (i := 2)
                    have ct3 := cell_of_heap bk (i := 3)
                    simp only [List.getElem?_toArray, List.getElem?_cons_succ, List.getElem?_cons_zero] at ct0 ct1 ct2 ct3
                    clear bk
                    go_wp2_with fail
                    clear hbt ft0 ft1 ft2 ft3 ct0 ct1 ct2 ct3
                  try go_at_call 60
                  refine (rfail_c (w0 := w0) (bp := bp) (fin := fin) (all := all) (v := v) (blk b3 (tobj ⟨k3, p3, n3, u3⟩) :: blk b6 (f7 u x) :: blk b2 fobj0 :: ps) (failS s4 5 p3) 10 p3 (by omega) (by omega) _ HO.out).mono ?_
                  clear HO
                  rintro e W14 ⟨rfl, ho⟩
                  have HO := Lib.hid ho
                  clear ho
                  simp only []
                  obtain ⟨bk, -⟩ := HO.out.swap.blk
                  have hbt := lt_of_block bk
                  have ft0 := free_of_heap bk (i := 0)
                  have ft1 := free_of_heap bk (i := 1)
                  have ft2 := free_of_heap bk (i := 2)
                  have ft3 := free_of_heap bk (i := 3)
                  have ct0 := cell_of_heap bk (i := 0)
                  have ct1 := cell_of_heap bk (i := 1)
                  have ct2 := cell_of_heap bk (i := 2)
                  have ct3 := cell_of_heap bk (i := 3)
                  simp only [List.getElem?_toArray, List.getElem?_cons_succ, List.getElem?_cons_zero] at ct0 ct1 ct2 ct3
                  clear bk
                  obtain ⟨bk, -⟩ := (HO.out.re [2, 0, 1]).blk
                  have hbe := lt_of_block bk
                  have fe0 := free_of_heap bk (i := 0)
                  have fe1 := free_of_heap bk (i := 1)
                  have fe2 := free_of_heap bk (i := 2)
                  have fe3 := free_of_heap bk (i := 3)
                  have fe4 := free_of_heap bk (i := 4)
                  have ce0 := cell_of_heap bk (i := 0)
                  have ce1 := cell_of_heap bk (i := 1)
                  have ce2 := cell_of_heap bk (i := 2)
                  have ce3 := cell_of_heap bk (i := 3)
                  have ce4 := cell_of_heap bk (i := 4)
                  simp only [List.getElem?_toArray, List.getElem?_cons_succ, List.getElem?_cons_zero] at ce0 ce1 ce2 ce3 ce4
                  clear bk
                  obtain ⟨bk, -⟩ := (HO.out.re [3, 0, 1, 2]).blk
                  have hbz := lt_of_block bk
                  have fz0 := free_of_heap bk (i := 0)
                  have fz1 := free_of_heap bk (i := 1)
                  have fz2 := free_of_heap bk (i := 2)
                  have fz3 := free_of_heap bk (i := 3)
                  have fz4 := free_of_heap bk (i := 4)
                  have cz0 := cell_of_heap bk (i := 0)
                  have cz1 := cell_of_heap bk (i := 1)
                  have cz2 := cell_of_heap bk (i := 2)
                  have cz3 := cell_of_heap bk (i := 3)
                  have cz4 := cell_of_heap bk (i := 4)
                  simp only [List.getElem?_toArray, List.getElem?_cons_succ, List.getElem?_cons_zero] at cz0 cz1 cz2 cz3 cz4
                  clear bk
                  have m36 := Owns.ne (HO.out.re [1, 2, 0])
                  have m36' := m36.symm
                  have m32 := Owns.ne (HO.out.re [1, 3, 0, 2])
                  have m32' := m32.symm
                  have m62 := Owns.ne (HO.out.re [2, 3, 0, 1])
                  have m62' := m62.symm
                  repeat (first | go_values | go_skip | go_guarded | go_step | go_upon)
                  have h1 := ((HO.out.re [2, 0, 1]).store (i := 3) (.int .i64 n3)).re [3, 1, 2, 0]
                  have h2 := ((((Owns.store h1 (i := 0) (.int .i64 3)).store (i := 1) (.string (bs u))).store (i := 2) (.int .i64 x)).store (i := 3) (.int .i64 n3)).store (i := 4) (.slice none 0 0)
                  have h3 := (h2.pop.re [1, 2, 0]).pop.pop.leaf 3 u x n3 none 0
                  exact bodyPost_ret (rnot_res rfl h2.blk.1) (by rfl) (by first | exact ⟨_, _, _, rfl, HD.out, h3⟩ | exact ⟨_, _, rfl, _, HD.out, h3⟩)
                · have hn3' : ¬ (1000000 : Int) < (n3 : Int) := by omega
                  have HD : Hid (Did (oneF fin (n + 1)) s (.mk 3 u x n3 []) (failS s4 5 p3)) := HDt.out sB ⟨k3, p3, n3, u3⟩ _ _ HB.out HT3.out HDD.out (by rw [stE, if_neg hn3])
                  clear hn3
                  obtain ⟨bk, -⟩ := HO.out.swap.blk
                  have hbt := lt_of_block bk
                  have ft0 := free_of_heap bk (i := 0)
                  have ft1 := free_of_heap bk (i := 1)
                  have ft2 := free_of_heap bk (i := 2)
                  have ft3 := free_of_heap bk (i := 3)
                  have ct0 := cell_of_heap bk (i := 0)
                  have ct1 := cell_of_heap bk (i := 1)
                  have ct2 := cell_of_heap bk (i := 2)
                  have ct3 := cell_of_heap bk (i := 3)
                  simp only [List.getElem?_toArray, List.getElem?_cons_succ, List.getElem?_cons_zero] at ct0 ct1 ct2 ct3
                  clear bk
                  obtain ⟨bk, -⟩ := (HO.out.re [2, 0, 1]).blk
                  have hbe := lt_of_block bk
                  have fe0 := free_of_heap bk (i := 0)
                  have fe1 := free_of_heap bk (i := 1)
                  have fe2 := free_of_heap bk (i := 2)
                  have fe3 := free_of_heap bk (i := 3)
                  have fe4 := free_of_heap bk (i := 4)
                  have ce0 := cell_of_heap bk (i := 0)
                  have ce1 := cell_of_heap bk (i := 1)
                  have ce2 := cell_of_heap bk (i := 2)
                  have ce3 := cell_of_heap bk (i := 3)
                  have ce4 := cell_of_heap bk (i := 4)
                  simp only [List.getElem?_toArray, List.getElem?_cons_succ, List.getElem?_cons_zero] at ce0 ce1 ce2 ce3 ce4
                  clear bk
                  obtain ⟨bk, -⟩ := (HO.out.re [3, 0, 1, 2]).blk
                  have hbz := lt_of_block bk
                  have fz0 := free_of_heap bk (i := 0)
                  have fz1 := free_of_heap bk (i := 1)
                  have fz2 := free_of_heap bk (i := 2)
                  have fz3 := free_of_heap bk (i := 3)
                  have fz4 := free_of_heap bk (i := 4)
                  have cz0 := cell_of_heap bk (i := 0)
                  have cz1 := cell_of_heap bk (i := 1)
                  have cz2 := cell_of_heap bk (i := 2)
                  have cz3 := cell_of_heap bk (i := 3)
                  have cz4 := cell_of_heap bk (i := 4)
                  simp only [List.getElem?_toArray, List.getElem?_cons_succ, List.getElem?_cons_zero] at cz0 cz1 cz2 cz3 cz4
                  clear bk
                  have m36 := Owns.ne (HO.out.re [1, 2, 0])
                  have m36' := m36.symm
                  have m32 := Owns.ne (HO.out.re [1, 3, 0, 2])
                  have m32' := m32.symm
                  have m62 := Owns.ne (HO.out.re [2, 3, 0, 1])
                  have m62' := m62.symm
                  repeat (first | go_values | go_skip | go_guarded | go_step | go_upon)
                  have h1 := ((HO.out.re [2, 0, 1]).store (i := 3) (.int .i64 n3)).re [3, 1, 2, 0]
                  have h2 := ((((Owns.store h1 (i := 0) (.int .i64 3)).store (i := 1) (.string (bs u))).store (i := 2) (.int .i64 x)).store (i := 3) (.int .i64 n3)).store (i := 4) (.slice none 0 0)
                  have h3 := (h2.pop.re [1, 2, 0]).pop.pop.leaf 3 u x n3 none 0
                  exact bodyPost_ret (rnot_res rfl h2.blk.1) (by rfl) (by first | exact ⟨_, _, _, rfl, HD.out, h3⟩ | exact ⟨_, _, rfl, _, HD.out, h3⟩)
    obtain ⟨r, e1, e2⟩ := nextT_ok HT.out (by show kd ≠ 0; omega) fin
    have h44' : ((kd : Int) == 4) = true := by simp; omega
    have hu' : (u == [40]) = true := by simpa using h4.2
    have HK : Hid (kd = 4 ∧ u = [40]) := Lib.hid h4
    obtain ⟨n', rfl⟩ : ∃ n', n = n' + 1 := by
      refine ⟨n - 1, ?_⟩
      have := HS.out
      rw [e1] at this
      simp [toks] at this
      omega
    have HE1 : Hid (s = .ok (⟨kd, po, nu, u⟩ :: r) ∧ s1 = .ok r ∧ r.length ≤ n') := by
      refine ⟨e1, HS1.out.trans e2, ?_⟩
      have := HS.out
      rw [e1] at this
      simp [toks] at this
      omega
    clear h4 hk e1 e2
    -- the token's box is loaded
    go_wp2_with fail
    try rw [← hW3]
    try rw [← hb3]
    clear hW3 hb3
    focus
      obtain ⟨bk, -⟩ := HO.out.swap.blk
      have hbt := lt_of_block bk
      have ft0 := free_of_heap bk (i := 0)
      have ft1 := free_of_heap bk (i := 1)
      have ft2 := free_of_heap bk (i := 2)
      have ft3 := free_of_heap bk (i := 3)
      have ct0 := cell_of_heap bk (i := 0)
      have ct1 := cell_of_heap bk (i := 1)
      have ct2 := cell_of_heap bk (i := 2)
      have ct3 := cell_of_heap bk (i := 3)
      simp only [List.getElem?_toArray, List.getElem?_cons_succ, List.getElem?_cons_zero] at ct0 ct1 ct2 ct3
      clear bk
      go_wp2_with fail
      clear hbt ft0 ft1 ft2 ft3 ct0 ct1 ct2 ct3
    try go_at_call 59
    have hE := rform_c (w0 := w0) (bp := bp) (fin := fin) (all := all) (v := v) _ n' (by omega) HN.out (rand_c _ n' (by omega) HN.out (HIh.out n' rfl))
    refine (hE (blk b3 (tobj ⟨kd, po, nu, u⟩) :: blk b2 fobj0 :: ps) s1 W3 (by rw [HE1.out.2.1]; exact HE1.out.2.2) HO.out).mono ?_
    clear hE
    rintro e W4 ⟨f, kv, s2, rfl, hd, ho⟩
    obtain ⟨y2, m2, rfl⟩ := ho.fm.form
    obtain ⟨N2, hN2⟩ : ∃ N2, N2 = f.kids.length := ⟨_, rfl⟩
    rw [← hN2] at ho ⊢
    have HP : Hid (_ ∧ _) := Lib.hid (one_paren_did (t := ⟨kd, po, nu, u⟩) HK.out (HE1.out.2.1 ▸ hd))
    obtain ⟨W5, hW5⟩ : ∃ W5, W5 = W4.alloc (.cells #[.int .i64 f.op, .string (bs f.name), .int .i64 f.cmp, .int .i64 f.num, .slice y2 N2 m2] 24) := ⟨_, rfl⟩
    obtain ⟨b5, hb5⟩ : ∃ b5, b5 = W4.heap.size := ⟨_, rfl⟩
    replace HO : Hid (Owns w0 W5 (rdP w0 bp fin all v s2 :: fmP f (.slice y2 N2 m2) :: blk b5 (fobj f (.slice y2 N2 m2)) :: blk b3 (tobj ⟨kd, po, nu, u⟩) :: blk b2 fobj0 :: ps)) := by
      rw [hW5, hb5]
      exact Lib.hid ((ho.box (fobj f (.slice y2 N2 m2))).re [2, 1, 0])
    clear ho hd hN2 h44' hu'
    go_wp2_with fail
    rw [← hW5, ← hb5]
    clear hW5 hb5
    try go_at_call 120
    refine (rtoken_c (w0 := w0) (bp := bp) (fin := fin) (all := all) (v := v) (fmP f (.slice y2 N2 m2) :: blk b5 (fobj f (.slice y2 N2 m2)) :: blk b3 (tobj ⟨kd, po, nu, u⟩) :: blk b2 fobj0 :: ps) s2 W5 HN.out HO.out).mono ?_
    rintro e W6 ⟨rfl, ho⟩
    obtain ⟨⟨kd2, po2, nu2, u2⟩, ht⟩ : ∃ t, t = nextT s2 := ⟨_, rfl⟩
    obtain ⟨s3, hs3⟩ : ∃ s3, s3 = nextS fin s2 := ⟨_, rfl⟩
    rw [← ht, ← hs3] at HP
    rw [← ht]
    rw [← hs3] at ho
    simp only [tval]
    have HO3 := Lib.hid (ho.re [3, 0, 1, 2])
    obtain ⟨W7, hW7⟩ : ∃ W7, W7 = (((W6.setCell ⟨b3, 0, none⟩ (.int .i64 kd2)).setCell ⟨b3, 1, none⟩ (.int .i64 po2)).setCell ⟨b3, 2, none⟩ (.int .i64 nu2)).setCell ⟨b3, 3, none⟩ (.string (bs u2)) := ⟨_, rfl⟩
    replace HO : Hid (Owns w0 W7 (blk b3 (tobj ⟨kd2, po2, nu2, u2⟩) :: rdP w0 bp fin all v s3 :: fmP f (.slice y2 N2 m2) :: blk b5 (fobj f (.slice y2 N2 m2)) :: blk b2 fobj0 :: ps)) := by
      rw [hW7]
      exact Lib.hid ((((HO3.out.store (i := 0) (.int .i64 kd2)).store (i := 1) (.int .i64 po2)).store (i := 2) (.int .i64 nu2)).store (i := 3) (.string (bs u2)))
    clear ho ht hs3
    by_cases h41 : kd2 = 4 ∧ u2 = [41]
    · have hk2 : ((kd2 : Int) != 4) = false := by simp; omega
      have hu2 : (u2 == [41]) = true := by simpa using h41.2
      have hu2n : (u2 != [41]) = false := by simpa using h41.2
      have HD : Hid (Did (oneF fin (n' + 1 + 1)) s f s3) := by
        rw [HE1.out.1]
        exact HP.out.1 h41
      clear h41
      subst hW7
      have n35 := Owns.ne (HO3.out.re [0, 3, 1, 2])
      have n35' := n35.symm
      have n32 := Owns.ne (HO3.out.re [0, 4, 1, 2, 3])
      have n32' := n32.symm
      have n25 := Owns.ne (HO3.out.re [3, 4, 0, 1, 2])
      have n25' := n25.symm
      have HO5 := Lib.hid (HO.out.re [4, 1, 2, 3, 0])
      simp only [fobj0] at HO5
      obtain ⟨bk, -⟩ := HO3.out.blk
      have hbt := lt_of_block bk
      have ft0 := free_of_heap bk (i := 0)
      have ft1 := free_of_heap bk (i := 1)
      have ft2 := free_of_heap bk (i := 2)
      have ft3 := free_of_heap bk (i := 3)
      have ct0 := cell_of_heap bk (i := 0)
      have ct1 := cell_of_heap bk (i := 1)
      have ct2 := cell_of_heap bk (i := 2)
      have ct3 := cell_of_heap bk (i := 3)
      simp only [List.getElem?_toArray, List.getElem?_cons_succ, List.getElem?_cons_zero] at ct0 ct1 ct2 ct3
      clear bk
      obtain ⟨bk, -⟩ := (HO3.out.re [3, 4, 0, 1, 2]).blk
      have hbv := lt_of_block bk
      have fv0 := free_of_heap bk (i := 0)
      have fv1 := free_of_heap bk (i := 1)
      have fv2 := free_of_heap bk (i := 2)
      have fv3 := free_of_heap bk (i := 3)
      have fv4 := free_of_heap bk (i := 4)
      have cv0 := cell_of_heap bk (i := 0)
      have cv1 := cell_of_heap bk (i := 1)
      have cv2 := cell_of_heap bk (i := 2)
      have cv3 := cell_of_heap bk (i := 3)
      have cv4 := cell_of_heap bk (i := 4)
      simp only [List.getElem?_toArray, List.getElem?_cons_succ, List.getElem?_cons_zero] at cv0 cv1 cv2 cv3 cv4
      clear bk
      obtain ⟨bk, -⟩ := (HO3.out.re [4, 3, 0, 1, 2]).blk
      have hbe := lt_of_block bk
      have fe0 := free_of_heap bk (i := 0)
      have fe1 := free_of_heap bk (i := 1)
      have fe2 := free_of_heap bk (i := 2)
      have fe3 := free_of_heap bk (i := 3)
      have fe4 := free_of_heap bk (i := 4)
      have ce0 := cell_of_heap bk (i := 0)
      have ce1 := cell_of_heap bk (i := 1)
      have ce2 := cell_of_heap bk (i := 2)
      have ce3 := cell_of_heap bk (i := 3)
      have ce4 := cell_of_heap bk (i := 4)
      simp only [List.getElem?_toArray, List.getElem?_cons_succ, List.getElem?_cons_zero] at ce0 ce1 ce2 ce3 ce4
      clear bk
      repeat (first | go_values | go_skip | go_guarded | go_step | go_upon)
      have h2 := ((((HO5.out.store (i := 0) (.int .i64 f.op)).store (i := 1) (.string (bs f.name))).store (i := 2) (.int .i64 f.cmp)).store (i := 3) (.int .i64 f.num)).store (i := 4) (.slice y2 N2 m2)
      exact bodyPost_ret (rnot_res rfl h2.blk.1) (by rfl) ⟨f, .slice y2 N2 m2, s3, rfl, HD.out, (h2.pop.re [2, 3, 1, 0]).pop.pop⟩
    · have HD : Hid (Did (oneF fin (n' + 1 + 1)) s f (failS s3 5 po2)) := by
        rw [HE1.out.1]
        exact HP.out.2 h41
      by_cases hk2 : kd2 = 4
      · have hk2' : ((kd2 : Int) != 4) = false := by simp; omega
        have hu2 : (u2 == [41]) = false := by simpa using fun e => h41 ⟨hk2, e⟩
        have hu2n : (u2 != [41]) = true := by simpa using fun e => h41 ⟨hk2, e⟩
        clear h41 hk2
        focus
          obtain ⟨bk, -⟩ := HO3.out.blk
          have hbt := lt_of_block bk
          have ft0 := free_of_heap bk (i := 0)
          have ft1 := free_of_heap bk (i := 1)
          have ft2 := free_of_heap bk (i := 2)
          have ft3 := free_of_heap bk (i := 3)
          have ct0 := cell_of_heap bk (i := 0)
          have ct1 := cell_of_heap bk (i := 1)
          have ct2 := cell_of_heap bk (i := 2)
          have ct3 := cell_of_heap bk (i := 3)
          simp only [List.getElem?_toArray, List.getElem?_cons_succ, List.getElem?_cons_zero] at ct0 ct1 ct2 ct3
          clear bk
          go_wp2_with fail
          rw [← hW7]
          clear hW7
          clear hbt ft0 ft1 ft2 ft3 ct0 ct1 ct2 ct3
        try go_at_call 60
        refine (rfail_c (w0 := w0) (bp := bp) (fin := fin) (all := all) (v := v) (blk b3 (tobj ⟨kd2, po2, nu2, u2⟩) :: fmP f (.slice y2 N2 m2) :: blk b5 (fobj f (.slice y2 N2 m2)) :: blk b2 fobj0 :: ps) s3 5 po2 (by omega) (by omega) W7 HO.out.swap).mono ?_
        rintro e W8 ⟨rfl, ho⟩
        have n25 := Owns.ne (ho.re [3, 4, 0, 1, 2])
        have n25' := n25.symm
        have HO5 := Lib.hid (ho.re [4, 3, 0, 2, 1])
        simp only [fobj0] at HO5
        clear ho HO
        focus
          obtain ⟨bk, -⟩ := HO5.out.blk
          have hbe := lt_of_block bk
          have fe0 := free_of_heap bk (i := 0)
          have fe1 := free_of_heap bk (i := 1)
          have fe2 := free_of_heap bk (i := 2)
          have fe3 := free_of_heap bk (i := 3)
          have fe4 := free_of_heap bk (i := 4)
          have ce0 := cell_of_heap bk (i := 0)
          have ce1 := cell_of_heap bk (i := 1)
          have ce2 := cell_of_heap bk (i := 2)
          have ce3 := cell_of_heap bk (i := 3)
          have ce4 := cell_of_heap bk (i := 4)
          simp only [List.getElem?_toArray, List.getElem?_cons_succ, List.getElem?_cons_zero] at ce0 ce1 ce2 ce3 ce4
          clear bk
          obtain ⟨bk, -⟩ := (HO5.out.swap).blk
          have hbv := lt_of_block bk
          have fv0 := free_of_heap bk (i := 0)
          have fv1 := free_of_heap bk (i := 1)
          have fv2 := free_of_heap bk (i := 2)
          have fv3 := free_of_heap bk (i := 3)
          have fv4 := free_of_heap bk (i := 4)
          have cv0 := cell_of_heap bk (i := 0)
          have cv1 := cell_of_heap bk (i := 1)
          have cv2 := cell_of_heap bk (i := 2)
          have cv3 := cell_of_heap bk (i := 3)
          have cv4 := cell_of_heap bk (i := 4)
          simp only [List.getElem?_toArray, List.getElem?_cons_succ, List.getElem?_cons_zero] at cv0 cv1 cv2 cv3 cv4
          clear bk
          go_wp2_with fail
        have h2 := ((((HO5.out.store (i := 0) (.int .i64 f.op)).store (i := 1) (.string (bs f.name))).store (i := 2) (.int .i64 f.cmp)).store (i := 3) (.int .i64 f.num)).store (i := 4) (.slice y2 N2 m2)
        exact bodyPost_ret (rnot_res rfl h2.blk.1) (by rfl) ⟨f, _, _, rfl, HD.out, (h2.pop.re [0, 3, 2, 1]).pop.pop⟩
      · have hk2' : ((kd2 : Int) != 4) = true := by simp; omega
        clear h41 hk2
        focus
          obtain ⟨bk, -⟩ := HO3.out.blk
          have hbt := lt_of_block bk
          have ft0 := free_of_heap bk (i := 0)
          have ft1 := free_of_heap bk (i := 1)
          have ft2 := free_of_heap bk (i := 2)
          have ft3 := free_of_heap bk (i := 3)
          have ct0 := cell_of_heap bk (i := 0)
          have ct1 := cell_of_heap bk (i := 1)
          have ct2 := cell_of_heap bk (i := 2)
          have ct3 := cell_of_heap bk (i := 3)
          simp only [List.getElem?_toArray, List.getElem?_cons_succ, List.getElem?_cons_zero] at ct0 ct1 ct2 ct3
          clear bk
          go_wp2_with fail
          rw [← hW7]
          clear hW7
          clear hbt ft0 ft1 ft2 ft3 ct0 ct1 ct2 ct3
        try go_at_call 60
        refine (rfail_c (w0 := w0) (bp := bp) (fin := fin) (all := all) (v := v) (blk b3 (tobj ⟨kd2, po2, nu2, u2⟩) :: fmP f (.slice y2 N2 m2) :: blk b5 (fobj f (.slice y2 N2 m2)) :: blk b2 fobj0 :: ps) s3 5 po2 (by omega) (by omega) W7 HO.out.swap).mono ?_
        rintro e W8 ⟨rfl, ho⟩
        have n25 := Owns.ne (ho.re [3, 4, 0, 1, 2])
        have n25' := n25.symm
        have HO5 := Lib.hid (ho.re [4, 3, 0, 2, 1])
        simp only [fobj0] at HO5
        clear ho HO
        focus
          obtain ⟨bk, -⟩ := HO5.out.blk
          have hbe := lt_of_block bk
          have fe0 := free_of_heap bk (i := 0)
          have fe1 := free_of_heap bk (i := 1)
          have fe2 := free_of_heap bk (i := 2)
          have fe3 := free_of_heap bk (i := 3)
          have fe4 := free_of_heap bk (i := 4)
          have ce0 := cell_of_heap bk (i := 0)
          have ce1 := cell_of_heap bk (i := 1)
          have ce2 := cell_of_heap bk (i := 2)
          have ce3 := cell_of_heap bk (i := 3)
          have ce4 := cell_of_heap bk (i := 4)
          simp only [List.getElem?_toArray, List.getElem?_cons_succ, List.getElem?_cons_zero] at ce0 ce1 ce2 ce3 ce4
          clear bk
          obtain ⟨bk, -⟩ := (HO5.out.swap).blk
          have hbv := lt_of_block bk
          have fv0 := free_of_heap bk (i := 0)
          have fv1 := free_of_heap bk (i := 1)
          have fv2 := free_of_heap bk (i := 2)
          have fv3 := free_of_heap bk (i := 3)
          have fv4 := free_of_heap bk (i := 4)
          have cv0 := cell_of_heap bk (i := 0)
          have cv1 := cell_of_heap bk (i := 1)
          have cv2 := cell_of_heap bk (i := 2)
          have cv3 := cell_of_heap bk (i := 3)
          have cv4 := cell_of_heap bk (i := 4)
          simp only [List.getElem?_toArray, List.getElem?_cons_succ, List.getElem?_cons_zero] at cv0 cv1 cv2 cv3 cv4
          clear bk
          go_wp2_with fail
        have h2 := ((((HO5.out.store (i := 0) (.int .i64 f.op)).store (i := 1) (.string (bs f.name))).store (i := 2) (.int .i64 f.cmp)).store (i := 3) (.int .i64 f.num)).store (i := 4) (.slice y2 N2 m2)
        exact bodyPost_ret (rnot_res rfl h2.blk.1) (by rfl) ⟨f, _, _, rfl, HD.out, (h2.pop.re [0, 3, 2, 1]).pop.pop⟩
  have hk' : ((kd : Int) == 1) = true := by simp; omega
  have hkn : ((kd : Int) != 1) = false := by simp; omega
  have hk4 : ((kd : Int) == 4) = false := by simp; omega
  obtain ⟨r, e1, e2⟩ := nextT_ok HT.out (by show kd ≠ 0; omega) fin
  have HKD : Hid (kd = 1) := hk
  clear hk
  by_cases hn1 : u = wNot
  · have hu' : (u == [110, 111, 116]) = true := by simpa [wNot] using hn1
    have HK : Hid (kd = 1 ∧ u = wNot) := Lib.hid ⟨HKD.out, hn1⟩
    obtain ⟨n', rfl⟩ : ∃ n', n = n' + 1 := by
      refine ⟨n - 1, ?_⟩
      have := HS.out
      rw [e1] at this
      simp [toks] at this
      omega
    have HE1 : Hid (s = .ok (⟨kd, po, nu, u⟩ :: r) ∧ s1 = .ok r ∧ r.length ≤ n') := by
      refine ⟨e1, HS1.out.trans e2, ?_⟩
      have := HS.out
      rw [e1] at this
      simp [toks] at this
      omega
    clear hn1 e1 e2
    -- the token's box is loaded
    go_wp2_with fail
    try rw [← hW3]
    try rw [← hb3]
    clear hW3 hb3
    focus
      obtain ⟨bk, -⟩ := HO.out.swap.blk
      have hbt := lt_of_block bk
      have ft0 := free_of_heap bk (i := 0)
      have ft1 := free_of_heap bk (i := 1)
      have ft2 := free_of_heap bk (i := 2)
      have ft3 := free_of_heap bk (i := 3)
      have ct0 := cell_of_heap bk (i := 0)
      have ct1 := cell_of_heap bk (i := 1)
      have ct2 := cell_of_heap bk (i := 2)
      have ct3 := cell_of_heap bk (i := 3)
      simp only [List.getElem?_toArray, List.getElem?_cons_succ, List.getElem?_cons_zero] at ct0 ct1 ct2 ct3
      clear bk
      go_wp2_with fail
      clear hbt ft0 ft1 ft2 ft3 ct0 ct1 ct2 ct3
    refine (HIh.out n' rfl (blk b3 (tobj ⟨kd, po, nu, u⟩) :: blk b2 fobj0 :: ps) s1 W3 (by rw [HE1.out.2.1]; exact HE1.out.2.2) HO.out).mono ?_
    rintro e W4 ⟨f, kv, s2, rfl, hd, ho⟩
    obtain ⟨y2, m2, rfl⟩ := ho.fm.form
    obtain ⟨N2, hN2⟩ : ∃ N2, N2 = f.kids.length := ⟨_, rfl⟩
    rw [← hN2] at ho ⊢
    have HD : Hid (Did (oneF fin (n' + 1 + 1)) s (.mk 4 [] 0 0 [f]) s2) := by
      rw [HE1.out.1]
      exact one_not HK.out (HE1.out.2.1 ▸ hd)
    have hk1 := (ho.kid1.knode 4 [] 0 0).re [3, 1, 2, 0]
    replace HO : Hid (Owns w0 (W4.alloc (.cells #[.int .i64 f.op, .string (bs f.name), .int .i64 f.cmp, .int .i64 f.num, .slice y2 N2 m2] 24)) (blk b2 fobj0 :: rdP w0 bp fin all v s2 :: blk b3 (tobj ⟨kd, po, nu, u⟩) :: fmP (.mk 4 [] 0 0 [f]) (.slice (some ⟨W4.heap.size, 0, none⟩) 1 1) :: ps)) := Lib.hid hk1
    simp only [fobj0] at HO
    clear ho hd hN2 hk1
    obtain ⟨bk, -⟩ := HO.out.blk
    have hbe := lt_of_block bk
    have fe0 := free_of_heap bk (i := 0)
    have fe1 := free_of_heap bk (i := 1)
    have fe2 := free_of_heap bk (i := 2)
    have fe3 := free_of_heap bk (i := 3)
    have fe4 := free_of_heap bk (i := 4)
    have ce0 := cell_of_heap bk (i := 0)
    have ce1 := cell_of_heap bk (i := 1)
    have ce2 := cell_of_heap bk (i := 2)
    have ce3 := cell_of_heap bk (i := 3)
    have ce4 := cell_of_heap bk (i := 4)
    simp only [List.getElem?_toArray, List.getElem?_cons_succ, List.getElem?_cons_zero] at ce0 ce1 ce2 ce3 ce4
    clear bk
    go_wp2_with fail
    have h2 := ((((HO.out.store (i := 0) (.int .i64 4)).store (i := 1) (.string ⟨#[]⟩)).store (i := 2) (.int .i64 0)).store (i := 3) (.int .i64 0)).store (i := 4) (.slice (some ⟨W4.heap.size, 0, none⟩) 1 1)
    exact bodyPost_ret (rnot_res rfl h2.blk.1) (by rfl) ⟨_, _, _, rfl, HD.out, (h2.pop.re [1, 2, 0]).pop⟩
  have hu1 : (u == [110, 111, 116]) = false := by simpa [wNot] using hn1
  by_cases hn2 : u = wTrue
  · have hu' : (u == [116, 114, 117, 101]) = true := by simpa [wTrue] using hn2
    have HK : Hid (kd = 1 ∧ u = wTrue) := Lib.hid ⟨HKD.out, hn2⟩
    clear hn1 hn2
    have HD : Hid (Did (oneF fin (n + 1)) s (.mk 1 [] 0 0 []) s1) := by
      rw [HS1.out, e2, e1]
      exact one_true HK.out
    have HO4 : Hid (Owns w0 W3 (blk b2 fobj0 :: rdP w0 bp fin all v s1 :: blk b3 (tobj ⟨kd, po, nu, u⟩) :: ps)) := Lib.hid (HO.out.re [2, 0, 1])
    simp only [fobj0] at HO4
    rw [hW3] at HO4
    obtain ⟨bk, -⟩ := (HO4.out).blk
    have hbe := lt_of_block bk
    have fe0 := free_of_heap bk (i := 0)
    have fe1 := free_of_heap bk (i := 1)
    have fe2 := free_of_heap bk (i := 2)
    have fe3 := free_of_heap bk (i := 3)
    have fe4 := free_of_heap bk (i := 4)
    have ce0 := cell_of_heap bk (i := 0)
    have ce1 := cell_of_heap bk (i := 1)
    have ce2 := cell_of_heap bk (i := 2)
    have ce3 := cell_of_heap bk (i := 3)
    have ce4 := cell_of_heap bk (i := 4)
    simp only [List.getElem?_toArray, List.getElem?_cons_succ, List.getElem?_cons_zero] at ce0 ce1 ce2 ce3 ce4
    clear bk
    go_wp2_with fail
    have h2 := ((((HO4.out.store (i := 0) (.int .i64 1)).store (i := 1) (.string ⟨#[]⟩)).store (i := 2) (.int .i64 0)).store (i := 3) (.int .i64 0)).store (i := 4) (.slice none 0 0)
    exact bodyPost_ret (rnot_res rfl h2.blk.1) (by rfl) ⟨.mk 1 [] 0 0 [], _, _, rfl, HD.out, h2.pop.swap.pop.leaf 1 [] 0 0 none 0⟩
  have hu2 : (u == [116, 114, 117, 101]) = false := by simpa [wTrue] using hn2
  by_cases hn3 : u = wFalse
  · have hu' : (u == [102, 97, 108, 115, 101]) = true := by simpa [wFalse] using hn3
    have HK : Hid (kd = 1 ∧ u = wFalse) := Lib.hid ⟨HKD.out, hn3⟩
    clear hn1 hn2 hn3
    have HD : Hid (Did (oneF fin (n + 1)) s (.mk 2 [] 0 0 []) s1) := by
      rw [HS1.out, e2, e1]
      exact one_false HK.out
    have HO4 : Hid (Owns w0 W3 (blk b2 fobj0 :: rdP w0 bp fin all v s1 :: blk b3 (tobj ⟨kd, po, nu, u⟩) :: ps)) := Lib.hid (HO.out.re [2, 0, 1])
    simp only [fobj0] at HO4
    rw [hW3] at HO4
    obtain ⟨bk, -⟩ := (HO4.out).blk
    have hbe := lt_of_block bk
    have fe0 := free_of_heap bk (i := 0)
    have fe1 := free_of_heap bk (i := 1)
    have fe2 := free_of_heap bk (i := 2)
    have fe3 := free_of_heap bk (i := 3)
    have fe4 := free_of_heap bk (i := 4)
    have ce0 := cell_of_heap bk (i := 0)
    have ce1 := cell_of_heap bk (i := 1)
    have ce2 := cell_of_heap bk (i := 2)
    have ce3 := cell_of_heap bk (i := 3)
    have ce4 := cell_of_heap bk (i := 4)
    simp only [List.getElem?_toArray, List.getElem?_cons_succ, List.getElem?_cons_zero] at ce0 ce1 ce2 ce3 ce4
    clear bk
    go_wp2_with fail
    have h2 := ((((HO4.out.store (i := 0) (.int .i64 2)).store (i := 1) (.string ⟨#[]⟩)).store (i := 2) (.int .i64 0)).store (i := 3) (.int .i64 0)).store (i := 4) (.slice none 0 0)
    exact bodyPost_ret (rnot_res rfl h2.blk.1) (by rfl) ⟨.mk 2 [] 0 0 [], _, _, rfl, HD.out, h2.pop.swap.pop.leaf 2 [] 0 0 none 0⟩
  have hu3 : (u == [102, 97, 108, 115, 101]) = false := by simpa [wFalse] using hn3
  have HE1 : Hid (s = .ok (⟨kd, po, nu, u⟩ :: r) ∧ s1 = .ok r) := ⟨e1, HS1.out.trans e2⟩
  have HU : Hid (u ≠ wNot ∧ u ≠ wTrue ∧ u ≠ wFalse ∧ u ≠ []) := ⟨hn1, hn2, hn3, HNe.out _ _ e1 HKD.out⟩
  clear hn1 hn2 hn3 e1 e2
  -- the token's box is loaded
  go_wp2_with fail
  try rw [← hW3]
  try rw [← hb3]
  clear hW3 hb3
  focus
    obtain ⟨bk, -⟩ := HO.out.swap.blk
    have hbt := lt_of_block bk
    have ft0 := free_of_heap bk (i := 0)
    have ft1 := free_of_heap bk (i := 1)
    have ft2 := free_of_heap bk (i := 2)
    have ft3 := free_of_heap bk (i := 3)
    have ct0 := cell_of_heap bk (i := 0)
    have ct1 := cell_of_heap bk (i := 1)
    have ct2 := cell_of_heap bk (i := 2)
    have ct3 := cell_of_heap bk (i := 3)
    simp only [List.getElem?_toArray, List.getElem?_cons_succ, List.getElem?_cons_zero] at ct0 ct1 ct2 ct3
    clear bk
    go_wp2_with fail
    clear hbt ft0 ft1 ft2 ft3 ct0 ct1 ct2 ct3
  try go_at_call 31
  refine (rKey_c u W3).mono ?_
  rintro e Wc ⟨rfl, hw⟩
  subst hw
  obtain ⟨q, hq⟩ : ∃ q, q = keyB u := ⟨_, rfl⟩
  have HQ := Lib.hid hq
  rw [← hq]
  clear hq
  cases q
  case true =>
    have HDt := Lib.hid (rest_bad (fin := fin) (n := n) (s := s) (s1 := s1) (t := ⟨kd, po, nu, u⟩) u (fun g => by
      rw [HS1.out]
      exact syn_any HT.out HFi.out (by rintro ⟨-, h | h | h⟩; · exact HU.out.1 h
                                       · exact HU.out.2.1 h
                                       · exact HU.out.2.2.1 h) (by rintro ⟨h, -⟩; have h2 : kd = 4 := h; have := HKD.out; omega) (.inr (.inr HQ.out.symm)) g))
    simp only [] at HDt
    focus
      obtain ⟨bk, -⟩ := HO.out.swap.blk
      have hbt := lt_of_block bk
      have ft0 := free_of_heap bk (i := 0)
      have ft1 := free_of_heap bk (i := 1)
      have ft2 := free_of_heap bk (i := 2)
      have ft3 := free_of_heap bk (i := 3)
      have ct0 := cell_of_heap bk (i := 0)
      have ct1 := cell_of_heap bk (i := 1)
      have ct2 := cell_of_heap bk (i := 2)
      have ct3 := cell_of_heap bk (i := 3)
      simp only [List.getElem?_toArray, List.getElem?_cons_succ, List.getElem?_cons_zero] at ct0 ct1 ct2 ct3
      clear bk
      go_wp2_with fail
      clear hbt ft0 ft1 ft2 ft3 ct0 ct1 ct2 ct3
    -- Fail(ErrSyntax), and what follows; the box of the token was loaded
    try go_at_call 60
    refine (rfail_c (w0 := w0) (bp := bp) (fin := fin) (all := all) (v := v) (blk b3 (tobj ⟨kd, po, nu, u⟩) :: blk b2 fobj0 :: ps) s1 5 po (by omega) (by omega) _ HO.out).mono ?_
    rintro e Wc ⟨rfl, ho⟩
    replace HO := Lib.hid ho
    obtain ⟨sR, hsR⟩ : ∃ sR, sR = failS s1 5 po := ⟨_, rfl⟩
    rw [← hsR] at HO HDt
    clear ho hsR
    -- HO : rdP sR, the token's box b3, the result's box b2; HDt : what is read of a comparison from sR on
    obtain ⟨W5, hW5⟩ : ∃ W5, W5 = Wc.alloc (.cells #[.int .i64 3, .string (bs u), .int .i64 0, .int .i64 0, .slice none 0 0] 24) := ⟨_, rfl⟩
    obtain ⟨b6, hb6⟩ : ∃ b6, b6 = Wc.heap.size := ⟨_, rfl⟩
    have HO5 : Hid (Owns w0 W5 (rdP w0 bp fin all v sR :: blk b6 (f7 u 0) :: blk b3 (tobj ⟨kd, po, nu, u⟩) :: blk b2 fobj0 :: ps)) := by
      rw [hW5, hb6]
      exact Lib.hid (HO.out.box (f7 u 0)).swap
    focus
      obtain ⟨bk, -⟩ := HO.out.swap.blk
      have hbt := lt_of_block bk
      have ft0 := free_of_heap bk (i := 0)
      have ft1 := free_of_heap bk (i := 1)
      have ft2 := free_of_heap bk (i := 2)
      have ft3 := free_of_heap bk (i := 3)
      have ct0 := cell_of_heap bk (i := 0)
      have ct1 := cell_of_heap bk (i := 1)
      have ct2 := cell_of_heap bk (i := 2)
      have ct3 := cell_of_heap bk (i := 3)
      simp only [List.getElem?_toArray, List.getElem?_cons_succ, List.getElem?_cons_zero] at ct0 ct1 ct2 ct3
      clear bk
      go_wp2_with fail
      rw [← hW5, ← hb6]
      clear hW5 hb6
      clear hbt ft0 ft1 ft2 ft3 ct0 ct1 ct2 ct3
    replace HO := HO5
    clear HO5
    try go_at_call 120
    refine (rtoken_c (w0 := w0) (bp := bp) (fin := fin) (all := all) (v := v) (blk b6 (f7 u 0) :: blk b3 (tobj ⟨kd, po, nu, u⟩) :: blk b2 fobj0 :: ps) sR W5 HN.out HO.out).mono ?_
    rintro e W6 ⟨rfl, ho⟩
    obtain ⟨⟨k2, p2, n2, u2⟩, ht⟩ : ∃ t, t = nextT sR := ⟨_, rfl⟩
    obtain ⟨s2, hs2⟩ : ∃ s2, s2 = nextS fin sR := ⟨_, rfl⟩
    rw [← ht]
    rw [← hs2] at ho
    simp only [tval]
    have HT2 := Lib.hid ht
    have HS2 := Lib.hid hs2
    have HO3 := Lib.hid (ho.re [2, 0, 1])
    obtain ⟨W7, hW7⟩ : ∃ W7, W7 = (((W6.setCell ⟨b3, 0, none⟩ (.int .i64 k2)).setCell ⟨b3, 1, none⟩ (.int .i64 p2)).setCell ⟨b3, 2, none⟩ (.int .i64 n2)).setCell ⟨b3, 3, none⟩ (.string (bs u2)) := ⟨_, rfl⟩
    replace HO : Hid (Owns w0 W7 (blk b3 (tobj ⟨k2, p2, n2, u2⟩) :: rdP w0 bp fin all v s2 :: blk b6 (f7 u 0) :: blk b2 fobj0 :: ps)) := by
      rw [hW7]
      exact Lib.hid ((((HO3.out.store (i := 0) (.int .i64 k2)).store (i := 1) (.int .i64 p2)).store (i := 2) (.int .i64 n2)).store (i := 3) (.string (bs u2)))
    clear ho ht hs2
    focus
      obtain ⟨bk, -⟩ := HO3.out.blk
      have hbt := lt_of_block bk
      have ft0 := free_of_heap bk (i := 0)
      have ft1 := free_of_heap bk (i := 1)
      have ft2 := free_of_heap bk (i := 2)
      have ft3 := free_of_heap bk (i := 3)
      have ct0 := cell_of_heap bk (i := 0)
      have ct1 := cell_of_heap bk (i := 1)
      have ct2 := cell_of_heap bk (i := 2)
      have ct3 := cell_of_heap bk (i := 3)
      simp only [List.getElem?_toArray, List.getElem?_cons_succ, List.getElem?_cons_zero] at ct0 ct1 ct2 ct3
      clear bk
      go_wp2_with fail
      rw [← hW7]
      clear hW7
      clear hbt ft0 ft1 ft2 ft3 ct0 ct1 ct2 ct3
    clear HO3
    have H0 : Hid (Owns w0 W7 (blk b3 (tobj ⟨k2, p2, n2, u2⟩) :: rdP w0 bp fin all v s2 :: blk b6 (f7 u ((xK ⟨k2, p2, n2, u2⟩ 1 : Nat) : Int)) :: blk b2 fobj0 :: ps)) := by
      rw [xK_one]
      exact HO
    go_loopg [6] 6 (fun gk kv wr => ∃ k : Nat, gk = 7 - k ∧ 1 ≤ k ∧ k ≤ 7 ∧ kv = .int .i64 (k : Int) ∧ Hid (Owns w0 wr (blk b3 (tobj ⟨k2, p2, n2, u2⟩) :: rdP w0 bp fin all v s2 :: blk b6 (f7 u ((xK ⟨k2, p2, n2, u2⟩ k : Nat) : Int)) :: blk b2 fobj0 :: ps)))
    case atStart => exact ⟨1, rfl, by omega, by omega, rfl, H0⟩
    case round =>
      rename_i J1 K1 hJ1 hK1
      clear HO H0
      obtain ⟨k, rfl, hk1, hk7, rfl, HO⟩ := hrel
      go_wp2_with fail
      try go_at_call 75
      refine (comparisons_c wr).mono ?_
      rintro e W8 ⟨gs, rfl, hgs, hW8⟩
      have hb8 : Below wr.heap.size wr W8 := by rw [hW8]; exact (Below.refl _ _).alloc (Nat.le_refl _) _
      replace HO := Lib.hid (HO.out.below hb8)
      clear hW8 hgs hb8
      by_cases hlt : k < 7
      · have hk6 : k ≤ 6 := by omega
        go_wp2_with fail
        refine wp_region_can [6] (List.range 12) (by decide +kernel) (by decide +kernel) ?_
        replace HO := Lib.hid HO.out.drew
        generalize hWd : World.drew _ = W9 at HO ⊢
        clear hWd
        by_cases h24 : k2 = 4
        · have h24' : ((k2 : Int) == 4) = true := by simp; omega
          have H24 := Lib.hid h24
          clear h24
          focus
            obtain ⟨bk, -⟩ := HO.out.blk
            have hbt := lt_of_block bk
            have ft0 := free_of_heap bk (i := 0)
            have ft1 := free_of_heap bk (i := 1)
            have ft2 := free_of_heap bk (i := 2)
            have ft3 := free_of_heap bk (i := 3)
            have ct0 := cell_of_heap bk (i := 0)
            have ct1 := cell_of_heap bk (i := 1)
            have ct2 := cell_of_heap bk (i := 2)
            have ct3 := cell_of_heap bk (i := 3)
            simp only [List.getElem?_toArray, List.getElem?_cons_succ, List.getElem?_cons_zero] at ct0 ct1 ct2 ct3
            clear bk
            iterate 6 (first | (refine cl_do rfl rfl rfl (by first | rfl | simp [okB, lenV, plainV, Act.eval]) (fun _ _ => ?_); go_wp2_with fail) | (refine cl_yes rfl rfl rfl rfl (by first | rfl | simp [okB, lenV, plainV, Act.eval]) (fun _ _ => ?_); go_wp2_with fail))
            clear hbt ft0 ft1 ft2 ft3 ct0 ct1 ct2 ct3
          refine cl_ycall (i := 6) rfl rfl rfl (by first | rfl | simp [okB, lenV, plainV, Act.eval]) (fun K hK => ?_)
          go_wp2_with fail
          try go_at_call 75
          refine (comparisons_c W9).mono ?_
          rintro e W10 ⟨g2, rfl, hg2, hW10⟩
          have hb10 : Below W9.heap.size W9 W10 := by rw [hW10]; exact (Below.refl _ _).alloc (Nat.le_refl _) _
          have bks : W10.heap[g2]? = some symObj := by rw [hW10]; exact new_heap _ _ _ hg2
          have hg2l := lt_of_block bks
          have cs := sym_cell bks hk1 hk6
          have Hb := Lib.hid hb10
          replace HO := Lib.hid (HO.out.below hb10)
          clear hW10 hg2 hb10 bks
          go_wp2_with fail
          refine And.intro Hb.out ?_
          clear Hb
          by_cases hm : u2 = symB (k : Int)
          · have hm' : (u2 == symB (k : Int)) = true := by simpa using hm
            have HX : Hid (xK ⟨k2, p2, n2, u2⟩ (k + 1) = k) := Lib.hid (xK_hit H24.out ((sym_iff hk1 hk6).1 hm))
            clear hm
            iterate 5 (first | (refine cl_do rfl rfl rfl (by first | rfl | simp [okB, lenV, plainV, Act.eval]) (fun _ _ => ?_); go_wp2_with fail) | (refine cl_yes rfl rfl rfl rfl (by first | rfl | simp [okB, lenV, plainV, Act.eval]) (fun _ _ => ?_); go_wp2_with fail))
            refine cl_nil ?_
            have HO6 := Lib.hid (HO.out.re [2, 0, 1])
            have HO7 : Hid (Owns w0 (W10.setCell ⟨b6, 2, none⟩ (.int .i64 (k : Int))) (blk b3 (tobj ⟨k2, p2, n2, u2⟩) :: rdP w0 bp fin all v s2 :: blk b6 (f7 u ((xK ⟨k2, p2, n2, u2⟩ (k + 1) : Nat) : Int)) :: blk b2 fobj0 :: ps)) := by
              rw [HX.out]
              exact Lib.hid ((HO6.out.store (i := 2) (.int .i64 (k : Int))).re [1, 2, 0])
            focus
              obtain ⟨bk, -⟩ := HO6.out.blk
              have hbe := lt_of_block bk
              have fe0 := free_of_heap bk (i := 0)
              have fe1 := free_of_heap bk (i := 1)
              have fe2 := free_of_heap bk (i := 2)
              have fe3 := free_of_heap bk (i := 3)
              have fe4 := free_of_heap bk (i := 4)
              have ce0 := cell_of_heap bk (i := 0)
              have ce1 := cell_of_heap bk (i := 1)
              have ce2 := cell_of_heap bk (i := 2)
              have ce3 := cell_of_heap bk (i := 3)
              have ce4 := cell_of_heap bk (i := 4)
              simp only [List.getElem?_toArray, List.getElem?_cons_succ, List.getElem?_cons_zero] at ce0 ce1 ce2 ce3 ce4
              clear bk
              clear HO
              go_wp2_with fail
              go_roundg (7 - (k + 1))
              case measure => omega
              case rel => exact ⟨k + 1, rfl, by omega, by omega, by go_num, HO7⟩
          · have hm' : (u2 == symB (k : Int)) = false := by simpa using hm
            have HX : Hid (xK ⟨k2, p2, n2, u2⟩ (k + 1) = xK ⟨k2, p2, n2, u2⟩ k) := Lib.hid (xK_miss fun h => hm ((sym_iff hk1 hk6).2 h.2))
            clear hm
            iterate 5 (first | (refine cl_do rfl rfl rfl (by first | rfl | simp [okB, lenV, plainV, Act.eval]) (fun _ _ => ?_); go_wp2_with fail) | (refine cl_yes rfl rfl rfl rfl (by first | rfl | simp [okB, lenV, plainV, Act.eval]) (fun _ _ => ?_); go_wp2_with fail))
            refine cl_nil ?_
            rw [← HX.out] at HO
            go_wp2_with fail
            go_roundg (7 - (k + 1))
            case measure => omega
            case rel => exact ⟨k + 1, rfl, by omega, by omega, by go_num, HO⟩
        · have h24' : ((k2 : Int) == 4) = false := by simp; omega
          have HX : Hid (xK ⟨k2, p2, n2, u2⟩ (k + 1) = xK ⟨k2, p2, n2, u2⟩ k) := Lib.hid (xK_miss fun h => h24 h.1)
          clear h24
          focus
            obtain ⟨bk, -⟩ := HO.out.blk
            have hbt := lt_of_block bk
            have ft0 := free_of_heap bk (i := 0)
            have ft1 := free_of_heap bk (i := 1)
            have ft2 := free_of_heap bk (i := 2)
            have ft3 := free_of_heap bk (i := 3)
            have ct0 := cell_of_heap bk (i := 0)
            have ct1 := cell_of_heap bk (i := 1)
            have ct2 := cell_of_heap bk (i := 2)
            have ct3 := cell_of_heap bk (i := 3)
            simp only [List.getElem?_toArray, List.getElem?_cons_succ, List.getElem?_cons_zero] at ct0 ct1 ct2 ct3
            clear bk
            iterate 12 (first | (refine cl_do rfl rfl rfl (by first | rfl | simp [okB, lenV, plainV, Act.eval]) (fun _ _ => ?_); go_wp2_with fail) | (refine cl_no rfl rfl rfl ?_; go_simp))
            clear hbt ft0 ft1 ft2 ft3 ct0 ct1 ct2 ct3
          refine cl_nil ?_
          rw [← HX.out] at HO
          go_wp2_with fail
          go_roundg (7 - (k + 1))
          case measure => omega
          case rel => exact ⟨k + 1, rfl, by omega, by omega, by go_num, HO⟩
      · obtain rfl : k = 7 := by omega
        obtain ⟨x, hx⟩ : ∃ x, x = xT ⟨k2, p2, n2, u2⟩ := ⟨_, rfl⟩
        rw [xK_last, ← hx] at HO
        have hx6 : x ≤ 6 := by rw [hx]; exact xT_le _
        have HX := Lib.hid hx
        rw [HT2.out] at HX
        rw [← HX.out] at HDt
        clear hx hJ1 hK1 hlt hk1 hk7
        by_cases hx0 : x = 0
        · have hx0' : ((x : Int) == 0) = true := by simpa using hx0
          have HB0 : Hid (failS s2 5 p2 = stB fin sR) := by
            show _ = _
            rw [stR_eq, ← HX.out, if_pos hx0, ← HT2.out, ← HS2.out]
          clear hx0
          focus
            obtain ⟨bk, -⟩ := HO.out.blk
            have hbt := lt_of_block bk
            have ft0 := free_of_heap bk (i := 0)
            have ft1 := free_of_heap bk (i := 1)
            have ft2 := free_of_heap bk (i := 2)
            have ft3 := free_of_heap bk (i := 3)
            have ct0 := cell_of_heap bk (i := 0)
            have ct1 := cell_of_heap bk (i := 1)
            have ct2 := cell_of_heap bk (i := 2)
            have ct3 := cell_of_heap bk (i := 3)
            simp only [List.getElem?_toArray, List.getElem?_cons_succ, List.getElem?_cons_zero] at ct0 ct1 ct2 ct3
            clear bk
            obtain ⟨bk, -⟩ := (HO.out.re [2, 0, 1]).blk
            have hbe := lt_of_block bk
            have fe0 := free_of_heap bk (i := 0)
            have fe1 := free_of_heap bk (i := 1)
            have fe2 := free_of_heap bk (i := 2)
            have fe3 := free_of_heap bk (i := 3)
            have fe4 := free_of_heap bk (i := 4)
            have ce0 := cell_of_heap bk (i := 0)
            have ce1 := cell_of_heap bk (i := 1)
            have ce2 := cell_of_heap bk (i := 2)
            have ce3 := cell_of_heap bk (i := 3)
            have ce4 := cell_of_heap bk (i := 4)
            simp only [List.getElem?_toArray, List.getElem?_cons_succ, List.getElem?_cons_zero] at ce0 ce1 ce2 ce3 ce4
            clear bk
            go_wp2_with fail
            clear hbt ft0 ft1 ft2 ft3 ct0 ct1 ct2 ct3
            clear hbe fe0 fe1 fe2 fe3 fe4 ce0 ce1 ce2 ce3 ce4
          try go_at_call 60
          refine (rfail_c (w0 := w0) (bp := bp) (fin := fin) (all := all) (v := v) (blk b3 (tobj ⟨k2, p2, n2, u2⟩) :: blk b6 (f7 u (x : Int)) :: blk b2 fobj0 :: ps) s2 5 p2 (by omega) (by omega) _ (HO.out.re [1, 0, 2])).mono ?_
          rintro e W11 ⟨rfl, ho⟩
          replace HO := Lib.hid ho
          obtain ⟨sB, hsB⟩ : ∃ sB, sB = failS s2 5 p2 := ⟨_, rfl⟩
          have HB : Hid (sB = stB fin sR) := by show _ = _; rw [hsB]; exact HB0.out
          rw [← hsB] at HO
          clear ho hsB HB0
          go_wp2_with fail
          try go_at_call 120
          refine (rtoken_c (w0 := w0) (bp := bp) (fin := fin) (all := all) (v := v) (blk b3 (tobj ⟨k2, p2, n2, u2⟩) :: blk b6 (f7 u x) :: blk b2 fobj0 :: ps) sB _ HN.out HO.out).mono ?_
          rintro e W12 ⟨rfl, ho⟩
          obtain ⟨⟨k3, p3, n3, u3⟩, ht⟩ : ∃ t, t = nextT sB := ⟨_, rfl⟩
          obtain ⟨s4, hs4⟩ : ∃ s4, s4 = nextS fin sB := ⟨_, rfl⟩
          rw [← ht]
          rw [← hs4] at ho
          simp only [tval]
          have HT3 := Lib.hid ht
          have HS4 := Lib.hid hs4
          have HO3 := Lib.hid ho.swap
          obtain ⟨W13, hW13⟩ : ∃ W13, W13 = (((W12.setCell ⟨b3, 0, none⟩ (.int .i64 k3)).setCell ⟨b3, 1, none⟩ (.int .i64 p3)).setCell ⟨b3, 2, none⟩ (.int .i64 n3)).setCell ⟨b3, 3, none⟩ (.string (bs u3)) := ⟨_, rfl⟩
          replace HO : Hid (Owns w0 W13 (rdP w0 bp fin all v s4 :: blk b3 (tobj ⟨k3, p3, n3, u3⟩) :: blk b6 (f7 u x) :: blk b2 fobj0 :: ps)) := by
            rw [hW13]
            exact Lib.hid ((((HO3.out.store (i := 0) (.int .i64 k3)).store (i := 1) (.int .i64 p3)).store (i := 2) (.int .i64 n3)).store (i := 3) (.string (bs u3))).swap
          clear ho ht hs4
          by_cases hk3 : k3 = 2
          · have hk3' : ((k3 : Int) != 2) = false := by simp; omega
            have HDD : Hid (s4 = stD fin sB) := by
              show _ = _
              rw [stD, ← HT3.out, if_neg (by simpa using hk3), ← HS4.out]
            clear hk3
            by_cases hn3 : 1000000 < n3
            · have hn3' : (1000000 : Int) < (n3 : Int) := by omega
              have HD : Hid (Did (oneF fin (n + 1)) s (.mk 3 u x n3 []) (failS s4 10 p3)) := HDt.out sB ⟨k3, p3, n3, u3⟩ s4 (failS s4 10 p3) HB.out HT3.out HDD.out (by rw [stE, if_pos hn3])
              clear hn3
              focus
                obtain ⟨bk, -⟩ := HO3.out.blk
                have hbt := lt_of_block bk
                have ft0 := free_of_heap bk (i := 0)
                have ft1 := free_of_heap bk (i := 1)
                have ft2 := free_of_heap bk (i := 2)
                have ft3 := free_of_heap bk (i := 3)
                have ct0 := cell_of_heap bk (i := 0)
                have ct1 := cell_of_heap bk (i := 1)
                have ct2 := cell_of_heap bk (i := 2)
                have ct3 := cell_of_heap bk (i := 3)
                simp only [List.getElem?_toArray, List.getElem?_cons_succ, List.getElem?_cons_zero] at ct0 ct1 ct2 ct3
                clear bk
                go_wp2_with fail
                rw [← hW13]
                clear hW13
                clear hbt ft0 ft1 ft2 ft3 ct0 ct1 ct2 ct3
              try go_at_call 60
              refine (rfail_c (w0 := w0) (bp := bp) (fin := fin) (all := all) (v := v) (blk b3 (tobj ⟨k3, p3, n3, u3⟩) :: blk b6 (f7 u x) :: blk b2 fobj0 :: ps) s4 10 p3 (by omega) (by omega) _ HO.out).mono ?_
              clear HO
              rintro e W14 ⟨rfl, ho⟩
              have HO := Lib.hid ho
              clear ho
              simp only []
              obtain ⟨bk, -⟩ := HO.out.swap.blk
              have hbt := lt_of_block bk
              have ft0 := free_of_heap bk (i := 0)
              have ft1 := free_of_heap bk (i := 1)
              have ft2 := free_of_heap bk (i := 2)
              have ft3 := free_of_heap bk (i := 3)
              have ct0 := cell_of_heap bk (i := 0)
              have ct1 := cell_of_heap bk (i := 1)
              have ct2 := cell_of_heap bk (i := 2)
              have ct3 := cell_of_heap bk (i := 3)
              simp only [List.getElem?_toArray, List.getElem?_cons_succ, List.getElem?_cons_zero] at ct0 ct1 ct2 ct3
              clear bk
              obtain ⟨bk, -⟩ := (HO.out.re [2, 0, 1]).blk
              have hbe := lt_of_block bk
              have fe0 := free_of_heap bk (i := 0)
              have fe1 := free_of_heap bk (i := 1)
              have fe2 := free_of_heap bk (i := 2)
              have fe3 := free_of_heap bk (i := 3)
              have fe4 := free_of_heap bk (i := 4)
              have ce0 := cell_of_heap bk (i := 0)
              have ce1 := cell_of_heap bk (i := 1)
              have ce2 := cell_of_heap bk (i := 2)
              have ce3 := cell_of_heap bk (i := 3)
              have ce4 := cell_of_heap bk (i := 4)
              simp only [List.getElem?_toArray, List.getElem?_cons_succ, List.getElem?_cons_zero] at ce0 ce1 ce2 ce3 ce4
              clear bk
              obtain ⟨bk, -⟩ := (HO.out.re [3, 0, 1, 2]).blk
              have hbz := lt_of_block bk
              have fz0 := free_of_heap bk (i := 0)
              have fz1 := free_of_heap bk (i := 1)
              have fz2 := free_of_heap bk (i := 2)
              have fz3 := free_of_heap bk (i := 3)
              have fz4 := free_of_heap bk (i := 4)
              have cz0 := cell_of_heap bk (i := 0)
              have cz1 := cell_of_heap bk (i := 1)
              have cz2 := cell_of_heap bk (i := 2)
              have cz3 := cell_of_heap bk (i := 3)
              have cz4 := cell_of_heap bk (i := 4)
              simp only [List.getElem?_toArray, List.getElem?_cons_succ, List.getElem?_cons_zero] at cz0 cz1 cz2 cz3 cz4
              clear bk
              have m36 := Owns.ne (HO.out.re [1, 2, 0])
              have m36' := m36.symm
              have m32 := Owns.ne (HO.out.re [1, 3, 0, 2])
              have m32' := m32.symm
              have m62 := Owns.ne (HO.out.re [2, 3, 0, 1])
              have m62' := m62.symm
              repeat (first | go_values | go_skip | go_guarded | go_step | go_upon)
              have h1 := ((HO.out.re [2, 0, 1]).store (i := 3) (.int .i64 n3)).re [3, 1, 2, 0]
              have h2 := ((((Owns.store h1 (i := 0) (.int .i64 3)).store (i := 1) (.string (bs u))).store (i := 2) (.int .i64 x)).store (i := 3) (.int .i64 n3)).store (i := 4) (.slice none 0 0)
              have h3 := (h2.pop.re [1, 2, 0]).pop.pop.leaf 3 u x n3 none 0
              exact bodyPost_ret (rnot_res rfl h2.blk.1) (by rfl) (by first | exact ⟨_, _, _, rfl, HD.out, h3⟩ | exact ⟨_, _, rfl, _, HD.out, h3⟩)
            · have hn3' : ¬ (1000000 : Int) < (n3 : Int) := by omega
              have HD : Hid (Did (oneF fin (n + 1)) s (.mk 3 u x n3 []) s4) := HDt.out sB ⟨k3, p3, n3, u3⟩ s4 s4 HB.out HT3.out HDD.out (by rw [stE, if_neg hn3])
              clear hn3
              subst hW13
              obtain ⟨bk, -⟩ := HO3.out.blk
              have hbt := lt_of_block bk
              have ft0 := free_of_heap bk (i := 0)
              have ft1 := free_of_heap bk (i := 1)
              have ft2 := free_of_heap bk (i := 2)
              have ft3 := free_of_heap bk (i := 3)
              have ct0 := cell_of_heap bk (i := 0)
              have ct1 := cell_of_heap bk (i := 1)
              have ct2 := cell_of_heap bk (i := 2)
              have ct3 := cell_of_heap bk (i := 3)
              simp only [List.getElem?_toArray, List.getElem?_cons_succ, List.getElem?_cons_zero] at ct0 ct1 ct2 ct3
              clear bk
              obtain ⟨bk, -⟩ := (HO3.out.re [2, 0, 1]).blk
              have hbe := lt_of_block bk
              have fe0 := free_of_heap bk (i := 0)
              have fe1 := free_of_heap bk (i := 1)
              have fe2 := free_of_heap bk (i := 2)
              have fe3 := free_of_heap bk (i := 3)
              have fe4 := free_of_heap bk (i := 4)
              have ce0 := cell_of_heap bk (i := 0)
              have ce1 := cell_of_heap bk (i := 1)
              have ce2 := cell_of_heap bk (i := 2)
              have ce3 := cell_of_heap bk (i := 3)
              have ce4 := cell_of_heap bk (i := 4)
              simp only [List.getElem?_toArray, List.getElem?_cons_succ, List.getElem?_cons_zero] at ce0 ce1 ce2 ce3 ce4
              clear bk
              obtain ⟨bk, -⟩ := (HO3.out.re [3, 0, 1, 2]).blk
              have hbz := lt_of_block bk
              have fz0 := free_of_heap bk (i := 0)
              have fz1 := free_of_heap bk (i := 1)
              have fz2 := free_of_heap bk (i := 2)
              have fz3 := free_of_heap bk (i := 3)
              have fz4 := free_of_heap bk (i := 4)
              have cz0 := cell_of_heap bk (i := 0)
              have cz1 := cell_of_heap bk (i := 1)
              have cz2 := cell_of_heap bk (i := 2)
              have cz3 := cell_of_heap bk (i := 3)
              have cz4 := cell_of_heap bk (i := 4)
              simp only [List.getElem?_toArray, List.getElem?_cons_succ, List.getElem?_cons_zero] at cz0 cz1 cz2 cz3 cz4
              clear bk
              have m36 := Owns.ne (HO3.out.re [0, 2, 1])
              have m36' := m36.symm
              have m32 := Owns.ne (HO3.out.re [0, 3, 1, 2])
              have m32' := m32.symm
              have m62 := Owns.ne (HO3.out.re [2, 3, 0, 1])
              have m62' := m62.symm
              repeat (first | go_values | go_skip | go_guarded | go_step | go_upon)
              have h1 := ((HO.out.re [2, 0, 1]).store (i := 3) (.int .i64 n3)).re [3, 1, 2, 0]
              have h2 := ((((Owns.store h1 (i := 0) (.int .i64 3)).store (i := 1) (.string (bs u))).store (i := 2) (.int .i64 x)).store (i := 3) (.int .i64 n3)).store (i := 4) (.slice none 0 0)
              have h3 := (h2.pop.re [1, 2, 0]).pop.pop.leaf 3 u x n3 none 0
              exact bodyPost_ret (rnot_res rfl h2.blk.1) (by rfl) (by first | exact ⟨_, _, _, rfl, HD.out, h3⟩ | exact ⟨_, _, rfl, _, HD.out, h3⟩)
          · have hk3' : ((k3 : Int) != 2) = true := by simp; omega
            have HDD : Hid (failS s4 5 p3 = stD fin sB) := by
              show _ = _
              rw [stD, ← HT3.out, if_pos (by simpa using hk3), ← HS4.out]
            clear hk3
            focus
              obtain ⟨bk, -⟩ := HO3.out.blk
              have hbt := lt_of_block bk
              have ft0 := free_of_heap bk (i := 0)
              have ft1 := free_of_heap bk (i := 1)
              have ft2 := free_of_heap bk (i := 2)
              have ft3 := free_of_heap bk (i := 3)
              have ct0 := cell_of_heap bk (i := 0)
              have ct1 := cell_of_heap bk (i := 1)
              have ct2 := cell_of_heap bk (i := 2)
              have ct3 := cell_of_heap bk (i := 3)
              simp only [List.getElem?_toArray, List.getElem?_cons_succ, List.getElem?_cons_zero] at ct0 ct1 ct2 ct3
              clear bk
              go_wp2_with fail
              rw [← hW13]
              clear hW13
              clear hbt ft0 ft1 ft2 ft3 ct0 ct1 ct2 ct3
            try go_at_call 60
            refine (rfail_c (w0 := w0) (bp := bp) (fin := fin) (all := all) (v := v) (blk b3 (tobj ⟨k3, p3, n3, u3⟩) :: blk b6 (f7 u x) :: blk b2 fobj0 :: ps) s4 5 p3 (by omega) (by omega) _ HO.out).mono ?_
            clear HO
            rintro e W14 ⟨rfl, ho⟩
            have HO := Lib.hid ho
            clear ho
            simp only []
            by_cases hn3 : 1000000 < n3
            · have hn3' : (1000000 : Int) < (n3 : Int) := by omega
              have HD : Hid (Did (oneF fin (n + 1)) s (.mk 3 u x n3 []) (failS (failS s4 5 p3) 10 p3)) := HDt.out sB ⟨k3, p3, n3, u3⟩ _ _ HB.out HT3.out HDD.out (by rw [stE, if_pos hn3])
              clear hn3
              focus
                obtain ⟨bk, -⟩ := HO.out.swap.blk
                have hbt := lt_of_block bk
                have ft0 := free_of_heap bk (i := 0)
                have ft1 := free_of_heap bk (i := 1)
                have ft2 := free_of_heap bk (i := 2)
                have ft3 := free_of_heap bk (i := 3)
                have ct0 := cell_of_heap bk (i := 0)
                have ct1 := cell_of_heap bk (i := 1)
                have ct2 := cell_of_heap bk (i := 2)
                have ct3 := cell_of_heap bk (i := 3)
                simp only [List.getElem?_toArray, List.getElem?_cons_succ, List.getElem?_cons_zero] at ct0 ct1 ct2 ct3
                clear bk
                go_wp2_with fail
                clear hbt ft0 ft1 ft2 ft3 ct0 ct1 ct2 ct3
              try go_at_call 60
              refine (rfail_c (w0 := w0) (bp := bp) (fin := fin) (all := all) (v := v) (blk b3 (tobj ⟨k3, p3, n3, u3⟩) :: blk b6 (f7 u x) :: blk b2 fobj0 :: ps) (failS s4 5 p3) 10 p3 (by omega) (by omega) _ HO.out).mono ?_
              clear HO
              rintro e W14 ⟨rfl, ho⟩
              have HO := Lib.hid ho
              clear ho
              simp only []
              obtain ⟨bk, -⟩ := HO.out.swap.blk
              have hbt := lt_of_block bk
              have ft0 := free_of_heap bk (i := 0)
              have ft1 := free_of_heap bk (i := 1)
              have ft2 := free_of_heap bk (i := 2)
              have ft3 := free_of_heap bk (i := 3)
              have ct0 := cell_of_heap bk (i := 0)
              have ct1 := cell_of_heap bk (i := 1)
              have ct2 := cell_of_heap bk (i := 2)
              have ct3 := cell_of_heap bk (i := 3)
              simp only [List.getElem?_toArray, List.getElem?_cons_succ, List.getElem?_cons_zero] at ct0 ct1 ct2 ct3
              clear bk
              obtain ⟨bk, -⟩ := (HO.out.re [2, 0, 1]).blk
              have hbe := lt_of_block bk
              have fe0 := free_of_heap bk (i := 0)
              have fe1 := free_of_heap bk (i := 1)
              have fe2 := free_of_heap bk (i := 2)
              have fe3 := free_of_heap bk (i := 3)
              have fe4 := free_of_heap bk (i := 4)
              have ce0 := cell_of_heap bk (i := 0)
              have ce1 := cell_of_heap bk (i := 1)
              have ce2 := cell_of_heap bk (i := 2)
              have ce3 := cell_of_heap bk (i := 3)
              have ce4 := cell_of_heap bk (i := 4)
              simp only [List.getElem?_toArray, List.getElem?_cons_succ, List.getElem?_cons_zero] at ce0 ce1 ce2 ce3 ce4
              clear bk
              obtain ⟨bk, -⟩ := (HO.out.re [3, 0, 1, 2]).blk
              have hbz := lt_of_block bk
              have fz0 := free_of_heap bk (i := 0)
              have fz1 := free_of_heap bk (i := 1)
              have fz2 := free_of_heap bk (i := 2)
              have fz3 := free_of_heap bk (i := 3)
              have fz4 := free_of_heap bk (i := 4)
              have cz0 := cell_of_heap bk (i := 0)
              have cz1 := cell_of_heap bk (i := 1)
              have cz2 := cell_of_heap bk (i := 2)
              have cz3 := cell_of_heap bk (i := 3)
              have cz4 := cell_of_heap bk (i := 4)
              simp only [List.getElem?_toArray, List.getElem?_cons_succ, List.getElem?_cons_zero] at cz0 cz1 cz2 cz3 cz4
              clear bk
              have m36 := Owns.ne (HO.out.re [1, 2, 0])
              have m36' := m36.symm
              have m32 := Owns.ne (HO.out.re [1, 3, 0, 2])
              have m32' := m32.symm
              have m62 := Owns.ne (HO.out.re [2, 3, 0, 1])
              have m62' := m62.symm
              repeat (first | go_values | go_skip | go_guarded | go_step | go_upon)
              have h1 := ((HO.out.re [2, 0, 1]).store (i := 3) (.int .i64 n3)).re [3, 1, 2, 0]
              have h2 := ((((Owns.store h1 (i := 0) (.int .i64 3)).store (i := 1) (.string (bs u))).store (i := 2) (.int .i64 x)).store (i := 3) (.int .i64 n3)).store (i := 4) (.slice none 0 0)
              have h3 := (h2.pop.re [1, 2, 0]).pop.pop.leaf 3 u x n3 none 0
              exact bodyPost_ret (rnot_res rfl h2.blk.1) (by rfl) (by first | exact ⟨_, _, _, rfl, HD.out, h3⟩ | exact ⟨_, _, rfl, _, HD.out, h3⟩)
            · have hn3' : ¬ (1000000 : Int) < (n3 : Int) := by omega
              have HD : Hid (Did (oneF fin (n + 1)) s (.mk 3 u x n3 []) (failS s4 5 p3)) := HDt.out sB ⟨k3, p3, n3, u3⟩ _ _ HB.out HT3.out HDD.out (by rw [stE, if_neg hn3])
              clear hn3
              obtain ⟨bk, -⟩ := HO.out.swap.blk
              have hbt := lt_of_block bk
              have ft0 := free_of_heap bk (i := 0)
              have ft1 := free_of_heap bk (i := 1)
              have ft2 := free_of_heap bk (i := 2)
              have ft3 := free_of_heap bk (i := 3)
              have ct0 := cell_of_heap bk (i := 0)
              have ct1 := cell_of_heap bk (i := 1)
              have ct2 := cell_of_heap bk (i := 2)
              have ct3 := cell_of_heap bk (i := 3)
              simp only [List.getElem?_toArray, List.getElem?_cons_succ, List.getElem?_cons_zero] at ct0 ct1 ct2 ct3
              clear bk
              obtain ⟨bk, -⟩ := (HO.out.re [2, 0, 1]).blk
              have hbe := lt_of_block bk
              have fe0 := free_of_heap bk (i := 0)
              have fe1 := free_of_heap bk (i := 1)
              have fe2 := free_of_heap bk (i := 2)
              have fe3 := free_of_heap bk (i := 3)
              have fe4 := free_of_heap bk (i := 4)
              have ce0 := cell_of_heap bk (i := 0)
              have ce1 := cell_of_heap bk (i := 1)
              have ce2 := cell_of_heap bk (i := 2)
              have ce3 := cell_of_heap bk (i := 3)
              have ce4 := cell_of_heap bk (i := 4)
              simp only [List.getElem?_toArray, List.getElem?_cons_succ, List.getElem?_cons_zero] at ce0 ce1 ce2 ce3 ce4
              clear bk
              obtain ⟨bk, -⟩ := (HO.out.re [3, 0, 1, 2]).blk
              have hbz := lt_of_block bk
              have fz0 := free_of_heap bk (i := 0)
              have fz1 := free_of_heap bk (i := 1)
              have fz2 := free_of_heap bk (i := 2)
              have fz3 := free_of_heap bk (i := 3)
              have fz4 := free_of_heap bk (i := 4)
              have cz0 := cell_of_heap bk (i := 0)
              have cz1 := cell_of_heap bk (i := 1)
              have cz2 := cell_of_heap bk (i := 2)
              have cz3 := cell_of_heap bk (i := 3)
              have cz4 := cell_of_heap bk (i := 4)
              simp only [List.getElem?_toArray, List.getElem?_cons_succ, List.getElem?_cons_zero] at cz0 cz1 cz2 cz3 cz4
              clear bk
              have m36 := Owns.ne (HO.out.re [1, 2, 0])
              have m36' := m36.symm
              have m32 := Owns.ne (HO.out.re [1, 3, 0, 2])
              have m32' := m32.symm
              have m62 := Owns.ne (HO.out.re [2, 3, 0, 1])
              have m62' := m62.symm
              repeat (first | go_values | go_skip | go_guarded | go_step | go_upon)
              have h1 := ((HO.out.re [2, 0, 1]).store (i := 3) (.int .i64 n3)).re [3, 1, 2, 0]
              have h2 := ((((Owns.store h1 (i := 0) (.int .i64 3)).store (i := 1) (.string (bs u))).store (i := 2) (.int .i64 x)).store (i := 3) (.int .i64 n3)).store (i := 4) (.slice none 0 0)
              have h3 := (h2.pop.re [1, 2, 0]).pop.pop.leaf 3 u x n3 none 0
              exact bodyPost_ret (rnot_res rfl h2.blk.1) (by rfl) (by first | exact ⟨_, _, _, rfl, HD.out, h3⟩ | exact ⟨_, _, rfl, _, HD.out, h3⟩)
        · have hx0' : ((x : Int) == 0) = false := by simpa using hx0
          have HB0 : Hid (s2 = stB fin sR) := by
            show _ = _
            rw [stR_eq, ← HX.out, if_neg hx0, ← HS2.out]
          clear hx0
          focus
            obtain ⟨bk, -⟩ := (HO.out.re [2, 0, 1]).blk
            have hbe := lt_of_block bk
            have fe0 := free_of_heap bk (i := 0)
            have fe1 := free_of_heap bk (i := 1)
            have fe2 := free_of_heap bk (i := 2)
            have fe3 := free_of_heap bk (i := 3)
            have fe4 := free_of_heap bk (i := 4)
            have ce0 := cell_of_heap bk (i := 0)
            have ce1 := cell_of_heap bk (i := 1)
            have ce2 := cell_of_heap bk (i := 2)
            have ce3 := cell_of_heap bk (i := 3)
            have ce4 := cell_of_heap bk (i := 4)
            simp only [List.getElem?_toArray, List.getElem?_cons_succ, List.getElem?_cons_zero] at ce0 ce1 ce2 ce3 ce4
            clear bk
            go_wp2_with fail
            clear hbe fe0 fe1 fe2 fe3 fe4 ce0 ce1 ce2 ce3 ce4
          replace HO := Lib.hid (HO.out.re [1, 0, 2])
          obtain ⟨sB, hsB⟩ : ∃ sB, sB = s2 := ⟨_, rfl⟩
          have HB : Hid (sB = stB fin sR) := by show _ = _; rw [hsB]; exact HB0.out
          rw [← hsB] at HO
          clear hsB HB0
          try go_at_call 120
          refine (rtoken_c (w0 := w0) (bp := bp) (fin := fin) (all := all) (v := v) (blk b3 (tobj ⟨k2, p2, n2, u2⟩) :: blk b6 (f7 u x) :: blk b2 fobj0 :: ps) sB _ HN.out HO.out).mono ?_
          rintro e W12 ⟨rfl, ho⟩
          obtain ⟨⟨k3, p3, n3, u3⟩, ht⟩ : ∃ t, t = nextT sB := ⟨_, rfl⟩
          obtain ⟨s4, hs4⟩ : ∃ s4, s4 = nextS fin sB := ⟨_, rfl⟩
          rw [← ht]
          rw [← hs4] at ho
          simp only [tval]
          have HT3 := Lib.hid ht
          have HS4 := Lib.hid hs4
          have HO3 := Lib.hid ho.swap
          obtain ⟨W13, hW13⟩ : ∃ W13, W13 = (((W12.setCell ⟨b3, 0, none⟩ (.int .i64 k3)).setCell ⟨b3, 1, none⟩ (.int .i64 p3)).setCell ⟨b3, 2, none⟩ (.int .i64 n3)).setCell ⟨b3, 3, none⟩ (.string (bs u3)) := ⟨_, rfl⟩
          replace HO : Hid (Owns w0 W13 (rdP w0 bp fin all v s4 :: blk b3 (tobj ⟨k3, p3, n3, u3⟩) :: blk b6 (f7 u x) :: blk b2 fobj0 :: ps)) := by
            rw [hW13]
            exact Lib.hid ((((HO3.out.store (i := 0) (.int .i64 k3)).store (i := 1) (.int .i64 p3)).store (i := 2) (.int .i64 n3)).store (i := 3) (.string (bs u3))).swap
          clear ho ht hs4
          by_cases hk3 : k3 = 2
          · have hk3' : ((k3 : Int) != 2) = false := by simp; omega
            have HDD : Hid (s4 = stD fin sB) := by
              show _ = _
              rw [stD, ← HT3.out, if_neg (by simpa using hk3), ← HS4.out]
            clear hk3
            by_cases hn3 : 1000000 < n3
            · have hn3' : (1000000 : Int) < (n3 : Int) := by omega
              have HD : Hid (Did (oneF fin (n + 1)) s (.mk 3 u x n3 []) (failS s4 10 p3)) := HDt.out sB ⟨k3, p3, n3, u3⟩ s4 (failS s4 10 p3) HB.out HT3.out HDD.out (by rw [stE, if_pos hn3])
              clear hn3
              focus
                obtain ⟨bk, -⟩ := HO3.out.blk
                have hbt := lt_of_block bk
                have ft0 := free_of_heap bk (i := 0)
                have ft1 := free_of_heap bk (i := 1)
                have ft2 := free_of_heap bk (i := 2)
                have ft3 := free_of_heap bk (i := 3)
                have ct0 := cell_of_heap bk (i := 0)
                have ct1 := cell_of_heap bk (i := 1)
                have ct2 := cell_of_heap bk (i := 2)
                have ct3 := cell_of_heap bk (i := 3)
                simp only [List.getElem?_toArray, List.getElem?_cons_succ, List.getElem?_cons_zero] at ct0 ct1 ct2 ct3
                clear bk
                go_wp2_with fail
                rw [← hW13]
                clear hW13
                clear hbt ft0 ft1 ft2 ft3 ct0 ct1 ct2 ct3
              try go_at_call 60
              refine (rfail_c (w0 := w0) (bp := bp) (fin := fin) (all := all) (v := v) (blk b3 (tobj ⟨k3, p3, n3, u3⟩) :: blk b6 (f7 u x) :: blk b2 fobj0 :: ps) s4 10 p3 (by omega) (by omega) _ HO.out).mono ?_
              clear HO
              rintro e W14 ⟨rfl, ho⟩
              have HO := Lib.hid ho
              clear ho
              simp only []
              obtain ⟨bk, -⟩ := HO.out.swap.blk
              have hbt := lt_of_block bk
              have ft0 := free_of_heap bk (i := 0)
              have ft1 := free_of_heap bk (i := 1)
              have ft2 := free_of_heap bk (i := 2)
              have ft3 := free_of_heap bk (i := 3)
              have ct0 := cell_of_heap bk (i := 0)
              have ct1 := cell_of_heap bk (i := 1)
              have ct2 := cell_of_heap bk (i := 2)
              have ct3 := cell_of_heap bk (i := 3)
              simp only [List.getElem?_toArray, List.getElem?_cons_succ, List.getElem?_cons_zero] at ct0 ct1 ct2 ct3
              clear bk
              obtain ⟨bk, -⟩ := (HO.out.re [2, 0, 1]).blk
              have hbe := lt_of_block bk
              have fe0 := free_of_heap bk (i := 0)
              have fe1 := free_of_heap bk (i := 1)
              have fe2 := free_of_heap bk (i := 2)
              have fe3 := free_of_heap bk (i := 3)
              have fe4 := free_of_heap bk (i := 4)
              have ce0 := cell_of_heap bk (i := 0)
              have ce1 := cell_of_heap bk (i := 1)
              have ce2 := cell_of_heap bk (i := 2)
              have ce3 := cell_of_heap bk (i := 3)
              have ce4 := cell_of_heap bk (i := 4)
              simp only [List.getElem?_toArray, List.getElem?_cons_succ, List.getElem?_cons_zero] at ce0 ce1 ce2 ce3 ce4
              clear bk
              obtain ⟨bk, -⟩ := (HO.out.re [3, 0, 1, 2]).blk
              have hbz := lt_of_block bk
              have fz0 := free_of_heap bk (i := 0)
              have fz1 := free_of_heap bk (i := 1)
              have fz2 := free_of_heap bk (i := 2)
              have fz3 := free_of_heap bk (i := 3)
              have fz4 := free_of_heap bk (i := 4)
              have cz0 := cell_of_heap bk (i := 0)
              have cz1 := cell_of_heap bk (i := 1)
              have cz2 := cell_of_heap bk (i := 2)
              have cz3 := cell_of_heap bk (i := 3)
              have cz4 := cell_of_heap bk (i := 4)
              simp only [List.getElem?_toArray, List.getElem?_cons_succ, List.getElem?_cons_zero] at cz0 cz1 cz2 cz3 cz4
              clear bk
              have m36 := Owns.ne (HO.out.re [1, 2, 0])
              have m36' := m36.symm
              have m32 := Owns.ne (HO.out.re [1, 3, 0, 2])
              have m32' := m32.symm
              have m62 := Owns.ne (HO.out.re [2, 3, 0, 1])
              have m62' := m62.symm
              repeat (first | go_values | go_skip | go_guarded | go_step | go_upon)
              have h1 := ((HO.out.re [2, 0, 1]).store (i := 3) (.int .i64 n3)).re [3, 1, 2, 0]
              have h2 := ((((Owns.store h1 (i := 0) (.int .i64 3)).store (i := 1) (.string (bs u))).store (i := 2) (.int .i64 x)).store (i := 3) (.int .i64 n3)).store (i := 4) (.slice none 0 0)
              have h3 := (h2.pop.re [1, 2, 0]).pop.pop.leaf 3 u x n3 none 0
              exact bodyPost_ret (rnot_res rfl h2.blk.1) (by rfl) (by first | exact ⟨_, _, _, rfl, HD.out, h3⟩ | exact ⟨_, _, rfl, _, HD.out, h3⟩)
            · have hn3' : ¬ (1000000 : Int) < (n3 : Int) := by omega
              have HD : Hid (Did (oneF fin (n + 1)) s (.mk 3 u x n3 []) s4) := HDt.out sB ⟨k3, p3, n3, u3⟩ s4 s4 HB.out HT3.out HDD.out (by rw [stE, if_neg hn3])
              clear hn3
              subst hW13
              obtain ⟨bk, -⟩ := HO3.out.blk
              have hbt := lt_of_block bk
              have ft0 := free_of_heap bk (i := 0)
              have ft1 := free_of_heap bk (i := 1)
              have ft2 := free_of_heap bk (i := 2)
              have ft3 := free_of_heap bk (i := 3)
              have ct0 := cell_of_heap bk (i := 0)
              have ct1 := cell_of_heap bk (i := 1)
              have ct2 := cell_of_heap bk (i := 2)
              have ct3 := cell_of_heap bk (i := 3)
              simp only [List.getElem?_toArray, List.getElem?_cons_succ, List.getElem?_cons_zero] at ct0 ct1 ct2 ct3
              clear bk
              obtain ⟨bk, -⟩ := (HO3.out.re [2, 0, 1]).blk
              have hbe := lt_of_block bk
              have fe0 := free_of_heap bk (i := 0)
              have fe1 := free_of_heap bk (i := 1)
              have fe2 := free_of_heap bk (i := 2)
              have fe3 := free_of_heap bk (i := 3)
              have fe4 := free_of_heap bk (i := 4)
              have ce0 := cell_of_heap bk (i := 0)
              have ce1 := cell_of_heap bk (i := 1)
              have ce2 := cell_of_heap bk (i := 2)
              have ce3 := cell_of_heap bk (i := 3)
              have ce4 := cell_of_heap bk (i := 4)
              simp only [List.getElem?_toArray, List.getElem?_cons_succ, List.getElem?_cons_zero] at ce0 ce1 ce2 ce3 ce4
              clear bk
              obtain ⟨bk, -⟩ := (HO3.out.re [3, 0, 1, 2]).blk
              have hbz := lt_of_block bk
              have fz0 := free_of_heap bk (i := 0)
              have fz1 := free_of_heap bk (i := 1)
              have fz2 := free_of_heap bk (i := 2)
              have fz3 := free_of_heap bk (i := 3)
              have fz4 := free_of_heap bk (i := 4)
              have cz0 := cell_of_heap bk (i := 0)
              have cz1 := cell_of_heap bk (i := 1)
              have cz2 := cell_of_heap bk (i := 2)
              have cz3 := cell_of_heap bk (i := 3)
              have cz4 := cell_of_heap bk (i := 4)
              simp only [List.getElem?_toArray, List.getElem?_cons_succ, List.getElem?_cons_zero] at cz0 cz1 cz2 cz3 cz4
              clear bk
              have m36 := Owns.ne (HO3.out.re [0, 2, 1])
              have m36' := m36.symm
              have m32 := Owns.ne (HO3.out.re [0, 3, 1, 2])
              have m32' := m32.symm
              have m62 := Owns.ne (HO3.out.re [2, 3, 0, 1])
              have m62' := m62.symm
              repeat (first | go_values | go_skip | go_guarded | go_step | go_upon)
              have h1 := ((HO.out.re [2, 0, 1]).store (i := 3) (.int .i64 n3)).re [3, 1, 2, 0]
              have h2 := ((((Owns.store h1 (i := 0) (.int .i64 3)).store (i := 1) (.string (bs u))).store (i := 2) (.int .i64 x)).store (i := 3) (.int .i64 n3)).store (i := 4) (.slice none 0 0)
              have h3 := (h2.pop.re [1, 2, 0]).pop.pop.leaf 3 u x n3 none 0
              exact bodyPost_ret (rnot_res rfl h2.blk.1) (by rfl) (by first | exact ⟨_, _, _, rfl, HD.out, h3⟩ | exact ⟨_, _, rfl, _, HD.out, h3⟩)
          · have hk3' : ((k3 : Int) != 2) = true := by simp; omega
            have HDD : Hid (failS s4 5 p3 = stD fin sB) := by
              show _ = _
              rw [stD, ← HT3.out, if_pos (by simpa using hk3), ← HS4.out]
            clear hk3
            focus
              obtain ⟨bk, -⟩ := HO3.out.blk
              have hbt := lt_of_block bk
              have ft0 := free_of_heap bk (i := 0)
              have ft1 := free_of_heap bk (i := 1)
              have ft2 := free_of_heap bk (i := 2)
              have ft3 := free_of_heap bk (i := 3)
              have ct0 := cell_of_heap bk (i := 0)
              have ct1 := cell_of_heap bk (i := 1)
              have ct2 := cell_of_heap bk (i := 2)
              have ct3 := cell_of_heap bk (i := 3)
              simp only [List.getElem?_toArray, List.getElem?_cons_succ, List.getElem?_cons_zero] at ct0 ct1 ct2 ct3
              clear bk
              go_wp2_with fail
              rw [← hW13]
              clear hW13
              clear hbt ft0 ft1 ft2 ft3 ct0 ct1 ct2 ct3
            try go_at_call 60
            refine (rfail_c (w0 := w0) (bp := bp) (fin := fin) (all := all) (v := v) (blk b3 (tobj ⟨k3, p3, n3, u3⟩) :: blk b6 (f7 u x) :: blk b2 fobj0 :: ps) s4 5 p3 (by omega) (by omega) _ HO.out).mono ?_
            clear HO
            rintro e W14 ⟨rfl, ho⟩
            have HO := Lib.hid ho
            clear ho
            simp only []
            by_cases hn3 : 1000000 < n3
            · have hn3' : (1000000 : Int) < (n3 : Int) := by omega
              have HD : Hid (Did (oneF fin (n + 1)) s (.mk 3 u x n3 []) (failS (failS s4 5 p3) 10 p3)) := HDt.out sB ⟨k3, p3, n3, u3⟩ _ _ HB.out HT3.out HDD.out (by rw [stE, if_pos hn3])
              clear hn3
              focus
                obtain ⟨bk, -⟩ := HO.out.swap.blk
                have hbt := lt_of_block bk
                have ft0 := free_of_heap bk (i := 0)
                have ft1 := free_of_heap bk (i := 1)
                have ft2 := free_of_heap bk (i := 2)
                have ft3 := free_of_heap bk (i := 3)
                have ct0 := cell_of_heap bk (i := 0)
                have ct1 := cell_of_heap bk (i := 1)
                have ct2 := cell_of_heap bk (i := 2)
                have ct3 := cell_of_heap bk (i := 3)
                simp only [List.getElem?_toArray, List.getElem?_cons_succ, List.getElem?_cons_zero] at ct0 ct1 ct2 ct3
                clear bk
                go_wp2_with fail
                clear hbt ft0 ft1 ft2 ft3 ct0 ct1 ct2 ct3
              try go_at_call 60
              refine (rfail_c (w0 := w0) (bp := bp) (fin := fin) (all := all) (v := v) (blk b3 (tobj ⟨k3, p3, n3, u3⟩) :: blk b6 (f7 u x) :: blk b2 fobj0 :: ps) (failS s4 5 p3) 10 p3 (by omega) (by omega) _ HO.out).mono ?_
              clear HO
              rintro e W14 ⟨rfl, ho⟩
              have HO := Lib.hid ho
              clear ho
              simp only []
              obtain ⟨bk, -⟩ := HO.out.swap.blk
              have hbt := lt_of_block bk
              have ft0 := free_of_heap bk (i := 0)
              have ft1 := free_of_heap bk (i := 1)
              have ft2 := free_of_heap bk (i := 2)
              have ft3 := free_of_heap bk (i := 3)
              have ct0 := cell_of_heap bk (i := 0)
              have ct1 := cell_of_heap bk (i := 1)
              have ct2 := cell_of_heap bk (i := 2)
              have ct3 := cell_of_heap bk (i := 3)
              simp only [List.getElem?_toArray, List.getElem?_cons_succ, List.getElem?_cons_zero] at ct0 ct1 ct2 ct3
              clear bk
              obtain ⟨bk, -⟩ := (HO.out.re [2, 0, 1]).blk
              have hbe := lt_of_block bk
              have fe0 := free_of_heap bk (i := 0)
              have fe1 := free_of_heap bk (i := 1)
              have fe2 := free_of_heap bk (i := 2)
              have fe3 := free_of_heap bk (i := 3)
              have fe4 := free_of_heap bk (i := 4)
              have ce0 := cell_of_heap bk (i := 0)
              have ce1 := cell_of_heap bk (i := 1)
              have ce2 := cell_of_heap bk (i := 2)
              have ce3 := cell_of_heap bk (i := 3)
              have ce4 := cell_of_heap bk (i := 4)
              simp only [List.getElem?_toArray, List.getElem?_cons_succ, List.getElem?_cons_zero] at ce0 ce1 ce2 ce3 ce4
              clear bk
              obtain ⟨bk, -⟩ := (HO.out.re [3, 0, 1, 2]).blk
              have hbz := lt_of_block bk
              have fz0 := free_of_heap bk (i := 0)
              have fz1 := free_of_heap bk (i := 1)
              have fz2 := free_of_heap bk (i := 2)
              have fz3 := free_of_heap bk (i := 3)
              have fz4 := free_of_heap bk (i := 4)
              have cz0 := cell_of_heap bk (i := 0)
              have cz1 := cell_of_heap bk (i := 1)
              have cz2 := cell_of_heap bk (i := 2)
              have cz3 := cell_of_heap bk (i := 3)
              have cz4 := cell_of_heap bk (i := 4)
              simp only [List.getElem?_toArray, List.getElem?_cons_succ, List.getElem?_cons_zero] at cz0 cz1 cz2 cz3 cz4
              clear bk
              have m36 := Owns.ne (HO.out.re [1, 2, 0])
              have m36' := m36.symm
              have m32 := Owns.ne (HO.out.re [1, 3, 0, 2])
              have m32' := m32.symm
              have m62 := Owns.ne (HO.out.re [2, 3, 0, 1])
              have m62' := m62.symm
              repeat (first | go_values | go_skip | go_guarded | go_step | go_upon)
              have h1 := ((HO.out.re [2, 0, 1]).store (i := 3) (.int .i64 n3)).re [3, 1, 2, 0]
              have h2 := ((((Owns.store h1 (i := 0) (.int .i64 3)).store (i := 1) (.string (bs u))).store (i := 2) (.int .i64 x)).store (i := 3) (.int .i64 n3)).store (i := 4) (.slice none 0 0)
              have h3 := (h2.pop.re [1, 2, 0]).pop.pop.leaf 3 u x n3 none 0
              exact bodyPost_ret (rnot_res rfl h2.blk.1) (by rfl) (by first | exact ⟨_, _, _, rfl, HD.out, h3⟩ | exact ⟨_, _, rfl, _, HD.out, h3⟩)
            · have hn3' : ¬ (1000000 : Int) < (n3 : Int) := by omega
              have HD : Hid (Did (oneF fin (n + 1)) s (.mk 3 u x n3 []) (failS s4 5 p3)) := HDt.out sB ⟨k3, p3, n3, u3⟩ _ _ HB.out HT3.out HDD.out (by rw [stE, if_neg hn3])
              clear hn3
              obtain ⟨bk, -⟩ := HO.out.swap.blk
              have hbt := lt_of_block bk
              have ft0 := free_of_heap bk (i := 0)
              have ft1 := free_of_heap bk (i := 1)
              have ft2 := free_of_heap bk (i := 2)
              have ft3 := free_of_heap bk (i := 3)
              have ct0 := cell_of_heap bk (i := 0)
              have ct1 := cell_of_heap bk (i := 1)
              have ct2 := cell_of_heap bk (i := 2)
              have ct3 := cell_of_heap bk (i := 3)
              simp only [List.getElem?_toArray, List.getElem?_cons_succ, List.getElem?_cons_zero] at ct0 ct1 ct2 ct3
              clear bk
              obtain ⟨bk, -⟩ := (HO.out.re [2, 0, 1]).blk
              have hbe := lt_of_block bk
              have fe0 := free_of_heap bk (i := 0)
              have fe1 := free_of_heap bk (i := 1)
              have fe2 := free_of_heap bk (i := 2)
              have fe3 := free_of_heap bk (i := 3)
              have fe4 := free_of_heap bk (i := 4)
              have ce0 := cell_of_heap bk (i := 0)
              have ce1 := cell_of_heap bk (i := 1)
              have ce2 := cell_of_heap bk (i := 2)
              have ce3 := cell_of_heap bk (i := 3)
              have ce4 := cell_of_heap bk (i := 4)
              simp only [List.getElem?_toArray, List.getElem?_cons_succ, List.getElem?_cons_zero] at ce0 ce1 ce2 ce3 ce4
              clear bk
              obtain ⟨bk, -⟩ := (HO.out.re [3, 0, 1, 2]).blk
              have hbz := lt_of_block bk
              have fz0 := free_of_heap bk (i := 0)
              have fz1 := free_of_heap bk (i := 1)
              have fz2 := free_of_heap bk (i := 2)
              have fz3 := free_of_heap bk (i := 3)
              have fz4 := free_of_heap bk (i := 4)
              have cz0 := cell_of_heap bk (i := 0)
              have cz1 := cell_of_heap bk (i := 1)
              have cz2 := cell_of_heap bk (i := 2)
              have cz3 := cell_of_heap bk (i := 3)
              have cz4 := cell_of_heap bk (i := 4)
              simp only [List.getElem?_toArray, List.getElem?_cons_succ, List.getElem?_cons_zero] at cz0 cz1 cz2 cz3 cz4
              clear bk
              have m36 := Owns.ne (HO.out.re [1, 2, 0])
              have m36' := m36.symm
              have m32 := Owns.ne (HO.out.re [1, 3, 0, 2])
              have m32' := m32.symm
              have m62 := Owns.ne (HO.out.re [2, 3, 0, 1])
              have m62' := m62.symm
              repeat (first | go_values | go_skip | go_guarded | go_step | go_upon)
              have h1 := ((HO.out.re [2, 0, 1]).store (i := 3) (.int .i64 n3)).re [3, 1, 2, 0]
              have h2 := ((((Owns.store h1 (i := 0) (.int .i64 3)).store (i := 1) (.string (bs u))).store (i := 2) (.int .i64 x)).store (i := 3) (.int .i64 n3)).store (i := 4) (.slice none 0 0)
              have h3 := (h2.pop.re [1, 2, 0]).pop.pop.leaf 3 u x n3 none 0
              exact bodyPost_ret (rnot_res rfl h2.blk.1) (by rfl) (by first | exact ⟨_, _, _, rfl, HD.out, h3⟩ | exact ⟨_, _, rfl, _, HD.out, h3⟩)
  have HDt : Hid (∀ (sB : PSt) (m : Tok) (sD sE : PSt), sB = stB fin s1 → m = nextT sB → sD = stD fin sB → sE = stE m sD → Did (oneF fin (n + 1)) s (.mk 3 u (xT (nextT s1) : Nat) m.num []) sE) := by
    have h := rest_good (fin := fin) (n := n) (t := ⟨kd, po, nu, u⟩) (r := r) HKD.out HU.out.1 HU.out.2.1 HU.out.2.2.1 HU.out.2.2.2 HQ.out.symm
    rw [← HE1.out.2, ← HE1.out.1] at h
    exact Lib.hid h
  obtain ⟨sR, hsR⟩ : ∃ sR, sR = s1 := ⟨_, rfl⟩
  rw [← hsR] at HO HDt
  clear hsR
  obtain ⟨Wd, hWd⟩ : ∃ Wd, Wd = Wc := ⟨_, rfl⟩
  clear hWd
  -- HO : rdP sR, the token's box b3, the result's box b2; HDt : what is read of a comparison from sR on
  obtain ⟨W5, hW5⟩ : ∃ W5, W5 = Wc.alloc (.cells #[.int .i64 3, .string (bs u), .int .i64 0, .int .i64 0, .slice none 0 0] 24) := ⟨_, rfl⟩
  obtain ⟨b6, hb6⟩ : ∃ b6, b6 = Wc.heap.size := ⟨_, rfl⟩
  have HO5 : Hid (Owns w0 W5 (rdP w0 bp fin all v sR :: blk b6 (f7 u 0) :: blk b3 (tobj ⟨kd, po, nu, u⟩) :: blk b2 fobj0 :: ps)) := by
    rw [hW5, hb6]
    exact Lib.hid (HO.out.box (f7 u 0)).swap
  focus
    obtain ⟨bk, -⟩ := HO.out.swap.blk
    have hbt := lt_of_block bk
    have ft0 := free_of_heap bk (i := 0)
    have ft1 := free_of_heap bk (i := 1)
    have ft2 := free_of_heap bk (i := 2)
    have ft3 := free_of_heap bk (i := 3)
    have ct0 := cell_of_heap bk (i := 0)
    have ct1 := cell_of_heap bk (i := 1)
    have ct2 := cell_of_heap bk (i := 2)
    have ct3 := cell_of_heap bk (i := 3)
    simp only [List.getElem?_toArray, List.getElem?_cons_succ, List.getElem?_cons_zero] at ct0 ct1 ct2 ct3
    clear bk
    go_wp2_with fail
    rw [← hW5, ← hb6]
    clear hW5 hb6
    clear hbt ft0 ft1 ft2 ft3 ct0 ct1 ct2 ct3
  replace HO := HO5
  clear HO5
  try go_at_call 120
  refine (rtoken_c (w0 := w0) (bp := bp) (fin := fin) (all := all) (v := v) (blk b6 (f7 u 0) :: blk b3 (tobj ⟨kd, po, nu, u⟩) :: blk b2 fobj0 :: ps) sR W5 HN.out HO.out).mono ?_
  rintro e W6 ⟨rfl, ho⟩
  obtain ⟨⟨k2, p2, n2, u2⟩, ht⟩ : ∃ t, t = nextT sR := ⟨_, rfl⟩
  obtain ⟨s2, hs2⟩ : ∃ s2, s2 = nextS fin sR := ⟨_, rfl⟩
  rw [← ht]
  rw [← hs2] at ho
  simp only [tval]
  have HT2 := Lib.hid ht
  have HS2 := Lib.hid hs2
  have HO3 := Lib.hid (ho.re [2, 0, 1])
  obtain ⟨W7, hW7⟩ : ∃ W7, W7 = (((W6.setCell ⟨b3, 0, none⟩ (.int .i64 k2)).setCell ⟨b3, 1, none⟩ (.int .i64 p2)).setCell ⟨b3, 2, none⟩ (.int .i64 n2)).setCell ⟨b3, 3, none⟩ (.string (bs u2)) := ⟨_, rfl⟩
  replace HO : Hid (Owns w0 W7 (blk b3 (tobj ⟨k2, p2, n2, u2⟩) :: rdP w0 bp fin all v s2 :: blk b6 (f7 u 0) :: blk b2 fobj0 :: ps)) := by
    rw [hW7]
    exact Lib.hid ((((HO3.out.store (i := 0) (.int .i64 k2)).store (i := 1) (.int .i64 p2)).store (i := 2) (.int .i64 n2)).store (i := 3) (.string (bs u2)))
  clear ho ht hs2
  focus
    obtain ⟨bk, -⟩ := HO3.out.blk
    have hbt := lt_of_block bk
    have ft0 := free_of_heap bk (i := 0)
    have ft1 := free_of_heap bk (i := 1)
    have ft2 := free_of_heap bk (i := 2)
    have ft3 := free_of_heap bk (i := 3)
    have ct0 := cell_of_heap bk (i := 0)
    have ct1 := cell_of_heap bk (i := 1)
    have ct2 := cell_of_heap bk (i := 2)
    have ct3 := cell_of_heap bk (i := 3)
    simp only [List.getElem?_toArray, List.getElem?_cons_succ, List.getElem?_cons_zero] at ct0 ct1 ct2 ct3
    clear bk
    go_wp2_with fail
    rw [← hW7]
    clear hW7
    clear hbt ft0 ft1 ft2 ft3 ct0 ct1 ct2 ct3
  clear HO3
  have H0 : Hid (Owns w0 W7 (blk b3 (tobj ⟨k2, p2, n2, u2⟩) :: rdP w0 bp fin all v s2 :: blk b6 (f7 u ((xK ⟨k2, p2, n2, u2⟩ 1 : Nat) : Int)) :: blk b2 fobj0 :: ps)) := by
    rw [xK_one]
    exact HO
  go_loopg [6] 6 (fun gk kv wr => ∃ k : Nat, gk = 7 - k ∧ 1 ≤ k ∧ k ≤ 7 ∧ kv = .int .i64 (k : Int) ∧ Hid (Owns w0 wr (blk b3 (tobj ⟨k2, p2, n2, u2⟩) :: rdP w0 bp fin all v s2 :: blk b6 (f7 u ((xK ⟨k2, p2, n2, u2⟩ k : Nat) : Int)) :: blk b2 fobj0 :: ps)))
  case atStart => exact ⟨1, rfl, by omega, by omega, rfl, H0⟩
  case round =>
    rename_i J1 K1 hJ1 hK1
    clear HO H0
    obtain ⟨k, rfl, hk1, hk7, rfl, HO⟩ := hrel
    go_wp2_with fail
    try go_at_call 75
    refine (comparisons_c wr).mono ?_
    rintro e W8 ⟨gs, rfl, hgs, hW8⟩
    have hb8 : Below wr.heap.size wr W8 := by rw [hW8]; exact (Below.refl _ _).alloc (Nat.le_refl _) _
    replace HO := Lib.hid (HO.out.below hb8)
    clear hW8 hgs hb8
    by_cases hlt : k < 7
    · have hk6 : k ≤ 6 := by omega
      go_wp2_with fail
      refine wp_region_can [6] (List.range 12) (by decide +kernel) (by decide +kernel) ?_
      replace HO := Lib.hid HO.out.drew
      generalize hWd : World.drew _ = W9 at HO ⊢
      clear hWd
      by_cases h24 : k2 = 4
      · have h24' : ((k2 : Int) == 4) = true := by simp; omega
        have H24 := Lib.hid h24
        clear h24
        focus
          obtain ⟨bk, -⟩ := HO.out.blk
          have hbt := lt_of_block bk
          have ft0 := free_of_heap bk (i := 0)
          have ft1 := free_of_heap bk (i := 1)
          have ft2 := free_of_heap bk (i := 2)
          have ft3 := free_of_heap bk (i := 3)
          have ct0 := cell_of_heap bk (i := 0)
          have ct1 := cell_of_heap bk (i := 1)
          have ct2 := cell_of_heap bk (i := 2)
          have ct3 := cell_of_heap bk (i := 3)
          simp only [List.getElem?_toArray, List.getElem?_cons_succ, List.getElem?_cons_zero] at ct0 ct1 ct2 ct3
          clear bk
          iterate 6 (first | (refine cl_do rfl rfl rfl (by first | rfl | simp [okB, lenV, plainV, Act.eval]) (fun _ _ => ?_); go_wp2_with fail) | (refine cl_yes rfl rfl rfl rfl (by first | rfl | simp [okB, lenV, plainV, Act.eval]) (fun _ _ => ?_); go_wp2_with fail))
          clear hbt ft0 ft1 ft2 ft3 ct0 ct1 ct2 ct3
        refine cl_ycall (i := 6) rfl rfl rfl (by first | rfl | simp [okB, lenV, plainV, Act.eval]) (fun K hK => ?_)
        go_wp2_with fail
        try go_at_call 75
        refine (comparisons_c W9).mono ?_
        rintro e W10 ⟨g2, rfl, hg2, hW10⟩
        have hb10 : Below W9.heap.size W9 W10 := by rw [hW10]; exact (Below.refl _ _).alloc (Nat.le_refl _) _
        have bks : W10.heap[g2]? = some symObj := by rw [hW10]; exact new_heap _ _ _ hg2
        have hg2l := lt_of_block bks
        have cs := sym_cell bks hk1 hk6
        have Hb := Lib.hid hb10
        replace HO := Lib.hid (HO.out.below hb10)
        clear hW10 hg2 hb10 bks
        go_wp2_with fail
        refine And.intro Hb.out ?_
        clear Hb
        by_cases hm : u2 = symB (k : Int)
        · have hm' : (u2 == symB (k : Int)) = true := by simpa using hm
          have HX : Hid (xK ⟨k2, p2, n2, u2⟩ (k + 1) = k) := Lib.hid (xK_hit H24.out ((sym_iff hk1 hk6).1 hm))
          clear hm
          iterate 5 (first | (refine cl_do rfl rfl rfl (by first | rfl | simp [okB, lenV, plainV, Act.eval]) (fun _ _ => ?_); go_wp2_with fail) | (refine cl_yes rfl rfl rfl rfl (by first | rfl | simp [okB, lenV, plainV, Act.eval]) (fun _ _ => ?_); go_wp2_with fail))
          refine cl_nil ?_
          have HO6 := Lib.hid (HO.out.re [2, 0, 1])
          have HO7 : Hid (Owns w0 (W10.setCell ⟨b6, 2, none⟩ (.int .i64 (k : Int))) (blk b3 (tobj ⟨k2, p2, n2, u2⟩) :: rdP w0 bp fin all v s2 :: blk b6 (f7 u ((xK ⟨k2, p2, n2, u2⟩ (k + 1) : Nat) : Int)) :: blk b2 fobj0 :: ps)) := by
            rw [HX.out]
            exact Lib.hid ((HO6.out.store (i := 2) (.int .i64 (k : Int))).re [1, 2, 0])
          focus
            obtain ⟨bk, -⟩ := HO6.out.blk
            have hbe := lt_of_block bk
            have fe0 := free_of_heap bk (i := 0)
            have fe1 := free_of_heap bk (i := 1)
            have fe2 := free_of_heap bk (i := 2)
            have fe3 := free_of_heap bk (i := 3)
            have fe4 := free_of_heap bk (i := 4)
            have ce0 := cell_of_heap bk (i := 0)
            have ce1 := cell_of_heap bk (i := 1)
            have ce2 := cell_of_heap bk (i := 2)
            have ce3 := cell_of_heap bk (i := 3)
            have ce4 := cell_of_heap bk (i := 4)
            simp only [List.getElem?_toArray, List.getElem?_cons_succ, List.getElem?_cons_zero] at ce0 ce1 ce2 ce3 ce4
            clear bk
            clear HO
            go_wp2_with fail
            go_roundg (7 - (k + 1))
            case measure => omega
            case rel => exact ⟨k + 1, rfl, by omega, by omega, by go_num, HO7⟩
        · have hm' : (u2 == symB (k : Int)) = false := by simpa using hm
          have HX : Hid (xK ⟨k2, p2, n2, u2⟩ (k + 1) = xK ⟨k2, p2, n2, u2⟩ k) := Lib.hid (xK_miss fun h => hm ((sym_iff hk1 hk6).2 h.2))
          clear hm
          iterate 5 (first | (refine cl_do rfl rfl rfl (by first | rfl | simp [okB, lenV, plainV, Act.eval]) (fun _ _ => ?_); go_wp2_with fail) | (refine cl_yes rfl rfl rfl rfl (by first | rfl | simp [okB, lenV, plainV, Act.eval]) (fun _ _ => ?_); go_wp2_with fail))
          refine cl_nil ?_
          rw [← HX.out] at HO
          go_wp2_with fail
          go_roundg (7 - (k + 1))
          case measure => omega
          case rel => exact ⟨k + 1, rfl, by omega, by omega, by go_num, HO⟩
      · have h24' : ((k2 : Int) == 4) = false := by simp; omega
        have HX : Hid (xK ⟨k2, p2, n2, u2⟩ (k + 1) = xK ⟨k2, p2, n2, u2⟩ k) := Lib.hid (xK_miss fun h => h24 h.1)
        clear h24
        focus
          obtain ⟨bk, -⟩ := HO.out.blk
          have hbt := lt_of_block bk
          have ft0 := free_of_heap bk (i := 0)
          have ft1 := free_of_heap bk (i := 1)
          have ft2 := free_of_heap bk (i := 2)
          have ft3 := free_of_heap bk (i := 3)
          have ct0 := cell_of_heap bk (i := 0)
          have ct1 := cell_of_heap bk (i := 1)
          have ct2 := cell_of_heap bk (i := 2)
          have ct3 := cell_of_heap bk (i := 3)
          simp only [List.getElem?_toArray, List.getElem?_cons_succ, List.getElem?_cons_zero] at ct0 ct1 ct2 ct3
          clear bk
          iterate 12 (first | (refine cl_do rfl rfl rfl (by first | rfl | simp [okB, lenV, plainV, Act.eval]) (fun _ _ => ?_); go_wp2_with fail) | (refine cl_no rfl rfl rfl ?_; go_simp))
          clear hbt ft0 ft1 ft2 ft3 ct0 ct1 ct2 ct3
        refine cl_nil ?_
        rw [← HX.out] at HO
        go_wp2_with fail
        go_roundg (7 - (k + 1))
        case measure => omega
        case rel => exact ⟨k + 1, rfl, by omega, by omega, by go_num, HO⟩
    · obtain rfl : k = 7 := by omega
      obtain ⟨x, hx⟩ : ∃ x, x = xT ⟨k2, p2, n2, u2⟩ := ⟨_, rfl⟩
      rw [xK_last, ← hx] at HO
      have hx6 : x ≤ 6 := by rw [hx]; exact xT_le _
      have HX := Lib.hid hx
      rw [HT2.out] at HX
      rw [← HX.out] at HDt
      clear hx hJ1 hK1 hlt hk1 hk7
      by_cases hx0 : x = 0
      · have hx0' : ((x : Int) == 0) = true := by simpa using hx0
        have HB0 : Hid (failS s2 5 p2 = stB fin sR) := by
          show _ = _
          rw [stR_eq, ← HX.out, if_pos hx0, ← HT2.out, ← HS2.out]
        clear hx0
        focus
          obtain ⟨bk, -⟩ := HO.out.blk
          have hbt := lt_of_block bk
          have ft0 := free_of_heap bk (i := 0)
          have ft1 := free_of_heap bk (i := 1)
          have ft2 := free_of_heap bk (i := 2)
          have ft3 := free_of_heap bk (i := 3)
          have ct0 := cell_of_heap bk (i := 0)
          have ct1 := cell_of_heap bk (i := 1)
          have ct2 := cell_of_heap bk (i := 2)
          have ct3 := cell_of_heap bk (i := 3)
          simp only [List.getElem?_toArray, List.getElem?_cons_succ, List.getElem?_cons_zero] at ct0 ct1 ct2 ct3
          clear bk
          obtain ⟨bk, -⟩ := (HO.out.re [2, 0, 1]).blk
          have hbe := lt_of_block bk
          have fe0 := free_of_heap bk (i := 0)
          have fe1 := free_of_heap bk (i := 1)
          have fe2 := free_of_heap bk (i := 2)
          have fe3 := free_of_heap bk (i := 3)
          have fe4 := free_of_heap bk (i := 4)
          have ce0 := cell_of_heap bk (i := 0)
          have ce1 := cell_of_heap bk (i := 1)
          have ce2 := cell_of_heap bk (i := 2)
          have ce3 := cell_of_heap bk (i := 3)
          have ce4 := cell_of_heap bk (i := 4)
          simp only [List.getElem?_toArray, List.getElem?_cons_succ, List.getElem?_cons_zero] at ce0 ce1 ce2 ce3 ce4
          clear bk
          go_wp2_with fail
          clear hbt ft0 ft1 ft2 ft3 ct0 ct1 ct2 ct3
          clear hbe fe0 fe1 fe2 fe3 fe4 ce0 ce1 ce2 ce3 ce4
        try go_at_call 60
        refine (rfail_c (w0 := w0) (bp := bp) (fin := fin) (all := all) (v := v) (blk b3 (tobj ⟨k2, p2, n2, u2⟩) :: blk b6 (f7 u (x : Int)) :: blk b2 fobj0 :: ps) s2 5 p2 (by omega) (by omega) _ (HO.out.re [1, 0, 2])).mono ?_
        rintro e W11 ⟨rfl, ho⟩
        replace HO := Lib.hid ho
        obtain ⟨sB, hsB⟩ : ∃ sB, sB = failS s2 5 p2 := ⟨_, rfl⟩
        have HB : Hid (sB = stB fin sR) := by show _ = _; rw [hsB]; exact HB0.out
        rw [← hsB] at HO
        clear ho hsB HB0
        go_wp2_with fail
        try go_at_call 120
        refine (rtoken_c (w0 := w0) (bp := bp) (fin := fin) (all := all) (v := v) (blk b3 (tobj ⟨k2, p2, n2, u2⟩) :: blk b6 (f7 u x) :: blk b2 fobj0 :: ps) sB _ HN.out HO.out).mono ?_
        rintro e W12 ⟨rfl, ho⟩
        obtain ⟨⟨k3, p3, n3, u3⟩, ht⟩ : ∃ t, t = nextT sB := ⟨_, rfl⟩
        obtain ⟨s4, hs4⟩ : ∃ s4, s4 = nextS fin sB := ⟨_, rfl⟩
        rw [← ht]
        rw [← hs4] at ho
        simp only [tval]
        have HT3 := Lib.hid ht
        have HS4 := Lib.hid hs4
        have HO3 := Lib.hid ho.swap
        obtain ⟨W13, hW13⟩ : ∃ W13, W13 = (((W12.setCell ⟨b3, 0, none⟩ (.int .i64 k3)).setCell ⟨b3, 1, none⟩ (.int .i64 p3)).setCell ⟨b3, 2, none⟩ (.int .i64 n3)).setCell ⟨b3, 3, none⟩ (.string (bs u3)) := ⟨_, rfl⟩
        replace HO : Hid (Owns w0 W13 (rdP w0 bp fin all v s4 :: blk b3 (tobj ⟨k3, p3, n3, u3⟩) :: blk b6 (f7 u x) :: blk b2 fobj0 :: ps)) := by
          rw [hW13]
          exact Lib.hid ((((HO3.out.store (i := 0) (.int .i64 k3)).store (i := 1) (.int .i64 p3)).store (i := 2) (.int .i64 n3)).store (i := 3) (.string (bs u3))).swap
        clear ho ht hs4
        by_cases hk3 : k3 = 2
        · have hk3' : ((k3 : Int) != 2) = false := by simp; omega
          have HDD : Hid (s4 = stD fin sB) := by
            show _ = _
            rw [stD, ← HT3.out, if_neg (by simpa using hk3), ← HS4.out]
          clear hk3
          by_cases hn3 : 1000000 < n3
          · have hn3' : (1000000 : Int) < (n3 : Int) := by omega
            have HD : Hid (Did (oneF fin (n + 1)) s (.mk 3 u x n3 []) (failS s4 10 p3)) := HDt.out sB ⟨k3, p3, n3, u3⟩ s4 (failS s4 10 p3) HB.out HT3.out HDD.out (by rw [stE, if_pos hn3])
            clear hn3
            focus
              obtain ⟨bk, -⟩ := HO3.out.blk
              have hbt := lt_of_block bk
              have ft0 := free_of_heap bk (i := 0)
              have ft1 := free_of_heap bk (i := 1)
              have ft2 := free_of_heap bk (i := 2)
              have ft3 := free_of_heap bk (i := 3)
              have ct0 := cell_of_heap bk (i := 0)
              have ct1 := cell_of_heap bk (i := 1)
              have ct2 := cell_of_heap bk (i := 2)
              have ct3 := cell_of_heap bk (i := 3)
              simp only [List.getElem?_toArray, List.getElem?_cons_succ, List.getElem?_cons_zero] at ct0 ct1 ct2 ct3
              clear bk
              go_wp2_with fail
              rw [← hW13]
              clear hW13
              clear hbt ft0 ft1 ft2 ft3 ct0 ct1 ct2 ct3
            try go_at_call 60
            refine (rfail_c (w0 := w0) (bp := bp) (fin := fin) (all := all) (v := v) (blk b3 (tobj ⟨k3, p3, n3, u3⟩) :: blk b6 (f7 u x) :: blk b2 fobj0 :: ps) s4 10 p3 (by omega) (by omega) _ HO.out).mono ?_
            clear HO
            rintro e W14 ⟨rfl, ho⟩
            have HO := Lib.hid ho
            clear ho
            simp only []
            obtain ⟨bk, -⟩ := HO.out.swap.blk
            have hbt := lt_of_block bk
            have ft0 := free_of_heap bk (i := 0)
            have ft1 := free_of_heap bk (i := 1)
            have ft2 := free_of_heap bk (i := 2)
            have ft3 := free_of_heap bk (i := 3)
            have ct0 := cell_of_heap bk (i := 0)
            have ct1 := cell_of_heap bk (i := 1)
            have ct2 := cell_of_heap bk (i := 2)
            have ct3 := cell_of_heap bk (i := 3)
            simp only [List.getElem?_toArray, List.getElem?_cons_succ, List.getElem?_cons_zero] at ct0 ct1 ct2 ct3
            clear bk
            obtain ⟨bk, -⟩ := (HO.out.re [2, 0, 1]).blk
            have hbe := lt_of_block bk
            have fe0 := free_of_heap bk (i := 0)
            have fe1 := free_of_heap bk (i := 1)
            have fe2 := free_of_heap bk (i := 2)
            have fe3 := free_of_heap bk (i := 3)
            have fe4 := free_of_heap bk (i := 4)
            have ce0 := cell_of_heap bk (i := 0)
            have ce1 := cell_of_heap bk (i := 1)
            have ce2 := cell_of_heap bk (i := 2)
            have ce3 := cell_of_heap bk (i := 3)
            have ce4 := cell_of_heap bk (i := 4)
            simp only [List.getElem?_toArray, List.getElem?_cons_succ, List.getElem?_cons_zero] at ce0 ce1 ce2 ce3 ce4
            clear bk
            obtain ⟨bk, -⟩ := (HO.out.re [3, 0, 1, 2]).blk
            have hbz := lt_of_block bk
            have fz0 := free_of_heap bk (i := 0)
            have fz1 := free_of_heap bk (i := 1)
            have fz2 := free_of_heap bk (i := 2)
            have fz3 := free_of_heap bk (i := 3)
            have fz4 := free_of_heap bk (i := 4)
            have cz0 := cell_of_heap bk (i := 0)
            have cz1 := cell_of_heap bk (i := 1)
            have cz2 := cell_of_heap bk (i := 2)
            have cz3 := cell_of_heap bk (i := 3)
            have cz4 := cell_of_heap bk (i := 4)
            simp only [List.getElem?_toArray, List.getElem?_cons_succ, List.getElem?_cons_zero] at cz0 cz1 cz2 cz3 cz4
            clear bk
            have m36 := Owns.ne (HO.out.re [1, 2, 0])
            have m36' := m36.symm
            have m32 := Owns.ne (HO.out.re [1, 3, 0, 2])
            have m32' := m32.symm
            have m62 := Owns.ne (HO.out.re [2, 3, 0, 1])
            have m62' := m62.symm
            repeat (first | go_values | go_skip | go_guarded | go_step | go_upon)
            have h1 := ((HO.out.re [2, 0, 1]).store (i := 3) (.int .i64 n3)).re [3, 1, 2, 0]
            have h2 := ((((Owns.store h1 (i := 0) (.int .i64 3)).store (i := 1) (.string (bs u))).store (i := 2) (.int .i64 x)).store (i := 3) (.int .i64 n3)).store (i := 4) (.slice none 0 0)
            have h3 := (h2.pop.re [1, 2, 0]).pop.pop.leaf 3 u x n3 none 0
            exact bodyPost_ret (rnot_res rfl h2.blk.1) (by rfl) (by first | exact ⟨_, _, _, rfl, HD.out, h3⟩ | exact ⟨_, _, rfl, _, HD.out, h3⟩)
          · have hn3' : ¬ (1000000 : Int) < (n3 : Int) := by omega
            have HD : Hid (Did (oneF fin (n + 1)) s (.mk 3 u x n3 []) s4) := HDt.out sB ⟨k3, p3, n3, u3⟩ s4 s4 HB.out HT3.out HDD.out (by rw [stE, if_neg hn3])
            clear hn3
            subst hW13
            obtain ⟨bk, -⟩ := HO3.out.blk
            have hbt := lt_of_block bk
            have ft0 := free_of_heap bk (i := 0)
            have ft1 := free_of_heap bk (i := 1)
            have ft2 := free_of_heap bk (i := 2)
            have ft3 := free_of_heap bk (i := 3)
            have ct0 := cell_of_heap bk (i := 0)
            have ct1 := cell_of_heap bk (i := 1)
            have ct2 := cell_of_heap bk (i := 2)
            have ct3 := cell_of_heap bk (i := 3)
            simp only [List.getElem?_toArray, List.getElem?_cons_succ, List.getElem?_cons_zero] at ct0 ct1 ct2 ct3
            clear bk
            obtain ⟨bk, -⟩ := (HO3.out.re [2, 0, 1]).blk
            have hbe := lt_of_block bk
            have fe0 := free_of_heap bk (i := 0)
            have fe1 := free_of_heap bk (i := 1)
            have fe2 := free_of_heap bk (i := 2)
            have fe3 := free_of_heap bk (i := 3)
            have fe4 := free_of_heap bk (i := 4)
            have ce0 := cell_of_heap bk (i := 0)
            have ce1 := cell_of_heap bk (i := 1)
            have ce2 := cell_of_heap bk (i := 2)
            have ce3 := cell_of_heap bk (i := 3)
            have ce4 := cell_of_heap bk (i := 4)
            simp only [List.getElem?_toArray, List.getElem?_cons_succ, List.getElem?_cons_zero] at ce0 ce1 ce2 ce3 ce4
            clear bk
            obtain ⟨bk, -⟩ := (HO3.out.re [3, 0, 1, 2]).blk
            have hbz := lt_of_block bk
            have fz0 := free_of_heap bk (i := 0)
            have fz1 := free_of_heap bk (i := 1)
            have fz2 := free_of_heap bk (i := 2)
            have fz3 := free_of_heap bk (i := 3)
            have fz4 := free_of_heap bk (i := 4)
            have cz0 := cell_of_heap bk (i := 0)
            have cz1 := cell_of_heap bk (i := 1)
            have cz2 := cell_of_heap bk (i := 2)
            have cz3 := cell_of_heap bk (i := 3)
            have cz4 := cell_of_heap bk (i := 4)
            simp only [List.getElem?_toArray, List.getElem?_cons_succ, List.getElem?_cons_zero] at cz0 cz1 cz2 cz3 cz4
            clear bk
            have m36 := Owns.ne (HO3.out.re [0, 2, 1])
            have m36' := m36.symm
            have m32 := Owns.ne (HO3.out.re [0, 3, 1, 2])
            have m32' := m32.symm
            have m62 := Owns.ne (HO3.out.re [2, 3, 0, 1])
            have m62' := m62.symm
            repeat (first | go_values | go_skip | go_guarded | go_step | go_upon)
            have h1 := ((HO.out.re [2, 0, 1]).store (i := 3) (.int .i64 n3)).re [3, 1, 2, 0]
            have h2 := ((((Owns.store h1 (i := 0) (.int .i64 3)).store (i := 1) (.string (bs u))).store (i := 2) (.int .i64 x)).store (i := 3) (.int .i64 n3)).store (i := 4) (.slice none 0 0)
            have h3 := (h2.pop.re [1, 2, 0]).pop.pop.leaf 3 u x n3 none 0
            exact bodyPost_ret (rnot_res rfl h2.blk.1) (by rfl) (by first | exact ⟨_, _, _, rfl, HD.out, h3⟩ | exact ⟨_, _, rfl, _, HD.out, h3⟩)
        · have hk3' : ((k3 : Int) != 2) = true := by simp; omega
          have HDD : Hid (failS s4 5 p3 = stD fin sB) := by
            show _ = _
            rw [stD, ← HT3.out, if_pos (by simpa using hk3), ← HS4.out]
          clear hk3
          focus
            obtain ⟨bk, -⟩ := HO3.out.blk
            have hbt := lt_of_block bk
            have ft0 := free_of_heap bk (i := 0)
            have ft1 := free_of_heap bk (i := 1)
            have ft2 := free_of_heap bk (i := 2)
            have ft3 := free_of_heap bk (i := 3)
            have ct0 := cell_of_heap bk (i := 0)
            have ct1 := cell_of_heap bk (i := 1)
            have ct2 := cell_of_heap bk (i := 2)
            have ct3 := cell_of_heap bk (i := 3)
            simp only [List.getElem?_toArray, List.getElem?_cons_succ, List.getElem?_cons_zero] at ct0 ct1 ct2 ct3
            clear bk
            go_wp2_with fail
            rw [← hW13]
            clear hW13
            clear hbt ft0 ft1 ft2 ft3 ct0 ct1 ct2 ct3
          try go_at_call 60
          refine (rfail_c (w0 := w0) (bp := bp) (fin := fin) (all := all) (v := v) (blk b3 (tobj ⟨k3, p3, n3, u3⟩) :: blk b6 (f7 u x) :: blk b2 fobj0 :: ps) s4 5 p3 (by omega) (by omega) _ HO.out).mono ?_
          clear HO
          rintro e W14 ⟨rfl, ho⟩
          have HO := Lib.hid ho
          clear ho
          simp only []
          by_cases hn3 : 1000000 < n3
          · have hn3' : (1000000 : Int) < (n3 : Int) := by omega
            have HD : Hid (Did (oneF fin (n + 1)) s (.mk 3 u x n3 []) (failS (failS s4 5 p3) 10 p3)) := HDt.out sB ⟨k3, p3, n3, u3⟩ _ _ HB.out HT3.out HDD.out (by rw [stE, if_pos hn3])
            clear hn3
            focus
              obtain ⟨bk, -⟩ := HO.out.swap.blk
              have hbt := lt_of_block bk
              have ft0 := free_of_heap bk (i := 0)
              have ft1 := free_of_heap bk (i := 1)
              have ft2 := free_of_heap bk (i := 2)
              have ft3 := free_of_heap bk (i := 3)
              have ct0 := cell_of_heap bk (i := 0)
              have ct1 := cell_of_heap bk (i := 1)
              have ct2 := cell_of_heap bk (i := 2)
              have ct3 := cell_of_heap bk (i := 3)
              simp only [List.getElem?_toArray, List.getElem?_cons_succ, List.getElem?_cons_zero] at ct0 ct1 ct2 ct3
              clear bk
              go_wp2_with fail
              clear hbt ft0 ft1 ft2 ft3 ct0 ct1 ct2 ct3
            try go_at_call 60
            refine (rfail_c (w0 := w0) (bp := bp) (fin := fin) (all := all) (v := v) (blk b3 (tobj ⟨k3, p3, n3, u3⟩) :: blk b6 (f7 u x) :: blk b2 fobj0 :: ps) (failS s4 5 p3) 10 p3 (by omega) (by omega) _ HO.out).mono ?_
            clear HO
            rintro e W14 ⟨rfl, ho⟩
            have HO := Lib.hid ho
            clear ho
            simp only []
            obtain ⟨bk, -⟩ := HO.out.swap.blk
            have hbt := lt_of_block bk
            have ft0 := free_of_heap bk (i := 0)
            have ft1 := free_of_heap bk (i := 1)
            have ft2 := free_of_heap bk (i := 2)
            have ft3 := free_of_heap bk (i := 3)
            have ct0 := cell_of_heap bk (i := 0)
            have ct1 := cell_of_heap bk (i := 1)
            have ct2 := cell_of_heap bk (i := 2)
            have ct3 := cell_of_heap bk (i := 3)
            simp only [List.getElem?_toArray, List.getElem?_cons_succ, List.getElem?_cons_zero] at ct0 ct1 ct2 ct3
            clear bk
            obtain ⟨bk, -⟩ := (HO.out.re [2, 0, 1]).blk
            have hbe := lt_of_block bk
            have fe0 := free_of_heap bk (i := 0)
            have fe1 := free_of_heap bk (i := 1)
            have fe2 := free_of_heap bk (i := 2)
            have fe3 := free_of_heap bk (i := 3)
            have fe4 := free_of_heap bk (i := 4)
            have ce0 := cell_of_heap bk (i := 0)
            have ce1 := cell_of_heap bk (i := 1)
            have ce2 := cell_of_heap bk (i := 2)
            have ce3 := cell_of_heap bk (i := 3)
            have ce4 := cell_of_heap bk (i := 4)
            simp only [List.getElem?_toArray, List.getElem?_cons_succ, List.getElem?_cons_zero] at ce0 ce1 ce2 ce3 ce4
            clear bk
            obtain ⟨bk, -⟩ := (HO.out.re [3, 0, 1, 2]).blk
            have hbz := lt_of_block bk
            have fz0 := free_of_heap bk (i := 0)
            have fz1 := free_of_heap bk (i := 1)
            have fz2 := free_of_heap bk (i := 2)
            have fz3 := free_of_heap bk (i := 3)
            have fz4 := free_of_heap bk (i := 4)
            have cz0 := cell_of_heap bk (i := 0)
            have cz1 := cell_of_heap bk (i := 1)
            have cz2 := cell_of_heap bk (i := 2)
            have cz3 := cell_of_heap bk (i := 3)
            have cz4 := cell_of_heap bk (i := 4)
            simp only [List.getElem?_toArray, List.getElem?_cons_succ, List.getElem?_cons_zero] at cz0 cz1 cz2 cz3 cz4
            clear bk
            have m36 := Owns.ne (HO.out.re [1, 2, 0])
            have m36' := m36.symm
            have m32 := Owns.ne (HO.out.re [1, 3, 0, 2])
            have m32' := m32.symm
            have m62 := Owns.ne (HO.out.re [2, 3, 0, 1])
            have m62' := m62.symm
            repeat (first | go_values | go_skip | go_guarded | go_step | go_upon)
            have h1 := ((HO.out.re [2, 0, 1]).store (i := 3) (.int .i64 n3)).re [3, 1, 2, 0]
            have h2 := ((((Owns.store h1 (i := 0) (.int .i64 3)).store (i := 1) (.string (bs u))).store (i := 2) (.int .i64 x)).store (i := 3) (.int .i64 n3)).store (i := 4) (.slice none 0 0)
            have h3 := (h2.pop.re [1, 2, 0]).pop.pop.leaf 3 u x n3 none 0
            exact bodyPost_ret (rnot_res rfl h2.blk.1) (by rfl) (by first | exact ⟨_, _, _, rfl, HD.out, h3⟩ | exact ⟨_, _, rfl, _, HD.out, h3⟩)
          · have hn3' : ¬ (1000000 : Int) < (n3 : Int) := by omega
            have HD : Hid (Did (oneF fin (n + 1)) s (.mk 3 u x n3 []) (failS s4 5 p3)) := HDt.out sB ⟨k3, p3, n3, u3⟩ _ _ HB.out HT3.out HDD.out (by rw [stE, if_neg hn3])
            clear hn3
            obtain ⟨bk, -⟩ := HO.out.swap.blk
            have hbt := lt_of_block bk
            have ft0 := free_of_heap bk (i := 0)
            have ft1 := free_of_heap bk (i := 1)
            have ft2 := free_of_heap bk (i := 2)
            have ft3 := free_of_heap bk (i := 3)
            have ct0 := cell_of_heap bk (i := 0)
            have ct1 := cell_of_heap bk (i := 1)
            have ct2 := cell_of_heap bk (i := 2)
            have ct3 := cell_of_heap bk (i := 3)
            simp only [List.getElem?_toArray, List.getElem?_cons_succ, List.getElem?_cons_zero] at ct0 ct1 ct2 ct3
            clear bk
            obtain ⟨bk, -⟩ := (HO.out.re [2, 0, 1]).blk
            have hbe := lt_of_block bk
            have fe0 := free_of_heap bk (i := 0)
            have fe1 := free_of_heap bk (i := 1)
            have fe2 := free_of_heap bk (i := 2)
            have fe3 := free_of_heap bk (i := 3)
            have fe4 := free_of_heap bk (i := 4)
            have ce0 := cell_of_heap bk (i := 0)
            have ce1 := cell_of_heap bk (i := 1)
            have ce2 := cell_of_heap bk (i := 2)
            have ce3 := cell_of_heap bk (i := 3)
            have ce4 := cell_of_heap bk (i := 4)
            simp only [List.getElem?_toArray, List.getElem?_cons_succ, List.getElem?_cons_zero] at ce0 ce1 ce2 ce3 ce4
            clear bk
            obtain ⟨bk, -⟩ := (HO.out.re [3, 0, 1, 2]).blk
            have hbz := lt_of_block bk
            have fz0 := free_of_heap bk (i := 0)
            have fz1 := free_of_heap bk (i := 1)
            have fz2 := free_of_heap bk (i := 2)
            have fz3 := free_of_heap bk (i := 3)
            have fz4 := free_of_heap bk (i := 4)
            have cz0 := cell_of_heap bk (i := 0)
            have cz1 := cell_of_heap bk (i := 1)
            have cz2 := cell_of_heap bk (i := 2)
            have cz3 := cell_of_heap bk (i := 3)
            have cz4 := cell_of_heap bk (i := 4)
            simp only [List.getElem?_toArray, List.getElem?_cons_succ, List.getElem?_cons_zero] at cz0 cz1 cz2 cz3 cz4
            clear bk
            have m36 := Owns.ne (HO.out.re [1, 2, 0])
            have m36' := m36.symm
            have m32 := Owns.ne (HO.out.re [1, 3, 0, 2])
            have m32' := m32.symm
            have m62 := Owns.ne (HO.out.re [2, 3, 0, 1])
            have m62' := m62.symm
            repeat (first | go_values | go_skip | go_guarded | go_step | go_upon)
            have h1 := ((HO.out.re [2, 0, 1]).store (i := 3) (.int .i64 n3)).re [3, 1, 2, 0]
            have h2 := ((((Owns.store h1 (i := 0) (.int .i64 3)).store (i := 1) (.string (bs u))).store (i := 2) (.int .i64 x)).store (i := 3) (.int .i64 n3)).store (i := 4) (.slice none 0 0)
            have h3 := (h2.pop.re [1, 2, 0]).pop.pop.leaf 3 u x n3 none 0
            exact bodyPost_ret (rnot_res rfl h2.blk.1) (by rfl) (by first | exact ⟨_, _, _, rfl, HD.out, h3⟩ | exact ⟨_, _, rfl, _, HD.out, h3⟩)
      · have hx0' : ((x : Int) == 0) = false := by simpa using hx0
        have HB0 : Hid (s2 = stB fin sR) := by
          show _ = _
          rw [stR_eq, ← HX.out, if_neg hx0, ← HS2.out]
        clear hx0
        focus
          obtain ⟨bk, -⟩ := (HO.out.re [2, 0, 1]).blk
          have hbe := lt_of_block bk
          have fe0 := free_of_heap bk (i := 0)
          have fe1 := free_of_heap bk (i := 1)
          have fe2 := free_of_heap bk (i := 2)
          have fe3 := free_of_heap bk (i := 3)
          have fe4 := free_of_heap bk (i := 4)
          have ce0 := cell_of_heap bk (i := 0)
          have ce1 := cell_of_heap bk (i := 1)
          have ce2 := cell_of_heap bk (i := 2)
          have ce3 := cell_of_heap bk (i := 3)
          have ce4 := cell_of_heap bk (i := 4)
          simp only [List.getElem?_toArray, List.getElem?_cons_succ, List.getElem?_cons_zero] at ce0 ce1 ce2 ce3 ce4
          clear bk
          go_wp2_with fail
          clear hbe fe0 fe1 fe2 fe3 fe4 ce0 ce1 ce2 ce3 ce4
        replace HO := Lib.hid (HO.out.re [1, 0, 2])
        obtain ⟨sB, hsB⟩ : ∃ sB, sB = s2 := ⟨_, rfl⟩
        have HB : Hid (sB = stB fin sR) := by show _ = _; rw [hsB]; exact HB0.out
        rw [← hsB] at HO
        clear hsB HB0
        try go_at_call 120
        refine (rtoken_c (w0 := w0) (bp := bp) (fin := fin) (all := all) (v := v) (blk b3 (tobj ⟨k2, p2, n2, u2⟩) :: blk b6 (f7 u x) :: blk b2 fobj0 :: ps) sB _ HN.out HO.out).mono ?_
        rintro e W12 ⟨rfl, ho⟩
        obtain ⟨⟨k3, p3, n3, u3⟩, ht⟩ : ∃ t, t = nextT sB := ⟨_, rfl⟩
        obtain ⟨s4, hs4⟩ : ∃ s4, s4 = nextS fin sB := ⟨_, rfl⟩
        rw [← ht]
        rw [← hs4] at ho
        simp only [tval]
        have HT3 := Lib.hid ht
        have HS4 := Lib.hid hs4
        have HO3 := Lib.hid ho.swap
        obtain ⟨W13, hW13⟩ : ∃ W13, W13 = (((W12.setCell ⟨b3, 0, none⟩ (.int .i64 k3)).setCell ⟨b3, 1, none⟩ (.int .i64 p3)).setCell ⟨b3, 2, none⟩ (.int .i64 n3)).setCell ⟨b3, 3, none⟩ (.string (bs u3)) := ⟨_, rfl⟩
        replace HO : Hid (Owns w0 W13 (rdP w0 bp fin all v s4 :: blk b3 (tobj ⟨k3, p3, n3, u3⟩) :: blk b6 (f7 u x) :: blk b2 fobj0 :: ps)) := by
          rw [hW13]
          exact Lib.hid ((((HO3.out.store (i := 0) (.int .i64 k3)).store (i := 1) (.int .i64 p3)).store (i := 2) (.int .i64 n3)).store (i := 3) (.string (bs u3))).swap
        clear ho ht hs4
        by_cases hk3 : k3 = 2
        · have hk3' : ((k3 : Int) != 2) = false := by simp; omega
          have HDD : Hid (s4 = stD fin sB) := by
            show _ = _
            rw [stD, ← HT3.out, if_neg (by simpa using hk3), ← HS4.out]
          clear hk3
          by_cases hn3 : 1000000 < n3
          · have hn3' : (1000000 : Int) < (n3 : Int) := by omega
            have HD : Hid (Did (oneF fin (n + 1)) s (.mk 3 u x n3 []) (failS s4 10 p3)) := HDt.out sB ⟨k3, p3, n3, u3⟩ s4 (failS s4 10 p3) HB.out HT3.out HDD.out (by rw [stE, if_pos hn3])
            clear hn3
            focus
              obtain ⟨bk, -⟩ := HO3.out.blk
              have hbt := lt_of_block bk
              have ft0 := free_of_heap bk (i := 0)
              have ft1 := free_of_heap bk (i := 1)
              have ft2 := free_of_heap bk (i := 2)
              have ft3 := free_of_heap bk (i := 3)
              have ct0 := cell_of_heap bk (i := 0)
              have ct1 := cell_of_heap bk (i := 1)
              have ct2 := cell_of_heap bk (i := 2)
              have ct3 := cell_of_heap bk (i := 3)
              simp only [List.getElem?_toArray, List.getElem?_cons_succ, List.getElem?_cons_zero] at ct0 ct1 ct2 ct3
              clear bk
              go_wp2_with fail
              rw [← hW13]
              clear hW13
              clear hbt ft0 ft1 ft2 ft3 ct0 ct1 ct2 ct3
            try go_at_call 60
            refine (rfail_c (w0 := w0) (bp := bp) (fin := fin) (all := all) (v := v) (blk b3 (tobj ⟨k3, p3, n3, u3⟩) :: blk b6 (f7 u x) :: blk b2 fobj0 :: ps) s4 10 p3 (by omega) (by omega) _ HO.out).mono ?_
            clear HO
            rintro e W14 ⟨rfl, ho⟩
            have HO := Lib.hid ho
            clear ho
            simp only []
            obtain ⟨bk, -⟩ := HO.out.swap.blk
            have hbt := lt_of_block bk
            have ft0 := free_of_heap bk (i := 0)
            have ft1 := free_of_heap bk (i := 1)
            have ft2 := free_of_heap bk (i := 2)
            have ft3 := free_of_heap bk (i := 3)
            have ct0 := cell_of_heap bk (i := 0)
            have ct1 := cell_of_heap bk (i := 1)
            have ct2 := cell_of_heap bk (i := 2)
            have ct3 := cell_of_heap bk (i := 3)
            simp only [List.getElem?_toArray, List.getElem?_cons_succ, List.getElem?_cons_zero] at ct0 ct1 ct2 ct3
            clear bk
            obtain ⟨bk, -⟩ := (HO.out.re [2, 0, 1]).blk
            have hbe := lt_of_block bk
            have fe0 := free_of_heap bk (i := 0)
            have fe1 := free_of_heap bk (i := 1)
            have fe2 := free_of_heap bk (i := 2)
            have fe3 := free_of_heap bk (i := 3)
            have fe4 := free_of_heap bk (i := 4)
            have ce0 := cell_of_heap bk (i := 0)
            have ce1 := cell_of_heap bk (i := 1)
            have ce2 := cell_of_heap bk (i := 2)
            have ce3 := cell_of_heap bk (i := 3)
            have ce4 := cell_of_heap bk (i := 4)
            simp only [List.getElem?_toArray, List.getElem?_cons_succ, List.getElem?_cons_zero] at ce0 ce1 ce2 ce3 ce4
            clear bk
            obtain ⟨bk, -⟩ := (HO.out.re [3, 0, 1, 2]).blk
            have hbz := lt_of_block bk
            have fz0 := free_of_heap bk (i := 0)
            have fz1 := free_of_heap bk (i := 1)
            have fz2 := free_of_heap bk (i := 2)
            have fz3 := free_of_heap bk (i := 3)
            have fz4 := free_of_heap bk (i := 4)
            have cz0 := cell_of_heap bk (i := 0)
            have cz1 := cell_of_heap bk (i := 1)
            have cz2 := cell_of_heap bk (i := 2)
            have cz3 := cell_of_heap bk (i := 3)
            have cz4 := cell_of_heap bk (i := 4)
            simp only [List.getElem?_toArray, List.getElem?_cons_succ, List.getElem?_cons_zero] at cz0 cz1 cz2 cz3 cz4
            clear bk
            have m36 := Owns.ne (HO.out.re [1, 2, 0])
            have m36' := m36.symm
            have m32 := Owns.ne (HO.out.re [1, 3, 0, 2])
            have m32' := m32.symm
            have m62 := Owns.ne (HO.out.re [2, 3, 0, 1])
            have m62' := m62.symm
            repeat (first | go_values | go_skip | go_guarded | go_step | go_upon)
            have h1 := ((HO.out.re [2, 0, 1]).store (i := 3) (.int .i64 n3)).re [3, 1, 2, 0]
            have h2 := ((((Owns.store h1 (i := 0) (.int .i64 3)).store (i := 1) (.string (bs u))).store (i := 2) (.int .i64 x)).store (i := 3) (.int .i64 n3)).store (i := 4) (.slice none 0 0)
            have h3 := (h2.pop.re [1, 2, 0]).pop.pop.leaf 3 u x n3 none 0
            exact bodyPost_ret (rnot_res rfl h2.blk.1) (by rfl) (by first | exact ⟨_, _, _, rfl, HD.out, h3⟩ | exact ⟨_, _, rfl, _, HD.out, h3⟩)
          · have hn3' : ¬ (1000000 : Int) < (n3 : Int) := by omega
            have HD : Hid (Did (oneF fin (n + 1)) s (.mk 3 u x n3 []) s4) := HDt.out sB ⟨k3, p3, n3, u3⟩ s4 s4 HB.out HT3.out HDD.out (by rw [stE, if_neg hn3])
            clear hn3
            subst hW13
            obtain ⟨bk, -⟩ := HO3.out.blk
            have hbt := lt_of_block bk
            have ft0 := free_of_heap bk (i := 0)
            have ft1 := free_of_heap bk (i := 1)
            have ft2 := free_of_heap bk (i := 2)
            have ft3 := free_of_heap bk (i := 3)
            have ct0 := cell_of_heap bk (i := 0)
            have ct1 := cell_of_heap bk (i := 1)
            have ct2 := cell_of_heap bk (i := 2)
            have ct3 := cell_of_heap bk (i := 3)
            simp only [List.getElem?_toArray, List.getElem?_cons_succ, List.getElem?_cons_zero] at ct0 ct1 ct2 ct3
            clear bk
            obtain ⟨bk, -⟩ := (HO3.out.re [2, 0, 1]).blk
            have hbe := lt_of_block bk
            have fe0 := free_of_heap bk (i := 0)
            have fe1 := free_of_heap bk (i := 1)
            have fe2 := free_of_heap bk (i := 2)
            have fe3 := free_of_heap bk (i := 3)
            have fe4 := free_of_heap bk (i := 4)
            have ce0 := cell_of_heap bk (i := 0)
            have ce1 := cell_of_heap bk (i := 1)
            have ce2 := cell_of_heap bk (i := 2)
            have ce3 := cell_of_heap bk (i := 3)
            have ce4 := cell_of_heap bk (i := 4)
            simp only [List.getElem?_toArray, List.getElem?_cons_succ, List.getElem?_cons_zero] at ce0 ce1 ce2 ce3 ce4
            clear bk
            obtain ⟨bk, -⟩ := (HO3.out.re [3, 0, 1, 2]).blk
            have hbz := lt_of_block bk
            have fz0 := free_of_heap bk (i := 0)
            have fz1 := free_of_heap bk (i := 1)
            have fz2 := free_of_heap bk (i := 2)
            have fz3 := free_of_heap bk (i := 3)
            have fz4 := free_of_heap bk (i := 4)
            have cz0 := cell_of_heap bk (i := 0)
            have cz1 := cell_of_heap bk (i := 1)
            have cz2 := cell_of_heap bk (i := 2)
            have cz3 := cell_of_heap bk (i := 3)
            have cz4 := cell_of_heap bk (i := 4)
            simp only [List.getElem?_toArray, List.getElem?_cons_succ, List.getElem?_cons_zero] at cz0 cz1 cz2 cz3 cz4
            clear bk
            have m36 := Owns.ne (HO3.out.re [0, 2, 1])
            have m36' := m36.symm
            have m32 := Owns.ne (HO3.out.re [0, 3, 1, 2])
            have m32' := m32.symm
            have m62 := Owns.ne (HO3.out.re [2, 3, 0, 1])
            have m62' := m62.symm
            repeat (first | go_values | go_skip | go_guarded | go_step | go_upon)
            have h1 := ((HO.out.re [2, 0, 1]).store (i := 3) (.int .i64 n3)).re [3, 1, 2, 0]
            have h2 := ((((Owns.store h1 (i := 0) (.int .i64 3)).store (i := 1) (.string (bs u))).store (i := 2) (.int .i64 x)).store (i := 3) (.int .i64 n3)).store (i := 4) (.slice none 0 0)
            have h3 := (h2.pop.re [1, 2, 0]).pop.pop.leaf 3 u x n3 none 0
            exact bodyPost_ret (rnot_res rfl h2.blk.1) (by rfl) (by first | exact ⟨_, _, _, rfl, HD.out, h3⟩ | exact ⟨_, _, rfl, _, HD.out, h3⟩)
        · have hk3' : ((k3 : Int) != 2) = true := by simp; omega
          have HDD : Hid (failS s4 5 p3 = stD fin sB) := by
            show _ = _
            rw [stD, ← HT3.out, if_pos (by simpa using hk3), ← HS4.out]
          clear hk3
          focus
            obtain ⟨bk, -⟩ := HO3.out.blk
            have hbt := lt_of_block bk
            have ft0 := free_of_heap bk (i := 0)
            have ft1 := free_of_heap bk (i := 1)
            have ft2 := free_of_heap bk (i := 2)
            have ft3 := free_of_heap bk (i := 3)
            have ct0 := cell_of_heap bk (i := 0)
            have ct1 := cell_of_heap bk (i := 1)
            have ct2 := cell_of_heap bk (i := 2)
            have ct3 := cell_of_heap bk (i := 3)
            simp only [List.getElem?_toArray, List.getElem?_cons_succ, List.getElem?_cons_zero] at ct0 ct1 ct2 ct3
            clear bk
            go_wp2_with fail
            rw [← hW13]
            clear hW13
            clear hbt ft0 ft1 ft2 ft3 ct0 ct1 ct2 ct3
          try go_at_call 60
          refine (rfail_c (w0 := w0) (bp := bp) (fin := fin) (all := all) (v := v) (blk b3 (tobj ⟨k3, p3, n3, u3⟩) :: blk b6 (f7 u x) :: blk b2 fobj0 :: ps) s4 5 p3 (by omega) (by omega) _ HO.out).mono ?_
          clear HO
          rintro e W14 ⟨rfl, ho⟩
          have HO := Lib.hid ho
          clear ho
          simp only []
          by_cases hn3 : 1000000 < n3
          · have hn3' : (1000000 : Int) < (n3 : Int) := by omega
            have HD : Hid (Did (oneF fin (n + 1)) s (.mk 3 u x n3 []) (failS (failS s4 5 p3) 10 p3)) := HDt.out sB ⟨k3, p3, n3, u3⟩ _ _ HB.out HT3.out HDD.out (by rw [stE, if_pos hn3])
            clear hn3
            focus
              obtain ⟨bk, -⟩ := HO.out.swap.blk
              have hbt := lt_of_block bk
              have ft0 := free_of_heap bk (i := 0)
              have ft1 := free_of_heap bk (i := 1)
              have ft2 := free_of_heap bk (i := 2)
              have ft3 := free_of_heap bk (i := 3)
              have ct0 := cell_of_heap bk (i := 0)
              have ct1 := cell_of_heap bk (i := 1)
              have ct2 := cell_of_heap bk (i := 2)
              have ct3 := cell_of_heap bk (i := 3)
              simp only [List.getElem?_toArray, List.getElem?_cons_succ, List.getElem?_cons_zero] at ct0 ct1 ct2 ct3
              clear bk
              go_wp2_with fail
              clear hbt ft0 ft1 ft2 ft3 ct0 ct1 ct2 ct3
            try go_at_call 60
            refine (rfail_c (w0 := w0) (bp := bp) (fin := fin) (all := all) (v := v) (blk b3 (tobj ⟨k3, p3, n3, u3⟩) :: blk b6 (f7 u x) :: blk b2 fobj0 :: ps) (failS s4 5 p3) 10 p3 (by omega) (by omega) _ HO.out).mono ?_
            clear HO
            rintro e W14 ⟨rfl, ho⟩
            have HO := Lib.hid ho
            clear ho
            simp only []
            obtain ⟨bk, -⟩ := HO.out.swap.blk
            have hbt := lt_of_block bk
            have ft0 := free_of_heap bk (i := 0)
            have ft1 := free_of_heap bk (i := 1)
            have ft2 := free_of_heap bk (i := 2)
            have ft3 := free_of_heap bk (i := 3)
            have ct0 := cell_of_heap bk (i := 0)
            have ct1 := cell_of_heap bk (i := 1)
            have ct2 := cell_of_heap bk (i := 2)
            have ct3 := cell_of_heap bk (i := 3)
            simp only [List.getElem?_toArray, List.getElem?_cons_succ, List.getElem?_cons_zero] at ct0 ct1 ct2 ct3
            clear bk
            obtain ⟨bk, -⟩ := (HO.out.re [2, 0, 1]).blk
            have hbe := lt_of_block bk
            have fe0 := free_of_heap bk (i := 0)
            have fe1 := free_of_heap bk (i := 1)
            have fe2 := free_of_heap bk (i := 2)
            have fe3 := free_of_heap bk (i := 3)
            have fe4 := free_of_heap bk (i := 4)
            have ce0 := cell_of_heap bk (i := 0)
            have ce1 := cell_of_heap bk (i := 1)
            have ce2 := cell_of_heap bk (i := 2)
            have ce3 := cell_of_heap bk (i := 3)
            have ce4 := cell_of_heap bk (i := 4)
            simp only [List.getElem?_toArray, List.getElem?_cons_succ, List.getElem?_cons_zero] at ce0 ce1 ce2 ce3 ce4
            clear bk
            obtain ⟨bk, -⟩ := (HO.out.re [3, 0, 1, 2]).blk
            have hbz := lt_of_block bk
            have fz0 := free_of_heap bk (i := 0)
            have fz1 := free_of_heap bk (i := 1)
            have fz2 := free_of_heap bk (i := 2)
            have fz3 := free_of_heap bk (i := 3)
            have fz4 := free_of_heap bk (i := 4)
            have cz0 := cell_of_heap bk (i := 0)
            have cz1 := cell_of_heap bk (i := 1)
            have cz2 := cell_of_heap bk (i := 2)
            have cz3 := cell_of_heap bk (i := 3)
            have cz4 := cell_of_heap bk (i := 4)
            simp only [List.getElem?_toArray, List.getElem?_cons_succ, List.getElem?_cons_zero] at cz0 cz1 cz2 cz3 cz4
            clear bk
            have m36 := Owns.ne (HO.out.re [1, 2, 0])
            have m36' := m36.symm
            have m32 := Owns.ne (HO.out.re [1, 3, 0, 2])
            have m32' := m32.symm
            have m62 := Owns.ne (HO.out.re [2, 3, 0, 1])
            have m62' := m62.symm
            repeat (first | go_values | go_skip | go_guarded | go_step | go_upon)
            have h1 := ((HO.out.re [2, 0, 1]).store (i := 3) (.int .i64 n3)).re [3, 1, 2, 0]
            have h2 := ((((Owns.store h1 (i := 0) (.int .i64 3)).store (i := 1) (.string (bs u))).store (i := 2) (.int .i64 x)).store (i := 3) (.int .i64 n3)).store (i := 4) (.slice none 0 0)
            have h3 := (h2.pop.re [1, 2, 0]).pop.pop.leaf 3 u x n3 none 0
            exact bodyPost_ret (rnot_res rfl h2.blk.1) (by rfl) (by first | exact ⟨_, _, _, rfl, HD.out, h3⟩ | exact ⟨_, _, rfl, _, HD.out, h3⟩)
          · have hn3' : ¬ (1000000 : Int) < (n3 : Int) := by omega
            have HD : Hid (Did (oneF fin (n + 1)) s (.mk 3 u x n3 []) (failS s4 5 p3)) := HDt.out sB ⟨k3, p3, n3, u3⟩ _ _ HB.out HT3.out HDD.out (by rw [stE, if_neg hn3])
            clear hn3
            obtain ⟨bk, -⟩ := HO.out.swap.blk
            have hbt := lt_of_block bk
            have ft0 := free_of_heap bk (i := 0)
            have ft1 := free_of_heap bk (i := 1)
            have ft2 := free_of_heap bk (i := 2)
            have ft3 := free_of_heap bk (i := 3)
            have ct0 := cell_of_heap bk (i := 0)
            have ct1 := cell_of_heap bk (i := 1)
            have ct2 := cell_of_heap bk (i := 2)
            have ct3 := cell_of_heap bk (i := 3)
            simp only [List.getElem?_toArray, List.getElem?_cons_succ, List.getElem?_cons_zero] at ct0 ct1 ct2 ct3
            clear bk
            obtain ⟨bk, -⟩ := (HO.out.re [2, 0, 1]).blk
            have hbe := lt_of_block bk
            have fe0 := free_of_heap bk (i := 0)
            have fe1 := free_of_heap bk (i := 1)
            have fe2 := free_of_heap bk (i := 2)
            have fe3 := free_of_heap bk (i := 3)
            have fe4 := free_of_heap bk (i := 4)
            have ce0 := cell_of_heap bk (i := 0)
            have ce1 := cell_of_heap bk (i := 1)
            have ce2 := cell_of_heap bk (i := 2)
            have ce3 := cell_of_heap bk (i := 3)
            have ce4 := cell_of_heap bk (i := 4)
            simp only [List.getElem?_toArray, List.getElem?_cons_succ, List.getElem?_cons_zero] at ce0 ce1 ce2 ce3 ce4
            clear bk
            obtain ⟨bk, -⟩ := (HO.out.re [3, 0, 1, 2]).blk
            have hbz := lt_of_block bk
            have fz0 := free_of_heap bk (i := 0)
            have fz1 := free_of_heap bk (i := 1)
            have fz2 := free_of_heap bk (i := 2)
            have fz3 := free_of_heap bk (i := 3)
            have fz4 := free_of_heap bk (i := 4)
            have cz0 := cell_of_heap bk (i := 0)
            have cz1 := cell_of_heap bk (i := 1)
            have cz2 := cell_of_heap bk (i := 2)
            have cz3 := cell_of_heap bk (i := 3)
            have cz4 := cell_of_heap bk (i := 4)
            simp only [List.getElem?_toArray, List.getElem?_cons_succ, List.getElem?_cons_zero] at cz0 cz1 cz2 cz3 cz4
            clear bk
            have m36 := Owns.ne (HO.out.re [1, 2, 0])
            have m36' := m36.symm
            have m32 := Owns.ne (HO.out.re [1, 3, 0, 2])
            have m32' := m32.symm
            have m62 := Owns.ne (HO.out.re [2, 3, 0, 1])
            have m62' := m62.symm
            repeat (first | go_values | go_skip | go_guarded | go_step | go_upon)
            have h1 := ((HO.out.re [2, 0, 1]).store (i := 3) (.int .i64 n3)).re [3, 1, 2, 0]
            have h2 := ((((Owns.store h1 (i := 0) (.int .i64 3)).store (i := 1) (.string (bs u))).store (i := 2) (.int .i64 x)).store (i := 3) (.int .i64 n3)).store (i := 4) (.slice none 0 0)
            have h3 := (h2.pop.re [1, 2, 0]).pop.pop.leaf 3 u x n3 none 0
            exact bodyPost_ret (rnot_res rfl h2.blk.1) (by rfl) (by first | exact ⟨_, _, _, rfl, HD.out, h3⟩ | exact ⟨_, _, rfl, _, HD.out, h3⟩)
theorem rnot_c (n : Nat) (hn : n ≤ 1000000) (hN9 : all.length ≤ 1000000) (hNm : NameOk all) : RPartC w0 bp fin all v 107 (oneF fin (n + 1)) n := by
  induction n with
  | zero => exact rnot_step 0 hn hN9 hNm fun n' h => by omega
  | succ n ih => exact rnot_step (n + 1) hn hN9 hNm fun n' h => by obtain rfl : n' = n := by omega
                                                                   exact ih (by omega)
theorem rformN_c (n : Nat) (hn : n ≤ 1000000) (hN9 : all.length ≤ 1000000) (hNm : NameOk all) : RPartC w0 bp fin all v 59 (eitherF fin (n + 1)) n :=
  rform_c _ n hn hN9 (rand_c _ n hn hN9 (rnot_c n hn hN9 hNm))
end
end Go.Proofs.YtagoefnibgobcaaGreatDoor
