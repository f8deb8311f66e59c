/-
  The reader of a measure's tokens: its memory; 'take', 'name', 'number', 'word'.
  A formula that is read by the reader of measures.
  The closures of 'Parse': the names of a measure, by its kind.
  The deferred closure of 'Parse': a fault becomes an error.
  The lexer's 'Lex': its tokens lie in a row of its own.
-/
import Derived.Test.YtoeknmkephnekaaGreatDoorMsP
import Derived.Test.YtoeknmkephnekaaGreatDoorFmPiece
import Derived.Test.YtoeknmkephnekaaGreatDoorBase
import Derived.Deep.LoopGhost
import Derived.Laws.EntriesVeiled
import Derived.Handy
import Derived.WalkLawsBesides
import Derived.Test.YtoeknmkephnekaaGreatDoorFmParse
import Derived.Test.YtoeknmkephnekaaGreatDoorFmPos
import Derived.Deep.DeepCutAuto
import Derived.Test.YtoeknmkephnekaaGreatDoorVdMem
import Derived.MapKept
import Derived.Test.YtoeknmkephnekaaGreatDoorAnyOrd
import Derived.Defers
import Derived.Recover
import Derived.Test.YtoeknmkephnekaaGreatDoorLxA
namespace Go.Proofs.YtoeknmkephnekaaGreatDoor
open Go.RowKit Go.Cz Go.Cz.Lx Go.Cz.Fo Go.Cz.Vd
set_option linter.unusedSimpArgs false
set_option linter.unusedVariables false
attribute [local go_sem] bs_size bs_extract bs_append bs_toList
attribute [local irreducible] cList cPlan
abbrev robj (l : Bytes) (v : Value) : Obj := .cells #[.string (bs l), v] 68 (0, 0)
/-- All tokens, and the row that holds them. -/
structure TV where
  v : Value
  ts : List Tok
/-- The row of all tokens. -/
def tokP (V : TV) : Piece where
  lies w S := IsToks w V.v V.ts ∧ S = V.v.ownBlock.toList
  lt := by
    rintro w S ⟨h, rfl⟩ k hk
    rcases h with ⟨-, h⟩ | ⟨g, c, h, -, hg, -⟩
    · rw [h] at hk; simp [Value.ownBlock] at hk
    · rw [h] at hk
      simp [Value.ownBlock] at hk
      subst hk
      exact hg
  keep := by
    rintro w w' S T ⟨h, rfl⟩ hm hd
    refine ⟨?_, rfl⟩
    rcases h with h | ⟨g, c, h, hc, hg, hx⟩
    · exact .inl h
    · have hgT : g ∉ T := hd g (by rw [h]; simp [Value.ownBlock])
      have e : ∀ i, w'.cell? ⟨g, i, none⟩ = w.cell? ⟨g, i, none⟩ := fun i => by
        have h1 := hm.block g hg hgT
        simp only [World.cell?]
        rw [h1]
      refine .inr ⟨g, c, h, hc, Nat.lt_of_lt_of_le hg hm.size, fun j t hj => ?_⟩
      simp only [e]
      exact hx j t hj
/-- Tokens that are left of them. -/
def Suf (V : TV) (v : Value) (ts : List Tok) : Prop := ∃ y m, v = .slice y ts.length m ∧ (ts = [] ∨ ∃ g k c, V.v = .slice (some ⟨g, 0, none⟩) V.ts.length c ∧ y = some ⟨g, k * 4, none⟩ ∧ ts = V.ts.drop k ∧ m = c - k ∧ V.ts.length ≤ c)
theorem Suf.tok {V : TV} {v : Value} {ts : List Tok} {W : World} (h : Suf V v ts) (ht : IsToks W V.v V.ts) : TokL W v ts := by
  obtain ⟨y, m, rfl, h⟩ := h
  refine ⟨y, m, rfl, ?_⟩
  rcases h with rfl | ⟨g, k, c, hv, rfl, rfl, rfl, hc⟩
  · exact .inl rfl
  · rcases ht with ⟨h1, -⟩ | ⟨g', c', h1, h2, h3, h4⟩
    · exact .inl (by rw [h1]; simp)
    · rw [hv] at h1
      simp only [Value.slice.injEq, Option.some.injEq, Addr.mk.injEq, and_true, true_and] at h1
      obtain ⟨rfl, rfl⟩ := h1
      refine .inr ⟨g, k * 4, rfl, h3, by rw [List.length_drop]; omega, fun j t hj => ?_⟩
      rw [List.getElem?_drop] at hj
      have := h4 _ t hj
      have e : k * 4 + j * 4 = (k + j) * 4 := by omega
      rw [e]
      exact this
theorem Suf.all {W : World} {v : Value} {ts : List Tok} (h : IsToks W v ts) : Suf ⟨v, ts⟩ v ts := by
  rcases h with ⟨rfl, rfl⟩ | ⟨g, c, rfl, h2, -, -⟩
  · exact ⟨none, 0, rfl, .inl rfl⟩
  · exact ⟨_, c, rfl, .inr ⟨g, 0, c, rfl, by simp, by simp, by simp, h2⟩⟩
theorem Suf.nil (V : TV) (y : Option Addr) (m : Nat) : Suf V (.slice y 0 m) [] := ⟨y, m, rfl, .inl rfl⟩
theorem Suf.tail {V : TV} {g off n m : Nat} {t : Tok} {r : List Tok} (h : Suf V (.slice (some ⟨g, off, none⟩) n m) (t :: r)) : Suf V (.slice (some ⟨g, off + 4, none⟩) (n - 1) (m - 1)) r ∧ (m = 1 → Suf V (.slice (some ⟨g, off, none⟩) (n - 1) (m - 1)) r) := by
  obtain ⟨y, m', e, h⟩ := h
  simp only [Value.slice.injEq] at e
  obtain ⟨rfl, rfl, rfl⟩ := e
  rcases h with h | ⟨g', k, c, hv, e, hd, hm, hc⟩
  · simp at h
  simp only [Option.some.injEq, Addr.mk.injEq, and_true] at e
  obtain ⟨rfl, rfl⟩ := e
  have hr : r = V.ts.drop (k + 1) := by
    have := congrArg List.tail hd
    rw [List.tail_drop] at this
    exact this
  refine ⟨⟨some ⟨g, k * 4 + 4, none⟩, m - 1, by simp, .inr ⟨g, k + 1, c, hv, ?_, hr, by omega, hc⟩⟩, fun h1 => ⟨some ⟨g, k * 4, none⟩, m - 1, by simp, .inl ?_⟩⟩
  · have : k * 4 + 4 = (k + 1) * 4 := by omega
    rw [this]
  · have h2 := congrArg List.length hr
    rw [List.length_drop] at h2
    exact List.length_eq_zero_iff.1 (by omega)
theorem Suf.drop {V : TV} {ts : List Tok} {g off n m k : Nat} (h : Suf V (.slice (some ⟨g, off, none⟩) n m) ts) (hk : k ≤ ts.length) : Suf V (.slice (some ⟨g, off + k * 4, none⟩) (n - k) (m - k)) (ts.drop k) := by
  obtain ⟨y, m', e, h⟩ := h
  simp only [Value.slice.injEq] at e
  obtain ⟨rfl, rfl, rfl⟩ := e
  refine ⟨_, m - k, by rw [List.length_drop], ?_⟩
  rcases h with rfl | ⟨g', k', c, hv, e, hd, hm, hc⟩
  · exact .inl (by simp)
  simp only [Option.some.injEq, Addr.mk.injEq, and_true] at e
  obtain ⟨rfl, rfl⟩ := e
  refine .inr ⟨g, k' + k, c, hv, ?_, by rw [hd, List.drop_drop], by omega, hc⟩
  have : k' * 4 + k * 4 = (k' + k) * 4 := by omega
  rw [this]
/-- The reader: its text, and the tokens that are left. -/
def rdM (V : TV) (b : Nat) (l : Bytes) (ts : List Tok) : Piece where
  lies w S := ∃ T, S = b :: T ∧ b ∉ T ∧ (tokP V).lies w T ∧ ∃ v, Suf V v ts ∧ w.heap[b]? = some (robj l v)
  lt := by
    rintro w S ⟨T, rfl, -, hT, v, -, h⟩ k hk
    rcases List.mem_cons.1 hk with rfl | hk
    · exact lt_of_block h
    · exact (tokP V).lt hT k hk
  keep := by
    rintro w w' S T ⟨T', rfl, hb, hT, v, hv, h⟩ hm hd
    exact ⟨T', rfl, hb, (tokP V).keep hT hm fun k hk => hd k (by simp [hk]), v, hv, hm.heap h (hd b (by simp))⟩
abbrev tkval (t : Tok) : Value := .agg #[.int .i64 t.kind, .int .i64 t.pos, .int .i64 t.num, .string (bs t.text)]
abbrev tkobj (t : Tok) : Obj := .cells #[.int .i64 t.kind, .int .i64 t.pos, .int .i64 t.num, .string (bs t.text)] 40 (0, 0)
/-- The panic with an error at an offset. -/
def pan (e : Er) : Ending := .panicked [{ v := .iface 64 (.agg #[.int .i64 (e.1 : Nat), .int .i64 e.2]), recovered := false }]
end Go.Proofs.YtoeknmkephnekaaGreatDoor
namespace Go.Cz
open Go.RowKit Go.Cz.Lx Go.Cz.Fo Go.Cz.Vd Go.Proofs.YtoeknmkephnekaaGreatDoor
set_option linter.unusedVariables false
section
variable {w0 w : World} {V : TV} {ps : List Piece} {b : Nat} {l : Bytes} {ts : List Tok} {v : Value}
theorem Owns.rdm (h : Owns w0 w (rdM V b l ts :: ps)) : ∃ y m, TokL w (.slice y ts.length m) ts ∧ Suf V (.slice y ts.length m) ts ∧ Owns w0 w (Cz.blk b (robj l (.slice y ts.length m)) :: tokP V :: ps) := by
  obtain ⟨h1, S, ⟨T, rfl, hb, hT, v, hv, hx⟩, h3, h4⟩ := h
  obtain ⟨y, m, rfl, -⟩ := id hv
  refine ⟨y, m, hv.tok hT.1, hv, h1, [b], ⟨rfl, hx⟩, fun k hk => ⟨(h3 k (by simp at hk; simp [hk])).1, by simp⟩, T, hT, fun k hk => ⟨(h3 k (by simp [hk])).1, fun hx => ?_⟩, h4.mono fun k hk => ?_⟩
  · simp at hx
    subst hx
    exact hb hk
  · simp only [List.mem_append, List.mem_cons, List.not_mem_nil, or_false] at hk ⊢
    rcases hk with h | h
    · exact .inl (.inr h)
    · exact .inl (.inl h)
theorem Owns.asRdm (h : Owns w0 w (Cz.blk b (robj l v) :: tokP V :: ps)) (hv : Suf V v ts) : Owns w0 w (rdM V b l ts :: ps) :=
  h.join fun S T hS hT hd => ⟨T, by rw [hS.1]; rfl, hd b (by rw [hS.1]; simp), hT, v, hv, hS.2⟩
theorem Owns.tokAt (h : Owns w0 w (tokP V :: ps)) (hv : Suf V v ts) : TokL w v ts := by
  obtain ⟨S, hS, -⟩ := h.first
  exact hv.tok hS.1
end
end Go.Cz
namespace Go.Proofs.YtoeknmkephnekaaGreatDoor
open Go.RowKit Go.Cz Go.Cz.Lx Go.Cz.Fo Go.Cz.Vd
set_option linter.unusedSimpArgs false
set_option linter.unusedVariables false
attribute [local go_sem] bs_size bs_extract bs_append bs_toList
attribute [local irreducible] cList cPlan
section
variable {w0 : World} {V : TV} {b : Nat} {l : Bytes}
/-- What a reader's part answers: a value and the tokens behind it, or a panic. -/
def Got {α : Type} (w0 : World) (V : TV) (b : Nat) (l : Bytes) (ps : List Piece) (val : α → Value) (r : Except Er (α × List Tok)) (x : Ending) (w' : World) : Prop :=
  match r with
  | .ok (a, q) => x = .returned (val a) ∧ Owns w0 w' (rdM V b l q :: ps)
  | .error e => x = pan e ∧ ∃ q, Owns w0 w' (rdM V b l q :: ps)
theorem mtake_res {W : World} {tmps : Array Value} {g : Nat} {v0 v1 v2 v3 : Value} (h4 : tmps.getD 6 undef = .pointer (some ⟨g, 0, none⟩)) (hb : W.heap[g]? = some (.cells #[v0, v1, v2, v3] 40 (0, 0))) :
    (results Tryz.f34 tmps).run Tryz.prog W = .ok (.agg #[v0, v1, v2, v3]) W := by
  have c0 : W.cell? ⟨g, 0, none⟩ = some v0 := by rw [cell_of_heap hb]; rfl
  have c1 : W.cell? ⟨g, 1, none⟩ = some v1 := by rw [cell_of_heap hb]; rfl
  have c2 : W.cell? ⟨g, 2, none⟩ = some v2 := by rw [cell_of_heap hb]; rfl
  have c3 : W.cell? ⟨g, 3, none⟩ = some v3 := by rw [cell_of_heap hb]; rfl
  have h4' : tmps[6]?.getD undef = .pointer (some ⟨g, 0, none⟩) := by simpa using h4
  simp [results, Tryz.results34, go_sem, h4', c0, c1, c2, c3]
abbrev tobj0' : Obj := .cells #[.int .i64 0, .int .i64 0, .int .i64 0, .string ⟨#[]⟩] 40 (0, 0)
set_option maxRecDepth 100000 in
set_option maxHeartbeats 4000000 in
theorem mtake_c (ps : List Piece) (ts : List Tok) (k : Nat) (s : Bytes) (w : World) (h : Owns w0 w (rdM V b l ts :: ps)) (hk : k ≤ 100) (hl : l.length ≤ 140737488355328) (hN9 : ts.length ≤ 1000000) :
    Calls Tryz.prog 34 #[.pointer (some ⟨b, 0, none⟩), .int .i64 (k : Int), .string (bs s)] w (Got w0 V b l ps tkval (takeM l.length k s ts)) := by
  obtain ⟨y, m, hv, hs, h1⟩ := h.rdm
  have HO := Lib.hid h1
  have HP := Lib.hid h
  clear h h1
  rcases ts with _ | ⟨t, r⟩
  · have HE : Hid (takeM l.length k s [] = .error (6, (l.length : Int))) := rfl
    clear hv hs hN9
    simp only [List.length_nil] at HO
    obtain ⟨bk, -⟩ := HO.out.blk
    have hbp := lt_of_block bk
    have fp0 := free_of_heap bk (i := 0)
    have fp1 := free_of_heap bk (i := 1)
    have cp0 := cell_of_heap bk (i := 0)
    have cp1 := cell_of_heap bk (i := 1)
    simp only [List.getElem?_toArray, List.getElem?_cons_succ, List.getElem?_cons_zero] at cp0 cp1
    clear bk
    go_enter Tryz.func34, Tryz.ntmps34
    go_wp2_with fail
    rw [HE.out]
    exact ⟨rfl, rfl, _, HP.out.alloc _⟩
  · obtain ⟨N, hN⟩ : ∃ N, N = (t :: r).length := ⟨_, rfl⟩
    have hN0 : 0 < N := by rw [hN]; simp
    rw [← hN] at HO hv hs hN9
    obtain ⟨g, off, rfl, hNm, hg, c0, c1, c2, c3⟩ := hv.get (j := 0) (Below.refl _ _) rfl
    simp only [Nat.zero_mul, Nat.add_zero] at c0 c1 c2 c3
    have HT := Lib.hid hs.tail
    clear hv hs hN
    by_cases hkd : t.kind = k
    rotate_left
    · have hk1 : ((t.kind : Int) != (k : Int)) = true := by simp; omega
      have HE : Hid (takeM l.length k s (t :: r) = .error (5, (t.pos : Int))) := by show _ = _; simp only [takeM]; rw [if_pos (.inl hkd)]
      clear hkd
      obtain ⟨bk, -⟩ := HO.out.blk
      have hbp := lt_of_block bk
      have fp0 := free_of_heap bk (i := 0)
      have fp1 := free_of_heap bk (i := 1)
      have cp0 := cell_of_heap bk (i := 0)
      have cp1 := cell_of_heap bk (i := 1)
      simp only [List.getElem?_toArray, List.getElem?_cons_succ, List.getElem?_cons_zero] at cp0 cp1
      clear bk
      go_enter Tryz.func34, Tryz.ntmps34
      go_wp2_with fail
      rw [HE.out]
      exact ⟨rfl, rfl, _, (HP.out.alloc _).alloc _⟩
    have hk1 : ((t.kind : Int) != (k : Int)) = false := by simp; omega
    by_cases hs : s = []
    · have hs1 : s.isEmpty = true := by rw [hs]; rfl
      have HE : Hid (takeM l.length k s (t :: r) = .ok (t, r)) := by show _ = _; simp only [takeM]; rw [if_neg (by simp [hkd, hs])]
      clear hkd hs
      by_cases hm1 : m = 1
      · subst hm1
        obtain rfl : N = 1 := by omega
        have HT1 := Lib.hid (HT.out.2 rfl)
        clear HT hN0 hNm hN9
        obtain ⟨bk, -⟩ := HO.out.blk
        have hbp := lt_of_block bk
        have fp0 := free_of_heap bk (i := 0)
        have fp1 := free_of_heap bk (i := 1)
        have cp0 := cell_of_heap bk (i := 0)
        have cp1 := cell_of_heap bk (i := 1)
        simp only [List.getElem?_toArray, List.getElem?_cons_succ, List.getElem?_cons_zero] at cp0 cp1
        clear bk
        go_enter Tryz.func34, Tryz.ntmps34
        go_wp2_with fail
        have h2 := (((HO.out.store (i := 1) (.slice (some ⟨g, off, none⟩) 0 0)).box (tkobj t)).alloc (tkobj t))
        have h3 := h2.blk.1
        rw [World.size_setCell] at h3
        refine bodyPost_ret (mtake_res rfl h3) (by rfl) ?_
        rw [HE.out]
        exact ⟨rfl, Owns.asRdm (v := .slice (some ⟨g, off, none⟩) 0 0) ((HO.out.store (i := 1) (.slice (some ⟨g, off, none⟩) 0 0)).alloc (tkobj t) |>.alloc (tkobj t)) (HT1.out)⟩
      · clear hN9
        obtain ⟨bk, -⟩ := HO.out.blk
        have hbp := lt_of_block bk
        have fp0 := free_of_heap bk (i := 0)
        have fp1 := free_of_heap bk (i := 1)
        have cp0 := cell_of_heap bk (i := 0)
        have cp1 := cell_of_heap bk (i := 1)
        simp only [List.getElem?_toArray, List.getElem?_cons_succ, List.getElem?_cons_zero] at cp0 cp1
        clear bk
        go_enter Tryz.func34, Tryz.ntmps34
        go_wp2_with fail
        have h2 := (((HO.out.store (i := 1) (.slice (some ⟨g, off + 4, none⟩) (N - 1) (m - 1))).box (tkobj t)).alloc (tkobj t))
        have h3 := h2.blk.1
        rw [World.size_setCell] at h3
        refine bodyPost_ret (mtake_res rfl h3) (by rfl) ?_
        rw [HE.out]
        exact ⟨rfl, Owns.asRdm (v := .slice (some ⟨g, off + 4, none⟩) (N - 1) (m - 1)) ((HO.out.store (i := 1) (.slice (some ⟨g, off + 4, none⟩) (N - 1) (m - 1))).alloc (tkobj t) |>.alloc (tkobj t)) (HT.out.1)⟩
    have hs1 : s.isEmpty = false := by cases s with | nil => exact absurd rfl hs | cons a s => rfl
    by_cases hts : t.text = s
    · have ht1 : (t.text == s) = true := by simpa using hts
      have HE : Hid (takeM l.length k s (t :: r) = .ok (t, r)) := by show _ = _; simp only [takeM]; rw [if_neg (by simp [hkd, hts])]
      clear hkd hs hts
      by_cases hm1 : m = 1
      · subst hm1
        obtain rfl : N = 1 := by omega
        have HT1 := Lib.hid (HT.out.2 rfl)
        clear HT hN0 hNm hN9
        obtain ⟨bk, -⟩ := HO.out.blk
        have hbp := lt_of_block bk
        have fp0 := free_of_heap bk (i := 0)
        have fp1 := free_of_heap bk (i := 1)
        have cp0 := cell_of_heap bk (i := 0)
        have cp1 := cell_of_heap bk (i := 1)
        simp only [List.getElem?_toArray, List.getElem?_cons_succ, List.getElem?_cons_zero] at cp0 cp1
        clear bk
        go_enter Tryz.func34, Tryz.ntmps34
        go_wp2_with fail
        have h2 := (((HO.out.store (i := 1) (.slice (some ⟨g, off, none⟩) 0 0)).box (tkobj t)).alloc (tkobj t))
        have h3 := h2.blk.1
        rw [World.size_setCell] at h3
        refine bodyPost_ret (mtake_res rfl h3) (by rfl) ?_
        rw [HE.out]
        exact ⟨rfl, Owns.asRdm (v := .slice (some ⟨g, off, none⟩) 0 0) ((HO.out.store (i := 1) (.slice (some ⟨g, off, none⟩) 0 0)).alloc (tkobj t) |>.alloc (tkobj t)) (HT1.out)⟩
      · clear hN9
        obtain ⟨bk, -⟩ := HO.out.blk
        have hbp := lt_of_block bk
        have fp0 := free_of_heap bk (i := 0)
        have fp1 := free_of_heap bk (i := 1)
        have cp0 := cell_of_heap bk (i := 0)
        have cp1 := cell_of_heap bk (i := 1)
        simp only [List.getElem?_toArray, List.getElem?_cons_succ, List.getElem?_cons_zero] at cp0 cp1
        clear bk
        go_enter Tryz.func34, Tryz.ntmps34
        go_wp2_with fail
        have h2 := (((HO.out.store (i := 1) (.slice (some ⟨g, off + 4, none⟩) (N - 1) (m - 1))).box (tkobj t)).alloc (tkobj t))
        have h3 := h2.blk.1
        rw [World.size_setCell] at h3
        refine bodyPost_ret (mtake_res rfl h3) (by rfl) ?_
        rw [HE.out]
        exact ⟨rfl, Owns.asRdm (v := .slice (some ⟨g, off + 4, none⟩) (N - 1) (m - 1)) ((HO.out.store (i := 1) (.slice (some ⟨g, off + 4, none⟩) (N - 1) (m - 1))).alloc (tkobj t) |>.alloc (tkobj t)) (HT.out.1)⟩
    · have ht1 : (t.text == s) = false := by simpa using hts
      have HE : Hid (takeM l.length k s (t :: r) = .error (5, (t.pos : Int))) := by show _ = _; simp only [takeM]; rw [if_pos (.inr ⟨hs, hts⟩)]
      clear hkd hs hts
      obtain ⟨bk, -⟩ := HO.out.blk
      have hbp := lt_of_block bk
      have fp0 := free_of_heap bk (i := 0)
      have fp1 := free_of_heap bk (i := 1)
      have cp0 := cell_of_heap bk (i := 0)
      have cp1 := cell_of_heap bk (i := 1)
      simp only [List.getElem?_toArray, List.getElem?_cons_succ, List.getElem?_cons_zero] at cp0 cp1
      clear bk
      go_enter Tryz.func34, Tryz.ntmps34
      go_wp2_with fail
      rw [HE.out]
      exact ⟨rfl, rfl, _, (HP.out.alloc _).alloc _⟩
set_option maxHeartbeats 4000000 in
theorem mname_c (ps : List Piece) (ts : List Tok) (s : Bytes) (w : World) (h : Owns w0 w (rdM V b l ts :: ps)) (hl : l.length ≤ 140737488355328) (hN9 : ts.length ≤ 1000000) :
    Calls Tryz.prog 33 #[.pointer (some ⟨b, 0, none⟩), .string (bs s)] w (Got w0 V b l ps (fun a => .string (bs a)) (nameM l.length s ts)) := by
  have HT := Lib.hid (mtake_c ps ts 1 [] w h (by omega) hl hN9)
  clear h
  go_enter Tryz.func33, Tryz.ntmps33
  go_wp2_with fail
  go_at_call 34
  refine HT.out.mono ?_
  clear HT
  intro e W1 hg
  rcases hr : takeM l.length 1 [] ts with er | ⟨t, r⟩
  · rw [hr] at hg
    obtain ⟨rfl, q, ho⟩ := hg
    have HE : Hid (nameM l.length s ts = .error er) := by show _ = _; unfold nameM; rw [hr]
    have HO := Lib.hid ho
    clear ho hr
    refine (?_ : bodyPost Tryz.prog Tryz.f33 _ (Exit.panic _) _ _)
    rw [HE.out]
    exact ⟨rfl, rfl, q, HO.out⟩
  · rw [hr] at hg
    obtain ⟨rfl, ho⟩ := hg
    have HR := Lib.hid hr
    have HO := Lib.hid ho
    clear ho hr
    by_cases hs : t.text = s
    · have hs1 : (t.text == s) = true := by simpa using hs
      have HE : Hid (nameM l.length s ts = .error (1, (t.pos : Int))) := by show _ = _; unfold nameM; rw [HR.out]; simp only; rw [if_pos hs]
      clear hs HR
      go_wp2_with fail
      rw [HE.out]
      exact ⟨rfl, rfl, r, HO.out.alloc _⟩
    · have hs1 : (t.text == s) = false := by simpa using hs
      have HE : Hid (nameM l.length s ts = .ok (t.text, r)) := by show _ = _; unfold nameM; rw [HR.out]; simp only; rw [if_neg hs]
      clear hs HR
      go_wp2_with fail
      go_ret
      rw [HE.out]
      exact ⟨rfl, HO.out.alloc _⟩
set_option maxHeartbeats 4000000 in
theorem mnumber_c (ps : List Piece) (ts : List Tok) (a c : Int) (w : World) (h : Owns w0 w (rdM V b l ts :: ps)) (hl : l.length ≤ 140737488355328) (hN9 : ts.length ≤ 1000000) :
    Calls Tryz.prog 40 #[.pointer (some ⟨b, 0, none⟩), .int .i64 a, .int .i64 c] w (Got w0 V b l ps (fun n => .int .i64 n) (numM l.length a c ts)) := by
  have HT := Lib.hid (mtake_c ps ts 2 [] w h (by omega) hl hN9)
  clear h
  go_enter Tryz.func40, Tryz.ntmps40
  go_wp2_with fail
  go_at_call 34
  refine HT.out.mono ?_
  clear HT
  intro e W1 hg
  rcases hr : takeM l.length 2 [] ts with er | ⟨t, r⟩
  · rw [hr] at hg
    obtain ⟨rfl, q, ho⟩ := hg
    have HE : Hid (numM l.length a c ts = .error er) := by show _ = _; unfold numM; rw [hr]
    have HO := Lib.hid ho
    clear ho hr
    refine (?_ : bodyPost Tryz.prog Tryz.f40 _ (Exit.panic _) _ _)
    rw [HE.out]
    exact ⟨rfl, rfl, q, HO.out⟩
  · rw [hr] at hg
    obtain ⟨rfl, ho⟩ := hg
    have HR := Lib.hid hr
    have HO := Lib.hid ho
    clear ho hr
    by_cases h1 : (t.num : Int) < a
    · have HE : Hid (numM l.length a c ts = .error (10, (t.pos : Int))) := by show _ = _; unfold numM; rw [HR.out]; simp only; rw [if_pos (by omega)]
      clear HR
      go_wp2_with fail
      rw [HE.out]
      exact ⟨rfl, rfl, r, HO.out.alloc _⟩
    by_cases h2 : c < (t.num : Int)
    · have HE : Hid (numM l.length a c ts = .error (10, (t.pos : Int))) := by show _ = _; unfold numM; rw [HR.out]; simp only; rw [if_pos (by omega)]
      clear HR
      go_wp2_with fail
      rw [HE.out]
      exact ⟨rfl, rfl, r, HO.out.alloc _⟩
    have HE : Hid (numM l.length a c ts = .ok ((t.num : Int), r)) := by show _ = _; unfold numM; rw [HR.out]; simp only; rw [if_neg (by omega)]
    clear HR
    go_wp2_with fail
    go_ret
    rw [HE.out]
    exact ⟨rfl, HO.out.alloc _⟩
/-- The tokens behind a word, if it is there. -/
def wordM (s : Bytes) (ts : List Tok) : List Tok := if seesM s ts = true then ts.tail else ts
set_option maxHeartbeats 4000000 in
theorem mword_c (ps : List Piece) (ts : List Tok) (s : Bytes) (w : World) (h : Owns w0 w (rdM V b l ts :: ps)) (hN9 : ts.length ≤ 1000000) :
    Calls Tryz.prog 38 #[.pointer (some ⟨b, 0, none⟩), .string (bs s)] w fun x w' => x = .returned (.bool (seesM s ts)) ∧ Owns w0 w' (rdM V b l (wordM s ts) :: ps) := by
  obtain ⟨y, m, hv, hs, h1⟩ := h.rdm
  have HO := Lib.hid h1
  have HP := Lib.hid h
  clear h h1
  rcases ts with _ | ⟨t, r⟩
  · have HE : Hid (wordM s [] = [] ∧ seesM s [] = false) := ⟨rfl, rfl⟩
    clear hv hs hN9
    simp only [List.length_nil] at HO
    obtain ⟨bk, -⟩ := HO.out.blk
    have hbp := lt_of_block bk
    have fp0 := free_of_heap bk (i := 0)
    have fp1 := free_of_heap bk (i := 1)
    have cp0 := cell_of_heap bk (i := 0)
    have cp1 := cell_of_heap bk (i := 1)
    simp only [List.getElem?_toArray, List.getElem?_cons_succ, List.getElem?_cons_zero] at cp0 cp1
    clear bk
    go_enter Tryz.func38, Tryz.ntmps38
    go_wp2_with fail
    go_ret
    rw [HE.out.1, HE.out.2]
    exact ⟨rfl, HP.out⟩
  · obtain ⟨N, hN⟩ : ∃ N, N = (t :: r).length := ⟨_, rfl⟩
    have hN0 : 0 < N := by rw [hN]; simp
    rw [← hN] at HO hv hs hN9
    obtain ⟨g, off, rfl, hNm, hg, c0, c1, c2, c3⟩ := hv.get (j := 0) (Below.refl _ _) rfl
    simp only [Nat.zero_mul, Nat.add_zero] at c0 c1 c2 c3
    have HT := Lib.hid hs.tail
    clear hv hs hN
    obtain ⟨bk, -⟩ := HO.out.blk
    have hbp := lt_of_block bk
    have fp0 := free_of_heap bk (i := 0)
    have fp1 := free_of_heap bk (i := 1)
    have cp0 := cell_of_heap bk (i := 0)
    have cp1 := cell_of_heap bk (i := 1)
    simp only [List.getElem?_toArray, List.getElem?_cons_succ, List.getElem?_cons_zero] at cp0 cp1
    clear bk
    by_cases hk : t.kind = 1
    rotate_left
    · have hk1 : ((t.kind : Int) == 1) = false := by simp; omega
      have HE : Hid (wordM s (t :: r) = t :: r ∧ seesM s (t :: r) = false) := by show _ ∧ _; simp [wordM, seesM, hk]
      go_enter Tryz.func38, Tryz.ntmps38
      go_wp2_with fail
      go_ret
      rw [HE.out.1, HE.out.2]
      exact ⟨rfl, HP.out⟩
    have hk1 : ((t.kind : Int) == 1) = true := by simp; omega
    by_cases hs : t.text = s
    rotate_left
    · have hs1 : (t.text == s) = false := by simpa using hs
      have HE : Hid (wordM s (t :: r) = t :: r ∧ seesM s (t :: r) = false) := by show _ ∧ _; simp [wordM, seesM, hs]
      go_enter Tryz.func38, Tryz.ntmps38
      go_wp2_with fail
      go_ret
      rw [HE.out.1, HE.out.2]
      exact ⟨rfl, HP.out⟩
    have hs1 : (t.text == s) = true := by simpa using hs
    have HE : Hid (wordM s (t :: r) = r ∧ seesM s (t :: r) = true) := by show _ ∧ _; simp [wordM, seesM, hk, hs]
    clear hk hs
    by_cases hm1 : m = 1
    · subst hm1
      obtain rfl : N = 1 := by omega
      have HT1 := Lib.hid (HT.out.2 rfl)
      clear HT hN0 hNm hN9
      go_enter Tryz.func38, Tryz.ntmps38
      go_wp2_with fail
      go_ret
      rw [HE.out.1, HE.out.2]
      exact ⟨rfl, Owns.asRdm (v := .slice (some ⟨g, off, none⟩) 0 0) (HO.out.store (i := 1) (.slice (some ⟨g, off, none⟩) 0 0)) (HT1.out)⟩
    · clear hN9
      go_enter Tryz.func38, Tryz.ntmps38
      go_wp2_with fail
      go_ret
      rw [HE.out.1, HE.out.2]
      exact ⟨rfl, Owns.asRdm (v := .slice (some ⟨g, off + 4, none⟩) (N - 1) (m - 1)) (HO.out.store (i := 1) (.slice (some ⟨g, off + 4, none⟩) (N - 1) (m - 1))) (HT.out.1)⟩
end
end Go.Proofs.YtoeknmkephnekaaGreatDoor
namespace Go.Cz.Vd
open Go.Cz.Lx Go.Cz.Fo
theorem term_at {ts : List Tok} {k : Nat} {t : Tok} (h : ts[k]? = some t) : termB (ts.drop k) = (decide (t.kind = 1) && (decide (t.text = wFrom) && match ts[k + 1]? with | some u => decide (u.kind = 2) | none => false)) := by
  obtain ⟨h1, rfl⟩ := List.getElem?_eq_some_iff.1 h
  rw [List.drop_eq_getElem_cons h1]
  rcases h2 : ts.drop (k + 1) with _ | ⟨u, r⟩
  · have h3 : ts[k + 1]? = none := by
      have := congrArg List.length h2
      rw [List.length_drop, List.length_nil] at this
      exact List.getElem?_eq_none (by omega)
    rw [h3]
    simp [termB]
  · have h3 : ts[k + 1]? = some u := by
      have := congrArg (fun z => z[0]?) h2
      rw [List.getElem?_drop] at this
      simpa using this
    rw [h3]
    rfl
theorem from_next {ts : List Tok} {k : Nat} (hk : k < ts.length) : fromM (ts.drop k) = if termB (ts.drop k) = true then 0 else fromM (ts.drop (k + 1)) + 1 := by
  rw [List.drop_eq_getElem_cons hk, fromM, ← List.drop_eq_getElem_cons hk]
end Go.Cz.Vd
namespace Go.Cz
open Go.RowKit Go.Cz.Lx Go.Cz.Fo Go.Cz.Vd Go.Proofs.YtoeknmkephnekaaGreatDoor
/-- A formula that a call has made. -/
theorem Owns.fmPush {w0 w w' : World} {ps : List Piece} {f : Fm} {kv : Value} (h : Owns w0 w ps) (hb : Below w.heap.size w w') (hf : IsFm (fun g => w.heap.size ≤ g) w' f kv) : Owns w0 w' (fmP f kv :: ps) :=
  h.push (Q := fmP f kv) (S := (List.range w'.heap.size).filter fun k => decide (w.heap.size ≤ k)) ⟨hf.mono fun g hg hl => by
      rw [List.mem_filter, List.mem_range]
      exact ⟨hl, by simpa using hg⟩, fun k hk => by
      rw [List.mem_filter, List.mem_range] at hk
      exact hk.1⟩ hb fun k hk => by
    rw [List.mem_filter] at hk
    simpa using hk.2
end Go.Cz
namespace Go.Proofs.YtoeknmkephnekaaGreatDoor
open Go.RowKit Go.Cz Go.Cz.Lx Go.Cz.Fo Go.Cz.Vd
set_option linter.unusedSimpArgs false
set_option linter.unusedVariables false
attribute [local go_sem] bs_size bs_extract bs_append bs_toList
attribute [local irreducible] cList cPlan
section
variable {w0 : World} {V : TV} {b bR : Nat} {l : Bytes}
set_option maxRecDepth 100000 in
set_option maxHeartbeats 4000000 in
theorem mterm_c (ps : List Piece) (ts : List Tok) (k : Nat) (w : World) (h : Owns w0 w (rdM V b l ts :: one bR 66 (.pointer (some ⟨b, 0, none⟩)) :: ps)) (hN9 : ts.length ≤ 1000000) (hk : k < ts.length) :
    Calls Tryz.prog 74 #[.int .i64 (k : Int), .pointer (some ⟨bR, 0, none⟩)] w fun x w' => x = .returned (.bool (termB (ts.drop k))) ∧ Owns w0 w' (rdM V b l ts :: one bR 66 (.pointer (some ⟨b, 0, none⟩)) :: ps) := by
  obtain ⟨y, m, hv, -, h1⟩ := h.rdm
  have HO := Lib.hid h1
  have HP := Lib.hid h
  clear h h1
  obtain ⟨N, hN⟩ : ∃ N, N = ts.length := ⟨_, rfl⟩
  rw [← hN] at HO hv hN9 hk
  obtain ⟨t, ht⟩ : ∃ t, ts[k]? = some t := ⟨_, List.getElem?_eq_getElem (by rw [← hN]; exact hk)⟩
  obtain ⟨g, off, rfl, hNm, hg, c0, c1, c2, c3⟩ := hv.get (Below.refl _ _) ht
  have HA := Lib.hid (term_at ht)
  have HV := Lib.hid hv
  have HN := Lib.hid hN
  clear hv hN ht
  obtain ⟨bk, -⟩ := Owns.blk (HO.out)
  have hbp := lt_of_block bk
  have fp0 := free_of_heap bk (i := 0)
  have fp1 := free_of_heap bk (i := 1)
  have cp0 := cell_of_heap bk (i := 0)
  have cp1 := cell_of_heap bk (i := 1)
  simp only [List.getElem?_toArray, List.getElem?_cons_succ, List.getElem?_cons_zero] at cp0 cp1
  clear bk
  obtain ⟨bk, -⟩ := Owns.blk (HO.out.pop.pop)
  have hbq := lt_of_block bk
  have cq0 := cell_of_heap bk (i := 0)
  simp only [List.getElem?_toArray, List.getElem?_cons_succ, List.getElem?_cons_zero] at cq0
  clear bk
  by_cases h1 : t.kind = 1
  rotate_left
  · have h1' : ((t.kind : Int) == 1) = false := by simp; omega
    have h1c := Lib.hid (decide_eq_false h1)
    clear h1
    have HE : Hid (termB (ts.drop k) = false) := by show _ = _; rw [HA.out, h1c.out]; simp
    go_enter Tryz.func74, Tryz.ntmps74
    go_wp2_with fail
    go_ret
    rw [HE.out]
    exact ⟨rfl, HP.out.alloc _⟩
  have h1' : ((t.kind : Int) == 1) = true := by simp; omega
  have h1c := Lib.hid (decide_eq_true h1)
  clear h1
  by_cases h2 : t.text = wFrom
  rotate_left
  · have h2' : (t.text == [102, 114, 111, 109]) = false := by simpa [wFrom] using h2
    have h2c := Lib.hid (decide_eq_false h2)
    clear h2
    have HE : Hid (termB (ts.drop k) = false) := by show _ = _; rw [HA.out, h1c.out, h2c.out]; simp
    go_enter Tryz.func74, Tryz.ntmps74
    go_wp2_with fail
    go_ret
    rw [HE.out]
    exact ⟨rfl, HP.out.alloc _⟩
  have h2' : (t.text == [102, 114, 111, 109]) = true := by simpa [wFrom] using h2
  have h2c := Lib.hid (decide_eq_true h2)
  clear h2
  by_cases h3 : k + 1 < N
  rotate_left
  · have h3c : Hid (ts[k + 1]? = none) := Lib.hid (List.getElem?_eq_none (by rw [← HN.out]; omega))
    have h3' : ¬ (k : Int) + 1 < (N : Int) := by omega
    clear h3
    have HE : Hid (termB (ts.drop k) = false) := by show _ = _; rw [HA.out, h1c.out, h2c.out, h3c.out]; simp
    go_enter Tryz.func74, Tryz.ntmps74
    go_wp2_with fail
    go_ret
    rw [HE.out]
    exact ⟨rfl, HP.out.alloc _⟩
  obtain ⟨u, hu⟩ : ∃ u, ts[k + 1]? = some u := ⟨_, List.getElem?_eq_getElem (by rw [← HN.out]; exact h3)⟩
  obtain ⟨g', off', e, -, -, d0, -⟩ := HV.out.get (Below.refl _ _) hu
  cases e
  have h3' : (k : Int) + 1 < (N : Int) := by omega
  have h3c := Lib.hid hu
  clear h3 hu
  obtain ⟨k1, hk1⟩ : ∃ n : Nat, n = k + 1 := ⟨_, rfl⟩
  have HE : Hid (termB (ts.drop k) = ((u.kind : Int) == 2)) := by
    show _ = _
    rw [HA.out, h1c.out, h2c.out, h3c.out]
    by_cases h4 : u.kind = 2
    · simp [h4]
    · have : ¬ ((u.kind : Int) = 2) := by omega
      simp [h4, this]
  go_enter Tryz.func74, Tryz.ntmps74
  go_wp2_with fail
  go_ret
  rw [HE.out]
  exact ⟨rfl, HP.out.alloc _⟩
/-- What the reading of a formula answers. -/
def GotF (w0 : World) (V : TV) (b : Nat) (l : Bytes) (ps : List Piece) (r : Except Er (Fm × List Tok)) (x : Ending) (w' : World) : Prop :=
  match r with
  | .ok (f, q) => ∃ kv, x = .returned (fval f kv) ∧ Owns w0 w' (fmP f kv :: rdM V b l q :: ps)
  | .error e => x = pan e ∧ ∃ q, Owns w0 w' (rdM V b l q :: ps)
theorem slice_end (P : Program) (t : TypeId) (y : Option Addr) (k m s : Nat) {e : TypeId} (hu : P.underlying t = some (.slice e)) (hs : ∀ W : World, (sizeOf e).run P W = .ok s W) : ∃ y3 m3, ∀ W : World, (Instr.sliceAt t (.slice y k m) (some (.int .i64 (k : Int))) none none).run P W = .ok (.slice y3 0 m3) W := by
  have he : P.elem t = e := by simp [Program.elem, hu]
  have ht : P.underlying t = some (.slice (P.elem t)) := by rw [he]; exact hu
  refine ⟨if m = k then y else y.map (·.add (k * s)), m - k, fun W => ?_⟩
  rw [run_sliceAt_slice W t _ _ _ _ ht, run_slice_l W t y k m ht .i64 k (by omega) (Int.le_refl _), he, hs]
  simp [Result.andThen, sliced]
theorem tok_size (W : World) : (sizeOf 40).run Tryz.prog W = .ok 4 W := by kernel_rfl
theorem set5_ownsM {w W : World} {ps : List Piece} {b : Nat} (h : Owns w W (blk b fobj0 :: ps)) (v0 v1 v2 v3 v4 : Value) : Owns w (set5 W b v0 v1 v2 v3 v4) (blk b (.cells #[v0, v1, v2, v3, v4] 24 (0, 0)) :: ps) :=
  ((((h.store (i := 0) v0).store (i := 1) v1).store (i := 2) v2).store (i := 3) v3).store (i := 4) v4
theorem mform_res {W : World} {tmps : Array Value} {g : Nat} {v0 v1 v2 v3 v4 : Value} (h4 : tmps.getD 4 undef = .pointer (some ⟨g, 0, none⟩)) (hb : W.heap[g]? = some (.cells #[v0, v1, v2, v3, v4] 24 (0, 0))) :
    (results Tryz.f39 tmps).run Tryz.prog W = .ok (.agg #[v0, v1, v2, v3, v4]) W := by
  have c0 : W.cell? ⟨g, 0, none⟩ = some v0 := by rw [cell_of_heap hb]; rfl
  have c1 : W.cell? ⟨g, 1, none⟩ = some v1 := by rw [cell_of_heap hb]; rfl
  have c2 : W.cell? ⟨g, 2, none⟩ = some v2 := by rw [cell_of_heap hb]; rfl
  have c3 : W.cell? ⟨g, 3, none⟩ = some v3 := by rw [cell_of_heap hb]; rfl
  have c4 : W.cell? ⟨g, 4, none⟩ = some v4 := by rw [cell_of_heap hb]; rfl
  have h4' : tmps[4]?.getD undef = .pointer (some ⟨g, 0, none⟩) := by simpa using h4
  simp [results, Tryz.results39, go_sem, h4', c0, c1, c2, c3, c4]
set_option maxRecDepth 100000 in
set_option maxHeartbeats 4000000 in
theorem mformula_c (ps : List Piece) (ts : List Tok) (begin : Nat) (w : World) (h : Owns w0 w (rdM V b l ts :: ps)) (hl : l.length ≤ 20000) (hN9 : ts.length ≤ 1000000) (hbe : begin ≤ endM l (ts.drop (fromM ts))) (hel : endM l (ts.drop (fromM ts)) ≤ l.length) :
    Calls Tryz.prog 39 #[.pointer (some ⟨b, 0, none⟩), .int .i64 (begin : Int)] w (GotF w0 V b l ps (condM l begin ts)) := by
  have HP := Lib.hid h
  have HBE := Lib.hid hbe
  have HEL := Lib.hid hel
  obtain ⟨N, hN⟩ : ∃ N, N = ts.length := ⟨_, rfl⟩
  have HN := Lib.hid hN
  rw [← hN] at hN9
  clear hbe hel hN h
  obtain ⟨bR, hbR⟩ : ∃ b, b = w.heap.size := ⟨_, rfl⟩
  obtain ⟨bF, hbF⟩ : ∃ b, b = bR + 1 := ⟨_, rfl⟩
  obtain ⟨W1, hW1⟩ : ∃ W1, W1 = (w.alloc (.cells #[.pointer (some ⟨b, 0, none⟩)] 66)).alloc (.cells #[.int .i64 0, .string ⟨#[]⟩, .int .i64 0, .int .i64 0, .slice none 0 0] 24) := ⟨_, rfl⟩
  have HO : Hid (Owns w0 W1 (rdM V b l ts :: one bR 66 (.pointer (some ⟨b, 0, none⟩)) :: blk bF fobj0 :: ps)) := by
    rw [hW1, hbF, hbR]
    have := ((HP.out.box (.cells #[.pointer (some ⟨b, 0, none⟩)] 66 (0, 0))).box fobj0)
    rw [World.size_alloc] at this
    exact Lib.hid (this.re [2, 1, 0])
  go_enter Tryz.func39, Tryz.ntmps39
  go_wp2_with fail
  rw [← hW1, ← hbR, ← hbF]
  clear hW1 hbR hbF HP
  have H0 : Hid (fromM ts = 0 + fromM (ts.drop 0)) := by show _ = _; simp
  go_loopg [6] N (fun gk i wr => ∃ k : Nat, gk = N - k ∧ k ≤ N ∧ i = .int .i64 (k : Int) ∧ Hid (fromM ts = k + fromM (ts.drop k)) ∧ Hid (Owns w0 wr (rdM V b l ts :: one bR 66 (.pointer (some ⟨b, 0, none⟩)) :: blk bF fobj0 :: ps)))
  case atStart => exact ⟨0, rfl, Nat.zero_le _, rfl, H0, HO⟩
  case round =>
    rename_i J1 K1 hJ1 hK1
    clear HO H0
    obtain ⟨k, rfl, hk, rfl, HI, HO⟩ := hrel
    by_cases hlt : k < N
    · obtain ⟨y, m, -, -, h1⟩ := HO.out.rdm
      rw [← HN.out] at h1
      obtain ⟨bk, -⟩ := Owns.blk (h1)
      have hbp := lt_of_block bk
      have fp0 := free_of_heap bk (i := 0)
      have fp1 := free_of_heap bk (i := 1)
      have cp0 := cell_of_heap bk (i := 0)
      have cp1 := cell_of_heap bk (i := 1)
      simp only [List.getElem?_toArray, List.getElem?_cons_succ, List.getElem?_cons_zero] at cp0 cp1
      clear bk
      obtain ⟨bk, -⟩ := Owns.blk (h1.pop.pop)
      have hbq := lt_of_block bk
      have cq0 := cell_of_heap bk (i := 0)
      simp only [List.getElem?_toArray, List.getElem?_cons_succ, List.getElem?_cons_zero] at cq0
      clear bk
      clear h1
      go_wp2_with fail
      go_at_call 74
      clear hbp fp0 fp1 cp0 cp1 hbq cq0
      refine (mterm_c (blk bF fobj0 :: ps) ts k wr HO.out (by rw [← HN.out]; exact hN9) (by rw [← HN.out]; exact hlt)).mono ?_
      rintro e W2 ⟨rfl, ho⟩
      replace HO := Lib.hid ho
      clear ho
      have hfn := from_next (ts := ts) (k := k) (by rw [← HN.out]; exact hlt)
      obtain ⟨q, hq⟩ : ∃ q, q = termB (ts.drop k) := ⟨_, rfl⟩
      rw [← hq] at hfn ⊢
      have HFn := Lib.hid hfn
      clear hq hfn
      cases q
      · have HI2 : Hid (fromM ts = k + 1 + fromM (ts.drop (k + 1))) := by
          show _ = _
          have := HFn.out
          rw [if_neg (by simp)] at this
          rw [HI.out, this]
          omega
        clear HI HFn
        go_wp2_with fail
        go_roundg (N - (k + 1))
        case measure => omega
        case rel => exact ⟨k + 1, rfl, by omega, by go_num, HI2, HO⟩
      · have HFr : Hid (fromM ts = k) := by
          show _ = _
          have := HFn.out
          rw [if_pos rfl] at this
          rw [HI.out, this]; rfl
        clear HI HFn hJ1 hK1
        obtain ⟨t, ht⟩ : ∃ t, ts[k]? = some t := ⟨_, List.getElem?_eq_getElem (by rw [← HN.out]; exact hlt)⟩
        have hdk : ts.drop k = t :: ts.drop (k + 1) := by
          obtain ⟨h1, rfl⟩ := List.getElem?_eq_some_iff.1 ht
          exact List.drop_eq_getElem_cons h1
        have hE : endM l (ts.drop (fromM ts)) = t.pos := by rw [HFr.out, hdk]; rfl
        have hbE : begin ≤ t.pos := by rw [← hE]; exact HBE.out
        have hEl : t.pos ≤ l.length := by rw [← hE]; exact HEL.out
        have HE0 := Lib.hid hE
        obtain ⟨y, m, hv, hs, h1⟩ := HO.out.rdm
        rw [← HN.out] at hv hs h1
        obtain ⟨g, off, rfl, hNm, hg, c0, c1, c2, c3⟩ := hv.get (Below.refl _ _) ht
        have HV := Lib.hid hs
        replace HO := Lib.hid h1
        have HTt := Lib.hid ht
        clear h1 hv hs hE hdk ht c0 c1 c2 c3 hg
        go_wp2_with fail
        refine wp_region_can [] (List.range 14) (by decide +kernel) (by decide +kernel) ?_
        replace HO := Lib.hid HO.out.drew
        obtain ⟨W5, hWx⟩ : ∃ W, W = World.drew W2 := ⟨_, rfl⟩
        rw [← hWx] at HO ⊢
        clear hWx
        obtain ⟨bk, -⟩ := Owns.blk (HO.out)
        have hbp := lt_of_block bk
        have fp0 := free_of_heap bk (i := 0)
        have fp1 := free_of_heap bk (i := 1)
        have cp0 := cell_of_heap bk (i := 0)
        have cp1 := cell_of_heap bk (i := 1)
        simp only [List.getElem?_toArray, List.getElem?_cons_succ, List.getElem?_cons_zero] at cp0 cp1
        clear bk
        obtain ⟨bk, -⟩ := Owns.blk (HO.out.pop.pop)
        have hbq := lt_of_block bk
        have cq0 := cell_of_heap bk (i := 0)
        simp only [List.getElem?_toArray, List.getElem?_cons_succ, List.getElem?_cons_zero] at cq0
        clear bk
        iterate 14 (refine cl_do rfl rfl rfl (by first | rfl | simp [okB, lenV, plainV, Act.eval]) (fun _ _ => ?_); go_wp2_with fail)
        refine cl_nil ?_
        clear hbp fp0 fp1 cp0 cp1 hbq cq0
        obtain ⟨g', off', e, -, hg, -, c1, -⟩ := (HO.out.pop.tokAt HV.out).get (Below.refl _ _) HTt.out
        cases e
        obtain ⟨bk, -⟩ := Owns.blk (HO.out)
        have hbp := lt_of_block bk
        have fp0 := free_of_heap bk (i := 0)
        have fp1 := free_of_heap bk (i := 1)
        have cp0 := cell_of_heap bk (i := 0)
        have cp1 := cell_of_heap bk (i := 1)
        simp only [List.getElem?_toArray, List.getElem?_cons_succ, List.getElem?_cons_zero] at cp0 cp1
        clear bk
        obtain ⟨bk, -⟩ := Owns.blk (HO.out.pop.pop)
        have hbq := lt_of_block bk
        have cq0 := cell_of_heap bk (i := 0)
        simp only [List.getElem?_toArray, List.getElem?_cons_succ, List.getElem?_cons_zero] at cq0
        clear bk
        go_wp2_with fail
        clear c1 hg
        refine wp_region_can [] (List.range 10) (by decide +kernel) (by decide +kernel) ?_
        clear hbp fp0 fp1 cp0 cp1 hbq cq0
        replace HO := Lib.hid HO.out.drew
        obtain ⟨W6, hWx⟩ : ∃ W, W = World.drew W5 := ⟨_, rfl⟩
        rw [← hWx] at HO ⊢
        clear hWx
        obtain ⟨bk, -⟩ := Owns.blk (HO.out)
        have hbp := lt_of_block bk
        have fp0 := free_of_heap bk (i := 0)
        have fp1 := free_of_heap bk (i := 1)
        have cp0 := cell_of_heap bk (i := 0)
        have cp1 := cell_of_heap bk (i := 1)
        simp only [List.getElem?_toArray, List.getElem?_cons_succ, List.getElem?_cons_zero] at cp0 cp1
        clear bk
        obtain ⟨bk, -⟩ := Owns.blk (HO.out.pop.pop)
        have hbq := lt_of_block bk
        have cq0 := cell_of_heap bk (i := 0)
        simp only [List.getElem?_toArray, List.getElem?_cons_succ, List.getElem?_cons_zero] at cq0
        clear bk
        have hkm : ¬ m = k := by omega
        iterate 9 (refine cl_do rfl rfl rfl (by first | rfl | simp [okB, lenV, plainV, Act.eval]) (fun _ _ => ?_); go_wp2_with fail)
        refine cl_do rfl rfl rfl (by first | rfl | simp [okB, lenV, plainV, Act.eval]) (fun _ _ => ?_)
        go_wp2_with fail
        refine cl_nil ?_
        have ho := Owns.asRdm (v := .slice (some ⟨g, off + k * 4, none⟩) (N - k) (m - k)) (HO.out.store (i := 1) (.slice (some ⟨g, off + k * 4, none⟩) (N - k) (m - k))) (HV.out.drop (k := k) (by rw [← HN.out]; omega))
        obtain ⟨W7, hW7⟩ : ∃ W, W = W6.setCell ⟨b, 1, none⟩ (.slice (some ⟨g, off + k * 4, none⟩) (N - k) (m - k)) := ⟨_, rfl⟩
        rw [← hW7] at ho ⊢
        replace HO : Hid (Owns w0 W7 (rdM V b l (ts.drop k) :: one bR 66 (.pointer (some ⟨b, 0, none⟩)) :: blk bF fobj0 :: ps)) := Lib.hid ho
        clear ho hW7 hbp fp0 fp1 cp0 cp1 hbq cq0 hkm HTt
        have hcl : decide (k < N) = true := by simpa using hlt
        have HCl := Lib.hid hcl
        clear hcl hlt hNm
        obtain ⟨E, hE⟩ : ∃ E, E = t.pos := ⟨_, rfl⟩
        rw [← hE] at HE0 hbE hEl ⊢
        clear hE
        obtain ⟨y2, m2, -, -, h1⟩ := HO.out.rdm
        obtain ⟨bk, -⟩ := Owns.blk (h1)
        have hbp := lt_of_block bk
        have fp0 := free_of_heap bk (i := 0)
        have fp1 := free_of_heap bk (i := 1)
        have cp0 := cell_of_heap bk (i := 0)
        have cp1 := cell_of_heap bk (i := 1)
        simp only [List.getElem?_toArray, List.getElem?_cons_succ, List.getElem?_cons_zero] at cp0 cp1
        clear bk
        obtain ⟨bk, -⟩ := Owns.blk (h1.pop.pop)
        have hbq := lt_of_block bk
        have cq0 := cell_of_heap bk (i := 0)
        simp only [List.getElem?_toArray, List.getElem?_cons_succ, List.getElem?_cons_zero] at cq0
        clear bk
        clear h1
        go_wp2_with fail
        rw [← List.drop_take]
        clear hbp fp0 fp1 cp0 cp1 hbq cq0
        have hXl : ((l.take E).drop begin).length ≤ 140737488355328 := by rw [List.length_drop, List.length_take]; omega
        obtain ⟨X, hX⟩ : ∃ X, X = (l.take E).drop begin := ⟨_, rfl⟩
        rw [← hX] at hXl ⊢
        go_at_call 75
        refine (Parse_c X W7 hXl).mono ?_
        rintro e W8 ⟨kv, rfl, hf, hb⟩
        obtain ⟨p, hp⟩ : ∃ p, p = parseF X := ⟨_, rfl⟩
        rw [← hp] at hf ⊢
        have HC : Hid (condM l begin ts = match condE begin E true p with | some e => .error e | none => .ok (p.1, ts.drop k)) := by
          show _ = _
          unfold condM
          rw [HE0.out, HFr.out, ← HN.out, HCl.out, ← hX, ← hp]
          rfl
        have hpp := parse_pos X
        rw [← hp, hX, List.length_drop, List.length_take] at hpp
        have hpl : -1 ≤ p.2.2 ∧ p.2.2 ≤ 20000 := by omega
        clear hp hX hXl hpp
        obtain ⟨f, ec, pos⟩ := p
        dsimp only at hf HC hpl ⊢
        obtain ⟨hp1, hp2⟩ := hpl
        obtain ⟨ky, km, rfl⟩ := hf.form
        replace HO := Lib.hid (HO.out.fmPush hb hf)
        obtain ⟨n2, hn2⟩ : ∃ n, n = f.kids.length := ⟨_, rfl⟩
        rw [← hn2] at HO ⊢
        clear hf hb hn2 HE0 HFr HCl HV
        obtain ⟨bk, -⟩ := Owns.blk HO.out.pop.pop.pop
        have hbF := lt_of_block bk
        have ff0 := free_of_heap bk (i := 0)
        have ff1 := free_of_heap bk (i := 1)
        have ff2 := free_of_heap bk (i := 2)
        have ff3 := free_of_heap bk (i := 3)
        have ff4 := free_of_heap bk (i := 4)
        have cf0 := cell_of_heap bk (i := 0)
        have cf1 := cell_of_heap bk (i := 1)
        have cf2 := cell_of_heap bk (i := 2)
        have cf3 := cell_of_heap bk (i := 3)
        have cf4 := cell_of_heap bk (i := 4)
        simp only [List.getElem?_toArray, List.getElem?_cons_succ, List.getElem?_cons_zero] at cf0 cf1 cf2 cf3 cf4
        clear bk
        simp only [fval]
        by_cases h6 : ec = 6
        · have h61 : ((ec : Int) == 6) = true := by simp; omega
          have HX : Hid (condM l begin ts = .error (5, (E : Int))) := by show _ = _; rw [HC.out]; simp [condE, h6]
          clear h6
          clear hbF ff0 ff1 ff2 ff3 ff4 cf0 cf1 cf2 cf3 cf4
          go_wp2_with fail
          rw [HX.out]
          exact ⟨rfl, rfl, _, (((HO.out.alloc _).pop).re [1, 2, 0]).pop.pop⟩
        have h61 : ((ec : Int) == 6) = false := by simp; omega
        have HN6 : Hid (¬ (ec = 6 ∧ true = true)) := Lib.hid fun h => h6 h.1
        clear h6
        by_cases h0 : ec = 0
        rotate_left
        · have h01 : ((ec : Int) != 0) = true := by simp; omega
          by_cases hp : pos < 0
          · have HX : Hid (condM l begin ts = .error (ec, pos)) := by show _ = _; rw [HC.out]; unfold condE; rw [if_neg HN6.out, if_neg h0, if_pos hp]
            clear h0
            clear hbF ff0 ff1 ff2 ff3 ff4 cf0 cf1 cf2 cf3 cf4
            go_wp2_with fail
            rw [HX.out]
            exact ⟨rfl, rfl, _, (((HO.out.alloc _).pop).re [1, 2, 0]).pop.pop⟩
          · have HX : Hid (condM l begin ts = .error (ec, (begin : Int) + pos)) := by show _ = _; rw [HC.out]; unfold condE; rw [if_neg HN6.out, if_neg h0, if_neg hp]
            clear h0
            clear hbF ff0 ff1 ff2 ff3 ff4 cf0 cf1 cf2 cf3 cf4
            go_wp2_with fail
            rw [HX.out]
            exact ⟨rfl, rfl, _, (((HO.out.alloc _).pop).re [1, 2, 0]).pop.pop⟩
        have h01 : ((ec : Int) != 0) = false := by simp; omega
        have HX : Hid (condM l begin ts = .ok (f, ts.drop k)) := by show _ = _; rw [HC.out]; unfold condE; rw [if_neg HN6.out, if_pos h0]
        clear h0
        repeat (first | go_values | go_skip | go_guarded | go_step | go_upon)
        have h1 : Owns w0 W8 (blk bF fobj0 :: fmP f (.slice ky n2 km) :: rdM V b l (ts.drop k) :: one bR 66 (.pointer (some ⟨b, 0, none⟩)) :: ps) := HO.out.re [3, 0, 1, 2]
        have h2 := (set5_ownsM h1 (.int .i64 f.op) (.string (bs f.name)) (.int .i64 f.cmp) (.int .i64 f.num) (.slice ky n2 km)).alloc (fobj f (.slice ky n2 km))
        refine bodyPost_ret (mform_res rfl h2.blk.1) (by rfl) ?_
        rw [HX.out]
        exact ⟨.slice ky n2 km, rfl, ((h2.pop).re [2, 0, 1]).pop⟩
    · obtain rfl : k = N := by omega
      have HFr : Hid (fromM ts = k) := by
        show _ = _
        rw [HI.out, HN.out, List.drop_length]; rfl
      clear HI hJ1 hK1 hlt
      have hE : endM l (ts.drop (fromM ts)) = l.length := by rw [HFr.out, HN.out, List.drop_length]; rfl
      have hbE : begin ≤ l.length := by rw [← hE]; exact HBE.out
      have hEl : l.length ≤ l.length := Nat.le_refl _
      have HE0 := Lib.hid hE
      obtain ⟨y, m, hv, -, h1⟩ := HO.out.rdm
      rw [← HN.out] at hv h1
      have hkm : k ≤ m ∨ k = 0 := by
        obtain ⟨y', m', e, h⟩ := hv
        cases e
        rcases h with h | ⟨g, off, -, -, hm, -⟩
        · exact .inr (by rw [HN.out, h]; rfl)
        · exact .inl (by rw [HN.out]; exact hm)
      have hkm2 : k ≤ m := by omega
      have HV : Hid True := trivial
      replace HO := Lib.hid h1
      clear h1 hv hE hkm
      obtain ⟨bk, -⟩ := Owns.blk (HO.out)
      have hbp := lt_of_block bk
      have fp0 := free_of_heap bk (i := 0)
      have fp1 := free_of_heap bk (i := 1)
      have cp0 := cell_of_heap bk (i := 0)
      have cp1 := cell_of_heap bk (i := 1)
      simp only [List.getElem?_toArray, List.getElem?_cons_succ, List.getElem?_cons_zero] at cp0 cp1
      clear bk
      obtain ⟨bk, -⟩ := Owns.blk (HO.out.pop.pop)
      have hbq := lt_of_block bk
      have cq0 := cell_of_heap bk (i := 0)
      simp only [List.getElem?_toArray, List.getElem?_cons_succ, List.getElem?_cons_zero] at cq0
      clear bk
      go_wp2_with fail
      clear hbp fp0 fp1 cp0 cp1 hbq cq0
      refine wp_region_can [] (List.range 14) (by decide +kernel) (by decide +kernel) ?_
      replace HO := Lib.hid HO.out.drew
      obtain ⟨W5, hWx⟩ : ∃ W, W = World.drew wr := ⟨_, rfl⟩
      rw [← hWx] at HO ⊢
      clear hWx
      obtain ⟨bk, -⟩ := Owns.blk (HO.out)
      have hbp := lt_of_block bk
      have fp0 := free_of_heap bk (i := 0)
      have fp1 := free_of_heap bk (i := 1)
      have cp0 := cell_of_heap bk (i := 0)
      have cp1 := cell_of_heap bk (i := 1)
      simp only [List.getElem?_toArray, List.getElem?_cons_succ, List.getElem?_cons_zero] at cp0 cp1
      clear bk
      obtain ⟨bk, -⟩ := Owns.blk (HO.out.pop.pop)
      have hbq := lt_of_block bk
      have cq0 := cell_of_heap bk (i := 0)
      simp only [List.getElem?_toArray, List.getElem?_cons_succ, List.getElem?_cons_zero] at cq0
      clear bk
      iterate 14 (refine cl_do rfl rfl rfl (by first | rfl | simp [okB, lenV, plainV, Act.eval]) (fun _ _ => ?_); go_wp2_with fail)
      refine cl_nil ?_
      clear hbp fp0 fp1 cp0 cp1 hbq cq0
      go_wp2_with fail
      refine wp_region_can [] (List.range 10) (by decide +kernel) (by decide +kernel) ?_
      replace HO := Lib.hid HO.out.drew
      obtain ⟨W6, hWx⟩ : ∃ W, W = World.drew W5 := ⟨_, rfl⟩
      rw [← hWx] at HO ⊢
      clear hWx
      have hcl : decide (k < k) = false := by simp
      have HCl := Lib.hid hcl
      clear hcl
      obtain ⟨y3, m3, hrun⟩ : ∃ y3 m3, ∀ W : World, (Instr.sliceAt 36 (.slice y k m) (some (.int .i64 (k : Int))) none none).run Tryz.prog W = .ok (.slice y3 0 m3) W := slice_end Tryz.prog 36 y k m 4 Tryz.underlying36 tok_size
      obtain ⟨bk, -⟩ := Owns.blk (HO.out)
      have hbp := lt_of_block bk
      have fp0 := free_of_heap bk (i := 0)
      have fp1 := free_of_heap bk (i := 1)
      have cp0 := cell_of_heap bk (i := 0)
      have cp1 := cell_of_heap bk (i := 1)
      simp only [List.getElem?_toArray, List.getElem?_cons_succ, List.getElem?_cons_zero] at cp0 cp1
      clear bk
      obtain ⟨bk, -⟩ := Owns.blk (HO.out.pop.pop)
      have hbq := lt_of_block bk
      have cq0 := cell_of_heap bk (i := 0)
      simp only [List.getElem?_toArray, List.getElem?_cons_succ, List.getElem?_cons_zero] at cq0
      clear bk
      iterate 9 (refine cl_do rfl rfl rfl (by first | rfl | simp [okB, lenV, plainV, Act.eval]) (fun _ _ => ?_); go_wp2_with fail)
      refine cl_do rfl rfl rfl (by first | rfl | simp [okB, lenV, plainV, Act.eval]) (fun _ _ => ?_)
      go_wp2_with fail
      refine cl_nil ?_
      have hd : ts.drop k = [] := by rw [HN.out, List.drop_length]
      have ho := Owns.asRdm (v := .slice y3 0 m3) (HO.out.store (i := 1) (.slice y3 0 m3)) (Suf.nil V y3 m3)
      obtain ⟨W7, hW7⟩ : ∃ W, W = W6.setCell ⟨b, 1, none⟩ (.slice y3 0 m3) := ⟨_, rfl⟩
      rw [← hW7] at ho ⊢
      replace HO : Hid (Owns w0 W7 (rdM V b l (ts.drop k) :: one bR 66 (.pointer (some ⟨b, 0, none⟩)) :: blk bF fobj0 :: ps)) := by rw [hd]; exact Lib.hid ho
      clear ho hW7 hbp fp0 fp1 cp0 cp1 hbq cq0 hkm2 hrun hd
      obtain ⟨E, hE⟩ : ∃ E, E = l.length := ⟨_, rfl⟩
      rw [← hE] at HE0 hbE ⊢
      clear hEl
      have hEl : E ≤ l.length := by omega
      clear hE
      obtain ⟨y2, m2, -, -, h1⟩ := HO.out.rdm
      obtain ⟨bk, -⟩ := Owns.blk (h1)
      have hbp := lt_of_block bk
      have fp0 := free_of_heap bk (i := 0)
      have fp1 := free_of_heap bk (i := 1)
      have cp0 := cell_of_heap bk (i := 0)
      have cp1 := cell_of_heap bk (i := 1)
      simp only [List.getElem?_toArray, List.getElem?_cons_succ, List.getElem?_cons_zero] at cp0 cp1
      clear bk
      obtain ⟨bk, -⟩ := Owns.blk (h1.pop.pop)
      have hbq := lt_of_block bk
      have cq0 := cell_of_heap bk (i := 0)
      simp only [List.getElem?_toArray, List.getElem?_cons_succ, List.getElem?_cons_zero] at cq0
      clear bk
      clear h1
      go_wp2_with fail
      rw [← List.drop_take]
      clear hbp fp0 fp1 cp0 cp1 hbq cq0
      have hXl : ((l.take E).drop begin).length ≤ 140737488355328 := by rw [List.length_drop, List.length_take]; omega
      obtain ⟨X, hX⟩ : ∃ X, X = (l.take E).drop begin := ⟨_, rfl⟩
      rw [← hX] at hXl ⊢
      go_at_call 75
      refine (Parse_c X W7 hXl).mono ?_
      rintro e W8 ⟨kv, rfl, hf, hb⟩
      obtain ⟨p, hp⟩ : ∃ p, p = parseF X := ⟨_, rfl⟩
      rw [← hp] at hf ⊢
      have HC : Hid (condM l begin ts = match condE begin E false p with | some e => .error e | none => .ok (p.1, ts.drop k)) := by
        show _ = _
        unfold condM
        rw [HE0.out, HFr.out, ← HN.out, HCl.out, ← hX, ← hp]
        rfl
      have hpp := parse_pos X
      rw [← hp, hX, List.length_drop, List.length_take] at hpp
      have hpl : -1 ≤ p.2.2 ∧ p.2.2 ≤ 20000 := by omega
      clear hp hX hXl hpp
      obtain ⟨f, ec, pos⟩ := p
      dsimp only at hf HC hpl ⊢
      obtain ⟨hp1, hp2⟩ := hpl
      obtain ⟨ky, km, rfl⟩ := hf.form
      replace HO := Lib.hid (HO.out.fmPush hb hf)
      obtain ⟨n2, hn2⟩ : ∃ n, n = f.kids.length := ⟨_, rfl⟩
      rw [← hn2] at HO ⊢
      clear hf hb hn2 HE0 HFr HCl HV
      obtain ⟨bk, -⟩ := Owns.blk HO.out.pop.pop.pop
      have hbF := lt_of_block bk
      have ff0 := free_of_heap bk (i := 0)
      have ff1 := free_of_heap bk (i := 1)
      have ff2 := free_of_heap bk (i := 2)
      have ff3 := free_of_heap bk (i := 3)
      have ff4 := free_of_heap bk (i := 4)
      have cf0 := cell_of_heap bk (i := 0)
      have cf1 := cell_of_heap bk (i := 1)
      have cf2 := cell_of_heap bk (i := 2)
      have cf3 := cell_of_heap bk (i := 3)
      have cf4 := cell_of_heap bk (i := 4)
      simp only [List.getElem?_toArray, List.getElem?_cons_succ, List.getElem?_cons_zero] at cf0 cf1 cf2 cf3 cf4
      clear bk
      simp only [fval]
      have HN6 : Hid (¬ (ec = 6 ∧ false = true)) := Lib.hid fun h => by cases h.2
      by_cases h6 : ec = 6
      · have h61 : ((ec : Int) == 6) = true := by simp; omega
        clear h6
        by_cases h0 : ec = 0
        rotate_left
        · have h01 : ((ec : Int) != 0) = true := by simp; omega
          by_cases hp : pos < 0
          · have HX : Hid (condM l begin ts = .error (ec, pos)) := by show _ = _; rw [HC.out]; unfold condE; rw [if_neg HN6.out, if_neg h0, if_pos hp]
            clear h0
            clear hbF ff0 ff1 ff2 ff3 ff4 cf0 cf1 cf2 cf3 cf4
            go_wp2_with fail
            rw [HX.out]
            exact ⟨rfl, rfl, _, (((HO.out.alloc _).pop).re [1, 2, 0]).pop.pop⟩
          · have HX : Hid (condM l begin ts = .error (ec, (begin : Int) + pos)) := by show _ = _; rw [HC.out]; unfold condE; rw [if_neg HN6.out, if_neg h0, if_neg hp]
            clear h0
            clear hbF ff0 ff1 ff2 ff3 ff4 cf0 cf1 cf2 cf3 cf4
            go_wp2_with fail
            rw [HX.out]
            exact ⟨rfl, rfl, _, (((HO.out.alloc _).pop).re [1, 2, 0]).pop.pop⟩
        have h01 : ((ec : Int) != 0) = false := by simp; omega
        have HX : Hid (condM l begin ts = .ok (f, ts.drop k)) := by show _ = _; rw [HC.out]; unfold condE; rw [if_neg HN6.out, if_pos h0]
        clear h0
        repeat (first | go_values | go_skip | go_guarded | go_step | go_upon)
        have h1 : Owns w0 W8 (blk bF fobj0 :: fmP f (.slice ky n2 km) :: rdM V b l (ts.drop k) :: one bR 66 (.pointer (some ⟨b, 0, none⟩)) :: ps) := HO.out.re [3, 0, 1, 2]
        have h2 := (set5_ownsM h1 (.int .i64 f.op) (.string (bs f.name)) (.int .i64 f.cmp) (.int .i64 f.num) (.slice ky n2 km)).alloc (fobj f (.slice ky n2 km))
        refine bodyPost_ret (mform_res rfl h2.blk.1) (by rfl) ?_
        rw [HX.out]
        exact ⟨.slice ky n2 km, rfl, ((h2.pop).re [2, 0, 1]).pop⟩
      · have h61 : ((ec : Int) == 6) = false := by simp; omega
        clear h6
        by_cases h0 : ec = 0
        rotate_left
        · have h01 : ((ec : Int) != 0) = true := by simp; omega
          by_cases hp : pos < 0
          · have HX : Hid (condM l begin ts = .error (ec, pos)) := by show _ = _; rw [HC.out]; unfold condE; rw [if_neg HN6.out, if_neg h0, if_pos hp]
            clear h0
            clear hbF ff0 ff1 ff2 ff3 ff4 cf0 cf1 cf2 cf3 cf4
            go_wp2_with fail
            rw [HX.out]
            exact ⟨rfl, rfl, _, (((HO.out.alloc _).pop).re [1, 2, 0]).pop.pop⟩
          · have HX : Hid (condM l begin ts = .error (ec, (begin : Int) + pos)) := by show _ = _; rw [HC.out]; unfold condE; rw [if_neg HN6.out, if_neg h0, if_neg hp]
            clear h0
            clear hbF ff0 ff1 ff2 ff3 ff4 cf0 cf1 cf2 cf3 cf4
            go_wp2_with fail
            rw [HX.out]
            exact ⟨rfl, rfl, _, (((HO.out.alloc _).pop).re [1, 2, 0]).pop.pop⟩
        have h01 : ((ec : Int) != 0) = false := by simp; omega
        have HX : Hid (condM l begin ts = .ok (f, ts.drop k)) := by show _ = _; rw [HC.out]; unfold condE; rw [if_neg HN6.out, if_pos h0]
        clear h0
        repeat (first | go_values | go_skip | go_guarded | go_step | go_upon)
        have h1 : Owns w0 W8 (blk bF fobj0 :: fmP f (.slice ky n2 km) :: rdM V b l (ts.drop k) :: one bR 66 (.pointer (some ⟨b, 0, none⟩)) :: ps) := HO.out.re [3, 0, 1, 2]
        have h2 := (set5_ownsM h1 (.int .i64 f.op) (.string (bs f.name)) (.int .i64 f.cmp) (.int .i64 f.num) (.slice ky n2 km)).alloc (fobj f (.slice ky n2 km))
        refine bodyPost_ret (mform_res rfl h2.blk.1) (by rfl) ?_
        rw [HX.out]
        exact ⟨.slice ky n2 km, rfl, ((h2.pop).re [2, 0, 1]).pop⟩
end
end Go.Proofs.YtoeknmkephnekaaGreatDoor
namespace Go.Proofs.YtoeknmkephnekaaGreatDoor
open Go.RowKit Go.Cz Go.Cz.Lx Go.Cz.Fo Go.Cz.Vd
set_option linter.unusedSimpArgs false
set_option linter.unusedVariables false
attribute [local go_sem] bs_size bs_extract bs_append bs_toList
attribute [local irreducible] cList cPlan
/-- What a closure of the names leaves. -/
def GotM (w0 : World) (V : TV) (b bR bm : Nat) (l : Bytes) (kv : Value) (ps : List Piece) (r : Except Er (Me × List Tok)) (x : Ending) (w' : World) : Prop :=
  match r with
  | .ok (m, q) => x = .returned (.tuple #[]) ∧ Owns w0 w' (rdM V b l q :: blk bm (mobj m kv) :: one bR 66 (.pointer (some ⟨b, 0, none⟩)) :: ps)
  | .error e => x = pan e ∧ ∃ q m, Owns w0 w' (rdM V b l q :: blk bm (mobj m kv) :: one bR 66 (.pointer (some ⟨b, 0, none⟩)) :: ps)
section
variable {w0 : World} {V : TV} {b bR bm bH : Nat} {l : Bytes}
set_option maxRecDepth 100000 in
set_option maxHeartbeats 4000000 in
theorem mids_c (ps : List Piece) (ts : List Tok) (m : Me) (kv : Value) (a c : Bytes) (w : World) (h : Owns w0 w (rdM V b l ts :: blk bm (mobj m kv) :: one bR 66 (.pointer (some ⟨b, 0, none⟩)) :: ps)) (hl : l.length ≤ 140737488355328) (hN9 : ts.length ≤ 1000000) :
    Calls Tryz.prog 32 #[.string (bs a), .string (bs c), .pointer (some ⟨bR, 0, none⟩), .pointer (some ⟨bm, 0, none⟩)] w (GotM w0 V b bR bm l kv ps (idsM l.length a c m ts)) := by
  have HO := Lib.hid h
  clear h
  obtain ⟨bk, -⟩ := Owns.blk (HO.out.pop.pop)
  have hbq := lt_of_block bk
  have cq0 := cell_of_heap bk (i := 0)
  simp only [List.getElem?_toArray, List.getElem?_cons_succ, List.getElem?_cons_zero] at cq0
  clear bk
  go_enter Tryz.func32, Tryz.ntmps32
  go_wp2_with fail
  clear hbq cq0
  go_at_call 33
  refine (mname_c _ ts a w HO.out hl hN9).mono ?_
  intro e W1 hg
  rcases hr : nameM l.length a ts with er | ⟨s, r⟩
  · rw [hr] at hg
    obtain ⟨rfl, q, ho⟩ := hg
    have HE : Hid (idsM l.length a c m ts = .error er) := by show _ = _; unfold idsM; rw [hr]
    replace HO := Lib.hid ho
    clear ho hr
    refine (?_ : bodyPost Tryz.prog Tryz.f32 _ (Exit.panic _) _ _)
    rw [HE.out]
    exact ⟨rfl, rfl, q, m, HO.out⟩
  rw [hr] at hg
  obtain ⟨rfl, ho⟩ := hg
  have HR := Lib.hid hr
  have hrl : r.length ≤ 1000000 := by
    obtain ⟨t, rfl, -⟩ := name_inv hr
    simp only [List.length_cons] at hN9
    omega
  replace HO := Lib.hid ho
  clear ho hr hN9
  obtain ⟨bk, -⟩ := Owns.blk (HO.out.pop)
  have hbm := lt_of_block bk
  have fm0 := free_of_heap bk (i := 0)
  have fm1 := free_of_heap bk (i := 1)
  have fm2 := free_of_heap bk (i := 2)
  have fm3 := free_of_heap bk (i := 3)
  have cm0 := cell_of_heap bk (i := 0)
  have cm1 := cell_of_heap bk (i := 1)
  have cm2 := cell_of_heap bk (i := 2)
  have cm3 := cell_of_heap bk (i := 3)
  simp only [List.getElem?_toArray, List.getElem?_cons_succ, List.getElem?_cons_zero] at cm0 cm1 cm2 cm3
  clear bk
  obtain ⟨bk, -⟩ := Owns.blk (HO.out.pop.pop)
  have hbq := lt_of_block bk
  have cq0 := cell_of_heap bk (i := 0)
  simp only [List.getElem?_toArray, List.getElem?_cons_succ, List.getElem?_cons_zero] at cq0
  clear bk
  dsimp only
  have nmR := Owns.ne HO.out.pop
  have nRm := nmR.symm
  go_wp2_with fail
  have ho : Owns w0 (W1.setCell ⟨bm, 0, none⟩ (.string (bs s))) (rdM V b l r :: blk bm (mobj { m with id := s } kv) :: one bR 66 (.pointer (some ⟨b, 0, none⟩)) :: ps) := (HO.out.swap.store (i := 0) (.string (bs s))).swap
  obtain ⟨W2, hW2⟩ : ∃ W, W = W1.setCell ⟨bm, 0, none⟩ (.string (bs s)) := ⟨_, rfl⟩
  rw [← hW2] at ho ⊢
  replace HO := Lib.hid ho
  clear hbm fm0 fm1 fm2 fm3 cm0 cm1 cm2 cm3
  clear ho hW2 hbq cq0
  go_at_call 34
  refine (mtake_c _ r 1 wOf W2 HO.out (by omega) hl hrl).mono ?_
  intro e W3 hg
  rcases hr : takeM l.length 1 wOf r with er | ⟨t, r2⟩
  · rw [hr] at hg
    obtain ⟨rfl, q, ho⟩ := hg
    have HE : Hid (idsM l.length a c m ts = .error er) := by show _ = _; unfold idsM; rw [HR.out]; simp only; rw [hr]
    replace HO := Lib.hid ho
    clear ho hr
    refine (?_ : bodyPost Tryz.prog Tryz.f32 _ (Exit.panic _) _ _)
    rw [HE.out]
    exact ⟨rfl, rfl, q, _, HO.out⟩
  rw [hr] at hg
  obtain ⟨rfl, ho⟩ := hg
  have HR2 := Lib.hid hr
  have hrl2 : r2.length ≤ 1000000 := by
    obtain ⟨rfl, -⟩ := take_inv hr
    simp only [List.length_cons] at hrl
    omega
  replace HO := Lib.hid ho
  clear ho hr hrl
  obtain ⟨bk, -⟩ := Owns.blk (HO.out.pop.pop)
  have hbq := lt_of_block bk
  have cq0 := cell_of_heap bk (i := 0)
  simp only [List.getElem?_toArray, List.getElem?_cons_succ, List.getElem?_cons_zero] at cq0
  clear bk
  dsimp only
  go_wp2_with fail
  clear hbq cq0
  go_at_call 33
  refine (mname_c _ r2 c W3 HO.out hl hrl2).mono ?_
  intro e W4 hg
  rcases hr : nameM l.length c r2 with er | ⟨s2, r3⟩
  · rw [hr] at hg
    obtain ⟨rfl, q, ho⟩ := hg
    have HE : Hid (idsM l.length a c m ts = .error er) := by show _ = _; unfold idsM; rw [HR.out]; simp only; rw [HR2.out]; simp only; rw [hr]
    replace HO := Lib.hid ho
    clear ho hr
    refine (?_ : bodyPost Tryz.prog Tryz.f32 _ (Exit.panic _) _ _)
    rw [HE.out]
    exact ⟨rfl, rfl, q, _, HO.out⟩
  rw [hr] at hg
  obtain ⟨rfl, ho⟩ := hg
  have HE : Hid (idsM l.length a c m ts = .ok ({ m with id := s, auth := s2 }, r3)) := by show _ = _; unfold idsM; rw [HR.out]; simp only; rw [HR2.out]; simp only; rw [hr]
  replace HO := Lib.hid ho
  clear ho hr hrl2 HR HR2
  obtain ⟨bk, -⟩ := Owns.blk (HO.out.pop)
  have hbm := lt_of_block bk
  have fm0 := free_of_heap bk (i := 0)
  have fm1 := free_of_heap bk (i := 1)
  have fm2 := free_of_heap bk (i := 2)
  have fm3 := free_of_heap bk (i := 3)
  have cm0 := cell_of_heap bk (i := 0)
  have cm1 := cell_of_heap bk (i := 1)
  have cm2 := cell_of_heap bk (i := 2)
  have cm3 := cell_of_heap bk (i := 3)
  simp only [List.getElem?_toArray, List.getElem?_cons_succ, List.getElem?_cons_zero] at cm0 cm1 cm2 cm3
  clear bk
  dsimp only
  go_wp2_with fail
  go_end0
  rw [HE.out]
  exact ⟨rfl, (HO.out.swap.store (i := 1) (.string (bs s2))).swap⟩
/-- The closure that reads the names. -/
abbrev headP (bH bR bm : Nat) : Piece := one bH 71 (.func (.func 32) #[] #[.pointer (some ⟨bR, 0, none⟩), .pointer (some ⟨bm, 0, none⟩)])
/-- What a closure of a kind leaves. -/
abbrev GotK (w0 : World) (V : TV) (b bR bm bH : Nat) (l : Bytes) (kv : Value) (ps : List Piece) (r : Except Er (Me × List Tok)) (x : Ending) (w' : World) : Prop := GotM w0 V b bR bm l kv (headP bH bR bm :: ps) r x w'
set_option maxRecDepth 100000 in
set_option maxHeartbeats 4000000 in
theorem mforbid_c (ps : List Piece) (ts : List Tok) (m : Me) (kv : Value) (w : World) (hm : { m with kind := 1 } = startM 1) (h : Owns w0 w (rdM V b l ts :: blk bm (mobj m kv) :: one bR 66 (.pointer (some ⟨b, 0, none⟩)) :: headP bH bR bm :: ps)) (hl : l.length ≤ 140737488355328) (hN9 : ts.length ≤ 1000000) :
    Calls Tryz.prog 35 #[.pointer (some ⟨bm, 0, none⟩), .pointer (some ⟨bH, 0, none⟩)] w (GotK w0 V b bR bm bH l kv ps (targetM l.length 1 ts)) := by
  have HO := Lib.hid h
  have HM := Lib.hid hm
  clear h hm
  obtain ⟨bk, -⟩ := Owns.blk (HO.out.pop)
  have hbm := lt_of_block bk
  have fm0 := free_of_heap bk (i := 0)
  have fm1 := free_of_heap bk (i := 1)
  have fm2 := free_of_heap bk (i := 2)
  have fm3 := free_of_heap bk (i := 3)
  have cm0 := cell_of_heap bk (i := 0)
  have cm1 := cell_of_heap bk (i := 1)
  have cm2 := cell_of_heap bk (i := 2)
  have cm3 := cell_of_heap bk (i := 3)
  simp only [List.getElem?_toArray, List.getElem?_cons_succ, List.getElem?_cons_zero] at cm0 cm1 cm2 cm3
  clear bk
  obtain ⟨bk, -⟩ := Owns.blk (HO.out.pop.pop.pop)
  have hbq := lt_of_block bk
  have cq0 := cell_of_heap bk (i := 0)
  simp only [List.getElem?_toArray, List.getElem?_cons_succ, List.getElem?_cons_zero] at cq0
  clear bk
  go_enter Tryz.func35, Tryz.ntmps35
  go_wp2_with fail
  have ho : Owns w0 (w.setCell ⟨bm, 2, none⟩ (.int .i64 1)) (rdM V b l ts :: blk bm (mobj { m with kind := 1 } kv) :: one bR 66 (.pointer (some ⟨b, 0, none⟩)) :: headP bH bR bm :: ps) := (HO.out.swap.store (i := 2) (.int .i64 1)).swap
  obtain ⟨W2, hW2⟩ : ∃ W, W = w.setCell ⟨bm, 2, none⟩ (.int .i64 1) := ⟨_, rfl⟩
  rw [← hW2] at ho ⊢
  replace HO := Lib.hid ho
  clear hbm fm0 fm1 fm2 fm3 cm0 cm1 cm2 cm3
  clear ho hW2 hbq cq0
  refine (mids_c (headP bH bR bm :: ps) ts { m with kind := 1 } kv [] [] W2 HO.out hl hN9).mono ?_
  intro e W9 hg
  have HE : Hid (targetM l.length 1 ts = idsM l.length [] [] { m with kind := 1 } ts) := by show _ = _; unfold targetM; rw [if_pos rfl, ← HM.out]
  rcases hr : targetM l.length _ ts with er | ⟨s', r'⟩
  · rw [← HE.out, hr] at hg
    obtain ⟨rfl, q, m', ho⟩ := hg
    refine (?_ : bodyPost Tryz.prog Tryz.f35 _ (Exit.panic _) _ _)
    exact ⟨rfl, rfl, q, m', ho⟩
  rw [← HE.out, hr] at hg
  obtain ⟨rfl, ho⟩ := hg
  have HO9 := Lib.hid ho
  have HR9 := Lib.hid hr
  clear ho hr
  dsimp only
  go_wp2_with fail
  go_end0
  rw [HR9.out]
  exact ⟨rfl, HO9.out⟩
set_option maxRecDepth 100000 in
set_option maxHeartbeats 4000000 in
theorem mexempt_c (ps : List Piece) (ts : List Tok) (m : Me) (kv : Value) (w : World) (hm : { m with kind := 2, target := [] } = startM 2) (h : Owns w0 w (rdM V b l ts :: blk bm (mobj m kv) :: one bR 66 (.pointer (some ⟨b, 0, none⟩)) :: headP bH bR bm :: ps)) (hl : l.length ≤ 140737488355328) (hN9 : ts.length ≤ 1000000) :
    Calls Tryz.prog 36 #[.pointer (some ⟨bR, 0, none⟩), .pointer (some ⟨bm, 0, none⟩), .pointer (some ⟨bH, 0, none⟩)] w (GotK w0 V b bR bm bH l kv ps (targetM l.length 2 ts)) := by
  have HO := Lib.hid h
  have HM := Lib.hid hm
  clear h hm
  obtain ⟨bk, -⟩ := Owns.blk (HO.out.pop.pop)
  have hbq := lt_of_block bk
  have cq0 := cell_of_heap bk (i := 0)
  simp only [List.getElem?_toArray, List.getElem?_cons_succ, List.getElem?_cons_zero] at cq0
  clear bk
  go_enter Tryz.func36, Tryz.ntmps36
  go_wp2_with fail
  clear hbq cq0
  go_at_call 33
  refine (mname_c _ ts [] w HO.out hl hN9).mono ?_
  intro e W1 hg
  rcases hr : nameM l.length [] ts with er | ⟨s, r⟩
  · rw [hr] at hg
    obtain ⟨rfl, q, ho⟩ := hg
    have HE : Hid (targetM l.length 2 ts = .error er) := by show _ = _; unfold targetM; rw [if_neg (by decide), hr]
    replace HO := Lib.hid ho
    clear ho hr
    refine (?_ : bodyPost Tryz.prog Tryz.f36 _ (Exit.panic _) _ _)
    rw [HE.out]
    exact ⟨rfl, rfl, q, _, HO.out⟩
  rw [hr] at hg
  obtain ⟨rfl, ho⟩ := hg
  have HR := Lib.hid hr
  have hrl : r.length ≤ 1000000 := by
    obtain ⟨t, rfl, -⟩ := name_inv hr
    simp only [List.length_cons] at hN9
    omega
  replace HO := Lib.hid ho
  clear ho hr hN9
  obtain ⟨bk, -⟩ := Owns.blk (HO.out.pop)
  have hbm := lt_of_block bk
  have fm0 := free_of_heap bk (i := 0)
  have fm1 := free_of_heap bk (i := 1)
  have fm2 := free_of_heap bk (i := 2)
  have fm3 := free_of_heap bk (i := 3)
  have cm0 := cell_of_heap bk (i := 0)
  have cm1 := cell_of_heap bk (i := 1)
  have cm2 := cell_of_heap bk (i := 2)
  have cm3 := cell_of_heap bk (i := 3)
  simp only [List.getElem?_toArray, List.getElem?_cons_succ, List.getElem?_cons_zero] at cm0 cm1 cm2 cm3
  clear bk
  obtain ⟨bk, -⟩ := Owns.blk (HO.out.pop.pop.pop)
  have hbq := lt_of_block bk
  have cq0 := cell_of_heap bk (i := 0)
  simp only [List.getElem?_toArray, List.getElem?_cons_succ, List.getElem?_cons_zero] at cq0
  clear bk
  dsimp only
  go_wp2_with fail
  have ho : Owns w0 ((W1.setCell ⟨bm, 2, none⟩ (.int .i64 2)).setCell ⟨bm, 3, none⟩ (.string (bs s))) (rdM V b l r :: blk bm (mobj { m with kind := 2, target := s } kv) :: one bR 66 (.pointer (some ⟨b, 0, none⟩)) :: headP bH bR bm :: ps) := ((HO.out.swap.store (i := 2) (.int .i64 2)).store (i := 3) (.string (bs s))).swap
  obtain ⟨W2, hW2⟩ : ∃ W, W = (W1.setCell ⟨bm, 2, none⟩ (.int .i64 2)).setCell ⟨bm, 3, none⟩ (.string (bs s)) := ⟨_, rfl⟩
  rw [← hW2] at ho ⊢
  replace HO := Lib.hid ho
  clear hbm fm0 fm1 fm2 fm3 cm0 cm1 cm2 cm3
  clear ho hW2 hbq cq0
  refine (mids_c (headP bH bR bm :: ps) r { m with kind := 2, target := s } kv s [] W2 HO.out hl hrl).mono ?_
  intro e W9 hg
  have HE : Hid (targetM l.length 2 ts = idsM l.length s [] { m with kind := 2, target := s } r) := by
    show _ = _
    unfold targetM
    rw [if_neg (by decide), HR.out]
    simp only
    rw [← HM.out]
    rfl
  clear HR
  rcases hr : targetM l.length _ ts with er | ⟨s', r'⟩
  · rw [← HE.out, hr] at hg
    obtain ⟨rfl, q, m', ho⟩ := hg
    refine (?_ : bodyPost Tryz.prog Tryz.f36 _ (Exit.panic _) _ _)
    exact ⟨rfl, rfl, q, m', ho⟩
  rw [← HE.out, hr] at hg
  obtain ⟨rfl, ho⟩ := hg
  have HO9 := Lib.hid ho
  have HR9 := Lib.hid hr
  clear ho hr
  dsimp only
  go_wp2_with fail
  go_end0
  rw [HR9.out]
  exact ⟨rfl, HO9.out⟩
set_option maxRecDepth 100000 in
set_option maxHeartbeats 4000000 in
theorem mblock_c (ps : List Piece) (ts : List Tok) (m : Me) (kv : Value) (w : World) (hm : { m with kind := 3, target := [] } = startM 3) (h : Owns w0 w (rdM V b l ts :: blk bm (mobj m kv) :: one bR 66 (.pointer (some ⟨b, 0, none⟩)) :: headP bH bR bm :: ps)) (hl : l.length ≤ 140737488355328) (hN9 : ts.length ≤ 1000000) :
    Calls Tryz.prog 37 #[.pointer (some ⟨bR, 0, none⟩), .pointer (some ⟨bm, 0, none⟩), .pointer (some ⟨bH, 0, none⟩)] w (GotK w0 V b bR bm bH l kv ps (targetM l.length 3 ts)) := by
  have HO := Lib.hid h
  have HM := Lib.hid hm
  clear h hm
  obtain ⟨bk, -⟩ := Owns.blk (HO.out.pop.pop)
  have hbq := lt_of_block bk
  have cq0 := cell_of_heap bk (i := 0)
  simp only [List.getElem?_toArray, List.getElem?_cons_succ, List.getElem?_cons_zero] at cq0
  clear bk
  go_enter Tryz.func37, Tryz.ntmps37
  go_wp2_with fail
  clear hbq cq0
  go_at_call 33
  refine (mname_c _ ts [] w HO.out hl hN9).mono ?_
  intro e W1 hg
  rcases hr : nameM l.length [] ts with er | ⟨s, r⟩
  · rw [hr] at hg
    obtain ⟨rfl, q, ho⟩ := hg
    have HE : Hid (targetM l.length 3 ts = .error er) := by show _ = _; unfold targetM; rw [if_neg (by decide), hr]
    replace HO := Lib.hid ho
    clear ho hr
    refine (?_ : bodyPost Tryz.prog Tryz.f37 _ (Exit.panic _) _ _)
    rw [HE.out]
    exact ⟨rfl, rfl, q, _, HO.out⟩
  rw [hr] at hg
  obtain ⟨rfl, ho⟩ := hg
  have HR := Lib.hid hr
  have hrl : r.length ≤ 1000000 := by
    obtain ⟨t, rfl, -⟩ := name_inv hr
    simp only [List.length_cons] at hN9
    omega
  replace HO := Lib.hid ho
  clear ho hr hN9
  obtain ⟨bk, -⟩ := Owns.blk (HO.out.pop)
  have hbm := lt_of_block bk
  have fm0 := free_of_heap bk (i := 0)
  have fm1 := free_of_heap bk (i := 1)
  have fm2 := free_of_heap bk (i := 2)
  have fm3 := free_of_heap bk (i := 3)
  have cm0 := cell_of_heap bk (i := 0)
  have cm1 := cell_of_heap bk (i := 1)
  have cm2 := cell_of_heap bk (i := 2)
  have cm3 := cell_of_heap bk (i := 3)
  simp only [List.getElem?_toArray, List.getElem?_cons_succ, List.getElem?_cons_zero] at cm0 cm1 cm2 cm3
  clear bk
  obtain ⟨bk, -⟩ := Owns.blk (HO.out.pop.pop.pop)
  have hbq := lt_of_block bk
  have cq0 := cell_of_heap bk (i := 0)
  simp only [List.getElem?_toArray, List.getElem?_cons_succ, List.getElem?_cons_zero] at cq0
  clear bk
  dsimp only
  go_wp2_with fail
  have ho : Owns w0 ((W1.setCell ⟨bm, 2, none⟩ (.int .i64 3)).setCell ⟨bm, 3, none⟩ (.string (bs s))) (rdM V b l r :: blk bm (mobj { m with kind := 3, target := s } kv) :: one bR 66 (.pointer (some ⟨b, 0, none⟩)) :: headP bH bR bm :: ps) := ((HO.out.swap.store (i := 2) (.int .i64 3)).store (i := 3) (.string (bs s))).swap
  obtain ⟨W2, hW2⟩ : ∃ W, W = (W1.setCell ⟨bm, 2, none⟩ (.int .i64 3)).setCell ⟨bm, 3, none⟩ (.string (bs s)) := ⟨_, rfl⟩
  rw [← hW2] at ho ⊢
  replace HO := Lib.hid ho
  clear hbm fm0 fm1 fm2 fm3 cm0 cm1 cm2 cm3
  clear ho hW2 hbq cq0
  refine (mids_c (headP bH bR bm :: ps) r { m with kind := 3, target := s } kv [] s W2 HO.out hl hrl).mono ?_
  intro e W9 hg
  have HE : Hid (targetM l.length 3 ts = idsM l.length [] s { m with kind := 3, target := s } r) := by
    show _ = _
    unfold targetM
    rw [if_neg (by decide), HR.out]
    simp only
    rw [← HM.out]
    rfl
  clear HR
  rcases hr : targetM l.length _ ts with er | ⟨s', r'⟩
  · rw [← HE.out, hr] at hg
    obtain ⟨rfl, q, m', ho⟩ := hg
    refine (?_ : bodyPost Tryz.prog Tryz.f37 _ (Exit.panic _) _ _)
    exact ⟨rfl, rfl, q, m', ho⟩
  rw [← HE.out, hr] at hg
  obtain ⟨rfl, ho⟩ := hg
  have HO9 := Lib.hid ho
  have HR9 := Lib.hid hr
  clear ho hr
  dsimp only
  go_wp2_with fail
  go_end0
  rw [HR9.out]
  exact ⟨rfl, HO9.out⟩
end
end Go.Proofs.YtoeknmkephnekaaGreatDoor
namespace Go.Proofs.YtoeknmkephnekaaGreatDoor
open Go.RowKit Go.Cz Go.Cz.Lx Go.Cz.Fo Go.Cz.Vd
set_option linter.unusedSimpArgs false
set_option linter.unusedVariables false
attribute [local go_sem] bs_size bs_extract bs_append bs_toList
attribute [local irreducible] cList cPlan cWalk
/-- The world once a measure is stored. -/
abbrev set12 (W : World) (b : Nat) (m : Me) (kv : Value) : World := (((((((((((W.setCell ⟨b, 0, none⟩ (.string (bs m.id))).setCell ⟨b, 1, none⟩ (.string (bs m.auth))).setCell ⟨b, 2, none⟩ (.int .i64 m.kind)).setCell ⟨b, 3, none⟩ (.string (bs m.target))).setCell ⟨b, 4, none⟩ (.int .i64 m.cond.op)).setCell ⟨b, 5, none⟩ (.string (bs m.cond.name))).setCell ⟨b, 6, none⟩ (.int .i64 m.cond.cmp)).setCell ⟨b, 7, none⟩ (.int .i64 m.cond.num)).setCell ⟨b, 8, none⟩ kv).setCell ⟨b, 9, none⟩ (.int .i64 m.fr)).setCell ⟨b, 10, none⟩ (.int .i64 m.un)).setCell ⟨b, 11, none⟩ (.int .i64 m.wi)
theorem cells12 {a0 a1 a2 a3 a4 a5 a6 a7 a8 a9 a10 a11 : Value} (m : Me) (kv : Value) (cs : Array Value) (hc : cs = #[a0, a1, a2, a3, a4, a5, a6, a7, a8, a9, a10, a11]) : ((((((((((((cs.setIfInBounds 0 (.string (bs m.id))).setIfInBounds 1 (.string (bs m.auth))).setIfInBounds 2 (.int .i64 m.kind)).setIfInBounds 3 (.string (bs m.target))).setIfInBounds 4 (.int .i64 m.cond.op)).setIfInBounds 5 (.string (bs m.cond.name))).setIfInBounds 6 (.int .i64 m.cond.cmp)).setIfInBounds 7 (.int .i64 m.cond.num)).setIfInBounds 8 kv).setIfInBounds 9 (.int .i64 m.fr)).setIfInBounds 10 (.int .i64 m.un)).setIfInBounds 11 (.int .i64 m.wi)) = #[.string (bs m.id), .string (bs m.auth), .int .i64 m.kind, .string (bs m.target), .int .i64 m.cond.op, .string (bs m.cond.name), .int .i64 m.cond.cmp, .int .i64 m.cond.num, kv, .int .i64 m.fr, .int .i64 m.un, .int .i64 m.wi] := by
  subst hc
  simp
theorem set12_owns {w W : World} {ps : List Piece} {b : Nat} {m' : Me} {kv' : Value} (h0 : Owns w W (blk b (mobj m' kv') :: ps)) (m : Me) (kv : Value) : Owns w (set12 W b m kv) (blk b (mobj m kv) :: ps) := by
  obtain ⟨cs, hcs⟩ : ∃ cs : Array Value, cs = #[.string (bs m'.id), .string (bs m'.auth), .int .i64 m'.kind, .string (bs m'.target), .int .i64 m'.cond.op, .string (bs m'.cond.name), .int .i64 m'.cond.cmp, .int .i64 m'.cond.num, kv', .int .i64 m'.fr, .int .i64 m'.un, .int .i64 m'.wi] := ⟨_, rfl⟩
  have h : Owns w W (blk b (.cells cs 26 (0, 0)) :: ps) := by rw [hcs]; exact h0
  have h2 := ((((((((((((h.store (i := 0) (.string (bs m.id))).store (i := 1) (.string (bs m.auth))).store (i := 2) (.int .i64 m.kind)).store (i := 3) (.string (bs m.target))).store (i := 4) (.int .i64 m.cond.op)).store (i := 5) (.string (bs m.cond.name))).store (i := 6) (.int .i64 m.cond.cmp)).store (i := 7) (.int .i64 m.cond.num)).store (i := 8) kv).store (i := 9) (.int .i64 m.fr)).store (i := 10) (.int .i64 m.un)).store (i := 11) (.int .i64 m.wi))
  rw [cells12 m kv cs hcs] at h2
  exact h2
section
variable {w0 : World} {bm be ba : Nat}
set_option maxRecDepth 100000 in
set_option maxHeartbeats 4000000 in
theorem mcatch_c (ps : List Piece) (m : Me) (kv v1 v2 : Value) (e : Er) (older : List PanicEntry) (w : World) (h : Owns w0 w (blk bm (mobj m kv) :: one be 29 v1 :: one ba 3 v2 :: ps)) :
    CallsD Tryz.prog 31 #[.pointer (some ⟨bm, 0, none⟩), .pointer (some ⟨be, 0, none⟩), .pointer (some ⟨ba, 0, none⟩)] (.panicking ({ v := .iface 64 (.agg #[.int .i64 (e.1 : Nat), .int .i64 e.2]), recovered := false } :: older)) w fun x u' w' =>
      x = .returned (.tuple #[]) ∧ u' = .panicking ({ v := .iface 64 (.agg #[.int .i64 (e.1 : Nat), .int .i64 e.2]), recovered := true } :: older) ∧
      Owns w0 w' (blk bm (mobj zeroM (.slice none 0 0)) :: one be 29 (.int .i64 (e.1 : Nat)) :: one ba 3 (.int .i64 e.2) :: ps) := by
  have hta : ∀ (x : TypeId) (v : Value) (w : World), (Instr.typeAssert (.iface 64 v) x 64 true).run Tryz.prog w = .ok (.tuple #[v, .bool true]) w := fun x v w => by kernel_rfl
  have HO := Lib.hid h
  clear h
  refine callsD_of_wpS Tryz.func31 rfl fun c₀ cs hu => ?_
  apply wpS_seq
  apply wpS_region
  simp [wpOpsS, go_sem, recoverD, hu, Tryz.ntmps31, Exit.thenS, hta]
  refine wpS_of_wp ?_
  simp only [Array.replicate, Array.setIfInBounds]
  simp
  obtain ⟨x1, hx1⟩ : ∃ x, x = e.1 := ⟨_, rfl⟩
  obtain ⟨x2, hx2⟩ : ∃ x, x = e.2 := ⟨_, rfl⟩
  rw [← hx1, ← hx2]
  clear hx1 hx2 hu
  obtain ⟨bf, hbf⟩ : ∃ b, b = w.heap.size := ⟨_, rfl⟩
  obtain ⟨W1, hW1⟩ : ∃ W, W = w.alloc (.cells #[.int .i64 (x1 : Int), .int .i64 x2] 64) := ⟨_, rfl⟩
  have HO1 : Hid (Owns w0 W1 (blk bf (.cells #[.int .i64 (x1 : Int), .int .i64 x2] 64 (0, 0)) :: blk bm (mobj m kv) :: one be 29 v1 :: one ba 3 v2 :: ps)) := by
    rw [hW1, hbf]
    exact Lib.hid (HO.out.box _)
  rw [← hW1, ← hbf]
  clear hW1 hbf HO
  go_wp2_with fail
  refine wp_region_walk [] 8 rfl (by decide +kernel) ?_
  have ho1 := HO1.out.drew
  generalize hWd : World.drew _ = Wd at ho1 ⊢
  clear hWd HO1
  have n1 := Owns.ne ho1
  have n1' := n1.symm
  have n2 := Owns.ne ho1.pop
  have n2' := n2.symm
  have n3 := Owns.ne ho1.pop.pop
  have n3' := n3.symm
  have n4 := Owns.ne (ho1.re [0, 2, 1])
  have n4' := n4.symm
  have n5 := Owns.ne (ho1.re [0, 3, 1, 2])
  have n5' := n5.symm
  have n6 := Owns.ne (ho1.pop.re [0, 2, 1])
  have n6' := n6.symm
  obtain ⟨bk, -⟩ := Owns.blk ho1
  have hbf := lt_of_block bk
  have c0 := cell_of_heap bk (i := 0)
  have c1 := cell_of_heap bk (i := 1)
  simp only [List.getElem?_toArray, List.getElem?_cons_succ, List.getElem?_cons_zero] at c0 c1
  clear bk
  obtain ⟨bk, -⟩ := Owns.blk ho1.pop
  have hbm := lt_of_block bk
  have d0 := cell_of_heap bk (i := 0)
  have f0 := free_of_heap bk (i := 0)
  have d1 := cell_of_heap bk (i := 1)
  have f1 := free_of_heap bk (i := 1)
  have d2 := cell_of_heap bk (i := 2)
  have f2 := free_of_heap bk (i := 2)
  have d3 := cell_of_heap bk (i := 3)
  have f3 := free_of_heap bk (i := 3)
  have d4 := cell_of_heap bk (i := 4)
  have f4 := free_of_heap bk (i := 4)
  have d5 := cell_of_heap bk (i := 5)
  have f5 := free_of_heap bk (i := 5)
  have d6 := cell_of_heap bk (i := 6)
  have f6 := free_of_heap bk (i := 6)
  have d7 := cell_of_heap bk (i := 7)
  have f7 := free_of_heap bk (i := 7)
  have d8 := cell_of_heap bk (i := 8)
  have f8 := free_of_heap bk (i := 8)
  have d9 := cell_of_heap bk (i := 9)
  have f9 := free_of_heap bk (i := 9)
  have d10 := cell_of_heap bk (i := 10)
  have f10 := free_of_heap bk (i := 10)
  have d11 := cell_of_heap bk (i := 11)
  have f11 := free_of_heap bk (i := 11)
  simp only [List.getElem?_toArray, List.getElem?_cons_succ, List.getElem?_cons_zero] at d0 d1 d2 d3 d4 d5 d6 d7 d8 d9 d10 d11
  clear bk
  obtain ⟨g1, k1, q1⟩ := Owns.one ho1.pop.pop
  obtain ⟨g2, k2, q2⟩ := Owns.one ho1.pop.pop.pop
  have h3 := set12_owns ho1.pop zeroM (.slice none 0 0)
  have h4 := h3.swap.store (i := 0) (.int .i64 (x1 : Int))
  have h5 : Owns w0 ((set12 Wd bm zeroM (.slice none 0 0)).setCell ⟨be, 0, none⟩ (.int .i64 (x1 : Int))) (one ba 3 v2 :: blk bm (mobj zeroM (.slice none 0 0)) :: one be 29 (.int .i64 (x1 : Int)) :: ps) := h4.re [2, 1, 0]
  have h6 := h5.store (i := 0) (.int .i64 x2)
  have HF : Hid (Owns w0 (((set12 Wd bm zeroM (.slice none 0 0)).setCell ⟨be, 0, none⟩ (.int .i64 (x1 : Int))).setCell ⟨ba, 0, none⟩ (.int .i64 x2)) (blk bm (mobj zeroM (.slice none 0 0)) :: one be 29 (.int .i64 (x1 : Int)) :: one ba 3 (.int .i64 x2) :: ps)) := Lib.hid (h6.re [1, 2, 0])
  clear ho1 h3 h4 h5 h6
  (refine cw_step 0 (by decide +kernel) (by decide +kernel) (by decide +kernel) ?_; (refine cw_do rfl rfl rfl (by first | rfl | simp [okB, lenV, plainV, Act.eval]) (fun _ _ => ?_); go_wp2_with fail))
  (refine cw_step 1 (by decide +kernel) (by decide +kernel) (by decide +kernel) ?_; (refine cw_do rfl rfl rfl (by first | rfl | simp [okB, lenV, plainV, Act.eval]) (fun _ _ => ?_); go_wp2_with fail))
  (refine cw_step 3 (by decide +kernel) (by decide +kernel) (by decide +kernel) ?_; (refine cw_do rfl rfl rfl (by first | rfl | simp [okB, lenV, plainV, Act.eval]) (fun _ _ => ?_); go_wp2_with fail))
  repeat' (first | (refine cw_step 2 (by decide +kernel) (by decide +kernel) (by decide +kernel) ?_; (refine cw_do rfl rfl rfl (by first | rfl | simp [okB, lenV, plainV, Act.eval]) (fun _ _ => ?_); go_wp2_with fail)) | (refine cw_step 4 (by decide +kernel) (by decide +kernel) (by decide +kernel) ?_; (refine cw_do rfl rfl rfl (by first | rfl | simp [okB, lenV, plainV, Act.eval]) (fun _ _ => ?_); go_wp2_with fail)) | (refine cw_step 5 (by decide +kernel) (by decide +kernel) (by decide +kernel) ?_; (refine cw_do rfl rfl rfl (by first | rfl | simp [okB, lenV, plainV, Act.eval]) (fun _ _ => ?_); go_wp2_with fail)) | (refine cw_step 6 (by decide +kernel) (by decide +kernel) (by decide +kernel) ?_; (refine cw_do rfl rfl rfl (by first | rfl | simp [okB, lenV, plainV, Act.eval]) (fun _ _ => ?_); go_wp2_with fail)) | (refine cw_step 7 (by decide +kernel) (by decide +kernel) (by decide +kernel) ?_; (refine cw_do rfl rfl rfl (by first | rfl | simp [okB, lenV, plainV, Act.eval]) (fun _ _ => ?_); go_wp2_with fail)) | (refine cw_three 2 4 5 (by decide +kernel) ?_ ?_ ?_ <;> (refine cw_do rfl rfl rfl (by first | rfl | simp [okB, lenV, plainV, Act.eval]) (fun _ _ => ?_); go_wp2_with fail)) | (refine cw_three 2 4 6 (by decide +kernel) ?_ ?_ ?_ <;> (refine cw_do rfl rfl rfl (by first | rfl | simp [okB, lenV, plainV, Act.eval]) (fun _ _ => ?_); go_wp2_with fail)) | (refine cw_two 2 4 (by decide +kernel) ?_ ?_ <;> (refine cw_do rfl rfl rfl (by first | rfl | simp [okB, lenV, plainV, Act.eval]) (fun _ _ => ?_); go_wp2_with fail)) | (refine cw_two 2 5 (by decide +kernel) ?_ ?_ <;> (refine cw_do rfl rfl rfl (by first | rfl | simp [okB, lenV, plainV, Act.eval]) (fun _ _ => ?_); go_wp2_with fail)) | (refine cw_two 4 5 (by decide +kernel) ?_ ?_ <;> (refine cw_do rfl rfl rfl (by first | rfl | simp [okB, lenV, plainV, Act.eval]) (fun _ _ => ?_); go_wp2_with fail)) | (refine cw_two 4 6 (by decide +kernel) ?_ ?_ <;> (refine cw_do rfl rfl rfl (by first | rfl | simp [okB, lenV, plainV, Act.eval]) (fun _ _ => ?_); go_wp2_with fail)) | (refine cw_two 2 6 (by decide +kernel) ?_ ?_ <;> (refine cw_do rfl rfl rfl (by first | rfl | simp [okB, lenV, plainV, Act.eval]) (fun _ _ => ?_); go_wp2_with fail)) | (refine cw_two 4 7 (by decide +kernel) ?_ ?_ <;> (refine cw_do rfl rfl rfl (by first | rfl | simp [okB, lenV, plainV, Act.eval]) (fun _ _ => ?_); go_wp2_with fail)) | (refine cw_nil (by decide +kernel) ?_))
  all_goals refine (?_ : bodyPostS Tryz.prog Tryz.f31 _ _ _ Exit.normal _ _ _)
  all_goals exact ⟨rfl, _, rfl, .tuple #[], by simp [results, Tryz.results31, go_sem], rfl, rfl, HF.out⟩
/-- The deferred closure, where nothing panics. -/
theorem midle_c (w : World) : CallsD Tryz.prog 31 #[.pointer (some ⟨bm, 0, none⟩), .pointer (some ⟨be, 0, none⟩), .pointer (some ⟨ba, 0, none⟩)] .returning w fun x u' w' => x = .returned (.tuple #[]) ∧ u' = .returning ∧ Below w.heap.size w w' := by
  have hta : ∀ (x : TypeId) (w : World), (Instr.typeAssert .nilIface x 64 true).run Tryz.prog w = .ok (.tuple #[.agg #[.int .i64 0, .int .i64 0], .bool false]) w := fun x w => by kernel_rfl
  refine callsD_of_wpS Tryz.func31 rfl fun c₀ cs hu => ?_
  apply wpS_seq
  apply wpS_region
  simp [wpOpsS, go_sem, recoverD, hu, Tryz.ntmps31, Exit.thenS, hta]
  refine wpS_of_wp ?_
  simp only [Array.replicate, Array.setIfInBounds]
  simp
  go_wp2_with fail
  refine (?_ : bodyPostS Tryz.prog Tryz.f31 _ _ _ Exit.normal _ _ _)
  refine ⟨rfl, .returning, ?_, .tuple #[], by simp [results, Tryz.results31, go_sem], rfl, rfl, (Below.refl _ _).alloc (Nat.le_refl _) _⟩
  rw [← hu]
end
end Go.Proofs.YtoeknmkephnekaaGreatDoor
namespace Go.Proofs.YtoeknmkephnekaaGreatDoor
open Go.RowKit Go.Cz Go.Cz.Lx
set_option linter.unusedSimpArgs false
set_option linter.unusedVariables false
attribute [local go_sem] bs_size bs_extract bs_append bs_toList
attribute [local irreducible] cList
def LexPostN (w : World) (l : List UInt8) (e : Ending) (w' : World) : Prop := ∃ v, e = .returned (.tuple #[v, .int .i64 (lexAll l).2.1, .int .i64 (lexAll l).2.2]) ∧ (IsToks w' v (lexAll l).1 ∧ ∀ k, v.ownBlock = some k → w.heap.size ≤ k) ∧ Below w.heap.size w w'
set_option maxRecDepth 100000 in
set_option maxHeartbeats 400000 in
theorem LexN_c (l : List UInt8) (HI : 34 ∈ l → IdxAny) (w : World) (hl : l.length ≤ 140737488355328) : Calls Tryz.prog 14 #[.string (bs l)] w (LexPostN w l) := by
  by_cases h2 : 20000 < l.length
  · have He : Hid (lexAll l = ([], 2, -1)) := if_pos h2
    go_enter Tryz.func14, Tryz.ntmps14
    go_wp2_with fail
    refine bodyPost_ret (results_tmp3 rfl _ _ _) (by rfl) ⟨.slice none 0 0, ?_, ?_, Below.refl _ _⟩
    · rw [He.out]; rfl
    · rw [He.out]; exact ⟨.inl ⟨rfl, rfl⟩, by simp [Value.ownBlock]⟩
  have hl2 : l.length ≤ 20000 := by omega
  have HL := Lib.hid hl2
  have HI2 := Lib.hid HI
  clear HI
  go_enter Tryz.func14, Tryz.ntmps14
  go_wp2_with fail
  go_at_call 42
  refine (classes_c w).mono ?_
  rintro e W1 ⟨rfl, hb⟩
  have Hb := Lib.hid hb
  clear hb
  obtain ⟨ct, hct⟩ : ∃ ct, ct = clsTab := ⟨_, rfl⟩
  obtain ⟨cs, hcs, hbt⟩ : ∃ cs, ScanCells (bs l) cs ∧ Tryz.prog.built 81 [(0, .string (bs l)), (1, .agg ct)] = some cs := ⟨_, scanCells (bs l), by rw [hct]; exact built_scan (bs l)⟩
  rw [← hct]
  have Hcs := Lib.hid hcs
  have Hbt := Lib.hid hbt
  clear hct hcs hbt
  rename_i hnext
  refine hnext _ _ ?_
  refine wpList_build_to rfl 81 #[(0, .tmp 14), (1, .tmp 15)] (by rfl) cs _ (by simp [Act.eval]; rfl) (by exact Hbt.out) ?_
  have hc1 : cs.size = 257 := Hcs.out.1
  go_wp2_with fail
  rw [storeCells_row (P := Tryz.prog) _ W1.heap.size 81 _ cs (new_heap W1 _ _ rfl) (by rw [hc1]; exact zero_scan) Hcs.out.2.1]
  simp only [Result.andThen_ok]
  go_wp2_with fail
  obtain ⟨b, hb⟩ : ∃ b, b = W1.heap.size := ⟨_, rfl⟩
  obtain ⟨W2, hW2⟩ : ∃ W2, W2 = (W1.alloc (.cells Tryz.zeroCells81 81)).setRow W1.heap.size cs := ⟨_, rfl⟩
  have HE : Hid (LxE w W2 b l ∧ w.heap.size ≤ b) := by
    have h1 : (W1.alloc (.cells Tryz.zeroCells81 81)).heap[W1.heap.size]? = some (.cells Tryz.zeroCells81 81 (0, 0)) := new_heap W1 _ _ rfl
    have hbb := Hb.out
    have hm : Mod [W1.heap.size] W1 W2 := by
      rw [hW2]
      exact ((Mod.refl [W1.heap.size] W1).alloc _).trans ⟨rfl, rfl, rfl, by simp, fun k _ hk => setRow_other _ _ _ _ (by simpa using hk)⟩
    refine ⟨⟨hbb.trans ⟨hm.os, hm.tape, hm.output, hm.size, fun k hk => hm.block k (Nat.lt_of_lt_of_le hk hbb.size) (by simp; have := hbb.size; omega)⟩, ?_⟩, by rw [hb]; exact hbb.size⟩
    rw [hb, hW2]
    exact scan_of_cells (setRow_heap _ _ _ _ _ _ h1) Hcs.out
  rw [← hW2, ← hb]
  clear hb hW2 hc1 Hbt Hcs Hb
  go_at_call 43
  refine (gap_c b l 0 W2 HL.out (by omega) HE.out.1.scan).mono ?_
  rintro e W3 ⟨rfl, hb⟩
  have HE2 : Hid (LxE w W2 b l) := HE.out.1
  have HB3 := Lib.hid hb
  clear hb HE
  have hg0 := gapE_le l 0 (by omega)
  have H0 := Lib.hid (lexI_start l)
  go_wp2_with fail
  go_loopg [6, 7] (l.length - gapE l 0) (fun gk v i wr => ∃ (k : Nat) (acc : List Tok), gk = l.length - k ∧ k ≤ l.length ∧ i = .int .i64 (k : Int) ∧ acc.length ≤ 5000 ∧ Hid (LexI l k acc) ∧ Hid (ORow 40 4 W2 wr v acc.length (acc.flatMap tcells)))
  case atStart => exact ⟨gapE l 0, [], rfl, hg0, rfl, by simp, H0, ORow.nil HB3.out⟩
  case round =>
    rename_i J1 K1 hJ1 hK1
    clear HB3 H0 hnext hg0
    obtain ⟨k, acc, rfl, hk, rfl, h5, hL, hR⟩ := hrel
    have hw := HE2.out.next hR.out.below
    obtain ⟨sa, sc, rfl⟩ := hR.out.form
    by_cases hlt : k < l.length
    · go_wp2_with fail
      go_at_call 44
      refine (next_c b l HI2.out k wr HL.out hlt hw.out.scan).mono ?_
      rintro e W4 ⟨rfl, hb⟩
      have HE := hw.out.next hb
      have HR := Lib.hid (hR.out.keep hb)
      clear hb hw hR
      rcases hn : nextL l k with e | ⟨t, m⟩
      · have he0 : ((e : Int) == 0) = false := by have := nextL_err hn; simp; omega
        have he1 : ((e : Int) != 0) = true := by have := nextL_err hn; simp; omega
        have He := Lib.hid (lexI_err hL.out hlt HL.out hn)
        clear hn hL
        simp only [nextV]
        go_wp2_with fail
        refine bodyPost_ret (results_tmp3 rfl _ _ _) (by rfl) ⟨.slice none 0 0, ?_, ?_, ?_⟩
        · rw [He.out]; rfl
        · rw [He.out]; exact ⟨.inl ⟨rfl, rfl⟩, by simp [Value.ownBlock]⟩
        · exact HE.out.below.trans (Below.mono ((Below.refl _ _).alloc (Nat.le_refl _) _) HE.out.below.size)
      · obtain ⟨n1, n2⟩ := nextL_width hn hlt
        simp only [nextV, tokV]
        by_cases hf : acc.length = 5000
        · have hf1 : ((acc.length : Int) == 5000) = true := by simp; omega
          have He := Lib.hid (lexI_full hL.out hlt HL.out hn hf)
          clear hn hL hf h5
          go_wp2_with fail
          refine bodyPost_ret (results_tmp3 rfl _ _ _) (by rfl) ⟨.slice none 0 0, ?_, ?_, ?_⟩
          · rw [He.out]; rfl
          · rw [He.out]; exact ⟨.inl ⟨rfl, rfl⟩, by simp [Value.ownBlock]⟩
          · exact HE.out.below.trans (Below.mono ((Below.refl _ _).alloc (Nat.le_refl _) _) HE.out.below.size)
        · have hf1 : ((acc.length : Int) == 5000) = false := by simp; omega
          have HN := Lib.hid (lexI_next hL.out hlt hn hf)
          have hlen : acc.length ≤ 4999 := by omega
          clear hn hL hf h5
          go_wp2_with (refine wpList_plain rfl fun K hK => wp_append (.tmp 41) (.tmp 43) 36 (by rfl) 40 _ 4 40 Tryz.underlying36 info_tok (by rfl) (by omega) _ acc.length _ (by rfl) ((HR.out.row.alloc _).alloc _) (W4.heap.size + 1) 1 1 (tcells t) (by rfl) (by rfl) 40 (by exact new_heap (W4.alloc _) _ _ (by simp)) (by simp [tcells, Value.oneCell']) (by omega) (by omega) ?_; intro v' w2 hrow hgrow hblk; have HR2 := Lib.hid (TokStep HR.out hrow hgrow hblk); clear hrow hgrow hblk)
          rw [show (k : Int) + (m : Int) = ((k + m : Nat) : Int) from rfl]
          have HE4 := HE2.out.next HR2.out.below
          go_at_call 43
          refine (gap_c b l (k + m) w2 HL.out n2 HE4.out.scan).mono ?_
          rintro e W5 ⟨rfl, hb⟩
          have HR5 := Lib.hid (HR2.out.keep hb)
          clear hb HR2 HE4
          have hge := gapE_le l (k + m) n2
          have hgk : k < gapE l (k + m) := by unfold gapE; omega
          go_wp2_with fail
          go_roundg (l.length - gapE l (k + m))
          case measure => omega
          case rel => exact ⟨gapE l (k + m), acc ++ [t], rfl, hge, rfl, by simp; omega, HN, HR5⟩
    · have He := Lib.hid (lexI_end hL.out (by omega) HL.out)
      clear hL hJ1 hK1
      go_wp2_with fail
      refine bodyPost_ret (results_tmp3 rfl _ _ _) (by rfl) ⟨.slice sa acc.length sc, ?_, ?_, hw.out.below⟩
      · rw [He.out]; rfl
      · rw [He.out]; exact ⟨toks_of_row hR.out, fun k hk => Nat.le_trans HE2.out.below.size (hR.out.new k hk)⟩
end Go.Proofs.YtoeknmkephnekaaGreatDoor
