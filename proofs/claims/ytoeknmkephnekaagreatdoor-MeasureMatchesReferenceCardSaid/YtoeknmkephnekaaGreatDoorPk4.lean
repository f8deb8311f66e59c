/-
  Texts of this claim, put together by a program: MsK, MsParse, MsH, Open, FmLaw2, FmRef24, FmRFormed, FmNode, VdRA, FmRText, MsRSame.
-/
import Derived.Test.YtoeknmkephnekaaGreatDoorPk3
import Derived.Deep.LoopGhost
import Derived.Laws.EntriesVeiled
import Derived.Handy
import Derived.WalkLawsBesides
import Derived.Deep.DeepCutAuto
import Derived.MapKept
import Derived.Defers
import Derived.Recover
import Derived.KernelRfl
import Derived.Test.YtoeknmkephnekaaGreatDoorProg
import Derived.Deep.Slices
import Derived.ChangeSame
import Derived.ShutString
import Derived.ProofKit
set_option linter.unusedSimpArgs false
set_option linter.unusedVariables false
namespace Go.Proofs.YtoeknmkephnekaaGreatDoor
open Go.RowKit Go.Cz Go.Cz.Lx Go.Cz.Fo Go.Cz.Vd
attribute [local go_sem] bs_size bs_extract bs_append bs_toList
attribute [local irreducible] cList cPlan
abbrev robj (l : Bytes) (v : Value) : Obj := .cells #[.string (bs l), v] 68 (0, 0)
structure TV where
 v : Value
 ts : List Tok
def tokP (V : TV) : Piece where
 lies w S := IsToks w V.v V.ts /\ S = V.v.ownBlock.toList
 lt := by
  rintro w S ⟨h, rfl⟩ k hk; rcases h with ⟨-, h⟩ | ⟨g, c, h, -, hg, -⟩
  ·rw [h] at hk; simp [Value.ownBlock] at hk
  ·rw [h] at hk; simp [Value.ownBlock] at hk
   subst hk; exact hg
 keep := by
  rintro w w' S T ⟨h, rfl⟩ hm hd; refine ⟨?_, rfl⟩; rcases h with h | ⟨g, c, h, hc, hg, hx⟩
  ·exact .inl h
  ·have hgT : g ∉ T := hd g (by rw [h]; simp [Value.ownBlock]); have e : ∀ i, w'.cell? ⟨g, i, none⟩ = w.cell? ⟨g, i, none⟩ := fun i => by
    have h1 := hm.block g hg hgT; simp only [World.cell?]; rw [h1]
   refine .inr ⟨g, c, h, hc, Nat.lt_of_lt_of_le hg hm.size, fun j t hj => ?_⟩; simp only [e]; exact hx j t hj
def Suf (V : TV) (v : Value) (ts : List Tok) : Prop := ∃ y m, v = .slice y ts.length m /\ (ts = [] ∨ ∃ g k c, V.v = .slice (some ⟨g, 0, none⟩) V.ts.length c /\ y = some ⟨g, k * 4, none⟩ /\ ts = V.ts.drop k /\ m = c - k /\ V.ts.length <= c)
theorem Suf.tok {V : TV} {v : Value} {ts : List Tok} {W : World} (h : Suf V v ts) (ht : IsToks W V.v V.ts) : TokL W v ts := by
 obtain ⟨y, m, rfl, h⟩ := h; refine ⟨y, m, rfl, ?_⟩; rcases h with rfl | ⟨g, k, c, hv, rfl, rfl, rfl, hc⟩
 ·exact .inl rfl
 ·rcases ht with ⟨h1, -⟩ | ⟨g', c', h1, h2, h3, h4⟩
  ·exact .inl (by rw [h1]; simp)
  ·rw [hv] at h1; simp only [Value.slice.injEq, Option.some.injEq, Addr.mk.injEq, and_true, true_and] at h1; obtain ⟨rfl, rfl⟩ := h1; refine .inr ⟨g, k * 4, rfl, h3, by rw [List.length_drop]; omega, fun j t hj => ?_⟩; rw [List.getElem?_drop] at hj; have := h4 _ t hj; have e : k * 4 + j * 4 = (k + j) * 4 := by omega
   rw [e]; exact this
theorem Suf.all {W : World} {v : Value} {ts : List Tok} (h : IsToks W v ts) : Suf ⟨v, ts⟩ v ts := by
 rcases h with ⟨rfl, rfl⟩ | ⟨g, c, rfl, h2, -, -⟩
 ·exact ⟨none, 0, rfl, .inl rfl⟩
 ·exact ⟨_, c, rfl, .inr ⟨g, 0, c, rfl, by simp, by simp, by simp, h2⟩⟩
theorem Suf.nil (V : TV) (y : Option Addr) (m : Nat) : Suf V (.slice y 0 m) [] := ⟨y, m, rfl, .inl rfl⟩
theorem Suf.tail {V : TV} {g off n m : Nat} {t : Tok} {r : List Tok} (h : Suf V (.slice (some ⟨g, off, none⟩) n m) (t :: r)) : Suf V (.slice (some ⟨g, off + 4, none⟩) (n - 1) (m - 1)) r /\ (m = 1 -> Suf V (.slice (some ⟨g, off, none⟩) (n - 1) (m - 1)) r) := by
 obtain ⟨y, m', e, h⟩ := h; simp only [Value.slice.injEq] at e; obtain ⟨rfl, rfl, rfl⟩ := e; rcases h with h | ⟨g', k, c, hv, e, hd, hm, hc⟩
 ·simp at h
 simp only [Option.some.injEq, Addr.mk.injEq, and_true] at e; obtain ⟨rfl, rfl⟩ := e; have hr : r = V.ts.drop (k + 1) := by
  have := congrArg List.tail hd; rw [List.tail_drop] at this; exact this
 refine ⟨⟨some ⟨g, k * 4 + 4, none⟩, m - 1, by simp, .inr ⟨g, k + 1, c, hv, ?_, hr, by omega, hc⟩⟩, fun h1 => ⟨some ⟨g, k * 4, none⟩, m - 1, by simp, .inl ?_⟩⟩
 ·have : k * 4 + 4 = (k + 1) * 4 := by omega
  rw [this]
 ·have h2 := congrArg List.length hr; rw [List.length_drop] at h2; exact List.length_eq_zero_iff.1 (by omega)
theorem Suf.drop {V : TV} {ts : List Tok} {g off n m k : Nat} (h : Suf V (.slice (some ⟨g, off, none⟩) n m) ts) (hk : k <= ts.length) : Suf V (.slice (some ⟨g, off + k * 4, none⟩) (n - k) (m - k)) (ts.drop k) := by
 obtain ⟨y, m', e, h⟩ := h; simp only [Value.slice.injEq] at e; obtain ⟨rfl, rfl, rfl⟩ := e; refine ⟨_, m - k, by rw [List.length_drop], ?_⟩; rcases h with rfl | ⟨g', k', c, hv, e, hd, hm, hc⟩
 ·exact .inl (by simp)
 simp only [Option.some.injEq, Addr.mk.injEq, and_true] at e; obtain ⟨rfl, rfl⟩ := e; refine .inr ⟨g, k' + k, c, hv, ?_, by rw [hd, List.drop_drop], by omega, hc⟩; have : k' * 4 + k * 4 = (k' + k) * 4 := by omega
 rw [this]
def rdM (V : TV) (b : Nat) (l : Bytes) (ts : List Tok) : Piece where
 lies w S := ∃ T, S = b :: T /\ b ∉ T /\ (tokP V).lies w T /\ ∃ v, Suf V v ts /\ w.heap[b]? = some (robj l v)
 lt := by
  rintro w S ⟨T, rfl, -, hT, v, -, h⟩ k hk; rcases List.mem_cons.1 hk with rfl | hk
  ·exact lt_of_block h
  ·exact (tokP V).lt hT k hk
 keep := by
  rintro w w' S T ⟨T', rfl, hb, hT, v, hv, h⟩ hm hd; exact ⟨T', rfl, hb, (tokP V).keep hT hm fun k hk => hd k (by simp [hk]), v, hv, hm.heap h (hd b (by simp))⟩
abbrev tkval (t : Tok) : Value := .agg #[.int .i64 t.kind, .int .i64 t.pos, .int .i64 t.num, .string (bs t.text)]
abbrev tkobj (t : Tok) : Obj := .cells #[.int .i64 t.kind, .int .i64 t.pos, .int .i64 t.num, .string (bs t.text)] 40 (0, 0)
def pan (e : Er) : Ending := .panicked [{ v := .iface 64 (.agg #[.int .i64 (e.1 : Nat), .int .i64 e.2]), recovered := false }]
end Go.Proofs.YtoeknmkephnekaaGreatDoor
namespace Go.Cz
open Go.RowKit Go.Cz.Lx Go.Cz.Fo Go.Cz.Vd Go.Proofs.YtoeknmkephnekaaGreatDoor
section
variable {w0 w : World} {V : TV} {ps : List Piece} {b : Nat} {l : Bytes} {ts : List Tok} {v : Value}
theorem Owns.rdm (h : Owns w0 w (rdM V b l ts :: ps)) : ∃ y m, TokL w (.slice y ts.length m) ts /\ Suf V (.slice y ts.length m) ts /\ Owns w0 w (Cz.blk b (robj l (.slice y ts.length m)) :: tokP V :: ps) := by
 obtain ⟨h1, S, ⟨T, rfl, hb, hT, v, hv, hx⟩, h3, h4⟩ := h; obtain ⟨y, m, rfl, -⟩ := id hv; refine ⟨y, m, hv.tok hT.1, hv, h1, [b], ⟨rfl, hx⟩, fun k hk => ⟨(h3 k (by simp at hk; simp [hk])).1, by simp⟩, T, hT, fun k hk => ⟨(h3 k (by simp [hk])).1, fun hx => ?_⟩, h4.mono fun k hk => ?_⟩
 ·simp at hx
  subst hx; exact hb hk
 ·simp only [List.mem_append, List.mem_cons, List.not_mem_nil, or_false] at hk ⊢; rcases hk with h | h
  ·exact .inl (.inr h)
  ·exact .inl (.inl h)
theorem Owns.asRdm (h : Owns w0 w (Cz.blk b (robj l v) :: tokP V :: ps)) (hv : Suf V v ts) : Owns w0 w (rdM V b l ts :: ps) :=
 h.join fun S T hS hT hd => ⟨T, by rw [hS.1]; rfl, hd b (by rw [hS.1]; simp), hT, v, hv, hS.2⟩
theorem Owns.tokAt (h : Owns w0 w (tokP V :: ps)) (hv : Suf V v ts) : TokL w v ts := by
 obtain ⟨S, hS, -⟩ := h.first; exact hv.tok hS.1
end
end Go.Cz
namespace Go.Proofs.YtoeknmkephnekaaGreatDoor
open Go.RowKit Go.Cz Go.Cz.Lx Go.Cz.Fo Go.Cz.Vd
attribute [local go_sem] bs_size bs_extract bs_append bs_toList
attribute [local irreducible] cList cPlan
section
variable {w0 : World} {V : TV} {b : Nat} {l : Bytes}
def Got {α : Type} (w0 : World) (V : TV) (b : Nat) (l : Bytes) (ps : List Piece) (val : α -> Value) (r : Except Er (α × List Tok)) (x : Ending) (w' : World) : Prop :=
 match r with
 | .ok (a, q) => x = .returned (val a) /\ Owns w0 w' (rdM V b l q :: ps)
 | .error e => x = pan e /\ ∃ q, Owns w0 w' (rdM V b l q :: ps)
theorem mtake_res {W : World} {tmps : Array Value} {g : Nat} {v0 v1 v2 v3 : Value} (h4 : tmps.getD 6 undef = .pointer (some ⟨g, 0, none⟩)) (hb : W.heap[g]? = some (.cells #[v0, v1, v2, v3] 40 (0, 0))) :
  (results Tryz.f34 tmps).run Tryz.prog W = .ok (.agg #[v0, v1, v2, v3]) W := by
 have c0 : W.cell? ⟨g, 0, none⟩ = some v0 := by rw [cell_of_heap hb]; rfl
 have c1 : W.cell? ⟨g, 1, none⟩ = some v1 := by rw [cell_of_heap hb]; rfl
 have c2 : W.cell? ⟨g, 2, none⟩ = some v2 := by rw [cell_of_heap hb]; rfl
 have c3 : W.cell? ⟨g, 3, none⟩ = some v3 := by rw [cell_of_heap hb]; rfl
 have h4' : tmps[6]?.getD undef = .pointer (some ⟨g, 0, none⟩) := by simpa using h4
 simp [results, Tryz.results34, go_sem, h4', c0, c1, c2, c3]
set_option maxRecDepth 100000 in
set_option maxHeartbeats 4000000 in
theorem mtake_c (ps : List Piece) (ts : List Tok) (k : Nat) (s : Bytes) (w : World) (h : Owns w0 w (rdM V b l ts :: ps)) (hk : k <= 100) (hl : l.length <= 140737488355328) (hN9 : ts.length <= 1000000) :
  Calls Tryz.prog 34 #[.pointer (some ⟨b, 0, none⟩), .int .i64 (k : Int), .string (bs s)] w (Got w0 V b l ps tkval (takeM l.length k s ts)) := by
 obtain ⟨y, m, hv, hs, h1⟩ := h.rdm; have HO := Lib.hid h1; have HP := Lib.hid h; clear h h1; rcases ts with _ | ⟨t, r⟩
 ·have HE : Hid (takeM l.length k s [] = .error (6, (l.length : Int))) := rfl; clear hv hs hN9; simp only [List.length_nil] at HO; obtain ⟨hbp, ⟨fp0, fp1⟩, cp0, cp1⟩ := bx2 HO.out.blk; go_enter Tryz.func34, Tryz.ntmps34
  go_wp2_with fail
  rw [HE.out]; exact ⟨rfl, rfl, _, HP.out.alloc _⟩
 ·obtain ⟨N, hN⟩ : ∃ N, N = (t :: r).length := ⟨_, rfl⟩; have hN0 : 0 < N := by rw [hN]; simp
  rw [<- hN] at HO hv hs hN9; obtain ⟨g, off, rfl, hNm, hg, c0, c1, c2, c3⟩ := hv.get (j := 0) (Below.refl _ _) rfl; simp only [Nat.zero_mul, Nat.add_zero] at c0 c1 c2 c3; have HT := Lib.hid hs.tail; clear hv hs hN; by_cases hkd : t.kind = k
  rotate_left
  ·have hk1 : ((t.kind : Int) != (k : Int)) = true := by simp; omega
   have HE : Hid (takeM l.length k s (t :: r) = .error (5, (t.pos : Int))) := by show _ = _; simp only [takeM]; rw [if_pos (.inl hkd)]
   clear hkd; obtain ⟨hbp, ⟨fp0, fp1⟩, cp0, cp1⟩ := bx2 HO.out.blk; go_enter Tryz.func34, Tryz.ntmps34
   go_wp2_with fail
   rw [HE.out]; exact ⟨rfl, rfl, _, (HP.out.alloc _).alloc _⟩
  have hk1 : ((t.kind : Int) != (k : Int)) = false := by simp; omega
  by_cases hs : s = []
  ·have hs1 : s.isEmpty = true := by rw [hs]; rfl
   have HE : Hid (takeM l.length k s (t :: r) = .ok (t, r)) := by show _ = _; simp only [takeM]; rw [if_neg (by simp [hkd, hs])]
   clear hkd hs; by_cases hm1 : m = 1
   ·subst hm1; obtain rfl : N = 1 := by omega
    have HT1 := Lib.hid (HT.out.2 rfl); clear HT hN0 hNm hN9; obtain ⟨hbp, ⟨fp0, fp1⟩, cp0, cp1⟩ := bx2 HO.out.blk; go_enter Tryz.func34, Tryz.ntmps34
    go_wp2_with fail
    have h2 := (((HO.out.store (i := 1) (.slice (some ⟨g, off, none⟩) 0 0)).box (tkobj t)).alloc (tkobj t)); have h3 := h2.blk.1; rw [World.size_setCell] at h3; refine bodyPost_ret (mtake_res rfl h3) (by rfl) ?_; rw [HE.out]; exact ⟨rfl, Owns.asRdm (v := .slice (some ⟨g, off, none⟩) 0 0) ((HO.out.store (i := 1) (.slice (some ⟨g, off, none⟩) 0 0)).alloc (tkobj t) |>.alloc (tkobj t)) (HT1.out)⟩
   ·clear hN9; obtain ⟨hbp, ⟨fp0, fp1⟩, cp0, cp1⟩ := bx2 HO.out.blk; go_enter Tryz.func34, Tryz.ntmps34
    go_wp2_with fail
    have h2 := (((HO.out.store (i := 1) (.slice (some ⟨g, off + 4, none⟩) (N - 1) (m - 1))).box (tkobj t)).alloc (tkobj t)); have h3 := h2.blk.1; rw [World.size_setCell] at h3; refine bodyPost_ret (mtake_res rfl h3) (by rfl) ?_; rw [HE.out]; exact ⟨rfl, Owns.asRdm (v := .slice (some ⟨g, off + 4, none⟩) (N - 1) (m - 1)) ((HO.out.store (i := 1) (.slice (some ⟨g, off + 4, none⟩) (N - 1) (m - 1))).alloc (tkobj t) |>.alloc (tkobj t)) (HT.out.1)⟩
  have hs1 : s.isEmpty = false := by cases s with | nil => exact absurd rfl hs | cons a s => rfl
  by_cases hts : t.text = s
  ·have ht1 : (t.text == s) = true := by simpa using hts
   have HE : Hid (takeM l.length k s (t :: r) = .ok (t, r)) := by show _ = _; simp only [takeM]; rw [if_neg (by simp [hkd, hts])]
   clear hkd hs hts; by_cases hm1 : m = 1
   ·subst hm1; obtain rfl : N = 1 := by omega
    have HT1 := Lib.hid (HT.out.2 rfl); clear HT hN0 hNm hN9; obtain ⟨hbp, ⟨fp0, fp1⟩, cp0, cp1⟩ := bx2 HO.out.blk; go_enter Tryz.func34, Tryz.ntmps34
    go_wp2_with fail
    have h2 := (((HO.out.store (i := 1) (.slice (some ⟨g, off, none⟩) 0 0)).box (tkobj t)).alloc (tkobj t)); have h3 := h2.blk.1; rw [World.size_setCell] at h3; refine bodyPost_ret (mtake_res rfl h3) (by rfl) ?_; rw [HE.out]; exact ⟨rfl, Owns.asRdm (v := .slice (some ⟨g, off, none⟩) 0 0) ((HO.out.store (i := 1) (.slice (some ⟨g, off, none⟩) 0 0)).alloc (tkobj t) |>.alloc (tkobj t)) (HT1.out)⟩
   ·clear hN9; obtain ⟨hbp, ⟨fp0, fp1⟩, cp0, cp1⟩ := bx2 HO.out.blk; go_enter Tryz.func34, Tryz.ntmps34
    go_wp2_with fail
    have h2 := (((HO.out.store (i := 1) (.slice (some ⟨g, off + 4, none⟩) (N - 1) (m - 1))).box (tkobj t)).alloc (tkobj t)); have h3 := h2.blk.1; rw [World.size_setCell] at h3; refine bodyPost_ret (mtake_res rfl h3) (by rfl) ?_; rw [HE.out]; exact ⟨rfl, Owns.asRdm (v := .slice (some ⟨g, off + 4, none⟩) (N - 1) (m - 1)) ((HO.out.store (i := 1) (.slice (some ⟨g, off + 4, none⟩) (N - 1) (m - 1))).alloc (tkobj t) |>.alloc (tkobj t)) (HT.out.1)⟩
  ·have ht1 : (t.text == s) = false := by simpa using hts
   have HE : Hid (takeM l.length k s (t :: r) = .error (5, (t.pos : Int))) := by show _ = _; simp only [takeM]; rw [if_pos (.inr ⟨hs, hts⟩)]
   clear hkd hs hts; obtain ⟨hbp, ⟨fp0, fp1⟩, cp0, cp1⟩ := bx2 HO.out.blk; go_enter Tryz.func34, Tryz.ntmps34
   go_wp2_with fail
   rw [HE.out]; exact ⟨rfl, rfl, _, (HP.out.alloc _).alloc _⟩
set_option maxHeartbeats 4000000 in
theorem mname_c (ps : List Piece) (ts : List Tok) (s : Bytes) (w : World) (h : Owns w0 w (rdM V b l ts :: ps)) (hl : l.length <= 140737488355328) (hN9 : ts.length <= 1000000) :
  Calls Tryz.prog 33 #[.pointer (some ⟨b, 0, none⟩), .string (bs s)] w (Got w0 V b l ps (fun a => .string (bs a)) (nameM l.length s ts)) := by
 have HT := Lib.hid (mtake_c ps ts 1 [] w h (by omega) hl hN9); clear h; go_enter Tryz.func33, Tryz.ntmps33
 go_wp2_with fail
 go_at_call 34
 refine HT.out.mono ?_; clear HT; intro e W1 hg; rcases hr : takeM l.length 1 [] ts with er | ⟨t, r⟩
 ·rw [hr] at hg; obtain ⟨rfl, q, ho⟩ := hg; have HE : Hid (nameM l.length s ts = .error er) := by show _ = _; unfold nameM; rw [hr]
  have HO := Lib.hid ho; clear ho hr; refine (?_ : bodyPost Tryz.prog Tryz.f33 _ (Exit.panic _) _ _); rw [HE.out]; exact ⟨rfl, rfl, q, HO.out⟩
 ·rw [hr] at hg; obtain ⟨rfl, ho⟩ := hg; have HR := Lib.hid hr; have HO := Lib.hid ho; clear ho hr; by_cases hs : t.text = s
  ·have hs1 : (t.text == s) = true := by simpa using hs
   have HE : Hid (nameM l.length s ts = .error (1, (t.pos : Int))) := by show _ = _; unfold nameM; rw [HR.out]; simp only; rw [if_pos hs]
   clear hs HR; go_wp2_with fail
   rw [HE.out]; exact ⟨rfl, rfl, r, HO.out.alloc _⟩
  ·have hs1 : (t.text == s) = false := by simpa using hs
   have HE : Hid (nameM l.length s ts = .ok (t.text, r)) := by show _ = _; unfold nameM; rw [HR.out]; simp only; rw [if_neg hs]
   clear hs HR; go_wp2_with fail
   go_ret
   rw [HE.out]; exact ⟨rfl, HO.out.alloc _⟩
set_option maxHeartbeats 4000000 in
theorem mnumber_c (ps : List Piece) (ts : List Tok) (a c : Int) (w : World) (h : Owns w0 w (rdM V b l ts :: ps)) (hl : l.length <= 140737488355328) (hN9 : ts.length <= 1000000) :
  Calls Tryz.prog 40 #[.pointer (some ⟨b, 0, none⟩), .int .i64 a, .int .i64 c] w (Got w0 V b l ps (fun n => .int .i64 n) (numM l.length a c ts)) := by
 have HT := Lib.hid (mtake_c ps ts 2 [] w h (by omega) hl hN9); clear h; go_enter Tryz.func40, Tryz.ntmps40
 go_wp2_with fail
 go_at_call 34
 refine HT.out.mono ?_; clear HT; intro e W1 hg; rcases hr : takeM l.length 2 [] ts with er | ⟨t, r⟩
 ·rw [hr] at hg; obtain ⟨rfl, q, ho⟩ := hg; have HE : Hid (numM l.length a c ts = .error er) := by show _ = _; unfold numM; rw [hr]
  have HO := Lib.hid ho; clear ho hr; refine (?_ : bodyPost Tryz.prog Tryz.f40 _ (Exit.panic _) _ _); rw [HE.out]; exact ⟨rfl, rfl, q, HO.out⟩
 ·rw [hr] at hg; obtain ⟨rfl, ho⟩ := hg; have HR := Lib.hid hr; have HO := Lib.hid ho; clear ho hr; by_cases h1 : (t.num : Int) < a
  ·have HE : Hid (numM l.length a c ts = .error (10, (t.pos : Int))) := by show _ = _; unfold numM; rw [HR.out]; simp only; rw [if_pos (by omega)]
   clear HR; go_wp2_with fail
   rw [HE.out]; exact ⟨rfl, rfl, r, HO.out.alloc _⟩
  by_cases h2 : c < (t.num : Int)
  ·have HE : Hid (numM l.length a c ts = .error (10, (t.pos : Int))) := by show _ = _; unfold numM; rw [HR.out]; simp only; rw [if_pos (by omega)]
   clear HR; go_wp2_with fail
   rw [HE.out]; exact ⟨rfl, rfl, r, HO.out.alloc _⟩
  have HE : Hid (numM l.length a c ts = .ok ((t.num : Int), r)) := by show _ = _; unfold numM; rw [HR.out]; simp only; rw [if_neg (by omega)]
  clear HR; go_wp2_with fail
  go_ret
  rw [HE.out]; exact ⟨rfl, HO.out.alloc _⟩
def wordM (s : Bytes) (ts : List Tok) : List Tok := if seesM s ts = true then ts.tail else ts
set_option maxHeartbeats 4000000 in
theorem mword_c (ps : List Piece) (ts : List Tok) (s : Bytes) (w : World) (h : Owns w0 w (rdM V b l ts :: ps)) (hN9 : ts.length <= 1000000) :
  Calls Tryz.prog 38 #[.pointer (some ⟨b, 0, none⟩), .string (bs s)] w fun x w' => x = .returned (.bool (seesM s ts)) /\ Owns w0 w' (rdM V b l (wordM s ts) :: ps) := by
 obtain ⟨y, m, hv, hs, h1⟩ := h.rdm; have HO := Lib.hid h1; have HP := Lib.hid h; clear h h1; rcases ts with _ | ⟨t, r⟩
 ·have HE : Hid (wordM s [] = [] /\ seesM s [] = false) := ⟨rfl, rfl⟩; clear hv hs hN9; simp only [List.length_nil] at HO; obtain ⟨hbp, ⟨fp0, fp1⟩, cp0, cp1⟩ := bx2 HO.out.blk; go_enter Tryz.func38, Tryz.ntmps38
  go_wp2_with fail
  go_ret
  rw [HE.out.1, HE.out.2]; exact ⟨rfl, HP.out⟩
 ·obtain ⟨N, hN⟩ : ∃ N, N = (t :: r).length := ⟨_, rfl⟩; have hN0 : 0 < N := by rw [hN]; simp
  rw [<- hN] at HO hv hs hN9; obtain ⟨g, off, rfl, hNm, hg, c0, c1, c2, c3⟩ := hv.get (j := 0) (Below.refl _ _) rfl; simp only [Nat.zero_mul, Nat.add_zero] at c0 c1 c2 c3; have HT := Lib.hid hs.tail; clear hv hs hN; obtain ⟨hbp, ⟨fp0, fp1⟩, cp0, cp1⟩ := bx2 HO.out.blk; by_cases hk : t.kind = 1
  rotate_left
  ·have hk1 : ((t.kind : Int) == 1) = false := by simp; omega
   have HE : Hid (wordM s (t :: r) = t :: r /\ seesM s (t :: r) = false) := by show _ /\ _; simp [wordM, seesM, hk]
   go_enter Tryz.func38, Tryz.ntmps38
   go_wp2_with fail
   go_ret
   rw [HE.out.1, HE.out.2]; exact ⟨rfl, HP.out⟩
  have hk1 : ((t.kind : Int) == 1) = true := by simp; omega
  by_cases hs : t.text = s
  rotate_left
  ·have hs1 : (t.text == s) = false := by simpa using hs
   have HE : Hid (wordM s (t :: r) = t :: r /\ seesM s (t :: r) = false) := by show _ /\ _; simp [wordM, seesM, hs]
   go_enter Tryz.func38, Tryz.ntmps38
   go_wp2_with fail
   go_ret
   rw [HE.out.1, HE.out.2]; exact ⟨rfl, HP.out⟩
  have hs1 : (t.text == s) = true := by simpa using hs
  have HE : Hid (wordM s (t :: r) = r /\ seesM s (t :: r) = true) := by show _ /\ _; simp [wordM, seesM, hk, hs]
  clear hk hs; by_cases hm1 : m = 1
  ·subst hm1; obtain rfl : N = 1 := by omega
   have HT1 := Lib.hid (HT.out.2 rfl); clear HT hN0 hNm hN9; go_enter Tryz.func38, Tryz.ntmps38
   go_wp2_with fail
   go_ret
   rw [HE.out.1, HE.out.2]; exact ⟨rfl, Owns.asRdm (v := .slice (some ⟨g, off, none⟩) 0 0) (HO.out.store (i := 1) (.slice (some ⟨g, off, none⟩) 0 0)) (HT1.out)⟩
  ·clear hN9; go_enter Tryz.func38, Tryz.ntmps38
   go_wp2_with fail
   go_ret
   rw [HE.out.1, HE.out.2]; exact ⟨rfl, Owns.asRdm (v := .slice (some ⟨g, off + 4, none⟩) (N - 1) (m - 1)) (HO.out.store (i := 1) (.slice (some ⟨g, off + 4, none⟩) (N - 1) (m - 1))) (HT.out.1)⟩
end
end Go.Proofs.YtoeknmkephnekaaGreatDoor
namespace Go.Cz.Vd
open Go.Cz.Lx Go.Cz.Fo
theorem term_at {ts : List Tok} {k : Nat} {t : Tok} (h : ts[k]? = some t) : termB (ts.drop k) = (decide (t.kind = 1) && (decide (t.text = wFrom) && match ts[k + 1]? with | some u => decide (u.kind = 2) | none => false)) := by
 obtain ⟨h1, rfl⟩ := List.getElem?_eq_some_iff.1 h; rw [List.drop_eq_getElem_cons h1]; rcases h2 : ts.drop (k + 1) with _ | ⟨u, r⟩
 ·have h3 : ts[k + 1]? = none := by
   have := congrArg List.length h2; rw [List.length_drop, List.length_nil] at this; exact List.getElem?_eq_none (by omega)
  rw [h3]; simp [termB]
 ·have h3 : ts[k + 1]? = some u := by
   have := congrArg (fun z => z[0]?) h2; rw [List.getElem?_drop] at this
   simpa using this
  rw [h3]
  rfl
theorem from_next {ts : List Tok} {k : Nat} (hk : k < ts.length) : fromM (ts.drop k) = if termB (ts.drop k) = true then 0 else fromM (ts.drop (k + 1)) + 1 := by
 rw [List.drop_eq_getElem_cons hk, fromM, <- List.drop_eq_getElem_cons hk]
end Go.Cz.Vd
namespace Go.Cz
open Go.RowKit Go.Cz.Lx Go.Cz.Fo Go.Cz.Vd Go.Proofs.YtoeknmkephnekaaGreatDoor
theorem Owns.fmPush {w0 w w' : World} {ps : List Piece} {f : Fm} {kv : Value} (h : Owns w0 w ps) (hb : Below w.heap.size w w') (hf : IsFm (fun g => w.heap.size <= g) w' f kv) : Owns w0 w' (fmP f kv :: ps) :=
 h.push (Q := fmP f kv) (S := (List.range w'.heap.size).filter fun k => decide (w.heap.size <= k)) ⟨hf.mono fun g hg hl => by
   rw [List.mem_filter, List.mem_range]; exact ⟨hl, by simpa using hg⟩, fun k hk => by
   rw [List.mem_filter, List.mem_range] at hk; exact hk.1⟩ hb fun k hk => by
  rw [List.mem_filter] at hk
  simpa using hk.2
end Go.Cz
namespace Go.Proofs.YtoeknmkephnekaaGreatDoor
open Go.RowKit Go.Cz Go.Cz.Lx Go.Cz.Fo Go.Cz.Vd
attribute [local go_sem] bs_size bs_extract bs_append bs_toList
attribute [local irreducible] cList cPlan
section
variable {w0 : World} {V : TV} {b bR : Nat} {l : Bytes}
set_option maxRecDepth 100000 in
set_option maxHeartbeats 4000000 in
theorem mterm_c (ps : List Piece) (ts : List Tok) (k : Nat) (w : World) (h : Owns w0 w (rdM V b l ts :: one bR 66 (.pointer (some ⟨b, 0, none⟩)) :: ps)) (hN9 : ts.length <= 1000000) (hk : k < ts.length) :
  Calls Tryz.prog 74 #[.int .i64 (k : Int), .pointer (some ⟨bR, 0, none⟩)] w fun x w' => x = .returned (.bool (termB (ts.drop k))) /\ Owns w0 w' (rdM V b l ts :: one bR 66 (.pointer (some ⟨b, 0, none⟩)) :: ps) := by
 obtain ⟨y, m, hv, -, h1⟩ := h.rdm; have HO := Lib.hid h1; have HP := Lib.hid h; clear h h1; obtain ⟨N, hN⟩ : ∃ N, N = ts.length := ⟨_, rfl⟩; rw [<- hN] at HO hv hN9 hk; obtain ⟨t, ht⟩ : ∃ t, ts[k]? = some t := ⟨_, List.getElem?_eq_getElem (by rw [<- hN]; exact hk)⟩; obtain ⟨g, off, rfl, hNm, hg, c0, c1, c2, c3⟩ := hv.get (Below.refl _ _) ht; have HA := Lib.hid (term_at ht); have HV := Lib.hid hv; have HN := Lib.hid hN; clear hv hN ht; obtain ⟨hbp, ⟨fp0, fp1⟩, cp0, cp1⟩ := bx2 (Owns.blk (HO.out)); obtain ⟨hbq, -, cq0⟩ := bx1 (Owns.blk (HO.out.pop.pop)); by_cases h1 : t.kind = 1
 rotate_left
 ·have h1' : ((t.kind : Int) == 1) = false := by simp; omega
  have h1c := Lib.hid (decide_eq_false h1); clear h1; have HE : Hid (termB (ts.drop k) = false) := by show _ = _; rw [HA.out, h1c.out]; simp
  go_enter Tryz.func74, Tryz.ntmps74
  go_wp2_with fail
  go_ret
  rw [HE.out]; exact ⟨rfl, HP.out.alloc _⟩
 have h1' : ((t.kind : Int) == 1) = true := by simp; omega
 have h1c := Lib.hid (decide_eq_true h1); clear h1; by_cases h2 : t.text = wFrom
 rotate_left
 ·have h2' : (t.text == [102, 114, 111, 109]) = false := by simpa [wFrom] using h2
  have h2c := Lib.hid (decide_eq_false h2); clear h2; have HE : Hid (termB (ts.drop k) = false) := by show _ = _; rw [HA.out, h1c.out, h2c.out]; simp
  go_enter Tryz.func74, Tryz.ntmps74
  go_wp2_with fail
  go_ret
  rw [HE.out]; exact ⟨rfl, HP.out.alloc _⟩
 have h2' : (t.text == [102, 114, 111, 109]) = true := by simpa [wFrom] using h2
 have h2c := Lib.hid (decide_eq_true h2); clear h2; by_cases h3 : k + 1 < N
 rotate_left
 ·have h3c : Hid (ts[k + 1]? = none) := Lib.hid (List.getElem?_eq_none (by rw [<- HN.out]; omega)); have h3' : ¬ (k : Int) + 1 < (N : Int) := by omega
  clear h3; have HE : Hid (termB (ts.drop k) = false) := by show _ = _; rw [HA.out, h1c.out, h2c.out, h3c.out]; simp
  go_enter Tryz.func74, Tryz.ntmps74
  go_wp2_with fail
  go_ret
  rw [HE.out]; exact ⟨rfl, HP.out.alloc _⟩
 obtain ⟨u, hu⟩ : ∃ u, ts[k + 1]? = some u := ⟨_, List.getElem?_eq_getElem (by rw [<- HN.out]; exact h3)⟩; obtain ⟨g', off', e, -, -, d0, -⟩ := HV.out.get (Below.refl _ _) hu; cases e
 have h3' : (k : Int) + 1 < (N : Int) := by omega
 have h3c := Lib.hid hu; clear h3 hu; obtain ⟨k1, hk1⟩ : ∃ n : Nat, n = k + 1 := ⟨_, rfl⟩; have HE : Hid (termB (ts.drop k) = ((u.kind : Int) == 2)) := by
  show _ = _; rw [HA.out, h1c.out, h2c.out, h3c.out]; by_cases h4 : u.kind = 2
  ·simp [h4]
  ·have : ¬ ((u.kind : Int) = 2) := by omega
   simp [h4, this]
 go_enter Tryz.func74, Tryz.ntmps74
 go_wp2_with fail
 go_ret
 rw [HE.out]; exact ⟨rfl, HP.out.alloc _⟩
def GotF (w0 : World) (V : TV) (b : Nat) (l : Bytes) (ps : List Piece) (r : Except Er (Fm × List Tok)) (x : Ending) (w' : World) : Prop :=
 match r with
 | .ok (f, q) => ∃ kv, x = .returned (fval f kv) /\ Owns w0 w' (fmP f kv :: rdM V b l q :: ps)
 | .error e => x = pan e /\ ∃ q, Owns w0 w' (rdM V b l q :: ps)
theorem slice_end (P : Program) (t : TypeId) (y : Option Addr) (k m s : Nat) {e : TypeId} (hu : P.underlying t = some (.slice e)) (hs : ∀ W : World, (sizeOf e).run P W = .ok s W) : ∃ y3 m3, ∀ W : World, (Instr.sliceAt t (.slice y k m) (some (.int .i64 (k : Int))) none none).run P W = .ok (.slice y3 0 m3) W := by
 have he : P.elem t = e := by simp [Program.elem, hu]
 have ht : P.underlying t = some (.slice (P.elem t)) := by rw [he]; exact hu
 refine ⟨if m = k then y else y.map (·.add (k * s)), m - k, fun W => ?_⟩; rw [run_sliceAt_slice W t _ _ _ _ ht, run_slice_l W t y k m ht .i64 k (by omega) (Int.le_refl _), he, hs]; simp [Result.andThen, sliced]
theorem tok_size (W : World) : (sizeOf 40).run Tryz.prog W = .ok 4 W := by kernel_rfl
theorem set5_ownsM {w W : World} {ps : List Piece} {b : Nat} (h : Owns w W (blk b fobj0 :: ps)) (v0 v1 v2 v3 v4 : Value) : Owns w (set5 W b v0 v1 v2 v3 v4) (blk b (.cells #[v0, v1, v2, v3, v4] 24 (0, 0)) :: ps) :=
 st5 h v0 v1 v2 v3 v4
theorem mform_res {W : World} {tmps : Array Value} {g : Nat} {v0 v1 v2 v3 v4 : Value} (h4 : tmps.getD 4 undef = .pointer (some ⟨g, 0, none⟩)) (hb : W.heap[g]? = some (.cells #[v0, v1, v2, v3, v4] 24 (0, 0))) :
  (results Tryz.f39 tmps).run Tryz.prog W = .ok (.agg #[v0, v1, v2, v3, v4]) W := by
 have c0 : W.cell? ⟨g, 0, none⟩ = some v0 := by rw [cell_of_heap hb]; rfl
 have c1 : W.cell? ⟨g, 1, none⟩ = some v1 := by rw [cell_of_heap hb]; rfl
 have c2 : W.cell? ⟨g, 2, none⟩ = some v2 := by rw [cell_of_heap hb]; rfl
 have c3 : W.cell? ⟨g, 3, none⟩ = some v3 := by rw [cell_of_heap hb]; rfl
 have c4 : W.cell? ⟨g, 4, none⟩ = some v4 := by rw [cell_of_heap hb]; rfl
 have h4' : tmps[4]?.getD undef = .pointer (some ⟨g, 0, none⟩) := by simpa using h4
 simp [results, Tryz.results39, go_sem, h4', c0, c1, c2, c3, c4]
set_option maxRecDepth 100000 in
set_option maxHeartbeats 4000000 in
theorem mformula_c (ps : List Piece) (ts : List Tok) (begin : Nat) (w : World) (h : Owns w0 w (rdM V b l ts :: ps)) (hl : l.length <= 20000) (hN9 : ts.length <= 1000000) (hbe : begin <= endM l (ts.drop (fromM ts))) (hel : endM l (ts.drop (fromM ts)) <= l.length) :
  Calls Tryz.prog 39 #[.pointer (some ⟨b, 0, none⟩), .int .i64 (begin : Int)] w (GotF w0 V b l ps (condM l begin ts)) := by
 have HP := Lib.hid h; have HBE := Lib.hid hbe; have HEL := Lib.hid hel; obtain ⟨N, hN⟩ : ∃ N, N = ts.length := ⟨_, rfl⟩; have HN := Lib.hid hN; rw [<- hN] at hN9; clear hbe hel hN h; obtain ⟨bR, hbR⟩ : ∃ b, b = w.heap.size := ⟨_, rfl⟩; obtain ⟨bF, hbF⟩ : ∃ b, b = bR + 1 := ⟨_, rfl⟩; obtain ⟨W1, hW1⟩ : ∃ W1, W1 = (w.alloc (.cells #[.pointer (some ⟨b, 0, none⟩)] 66)).alloc (.cells #[.int .i64 0, .string ⟨#[]⟩, .int .i64 0, .int .i64 0, .slice none 0 0] 24) := ⟨_, rfl⟩; have HO : Hid (Owns w0 W1 (rdM V b l ts :: one bR 66 (.pointer (some ⟨b, 0, none⟩)) :: blk bF fobj0 :: ps)) := by
  rw [hW1, hbF, hbR]; have := ((HP.out.box (.cells #[.pointer (some ⟨b, 0, none⟩)] 66 (0, 0))).box fobj0); rw [World.size_alloc] at this; exact Lib.hid (this.re [2, 1, 0])
 go_enter Tryz.func39, Tryz.ntmps39
 go_wp2_with fail
 rw [<- hW1, <- hbR, <- hbF]; clear hW1 hbR hbF HP; have H0 : Hid (fromM ts = 0 + fromM (ts.drop 0)) := by show _ = _; simp
 go_loopg [6] N (fun gk i wr => ∃ k : Nat, gk = N - k /\ k <= N /\ i = .int .i64 (k : Int) /\ Hid (fromM ts = k + fromM (ts.drop k)) /\ Hid (Owns w0 wr (rdM V b l ts :: one bR 66 (.pointer (some ⟨b, 0, none⟩)) :: blk bF fobj0 :: ps)))
 case atStart => exact ⟨0, rfl, Nat.zero_le _, rfl, H0, HO⟩
 case round =>
  rename_i J1 K1 hJ1 hK1; clear HO H0; obtain ⟨k, rfl, hk, rfl, HI, HO⟩ := hrel; by_cases hlt : k < N
  ·obtain ⟨y, m, -, -, h1⟩ := HO.out.rdm; rw [<- HN.out] at h1; obtain ⟨hbp, ⟨fp0, fp1⟩, cp0, cp1⟩ := bx2 (Owns.blk (h1)); obtain ⟨hbq, -, cq0⟩ := bx1 (Owns.blk (h1.pop.pop)); clear h1; go_wp2_with fail
   go_at_call 74
   clear hbp fp0 fp1 cp0 cp1 hbq cq0; refine (mterm_c (blk bF fobj0 :: ps) ts k wr HO.out (by rw [<- HN.out]; exact hN9) (by rw [<- HN.out]; exact hlt)).mono ?_; rintro e W2 ⟨rfl, ho⟩; replace HO := Lib.hid ho; clear ho; have hfn := from_next (ts := ts) (k := k) (by rw [<- HN.out]; exact hlt); obtain ⟨q, hq⟩ : ∃ q, q = termB (ts.drop k) := ⟨_, rfl⟩; rw [<- hq] at hfn ⊢; have HFn := Lib.hid hfn; clear hq hfn; cases q
   ·have HI2 : Hid (fromM ts = k + 1 + fromM (ts.drop (k + 1))) := by
     show _ = _; have := HFn.out; rw [if_neg (by simp)] at this; rw [HI.out, this]; omega
    clear HI HFn; go_wp2_with fail
    go_roundg (N - (k + 1))
    case measure => omega
    case rel => exact ⟨k + 1, rfl, by omega, by go_num, HI2, HO⟩
   ·have HFr : Hid (fromM ts = k) := by
     show _ = _; have := HFn.out; rw [if_pos rfl] at this; rw [HI.out, this]; rfl
    clear HI HFn hJ1 hK1; obtain ⟨t, ht⟩ : ∃ t, ts[k]? = some t := ⟨_, List.getElem?_eq_getElem (by rw [<- HN.out]; exact hlt)⟩; have hdk : ts.drop k = t :: ts.drop (k + 1) := by
     obtain ⟨h1, rfl⟩ := List.getElem?_eq_some_iff.1 ht; exact List.drop_eq_getElem_cons h1
    have hE : endM l (ts.drop (fromM ts)) = t.pos := by rw [HFr.out, hdk]; rfl
    have hbE : begin <= t.pos := by rw [<- hE]; exact HBE.out
    have hEl : t.pos <= l.length := by rw [<- hE]; exact HEL.out
    have HE0 := Lib.hid hE; obtain ⟨y, m, hv, hs, h1⟩ := HO.out.rdm; rw [<- HN.out] at hv hs h1; obtain ⟨g, off, rfl, hNm, hg, c0, c1, c2, c3⟩ := hv.get (Below.refl _ _) ht; have HV := Lib.hid hs; replace HO := Lib.hid h1; have HTt := Lib.hid ht; clear h1 hv hs hE hdk ht c0 c1 c2 c3 hg; go_wp2_with fail
    refine wp_region_canA [] (List.range 14) ?_; replace HO := Lib.hid HO.out.drew; obtain ⟨W5, hWx⟩ : ∃ W, W = World.drew W2 := ⟨_, rfl⟩; rw [<- hWx] at HO ⊢; clear hWx; obtain ⟨hbp, ⟨fp0, fp1⟩, cp0, cp1⟩ := bx2 (Owns.blk (HO.out)); obtain ⟨hbq, -, cq0⟩ := bx1 (Owns.blk (HO.out.pop.pop)); iterate 14 (refine cl_doA rfl rfl rfl (fun _ _ => ?_); go_wp2_with fail)
    refine cl_nil ?_; clear hbp fp0 fp1 cp0 cp1 hbq cq0; obtain ⟨g', off', e, -, hg, -, c1, -⟩ := (HO.out.pop.tokAt HV.out).get (Below.refl _ _) HTt.out; cases e
    obtain ⟨hbp, ⟨fp0, fp1⟩, cp0, cp1⟩ := bx2 (Owns.blk (HO.out)); obtain ⟨hbq, -, cq0⟩ := bx1 (Owns.blk (HO.out.pop.pop)); go_wp2_with fail
    clear c1 hg; refine wp_region_canA [] (List.range 10) ?_; clear hbp fp0 fp1 cp0 cp1 hbq cq0; replace HO := Lib.hid HO.out.drew; obtain ⟨W6, hWx⟩ : ∃ W, W = World.drew W5 := ⟨_, rfl⟩; rw [<- hWx] at HO ⊢; clear hWx; obtain ⟨hbp, ⟨fp0, fp1⟩, cp0, cp1⟩ := bx2 (Owns.blk (HO.out)); obtain ⟨hbq, -, cq0⟩ := bx1 (Owns.blk (HO.out.pop.pop)); have hkm : ¬ m = k := by omega
    iterate 9 (refine cl_doA rfl rfl rfl (fun _ _ => ?_); go_wp2_with fail)
    refine cl_doA rfl rfl rfl (fun _ _ => ?_); go_wp2_with fail
    refine cl_nil ?_; have ho := Owns.asRdm (v := .slice (some ⟨g, off + k * 4, none⟩) (N - k) (m - k)) (HO.out.store (i := 1) (.slice (some ⟨g, off + k * 4, none⟩) (N - k) (m - k))) (HV.out.drop (k := k) (by rw [<- HN.out]; omega)); obtain ⟨W7, hW7⟩ : ∃ W, W = W6.setCell ⟨b, 1, none⟩ (.slice (some ⟨g, off + k * 4, none⟩) (N - k) (m - k)) := ⟨_, rfl⟩; rw [<- hW7] at ho ⊢; replace HO : Hid (Owns w0 W7 (rdM V b l (ts.drop k) :: one bR 66 (.pointer (some ⟨b, 0, none⟩)) :: blk bF fobj0 :: ps)) := Lib.hid ho; clear ho hW7 hbp fp0 fp1 cp0 cp1 hbq cq0 hkm HTt; have hcl : decide (k < N) = true := by simpa using hlt
    have HCl := Lib.hid hcl; clear hcl hlt hNm; obtain ⟨E, hE⟩ : ∃ E, E = t.pos := ⟨_, rfl⟩; rw [<- hE] at HE0 hbE hEl ⊢; clear hE; obtain ⟨y2, m2, -, -, h1⟩ := HO.out.rdm; obtain ⟨hbp, ⟨fp0, fp1⟩, cp0, cp1⟩ := bx2 (Owns.blk (h1)); obtain ⟨hbq, -, cq0⟩ := bx1 (Owns.blk (h1.pop.pop)); clear h1; go_wp2_with fail
    rw [<- List.drop_take]; clear hbp fp0 fp1 cp0 cp1 hbq cq0; have hXl : ((l.take E).drop begin).length <= 140737488355328 := by rw [List.length_drop, List.length_take]; omega
    obtain ⟨X, hX⟩ : ∃ X, X = (l.take E).drop begin := ⟨_, rfl⟩; rw [<- hX] at hXl ⊢; go_at_call 75
    refine (Parse_c X W7 hXl).mono ?_; rintro e W8 ⟨kv, rfl, hf, hb⟩; obtain ⟨p, hp⟩ : ∃ p, p = parseF X := ⟨_, rfl⟩; rw [<- hp] at hf ⊢; have HC : Hid (condM l begin ts = match condE begin E true p with | some e => .error e | none => .ok (p.1, ts.drop k)) := by
     show _ = _; unfold condM; rw [HE0.out, HFr.out, <- HN.out, HCl.out, <- hX, <- hp]
     rfl
    have hpp := parse_pos X; rw [<- hp, hX, List.length_drop, List.length_take] at hpp; have hpl : -1 <= p.2.2 /\ p.2.2 <= 20000 := by omega
    clear hp hX hXl hpp; obtain ⟨f, ec, pos⟩ := p; dsimp only at hf HC hpl ⊢; obtain ⟨hp1, hp2⟩ := hpl; obtain ⟨ky, km, rfl⟩ := hf.form; replace HO := Lib.hid (HO.out.fmPush hb hf); obtain ⟨n2, hn2⟩ : ∃ n, n = f.kids.length := ⟨_, rfl⟩; rw [<- hn2] at HO ⊢; clear hf hb hn2 HE0 HFr HCl HV; obtain ⟨hbF, ⟨ff0, ff1, ff2, ff3, ff4⟩, cf0, cf1, cf2, cf3, cf4⟩ := bx5 (Owns.blk HO.out.pop.pop.pop); simp only [fval]; by_cases h6 : ec = 6
    ·have h61 : ((ec : Int) == 6) = true := by simp; omega
     have HX : Hid (condM l begin ts = .error (5, (E : Int))) := by show _ = _; rw [HC.out]; simp [condE, h6]
     clear h6; clear hbF ff0 ff1 ff2 ff3 ff4 cf0 cf1 cf2 cf3 cf4; go_wp2_with fail
     rw [HX.out]; exact ⟨rfl, rfl, _, (((HO.out.alloc _).pop).re [1, 2, 0]).pop.pop⟩
    have h61 : ((ec : Int) == 6) = false := by simp; omega
    have HN6 : Hid (¬ (ec = 6 /\ true = true)) := Lib.hid fun h => h6 h.1; clear h6; by_cases h0 : ec = 0
    rotate_left
    ·have h01 : ((ec : Int) != 0) = true := by simp; omega
     by_cases hp : pos < 0
     ·have HX : Hid (condM l begin ts = .error (ec, pos)) := by show _ = _; rw [HC.out]; unfold condE; rw [if_neg HN6.out, if_neg h0, if_pos hp]
      clear h0; clear hbF ff0 ff1 ff2 ff3 ff4 cf0 cf1 cf2 cf3 cf4; go_wp2_with fail
      rw [HX.out]; exact ⟨rfl, rfl, _, (((HO.out.alloc _).pop).re [1, 2, 0]).pop.pop⟩
     ·have HX : Hid (condM l begin ts = .error (ec, (begin : Int) + pos)) := by show _ = _; rw [HC.out]; unfold condE; rw [if_neg HN6.out, if_neg h0, if_neg hp]
      clear h0; clear hbF ff0 ff1 ff2 ff3 ff4 cf0 cf1 cf2 cf3 cf4; go_wp2_with fail
      rw [HX.out]; exact ⟨rfl, rfl, _, (((HO.out.alloc _).pop).re [1, 2, 0]).pop.pop⟩
    have h01 : ((ec : Int) != 0) = false := by simp; omega
    have HX : Hid (condM l begin ts = .ok (f, ts.drop k)) := by show _ = _; rw [HC.out]; unfold condE; rw [if_neg HN6.out, if_pos h0]
    clear h0; repeat (first | go_values | go_skip | go_guarded | go_step | go_upon)
    have h1 : Owns w0 W8 (blk bF fobj0 :: fmP f (.slice ky n2 km) :: rdM V b l (ts.drop k) :: one bR 66 (.pointer (some ⟨b, 0, none⟩)) :: ps) := HO.out.re [3, 0, 1, 2]; have h2 := (set5_ownsM h1 (.int .i64 f.op) (.string (bs f.name)) (.int .i64 f.cmp) (.int .i64 f.num) (.slice ky n2 km)).alloc (fobj f (.slice ky n2 km)); refine bodyPost_ret (mform_res rfl h2.blk.1) (by rfl) ?_; rw [HX.out]; exact ⟨.slice ky n2 km, rfl, ((h2.pop).re [2, 0, 1]).pop⟩
  ·obtain rfl : k = N := by omega
   have HFr : Hid (fromM ts = k) := by
    show _ = _; rw [HI.out, HN.out, List.drop_length]; rfl
   clear HI hJ1 hK1 hlt; have hE : endM l (ts.drop (fromM ts)) = l.length := by rw [HFr.out, HN.out, List.drop_length]; rfl
   have hbE : begin <= l.length := by rw [<- hE]; exact HBE.out
   have hEl : l.length <= l.length := Nat.le_refl _; have HE0 := Lib.hid hE; obtain ⟨y, m, hv, -, h1⟩ := HO.out.rdm; rw [<- HN.out] at hv h1; have hkm : k <= m ∨ k = 0 := by
    obtain ⟨y', m', e, h⟩ := hv; cases e
    rcases h with h | ⟨g, off, -, -, hm, -⟩
    ·exact .inr (by rw [HN.out, h]; rfl)
    ·exact .inl (by rw [HN.out]; exact hm)
   have hkm2 : k <= m := by omega
   have HV : Hid True := trivial; replace HO := Lib.hid h1; clear h1 hv hE hkm; obtain ⟨hbp, ⟨fp0, fp1⟩, cp0, cp1⟩ := bx2 (Owns.blk (HO.out)); obtain ⟨hbq, -, cq0⟩ := bx1 (Owns.blk (HO.out.pop.pop)); go_wp2_with fail
   clear hbp fp0 fp1 cp0 cp1 hbq cq0; refine wp_region_canA [] (List.range 14) ?_; replace HO := Lib.hid HO.out.drew; obtain ⟨W5, hWx⟩ : ∃ W, W = World.drew wr := ⟨_, rfl⟩; rw [<- hWx] at HO ⊢; clear hWx; obtain ⟨hbp, ⟨fp0, fp1⟩, cp0, cp1⟩ := bx2 (Owns.blk (HO.out)); obtain ⟨hbq, -, cq0⟩ := bx1 (Owns.blk (HO.out.pop.pop)); iterate 14 (refine cl_doA rfl rfl rfl (fun _ _ => ?_); go_wp2_with fail)
   refine cl_nil ?_; clear hbp fp0 fp1 cp0 cp1 hbq cq0; go_wp2_with fail
   refine wp_region_canA [] (List.range 10) ?_; replace HO := Lib.hid HO.out.drew; obtain ⟨W6, hWx⟩ : ∃ W, W = World.drew W5 := ⟨_, rfl⟩; rw [<- hWx] at HO ⊢; clear hWx; have hcl : decide (k < k) = false := by simp
   have HCl := Lib.hid hcl; clear hcl; obtain ⟨y3, m3, hrun⟩ : ∃ y3 m3, ∀ W : World, (Instr.sliceAt 36 (.slice y k m) (some (.int .i64 (k : Int))) none none).run Tryz.prog W = .ok (.slice y3 0 m3) W := slice_end Tryz.prog 36 y k m 4 Tryz.underlying36 tok_size; obtain ⟨hbp, ⟨fp0, fp1⟩, cp0, cp1⟩ := bx2 (Owns.blk (HO.out)); obtain ⟨hbq, -, cq0⟩ := bx1 (Owns.blk (HO.out.pop.pop)); iterate 9 (refine cl_doA rfl rfl rfl (fun _ _ => ?_); go_wp2_with fail)
   refine cl_doA rfl rfl rfl (fun _ _ => ?_); go_wp2_with fail
   refine cl_nil ?_; have hd : ts.drop k = [] := by rw [HN.out, List.drop_length]
   have ho := Owns.asRdm (v := .slice y3 0 m3) (HO.out.store (i := 1) (.slice y3 0 m3)) (Suf.nil V y3 m3); obtain ⟨W7, hW7⟩ : ∃ W, W = W6.setCell ⟨b, 1, none⟩ (.slice y3 0 m3) := ⟨_, rfl⟩; rw [<- hW7] at ho ⊢; replace HO : Hid (Owns w0 W7 (rdM V b l (ts.drop k) :: one bR 66 (.pointer (some ⟨b, 0, none⟩)) :: blk bF fobj0 :: ps)) := by rw [hd]; exact Lib.hid ho
   clear ho hW7 hbp fp0 fp1 cp0 cp1 hbq cq0 hkm2 hrun hd; obtain ⟨E, hE⟩ : ∃ E, E = l.length := ⟨_, rfl⟩; rw [<- hE] at HE0 hbE ⊢; clear hEl; have hEl : E <= l.length := by omega
   clear hE; obtain ⟨y2, m2, -, -, h1⟩ := HO.out.rdm; obtain ⟨hbp, ⟨fp0, fp1⟩, cp0, cp1⟩ := bx2 (Owns.blk (h1)); obtain ⟨hbq, -, cq0⟩ := bx1 (Owns.blk (h1.pop.pop)); clear h1; go_wp2_with fail
   rw [<- List.drop_take]; clear hbp fp0 fp1 cp0 cp1 hbq cq0; have hXl : ((l.take E).drop begin).length <= 140737488355328 := by rw [List.length_drop, List.length_take]; omega
   obtain ⟨X, hX⟩ : ∃ X, X = (l.take E).drop begin := ⟨_, rfl⟩; rw [<- hX] at hXl ⊢; go_at_call 75
   refine (Parse_c X W7 hXl).mono ?_; rintro e W8 ⟨kv, rfl, hf, hb⟩; obtain ⟨p, hp⟩ : ∃ p, p = parseF X := ⟨_, rfl⟩; rw [<- hp] at hf ⊢; have HC : Hid (condM l begin ts = match condE begin E false p with | some e => .error e | none => .ok (p.1, ts.drop k)) := by
    show _ = _; unfold condM; rw [HE0.out, HFr.out, <- HN.out, HCl.out, <- hX, <- hp]
    rfl
   have hpp := parse_pos X; rw [<- hp, hX, List.length_drop, List.length_take] at hpp; have hpl : -1 <= p.2.2 /\ p.2.2 <= 20000 := by omega
   clear hp hX hXl hpp; obtain ⟨f, ec, pos⟩ := p; dsimp only at hf HC hpl ⊢; obtain ⟨hp1, hp2⟩ := hpl; obtain ⟨ky, km, rfl⟩ := hf.form; replace HO := Lib.hid (HO.out.fmPush hb hf); obtain ⟨n2, hn2⟩ : ∃ n, n = f.kids.length := ⟨_, rfl⟩; rw [<- hn2] at HO ⊢; clear hf hb hn2 HE0 HFr HCl HV; obtain ⟨hbF, ⟨ff0, ff1, ff2, ff3, ff4⟩, cf0, cf1, cf2, cf3, cf4⟩ := bx5 (Owns.blk HO.out.pop.pop.pop); simp only [fval]; have HN6 : Hid (¬ (ec = 6 /\ false = true)) := Lib.hid fun h => by cases h.2
   by_cases h6 : ec = 6
   ·have h61 : ((ec : Int) == 6) = true := by simp; omega
    clear h6; by_cases h0 : ec = 0
    rotate_left
    ·have h01 : ((ec : Int) != 0) = true := by simp; omega
     by_cases hp : pos < 0
     ·have HX : Hid (condM l begin ts = .error (ec, pos)) := by show _ = _; rw [HC.out]; unfold condE; rw [if_neg HN6.out, if_neg h0, if_pos hp]
      clear h0; clear hbF ff0 ff1 ff2 ff3 ff4 cf0 cf1 cf2 cf3 cf4; go_wp2_with fail
      rw [HX.out]; exact ⟨rfl, rfl, _, (((HO.out.alloc _).pop).re [1, 2, 0]).pop.pop⟩
     ·have HX : Hid (condM l begin ts = .error (ec, (begin : Int) + pos)) := by show _ = _; rw [HC.out]; unfold condE; rw [if_neg HN6.out, if_neg h0, if_neg hp]
      clear h0; clear hbF ff0 ff1 ff2 ff3 ff4 cf0 cf1 cf2 cf3 cf4; go_wp2_with fail
      rw [HX.out]; exact ⟨rfl, rfl, _, (((HO.out.alloc _).pop).re [1, 2, 0]).pop.pop⟩
    have h01 : ((ec : Int) != 0) = false := by simp; omega
    have HX : Hid (condM l begin ts = .ok (f, ts.drop k)) := by show _ = _; rw [HC.out]; unfold condE; rw [if_neg HN6.out, if_pos h0]
    clear h0; repeat (first | go_values | go_skip | go_guarded | go_step | go_upon)
    have h1 : Owns w0 W8 (blk bF fobj0 :: fmP f (.slice ky n2 km) :: rdM V b l (ts.drop k) :: one bR 66 (.pointer (some ⟨b, 0, none⟩)) :: ps) := HO.out.re [3, 0, 1, 2]; have h2 := (set5_ownsM h1 (.int .i64 f.op) (.string (bs f.name)) (.int .i64 f.cmp) (.int .i64 f.num) (.slice ky n2 km)).alloc (fobj f (.slice ky n2 km)); refine bodyPost_ret (mform_res rfl h2.blk.1) (by rfl) ?_; rw [HX.out]; exact ⟨.slice ky n2 km, rfl, ((h2.pop).re [2, 0, 1]).pop⟩
   ·have h61 : ((ec : Int) == 6) = false := by simp; omega
    clear h6; by_cases h0 : ec = 0
    rotate_left
    ·have h01 : ((ec : Int) != 0) = true := by simp; omega
     by_cases hp : pos < 0
     ·have HX : Hid (condM l begin ts = .error (ec, pos)) := by show _ = _; rw [HC.out]; unfold condE; rw [if_neg HN6.out, if_neg h0, if_pos hp]
      clear h0; clear hbF ff0 ff1 ff2 ff3 ff4 cf0 cf1 cf2 cf3 cf4; go_wp2_with fail
      rw [HX.out]; exact ⟨rfl, rfl, _, (((HO.out.alloc _).pop).re [1, 2, 0]).pop.pop⟩
     ·have HX : Hid (condM l begin ts = .error (ec, (begin : Int) + pos)) := by show _ = _; rw [HC.out]; unfold condE; rw [if_neg HN6.out, if_neg h0, if_neg hp]
      clear h0; clear hbF ff0 ff1 ff2 ff3 ff4 cf0 cf1 cf2 cf3 cf4; go_wp2_with fail
      rw [HX.out]; exact ⟨rfl, rfl, _, (((HO.out.alloc _).pop).re [1, 2, 0]).pop.pop⟩
    have h01 : ((ec : Int) != 0) = false := by simp; omega
    have HX : Hid (condM l begin ts = .ok (f, ts.drop k)) := by show _ = _; rw [HC.out]; unfold condE; rw [if_neg HN6.out, if_pos h0]
    clear h0; repeat (first | go_values | go_skip | go_guarded | go_step | go_upon)
    have h1 : Owns w0 W8 (blk bF fobj0 :: fmP f (.slice ky n2 km) :: rdM V b l (ts.drop k) :: one bR 66 (.pointer (some ⟨b, 0, none⟩)) :: ps) := HO.out.re [3, 0, 1, 2]; have h2 := (set5_ownsM h1 (.int .i64 f.op) (.string (bs f.name)) (.int .i64 f.cmp) (.int .i64 f.num) (.slice ky n2 km)).alloc (fobj f (.slice ky n2 km)); refine bodyPost_ret (mform_res rfl h2.blk.1) (by rfl) ?_; rw [HX.out]; exact ⟨.slice ky n2 km, rfl, ((h2.pop).re [2, 0, 1]).pop⟩
end
end Go.Proofs.YtoeknmkephnekaaGreatDoor
namespace Go.Proofs.YtoeknmkephnekaaGreatDoor
open Go.RowKit Go.Cz Go.Cz.Lx Go.Cz.Fo Go.Cz.Vd
attribute [local go_sem] bs_size bs_extract bs_append bs_toList
attribute [local irreducible] cList cPlan
def GotM (w0 : World) (V : TV) (b bR bm : Nat) (l : Bytes) (kv : Value) (ps : List Piece) (r : Except Er (Me × List Tok)) (x : Ending) (w' : World) : Prop :=
 match r with
 | .ok (m, q) => x = .returned (.tuple #[]) /\ Owns w0 w' (rdM V b l q :: blk bm (mobj m kv) :: one bR 66 (.pointer (some ⟨b, 0, none⟩)) :: ps)
 | .error e => x = pan e /\ ∃ q m, Owns w0 w' (rdM V b l q :: blk bm (mobj m kv) :: one bR 66 (.pointer (some ⟨b, 0, none⟩)) :: ps)
section
variable {w0 : World} {V : TV} {b bR bm bH : Nat} {l : Bytes}
set_option maxRecDepth 100000 in
set_option maxHeartbeats 4000000 in
theorem mids_c (ps : List Piece) (ts : List Tok) (m : Me) (kv : Value) (a c : Bytes) (w : World) (h : Owns w0 w (rdM V b l ts :: blk bm (mobj m kv) :: one bR 66 (.pointer (some ⟨b, 0, none⟩)) :: ps)) (hl : l.length <= 140737488355328) (hN9 : ts.length <= 1000000) :
  Calls Tryz.prog 32 #[.string (bs a), .string (bs c), .pointer (some ⟨bR, 0, none⟩), .pointer (some ⟨bm, 0, none⟩)] w (GotM w0 V b bR bm l kv ps (idsM l.length a c m ts)) := by
 have HO := Lib.hid h; clear h; obtain ⟨hbq, -, cq0⟩ := bx1 (Owns.blk (HO.out.pop.pop)); go_enter Tryz.func32, Tryz.ntmps32
 go_wp2_with fail
 clear hbq cq0; go_at_call 33
 refine (mname_c _ ts a w HO.out hl hN9).mono ?_; intro e W1 hg; rcases hr : nameM l.length a ts with er | ⟨s, r⟩
 ·rw [hr] at hg; obtain ⟨rfl, q, ho⟩ := hg; have HE : Hid (idsM l.length a c m ts = .error er) := by show _ = _; unfold idsM; rw [hr]
  replace HO := Lib.hid ho; clear ho hr; refine (?_ : bodyPost Tryz.prog Tryz.f32 _ (Exit.panic _) _ _); rw [HE.out]; exact ⟨rfl, rfl, q, m, HO.out⟩
 rw [hr] at hg; obtain ⟨rfl, ho⟩ := hg; have HR := Lib.hid hr; have hrl : r.length <= 1000000 := by
  obtain ⟨t, rfl, -⟩ := name_inv hr; simp only [List.length_cons] at hN9; omega
 replace HO := Lib.hid ho; clear ho hr hN9; obtain ⟨hbm, ⟨fm0, fm1, fm2, fm3⟩, cm0, cm1, cm2, cm3⟩ := bx4 (Owns.blk (HO.out.pop)); obtain ⟨hbq, -, cq0⟩ := bx1 (Owns.blk (HO.out.pop.pop)); dsimp only; have nmR := Owns.ne HO.out.pop; have nRm := nmR.symm; go_wp2_with fail
 have ho : Owns w0 (W1.setCell ⟨bm, 0, none⟩ (.string (bs s))) (rdM V b l r :: blk bm (mobj { m with id := s } kv) :: one bR 66 (.pointer (some ⟨b, 0, none⟩)) :: ps) := (HO.out.swap.store (i := 0) (.string (bs s))).swap; obtain ⟨W2, hW2⟩ : ∃ W, W = W1.setCell ⟨bm, 0, none⟩ (.string (bs s)) := ⟨_, rfl⟩; rw [<- hW2] at ho ⊢; replace HO := Lib.hid ho; clear hbm fm0 fm1 fm2 fm3 cm0 cm1 cm2 cm3; clear ho hW2 hbq cq0; go_at_call 34
 refine (mtake_c _ r 1 wOf W2 HO.out (by omega) hl hrl).mono ?_; intro e W3 hg; rcases hr : takeM l.length 1 wOf r with er | ⟨t, r2⟩
 ·rw [hr] at hg; obtain ⟨rfl, q, ho⟩ := hg; have HE : Hid (idsM l.length a c m ts = .error er) := by show _ = _; unfold idsM; rw [HR.out]; simp only; rw [hr]
  replace HO := Lib.hid ho; clear ho hr; refine (?_ : bodyPost Tryz.prog Tryz.f32 _ (Exit.panic _) _ _); rw [HE.out]; exact ⟨rfl, rfl, q, _, HO.out⟩
 rw [hr] at hg; obtain ⟨rfl, ho⟩ := hg; have HR2 := Lib.hid hr; have hrl2 : r2.length <= 1000000 := by
  obtain ⟨rfl, -⟩ := take_inv hr; simp only [List.length_cons] at hrl; omega
 replace HO := Lib.hid ho; clear ho hr hrl; obtain ⟨hbq, -, cq0⟩ := bx1 (Owns.blk (HO.out.pop.pop)); dsimp only; go_wp2_with fail
 clear hbq cq0; go_at_call 33
 refine (mname_c _ r2 c W3 HO.out hl hrl2).mono ?_; intro e W4 hg; rcases hr : nameM l.length c r2 with er | ⟨s2, r3⟩
 ·rw [hr] at hg; obtain ⟨rfl, q, ho⟩ := hg; have HE : Hid (idsM l.length a c m ts = .error er) := by show _ = _; unfold idsM; rw [HR.out]; simp only; rw [HR2.out]; simp only; rw [hr]
  replace HO := Lib.hid ho; clear ho hr; refine (?_ : bodyPost Tryz.prog Tryz.f32 _ (Exit.panic _) _ _); rw [HE.out]; exact ⟨rfl, rfl, q, _, HO.out⟩
 rw [hr] at hg; obtain ⟨rfl, ho⟩ := hg; have HE : Hid (idsM l.length a c m ts = .ok ({ m with id := s, auth := s2 }, r3)) := by show _ = _; unfold idsM; rw [HR.out]; simp only; rw [HR2.out]; simp only; rw [hr]
 replace HO := Lib.hid ho; clear ho hr hrl2 HR HR2; obtain ⟨hbm, ⟨fm0, fm1, fm2, fm3⟩, cm0, cm1, cm2, cm3⟩ := bx4 (Owns.blk (HO.out.pop)); dsimp only; go_wp2_with fail
 go_end0
 rw [HE.out]; exact ⟨rfl, (HO.out.swap.store (i := 1) (.string (bs s2))).swap⟩
abbrev headP (bH bR bm : Nat) : Piece := one bH 71 (.func (.func 32) #[] #[.pointer (some ⟨bR, 0, none⟩), .pointer (some ⟨bm, 0, none⟩)])
abbrev GotK (w0 : World) (V : TV) (b bR bm bH : Nat) (l : Bytes) (kv : Value) (ps : List Piece) (r : Except Er (Me × List Tok)) (x : Ending) (w' : World) : Prop := GotM w0 V b bR bm l kv (headP bH bR bm :: ps) r x w'
set_option maxRecDepth 100000 in
set_option maxHeartbeats 4000000 in
theorem mforbid_c (ps : List Piece) (ts : List Tok) (m : Me) (kv : Value) (w : World) (hm : { m with kind := 1 } = startM 1) (h : Owns w0 w (rdM V b l ts :: blk bm (mobj m kv) :: one bR 66 (.pointer (some ⟨b, 0, none⟩)) :: headP bH bR bm :: ps)) (hl : l.length <= 140737488355328) (hN9 : ts.length <= 1000000) :
  Calls Tryz.prog 35 #[.pointer (some ⟨bm, 0, none⟩), .pointer (some ⟨bH, 0, none⟩)] w (GotK w0 V b bR bm bH l kv ps (targetM l.length 1 ts)) := by
 have HO := Lib.hid h; have HM := Lib.hid hm; clear h hm; obtain ⟨hbm, ⟨fm0, fm1, fm2, fm3⟩, cm0, cm1, cm2, cm3⟩ := bx4 (Owns.blk (HO.out.pop)); obtain ⟨hbq, -, cq0⟩ := bx1 (Owns.blk (HO.out.pop.pop.pop)); go_enter Tryz.func35, Tryz.ntmps35
 go_wp2_with fail
 have ho : Owns w0 (w.setCell ⟨bm, 2, none⟩ (.int .i64 1)) (rdM V b l ts :: blk bm (mobj { m with kind := 1 } kv) :: one bR 66 (.pointer (some ⟨b, 0, none⟩)) :: headP bH bR bm :: ps) := (HO.out.swap.store (i := 2) (.int .i64 1)).swap; obtain ⟨W2, hW2⟩ : ∃ W, W = w.setCell ⟨bm, 2, none⟩ (.int .i64 1) := ⟨_, rfl⟩; rw [<- hW2] at ho ⊢; replace HO := Lib.hid ho; clear hbm fm0 fm1 fm2 fm3 cm0 cm1 cm2 cm3; clear ho hW2 hbq cq0; refine (mids_c (headP bH bR bm :: ps) ts { m with kind := 1 } kv [] [] W2 HO.out hl hN9).mono ?_; intro e W9 hg; have HE : Hid (targetM l.length 1 ts = idsM l.length [] [] { m with kind := 1 } ts) := by show _ = _; unfold targetM; rw [if_pos rfl, <- HM.out]
 rcases hr : targetM l.length _ ts with er | ⟨s', r'⟩
 ·rw [<- HE.out, hr] at hg; obtain ⟨rfl, q, m', ho⟩ := hg; refine (?_ : bodyPost Tryz.prog Tryz.f35 _ (Exit.panic _) _ _); exact ⟨rfl, rfl, q, m', ho⟩
 rw [<- HE.out, hr] at hg; obtain ⟨rfl, ho⟩ := hg; have HO9 := Lib.hid ho; have HR9 := Lib.hid hr; clear ho hr; dsimp only; go_wp2_with fail
 go_end0
 rw [HR9.out]; exact ⟨rfl, HO9.out⟩
set_option maxRecDepth 100000 in
set_option maxHeartbeats 4000000 in
theorem mexempt_c (ps : List Piece) (ts : List Tok) (m : Me) (kv : Value) (w : World) (hm : { m with kind := 2, target := [] } = startM 2) (h : Owns w0 w (rdM V b l ts :: blk bm (mobj m kv) :: one bR 66 (.pointer (some ⟨b, 0, none⟩)) :: headP bH bR bm :: ps)) (hl : l.length <= 140737488355328) (hN9 : ts.length <= 1000000) :
  Calls Tryz.prog 36 #[.pointer (some ⟨bR, 0, none⟩), .pointer (some ⟨bm, 0, none⟩), .pointer (some ⟨bH, 0, none⟩)] w (GotK w0 V b bR bm bH l kv ps (targetM l.length 2 ts)) := by
 have HO := Lib.hid h; have HM := Lib.hid hm; clear h hm; obtain ⟨hbq, -, cq0⟩ := bx1 (Owns.blk (HO.out.pop.pop)); go_enter Tryz.func36, Tryz.ntmps36
 go_wp2_with fail
 clear hbq cq0; go_at_call 33
 refine (mname_c _ ts [] w HO.out hl hN9).mono ?_; intro e W1 hg; rcases hr : nameM l.length [] ts with er | ⟨s, r⟩
 ·rw [hr] at hg; obtain ⟨rfl, q, ho⟩ := hg; have HE : Hid (targetM l.length 2 ts = .error er) := by show _ = _; unfold targetM; rw [if_neg (by decide), hr]
  replace HO := Lib.hid ho; clear ho hr; refine (?_ : bodyPost Tryz.prog Tryz.f36 _ (Exit.panic _) _ _); rw [HE.out]; exact ⟨rfl, rfl, q, _, HO.out⟩
 rw [hr] at hg; obtain ⟨rfl, ho⟩ := hg; have HR := Lib.hid hr; have hrl : r.length <= 1000000 := by
  obtain ⟨t, rfl, -⟩ := name_inv hr; simp only [List.length_cons] at hN9; omega
 replace HO := Lib.hid ho; clear ho hr hN9; obtain ⟨hbm, ⟨fm0, fm1, fm2, fm3⟩, cm0, cm1, cm2, cm3⟩ := bx4 (Owns.blk (HO.out.pop)); obtain ⟨hbq, -, cq0⟩ := bx1 (Owns.blk (HO.out.pop.pop.pop)); dsimp only; go_wp2_with fail
 have ho : Owns w0 ((W1.setCell ⟨bm, 2, none⟩ (.int .i64 2)).setCell ⟨bm, 3, none⟩ (.string (bs s))) (rdM V b l r :: blk bm (mobj { m with kind := 2, target := s } kv) :: one bR 66 (.pointer (some ⟨b, 0, none⟩)) :: headP bH bR bm :: ps) := ((HO.out.swap.store (i := 2) (.int .i64 2)).store (i := 3) (.string (bs s))).swap; obtain ⟨W2, hW2⟩ : ∃ W, W = (W1.setCell ⟨bm, 2, none⟩ (.int .i64 2)).setCell ⟨bm, 3, none⟩ (.string (bs s)) := ⟨_, rfl⟩; rw [<- hW2] at ho ⊢; replace HO := Lib.hid ho; clear hbm fm0 fm1 fm2 fm3 cm0 cm1 cm2 cm3; clear ho hW2 hbq cq0; refine (mids_c (headP bH bR bm :: ps) r { m with kind := 2, target := s } kv s [] W2 HO.out hl hrl).mono ?_; intro e W9 hg; have HE : Hid (targetM l.length 2 ts = idsM l.length s [] { m with kind := 2, target := s } r) := by
  show _ = _; unfold targetM; rw [if_neg (by decide), HR.out]; simp only; rw [<- HM.out]
  rfl
 clear HR; rcases hr : targetM l.length _ ts with er | ⟨s', r'⟩
 ·rw [<- HE.out, hr] at hg; obtain ⟨rfl, q, m', ho⟩ := hg; refine (?_ : bodyPost Tryz.prog Tryz.f36 _ (Exit.panic _) _ _); exact ⟨rfl, rfl, q, m', ho⟩
 rw [<- HE.out, hr] at hg; obtain ⟨rfl, ho⟩ := hg; have HO9 := Lib.hid ho; have HR9 := Lib.hid hr; clear ho hr; dsimp only; go_wp2_with fail
 go_end0
 rw [HR9.out]; exact ⟨rfl, HO9.out⟩
set_option maxRecDepth 100000 in
set_option maxHeartbeats 4000000 in
theorem mblock_c (ps : List Piece) (ts : List Tok) (m : Me) (kv : Value) (w : World) (hm : { m with kind := 3, target := [] } = startM 3) (h : Owns w0 w (rdM V b l ts :: blk bm (mobj m kv) :: one bR 66 (.pointer (some ⟨b, 0, none⟩)) :: headP bH bR bm :: ps)) (hl : l.length <= 140737488355328) (hN9 : ts.length <= 1000000) :
  Calls Tryz.prog 37 #[.pointer (some ⟨bR, 0, none⟩), .pointer (some ⟨bm, 0, none⟩), .pointer (some ⟨bH, 0, none⟩)] w (GotK w0 V b bR bm bH l kv ps (targetM l.length 3 ts)) := by
 have HO := Lib.hid h; have HM := Lib.hid hm; clear h hm; obtain ⟨hbq, -, cq0⟩ := bx1 (Owns.blk (HO.out.pop.pop)); go_enter Tryz.func37, Tryz.ntmps37
 go_wp2_with fail
 clear hbq cq0; go_at_call 33
 refine (mname_c _ ts [] w HO.out hl hN9).mono ?_; intro e W1 hg; rcases hr : nameM l.length [] ts with er | ⟨s, r⟩
 ·rw [hr] at hg; obtain ⟨rfl, q, ho⟩ := hg; have HE : Hid (targetM l.length 3 ts = .error er) := by show _ = _; unfold targetM; rw [if_neg (by decide), hr]
  replace HO := Lib.hid ho; clear ho hr; refine (?_ : bodyPost Tryz.prog Tryz.f37 _ (Exit.panic _) _ _); rw [HE.out]; exact ⟨rfl, rfl, q, _, HO.out⟩
 rw [hr] at hg; obtain ⟨rfl, ho⟩ := hg; have HR := Lib.hid hr; have hrl : r.length <= 1000000 := by
  obtain ⟨t, rfl, -⟩ := name_inv hr; simp only [List.length_cons] at hN9; omega
 replace HO := Lib.hid ho; clear ho hr hN9; obtain ⟨hbm, ⟨fm0, fm1, fm2, fm3⟩, cm0, cm1, cm2, cm3⟩ := bx4 (Owns.blk (HO.out.pop)); obtain ⟨hbq, -, cq0⟩ := bx1 (Owns.blk (HO.out.pop.pop.pop)); dsimp only; go_wp2_with fail
 have ho : Owns w0 ((W1.setCell ⟨bm, 2, none⟩ (.int .i64 3)).setCell ⟨bm, 3, none⟩ (.string (bs s))) (rdM V b l r :: blk bm (mobj { m with kind := 3, target := s } kv) :: one bR 66 (.pointer (some ⟨b, 0, none⟩)) :: headP bH bR bm :: ps) := ((HO.out.swap.store (i := 2) (.int .i64 3)).store (i := 3) (.string (bs s))).swap; obtain ⟨W2, hW2⟩ : ∃ W, W = (W1.setCell ⟨bm, 2, none⟩ (.int .i64 3)).setCell ⟨bm, 3, none⟩ (.string (bs s)) := ⟨_, rfl⟩; rw [<- hW2] at ho ⊢; replace HO := Lib.hid ho; clear hbm fm0 fm1 fm2 fm3 cm0 cm1 cm2 cm3; clear ho hW2 hbq cq0; refine (mids_c (headP bH bR bm :: ps) r { m with kind := 3, target := s } kv [] s W2 HO.out hl hrl).mono ?_; intro e W9 hg; have HE : Hid (targetM l.length 3 ts = idsM l.length [] s { m with kind := 3, target := s } r) := by
  show _ = _; unfold targetM; rw [if_neg (by decide), HR.out]; simp only; rw [<- HM.out]
  rfl
 clear HR; rcases hr : targetM l.length _ ts with er | ⟨s', r'⟩
 ·rw [<- HE.out, hr] at hg; obtain ⟨rfl, q, m', ho⟩ := hg; refine (?_ : bodyPost Tryz.prog Tryz.f37 _ (Exit.panic _) _ _); exact ⟨rfl, rfl, q, m', ho⟩
 rw [<- HE.out, hr] at hg; obtain ⟨rfl, ho⟩ := hg; have HO9 := Lib.hid ho; have HR9 := Lib.hid hr; clear ho hr; dsimp only; go_wp2_with fail
 go_end0
 rw [HR9.out]; exact ⟨rfl, HO9.out⟩
end
end Go.Proofs.YtoeknmkephnekaaGreatDoor
namespace Go.Proofs.YtoeknmkephnekaaGreatDoor
open Go.RowKit Go.Cz Go.Cz.Lx Go.Cz.Fo Go.Cz.Vd
attribute [local go_sem] bs_size bs_extract bs_append bs_toList
attribute [local irreducible] cList cPlan cWalk
abbrev set12 (W : World) (b : Nat) (m : Me) (kv : Value) : World := (((((((((((W.setCell ⟨b, 0, none⟩ (.string (bs m.id))).setCell ⟨b, 1, none⟩ (.string (bs m.auth))).setCell ⟨b, 2, none⟩ (.int .i64 m.kind)).setCell ⟨b, 3, none⟩ (.string (bs m.target))).setCell ⟨b, 4, none⟩ (.int .i64 m.cond.op)).setCell ⟨b, 5, none⟩ (.string (bs m.cond.name))).setCell ⟨b, 6, none⟩ (.int .i64 m.cond.cmp)).setCell ⟨b, 7, none⟩ (.int .i64 m.cond.num)).setCell ⟨b, 8, none⟩ kv).setCell ⟨b, 9, none⟩ (.int .i64 m.fr)).setCell ⟨b, 10, none⟩ (.int .i64 m.un)).setCell ⟨b, 11, none⟩ (.int .i64 m.wi)
theorem cells12 {a0 a1 a2 a3 a4 a5 a6 a7 a8 a9 a10 a11 : Value} (m : Me) (kv : Value) (cs : Array Value) (hc : cs = #[a0, a1, a2, a3, a4, a5, a6, a7, a8, a9, a10, a11]) : ((((((((((((cs.setIfInBounds 0 (.string (bs m.id))).setIfInBounds 1 (.string (bs m.auth))).setIfInBounds 2 (.int .i64 m.kind)).setIfInBounds 3 (.string (bs m.target))).setIfInBounds 4 (.int .i64 m.cond.op)).setIfInBounds 5 (.string (bs m.cond.name))).setIfInBounds 6 (.int .i64 m.cond.cmp)).setIfInBounds 7 (.int .i64 m.cond.num)).setIfInBounds 8 kv).setIfInBounds 9 (.int .i64 m.fr)).setIfInBounds 10 (.int .i64 m.un)).setIfInBounds 11 (.int .i64 m.wi)) = #[.string (bs m.id), .string (bs m.auth), .int .i64 m.kind, .string (bs m.target), .int .i64 m.cond.op, .string (bs m.cond.name), .int .i64 m.cond.cmp, .int .i64 m.cond.num, kv, .int .i64 m.fr, .int .i64 m.un, .int .i64 m.wi] := by
 subst hc; simp
theorem set12_owns {w W : World} {ps : List Piece} {b : Nat} {m' : Me} {kv' : Value} (h0 : Owns w W (blk b (mobj m' kv') :: ps)) (m : Me) (kv : Value) : Owns w (set12 W b m kv) (blk b (mobj m kv) :: ps) := by
 obtain ⟨cs, hcs⟩ : ∃ cs : Array Value, cs = #[.string (bs m'.id), .string (bs m'.auth), .int .i64 m'.kind, .string (bs m'.target), .int .i64 m'.cond.op, .string (bs m'.cond.name), .int .i64 m'.cond.cmp, .int .i64 m'.cond.num, kv', .int .i64 m'.fr, .int .i64 m'.un, .int .i64 m'.wi] := ⟨_, rfl⟩; have h : Owns w W (blk b (.cells cs 26 (0, 0)) :: ps) := by rw [hcs]; exact h0
 have h2 := ((((((((st5 h (.string (bs m.id)) (.string (bs m.auth)) (.int .i64 m.kind) (.string (bs m.target)) (.int .i64 m.cond.op)).store (i := 5) (.string (bs m.cond.name))).store (i := 6) (.int .i64 m.cond.cmp)).store (i := 7) (.int .i64 m.cond.num)).store (i := 8) kv).store (i := 9) (.int .i64 m.fr)).store (i := 10) (.int .i64 m.un)).store (i := 11) (.int .i64 m.wi)); rw [cells12 m kv cs hcs] at h2; exact h2
section
variable {w0 : World} {bm be ba : Nat}
set_option maxRecDepth 100000 in
set_option maxHeartbeats 4000000 in
theorem mcatch_c (ps : List Piece) (m : Me) (kv v1 v2 : Value) (e : Er) (older : List PanicEntry) (w : World) (h : Owns w0 w (blk bm (mobj m kv) :: one be 29 v1 :: one ba 3 v2 :: ps)) :
  CallsD Tryz.prog 31 #[.pointer (some ⟨bm, 0, none⟩), .pointer (some ⟨be, 0, none⟩), .pointer (some ⟨ba, 0, none⟩)] (.panicking ({ v := .iface 64 (.agg #[.int .i64 (e.1 : Nat), .int .i64 e.2]), recovered := false } :: older)) w fun x u' w' =>
   x = .returned (.tuple #[]) /\ u' = .panicking ({ v := .iface 64 (.agg #[.int .i64 (e.1 : Nat), .int .i64 e.2]), recovered := true } :: older) /\
   Owns w0 w' (blk bm (mobj zeroM (.slice none 0 0)) :: one be 29 (.int .i64 (e.1 : Nat)) :: one ba 3 (.int .i64 e.2) :: ps) := by
 have hta : ∀ (x : TypeId) (v : Value) (w : World), (Instr.typeAssert (.iface 64 v) x 64 true).run Tryz.prog w = .ok (.tuple #[v, .bool true]) w := fun x v w => by kernel_rfl
 have HO := Lib.hid h; clear h; refine callsD_of_wpS Tryz.func31 rfl fun c₀ cs hu => ?_
 apply wpS_seq
 apply wpS_region
 simp [wpOpsS, go_sem, recoverD, hu, Tryz.ntmps31, Exit.thenS, hta]
 refine wpS_of_wp ?_; simp only [Array.replicate, Array.setIfInBounds]; simp
 obtain ⟨x1, hx1⟩ : ∃ x, x = e.1 := ⟨_, rfl⟩; obtain ⟨x2, hx2⟩ : ∃ x, x = e.2 := ⟨_, rfl⟩; rw [<- hx1, <- hx2]; clear hx1 hx2 hu; obtain ⟨bf, hbf⟩ : ∃ b, b = w.heap.size := ⟨_, rfl⟩; obtain ⟨W1, hW1⟩ : ∃ W, W = w.alloc (.cells #[.int .i64 (x1 : Int), .int .i64 x2] 64) := ⟨_, rfl⟩; have HO1 : Hid (Owns w0 W1 (blk bf (.cells #[.int .i64 (x1 : Int), .int .i64 x2] 64 (0, 0)) :: blk bm (mobj m kv) :: one be 29 v1 :: one ba 3 v2 :: ps)) := by
  rw [hW1, hbf]; exact Lib.hid (HO.out.box _)
 rw [<- hW1, <- hbf]; clear hW1 hbf HO; go_wp2_with fail
 refine wp_region_walk [] 8 rfl (by decide +kernel) ?_; have ho1 := HO1.out.drew; generalize hWd : World.drew _ = Wd at ho1 ⊢; clear hWd HO1; have n1 := Owns.ne ho1; have n1' := n1.symm; have n2 := Owns.ne ho1.pop; have n2' := n2.symm; have n3 := Owns.ne ho1.pop.pop; have n3' := n3.symm; have n4 := Owns.ne (ho1.re [0, 2, 1]); have n4' := n4.symm; have n5 := Owns.ne (ho1.re [0, 3, 1, 2]); have n5' := n5.symm; have n6 := Owns.ne (ho1.pop.re [0, 2, 1]); have n6' := n6.symm; obtain ⟨hbf, -, c0, c1⟩ := bx2 (Owns.blk ho1); obtain ⟨hbm, ⟨f0, f1, f2, f3, f4, f5, f6, f7, f8, f9, f10, f11⟩, d0, d1, d2, d3, d4, d5, d6, d7, d8, d9, d10, d11⟩ := bx12 (Owns.blk ho1.pop); obtain ⟨g1, k1, q1⟩ := Owns.one ho1.pop.pop; obtain ⟨g2, k2, q2⟩ := Owns.one ho1.pop.pop.pop; have h3 := set12_owns ho1.pop zeroM (.slice none 0 0); have h4 := h3.swap.store (i := 0) (.int .i64 (x1 : Int)); have h5 : Owns w0 ((set12 Wd bm zeroM (.slice none 0 0)).setCell ⟨be, 0, none⟩ (.int .i64 (x1 : Int))) (one ba 3 v2 :: blk bm (mobj zeroM (.slice none 0 0)) :: one be 29 (.int .i64 (x1 : Int)) :: ps) := h4.re [2, 1, 0]; have h6 := h5.store (i := 0) (.int .i64 x2); have HF : Hid (Owns w0 (((set12 Wd bm zeroM (.slice none 0 0)).setCell ⟨be, 0, none⟩ (.int .i64 (x1 : Int))).setCell ⟨ba, 0, none⟩ (.int .i64 x2)) (blk bm (mobj zeroM (.slice none 0 0)) :: one be 29 (.int .i64 (x1 : Int)) :: one ba 3 (.int .i64 x2) :: ps)) := Lib.hid (h6.re [1, 2, 0]); clear ho1 h3 h4 h5 h6
 (refine cw_stepA 0 ?_; (refine cw_doA rfl rfl rfl (fun _ _ => ?_); go_wp2_with fail))
 (refine cw_stepA 1 ?_; (refine cw_doA rfl rfl rfl (fun _ _ => ?_); go_wp2_with fail))
 (refine cw_stepA 3 ?_; (refine cw_doA rfl rfl rfl (fun _ _ => ?_); go_wp2_with fail))
 repeat' (first | (refine cw_stepA 2 ?_; (refine cw_doA rfl rfl rfl (fun _ _ => ?_); go_wp2_with fail)) | (refine cw_stepA 4 ?_; (refine cw_doA rfl rfl rfl (fun _ _ => ?_); go_wp2_with fail)) | (refine cw_stepA 5 ?_; (refine cw_doA rfl rfl rfl (fun _ _ => ?_); go_wp2_with fail)) | (refine cw_stepA 6 ?_; (refine cw_doA rfl rfl rfl (fun _ _ => ?_); go_wp2_with fail)) | (refine cw_stepA 7 ?_; (refine cw_doA rfl rfl rfl (fun _ _ => ?_); go_wp2_with fail)) | (refine cw_three 2 4 5 (by decide +kernel) ?_ ?_ ?_ <;> (refine cw_doA rfl rfl rfl (fun _ _ => ?_); go_wp2_with fail)) | (refine cw_three 2 4 6 (by decide +kernel) ?_ ?_ ?_ <;> (refine cw_doA rfl rfl rfl (fun _ _ => ?_); go_wp2_with fail)) | (refine cw_two 2 4 (by decide +kernel) ?_ ?_ <;> (refine cw_doA rfl rfl rfl (fun _ _ => ?_); go_wp2_with fail)) | (refine cw_two 2 5 (by decide +kernel) ?_ ?_ <;> (refine cw_doA rfl rfl rfl (fun _ _ => ?_); go_wp2_with fail)) | (refine cw_two 4 5 (by decide +kernel) ?_ ?_ <;> (refine cw_doA rfl rfl rfl (fun _ _ => ?_); go_wp2_with fail)) | (refine cw_two 4 6 (by decide +kernel) ?_ ?_ <;> (refine cw_doA rfl rfl rfl (fun _ _ => ?_); go_wp2_with fail)) | (refine cw_two 2 6 (by decide +kernel) ?_ ?_ <;> (refine cw_doA rfl rfl rfl (fun _ _ => ?_); go_wp2_with fail)) | (refine cw_two 4 7 (by decide +kernel) ?_ ?_ <;> (refine cw_doA rfl rfl rfl (fun _ _ => ?_); go_wp2_with fail)) | (refine cw_nil (by decide +kernel) ?_))
 all_goals refine (?_ : bodyPostS Tryz.prog Tryz.f31 _ _ _ Exit.normal _ _ _)
 all_goals exact ⟨rfl, _, rfl, .tuple #[], by simp [results, Tryz.results31, go_sem], rfl, rfl, HF.out⟩
theorem midle_c (w : World) : CallsD Tryz.prog 31 #[.pointer (some ⟨bm, 0, none⟩), .pointer (some ⟨be, 0, none⟩), .pointer (some ⟨ba, 0, none⟩)] .returning w fun x u' w' => x = .returned (.tuple #[]) /\ u' = .returning /\ Below w.heap.size w w' := by
 have hta : ∀ (x : TypeId) (w : World), (Instr.typeAssert .nilIface x 64 true).run Tryz.prog w = .ok (.tuple #[.agg #[.int .i64 0, .int .i64 0], .bool false]) w := fun x w => by kernel_rfl
 refine callsD_of_wpS Tryz.func31 rfl fun c₀ cs hu => ?_
 apply wpS_seq
 apply wpS_region
 simp [wpOpsS, go_sem, recoverD, hu, Tryz.ntmps31, Exit.thenS, hta]
 refine wpS_of_wp ?_; simp only [Array.replicate, Array.setIfInBounds]; simp
 go_wp2_with fail
 refine (?_ : bodyPostS Tryz.prog Tryz.f31 _ _ _ Exit.normal _ _ _); refine ⟨rfl, .returning, ?_, .tuple #[], by simp [results, Tryz.results31, go_sem], rfl, rfl, (Below.refl _ _).alloc (Nat.le_refl _) _⟩; rw [<- hu]
end
end Go.Proofs.YtoeknmkephnekaaGreatDoor
namespace Go.Proofs.YtoeknmkephnekaaGreatDoor
open Go.RowKit Go.Cz Go.Cz.Lx
attribute [local go_sem] bs_size bs_extract bs_append bs_toList
attribute [local irreducible] cList
def LexPostN (w : World) (l : List UInt8) (e : Ending) (w' : World) : Prop := ∃ v, e = .returned (.tuple #[v, .int .i64 (lexAll l).2.1, .int .i64 (lexAll l).2.2]) /\ (IsToks w' v (lexAll l).1 /\ ∀ k, v.ownBlock = some k -> w.heap.size <= k) /\ Below w.heap.size w w'
set_option maxRecDepth 100000 in
set_option maxHeartbeats 400000 in
theorem LexN_c (l : List UInt8) (HI : 34 ∈ l -> IdxAny) (w : World) (hl : l.length <= 140737488355328) : Calls Tryz.prog 14 #[.string (bs l)] w (LexPostN w l) := by
 by_cases h2 : 20000 < l.length
 ·have He : Hid (lexAll l = ([], 2, -1)) := if_pos h2; go_enter Tryz.func14, Tryz.ntmps14
  go_wp2_with fail
  refine bodyPost_ret (results_tmp3 rfl _ _ _) (by rfl) ⟨.slice none 0 0, ?_, ?_, Below.refl _ _⟩
  ·rw [He.out]; rfl
  ·rw [He.out]; exact ⟨.inl ⟨rfl, rfl⟩, by simp [Value.ownBlock]⟩
 have hl2 : l.length <= 20000 := by omega
 have HL := Lib.hid hl2; have HI2 := Lib.hid HI; clear HI; go_enter Tryz.func14, Tryz.ntmps14
 go_wp2_with fail
 go_at_call 42
 refine (classes_c w).mono ?_; rintro e W1 ⟨rfl, hb⟩; have Hb := Lib.hid hb; clear hb; obtain ⟨ct, hct⟩ : ∃ ct, ct = clsTab := ⟨_, rfl⟩; obtain ⟨cs, hcs, hbt⟩ : ∃ cs, ScanCells (bs l) cs /\ Tryz.prog.built 81 [(0, .string (bs l)), (1, .agg ct)] = some cs := ⟨_, scanCells (bs l), by rw [hct]; exact built_scan (bs l)⟩; rw [<- hct]; have Hcs := Lib.hid hcs; have Hbt := Lib.hid hbt; clear hct hcs hbt; rename_i hnext; refine hnext _ _ ?_; refine wpList_build_to rfl 81 #[(0, .tmp 14), (1, .tmp 15)] (by rfl) cs _ (by simp [Act.eval]; rfl) (by exact Hbt.out) ?_; have hc1 : cs.size = 257 := Hcs.out.1; go_wp2_with fail
 rw [storeCells_row (P := Tryz.prog) _ W1.heap.size 81 _ cs (new_heap W1 _ _ rfl) (by rw [hc1]; exact zero_scan) Hcs.out.2.1]; simp only [Result.andThen_ok]; go_wp2_with fail
 obtain ⟨b, hb⟩ : ∃ b, b = W1.heap.size := ⟨_, rfl⟩; obtain ⟨W2, hW2⟩ : ∃ W2, W2 = (W1.alloc (.cells Tryz.zeroCells81 81)).setRow W1.heap.size cs := ⟨_, rfl⟩; have HE : Hid (LxE w W2 b l /\ w.heap.size <= b) := by
  have h1 : (W1.alloc (.cells Tryz.zeroCells81 81)).heap[W1.heap.size]? = some (.cells Tryz.zeroCells81 81 (0, 0)) := new_heap W1 _ _ rfl; have hbb := Hb.out; have hm : Mod [W1.heap.size] W1 W2 := by
   rw [hW2]; exact ((Mod.refl [W1.heap.size] W1).alloc _).trans ⟨rfl, rfl, rfl, by simp, fun k _ hk => setRow_other _ _ _ _ (by simpa using hk)⟩
  refine ⟨⟨hbb.trans ⟨hm.os, hm.tape, hm.output, hm.size, fun k hk => hm.block k (Nat.lt_of_lt_of_le hk hbb.size) (by simp; have := hbb.size; omega)⟩, ?_⟩, by rw [hb]; exact hbb.size⟩; rw [hb, hW2]; exact scan_of_cells (setRow_heap _ _ _ _ _ _ h1) Hcs.out
 rw [<- hW2, <- hb]; clear hb hW2 hc1 Hbt Hcs Hb; go_at_call 43
 refine (gap_c b l 0 W2 HL.out (by omega) HE.out.1.scan).mono ?_; rintro e W3 ⟨rfl, hb⟩; have HE2 : Hid (LxE w W2 b l) := HE.out.1; have HB3 := Lib.hid hb; clear hb HE; have hg0 := gapE_le l 0 (by omega); have H0 := Lib.hid (lexI_start l); go_wp2_with fail
 go_loopg [6, 7] (l.length - gapE l 0) (fun gk v i wr => ∃ (k : Nat) (acc : List Tok), gk = l.length - k /\ k <= l.length /\ i = .int .i64 (k : Int) /\ acc.length <= 5000 /\ Hid (LexI l k acc) /\ Hid (ORow 40 4 W2 wr v acc.length (acc.flatMap tcells)))
 case atStart => exact ⟨gapE l 0, [], rfl, hg0, rfl, by simp, H0, ORow.nil HB3.out⟩
 case round =>
  rename_i J1 K1 hJ1 hK1; clear HB3 H0 hnext hg0; obtain ⟨k, acc, rfl, hk, rfl, h5, hL, hR⟩ := hrel; have hw := HE2.out.next hR.out.below; obtain ⟨sa, sc, rfl⟩ := hR.out.form; by_cases hlt : k < l.length
  ·go_wp2_with fail
   go_at_call 44
   refine (next_c b l HI2.out k wr HL.out hlt hw.out.scan).mono ?_; rintro e W4 ⟨rfl, hb⟩; have HE := hw.out.next hb; have HR := Lib.hid (hR.out.keep hb); clear hb hw hR; rcases hn : nextL l k with e | ⟨t, m⟩
   ·have he0 : ((e : Int) == 0) = false := by have := nextL_err hn; simp; omega
    have he1 : ((e : Int) != 0) = true := by have := nextL_err hn; simp; omega
    have He := Lib.hid (lexI_err hL.out hlt HL.out hn); clear hn hL; simp only [nextV]; go_wp2_with fail
    refine bodyPost_ret (results_tmp3 rfl _ _ _) (by rfl) ⟨.slice none 0 0, ?_, ?_, ?_⟩
    ·rw [He.out]; rfl
    ·rw [He.out]; exact ⟨.inl ⟨rfl, rfl⟩, by simp [Value.ownBlock]⟩
    ·exact HE.out.below.trans (Below.mono ((Below.refl _ _).alloc (Nat.le_refl _) _) HE.out.below.size)
   ·obtain ⟨n1, n2⟩ := nextL_width hn hlt; simp only [nextV, tokV]; by_cases hf : acc.length = 5000
    ·have hf1 : ((acc.length : Int) == 5000) = true := by simp; omega
     have He := Lib.hid (lexI_full hL.out hlt HL.out hn hf); clear hn hL hf h5; go_wp2_with fail
     refine bodyPost_ret (results_tmp3 rfl _ _ _) (by rfl) ⟨.slice none 0 0, ?_, ?_, ?_⟩
     ·rw [He.out]; rfl
     ·rw [He.out]; exact ⟨.inl ⟨rfl, rfl⟩, by simp [Value.ownBlock]⟩
     ·exact HE.out.below.trans (Below.mono ((Below.refl _ _).alloc (Nat.le_refl _) _) HE.out.below.size)
    ·have hf1 : ((acc.length : Int) == 5000) = false := by simp; omega
     have HN := Lib.hid (lexI_next hL.out hlt hn hf); have hlen : acc.length <= 4999 := by omega
     clear hn hL hf h5; go_wp2_with (refine wpList_plain rfl fun K hK => wp_append (.tmp 41) (.tmp 43) 36 (by rfl) 40 _ 4 40 Tryz.underlying36 info_tok (by rfl) (by omega) _ acc.length _ (by rfl) ((HR.out.row.alloc _).alloc _) (W4.heap.size + 1) 1 1 (tcells t) (by rfl) (by rfl) 40 (by exact new_heap (W4.alloc _) _ _ (by simp)) (by simp [tcells, Value.oneCell']) (by omega) (by omega) ?_; intro v' w2 hrow hgrow hblk; have HR2 := Lib.hid (TokStep HR.out hrow hgrow hblk); clear hrow hgrow hblk)
     rw [show (k : Int) + (m : Int) = ((k + m : Nat) : Int) from rfl]; have HE4 := HE2.out.next HR2.out.below; go_at_call 43
     refine (gap_c b l (k + m) w2 HL.out n2 HE4.out.scan).mono ?_; rintro e W5 ⟨rfl, hb⟩; have HR5 := Lib.hid (HR2.out.keep hb); clear hb HR2 HE4; have hge := gapE_le l (k + m) n2; have hgk : k < gapE l (k + m) := by unfold gapE; omega
     go_wp2_with fail
     go_roundg (l.length - gapE l (k + m))
     case measure => omega
     case rel => exact ⟨gapE l (k + m), acc ++ [t], rfl, hge, rfl, by simp; omega, HN, HR5⟩
  ·have He := Lib.hid (lexI_end hL.out (by omega) HL.out); clear hL hJ1 hK1; go_wp2_with fail
   refine bodyPost_ret (results_tmp3 rfl _ _ _) (by rfl) ⟨.slice sa acc.length sc, ?_, ?_, hw.out.below⟩
   ·rw [He.out]; rfl
   ·rw [He.out]; exact ⟨toks_of_row hR.out, fun k hk => Nat.le_trans HE2.out.below.size (hR.out.new k hk)⟩
end Go.Proofs.YtoeknmkephnekaaGreatDoor
namespace Go.Proofs.YtoeknmkephnekaaGreatDoor
open Go.RowKit Go.Cz Go.Cz.Lx Go.Cz.Fo Go.Cz.Vd
attribute [local go_sem] bs_size bs_extract bs_append bs_toList
attribute [local irreducible] cList cPlan cWalk pAny pOp
def MParsePost (w : World) (l : Bytes) (e : Ending) (w' : World) : Prop := ∃ kv, e = .returned (.tuple #[mval (parseM l).1 kv, .int .i64 ((parseM l).2.1 : Nat), .int .i64 (parseM l).2.2]) /\ IsFm (fun g => w.heap.size <= g) w' (parseM l).1.cond kv /\ Below w.heap.size w w'
theorem map_putW {t k e : TypeId} {W : World} {r : Nat} {es : Array MapEntry} {c : Nat} (ht : Tryz.prog.underlying t = some (.map k e)) (hk : Tryz.prog.underlying k = some .string) (hb : W.heap[r]? = some (.map es c)) (s : ByteArray) (v : Value) (hf : Instr.findNow .string (.string s) es.toList 0 = some none) :
  (Instr.mapUpdate t (.map (some r)) (.string s) v).run Tryz.prog W = .ok () { W with heap := W.heap.setIfInBounds r (.map (es.push { key := .string s, val := v, born := c }) (c + 1)) } := by
 have hc : (Instr.checkKey false 10000 k (.string s)).run Tryz.prog W = .ok () W := MapKept.run_checkKey (k := .string s) hk (by simp [MapKept.IsKey]) false 9999; simp [Instr.mapUpdate, run_underlying ht, MapKept.run_getObj_map hb, hc, MapKept.run_findKey hk hf, MapKept.run_setObj_map _ hb, Result.andThen]
theorem set_last (W : World) (o o' : Obj) : ({ W.alloc o with heap := (W.alloc o).heap.setIfInBounds W.heap.size o' } : World) = W.alloc o' := by
 have e : (W.alloc o).heap.setIfInBounds W.heap.size o' = (W.alloc o').heap := by
  show (W.heap.push o).setIfInBounds W.heap.size o' = W.heap.push o'
  apply Array.toList_inj.1
  simp [List.set_append]
 rw [e]
 rfl
theorem map_put {t k e : TypeId} (ht : Tryz.prog.underlying t = some (.map k e)) (hk : Tryz.prog.underlying k = some .string) (W : World) (es : Array MapEntry) (c : Nat) (s : ByteArray) (v : Value) (hf : Instr.findNow .string (.string s) es.toList 0 = some none) :
  (Instr.mapUpdate t (.map (some W.heap.size)) (.string s) v).run Tryz.prog (W.alloc (.map es c)) = .ok () (W.alloc (.map (es.push { key := .string s, val := v, born := c }) (c + 1))) := by
 rw [map_putW ht hk (MapKept.heap_alloc W _).1 s v hf, set_last]
theorem Owns.tokPush {w0 W1 W2 : World} {ps : List Piece} {v : Value} {ts : List Tok} (h : Owns w0 W1 ps) (hb : Below W1.heap.size W1 W2) (ht : IsToks W2 v ts) (hn : ∀ k, v.ownBlock = some k -> W1.heap.size <= k) : Owns w0 W2 (tokP ⟨v, ts⟩ :: ps) :=
 h.push (Q := tokP ⟨v, ts⟩) (S := v.ownBlock.toList) ⟨ht, rfl⟩ hb fun k hk => hn k (by simpa [Option.mem_toList] using hk)
abbrev zobjM : Obj := .cells #[.string ⟨#[]⟩, .string ⟨#[]⟩, .int .i64 0, .string ⟨#[]⟩, .int .i64 0, .string ⟨#[]⟩, .int .i64 0, .int .i64 0, .slice none 0 0, .int .i64 0, .int .i64 0, .int .i64 0] 26 (0, 0)
abbrev kF1 (bm bH : Nat) : Value := .func (.func 35) #[] #[.pointer (some ⟨bm, 0, none⟩), .pointer (some ⟨bH, 0, none⟩)]
abbrev kF2 (bR bm bH : Nat) : Value := .func (.func 36) #[] #[.pointer (some ⟨bR, 0, none⟩), .pointer (some ⟨bm, 0, none⟩), .pointer (some ⟨bH, 0, none⟩)]
abbrev kF3 (bR bm bH : Nat) : Value := .func (.func 37) #[] #[.pointer (some ⟨bR, 0, none⟩), .pointer (some ⟨bm, 0, none⟩), .pointer (some ⟨bH, 0, none⟩)]
abbrev kE1 (bm bH : Nat) : MapEntry := { key := .string ⟨#[102, 111, 114, 98, 105, 100]⟩, val := kF1 bm bH, born := 0 }
abbrev kE2 (bR bm bH : Nat) : MapEntry := { key := .string ⟨#[101, 120, 101, 109, 112, 116]⟩, val := kF2 bR bm bH, born := 1 }
abbrev kE3 (bR bm bH : Nat) : MapEntry := { key := .string ⟨#[98, 108, 111, 99, 107]⟩, val := kF3 bR bm bH, born := 2 }
def kindEs (bR bm bH : Nat) : Array MapEntry := #[kE1 bm bH, kE2 bR bm bH, kE3 bR bm bH]
theorem mapU : Tryz.prog.underlying 72 = some (.map 9 1) := by kernel_rfl
theorem mapS : Tryz.prog.underlying 9 = some .string := by kernel_rfl
theorem mapP0 (W : World) : (Instr.makeMap 72 none).run Tryz.prog W = .ok (.map (some W.heap.size)) (W.alloc (.map #[] 0)) := rfl
theorem mapP1 (W : World) (bR bm bH : Nat) : (Instr.mapUpdate 72 (.map (some W.heap.size)) (.string ⟨#[102, 111, 114, 98, 105, 100]⟩) (kF1 bm bH)).run Tryz.prog (W.alloc (.map #[] 0)) = .ok () (W.alloc (.map #[kE1 bm bH] 1)) :=
 map_put mapU mapS W #[] 0 _ _ rfl
theorem mapP2 (W : World) (bR bm bH : Nat) : (Instr.mapUpdate 72 (.map (some W.heap.size)) (.string ⟨#[101, 120, 101, 109, 112, 116]⟩) (kF2 bR bm bH)).run Tryz.prog (W.alloc (.map #[kE1 bm bH] 1)) = .ok () (W.alloc (.map #[kE1 bm bH, kE2 bR bm bH] 2)) :=
 map_put mapU mapS W #[kE1 bm bH] 1 _ _ rfl
theorem mapP3 (W : World) (bR bm bH : Nat) : (Instr.mapUpdate 72 (.map (some W.heap.size)) (.string ⟨#[98, 108, 111, 99, 107]⟩) (kF3 bR bm bH)).run Tryz.prog (W.alloc (.map #[kE1 bm bH, kE2 bR bm bH] 2)) = .ok () (W.alloc (.map (kindEs bR bm bH) 3)) :=
 map_put mapU mapS W #[kE1 bm bH, kE2 bR bm bH] 2 _ _ rfl
def kFn (bR bm bH : Nat) (s : Bytes) : Value := if s = wForbid then kF1 bm bH else if s = wExempt then kF2 bR bm bH else if s = wBlock then kF3 bR bm bH else .nilFunc
theorem mapFind (bR bm bH : Nat) (s : Bytes) : Instr.findNow .string (.string (bs s)) (kindEs bR bm bH).toList 0 = some (if s = wForbid then some (0, kF1 bm bH) else if s = wExempt then some (1, kF2 bR bm bH) else if s = wBlock then some (2, kF3 bR bm bH) else none) := by
 have e1 : (⟨#[102, 111, 114, 98, 105, 100]⟩ : ByteArray) = bs wForbid := rfl; have e2 : (⟨#[101, 120, 101, 109, 112, 116]⟩ : ByteArray) = bs wExempt := rfl; have e3 : (⟨#[98, 108, 111, 99, 107]⟩ : ByteArray) = bs wBlock := rfl; have hi : ∀ a b : Bytes, (bs a == bs b) = decide (a = b) := fun a b => by
  have h : (bs a == bs b) = (a.toArray == b.toArray) := rfl; rw [h]; by_cases h : a = b <;> simp [h]
 simp only [kindEs, kE1, kE2, kE3, Instr.findNow, Instr.sameNow, e1, e2, e3, hi]; by_cases h1 : s = wForbid
 ·simp [h1]
 by_cases h2 : s = wExempt
 ·simp [h2, show ¬ wExempt = wForbid by decide]
 by_cases h3 : s = wBlock
 ·simp [h3, show ¬ wBlock = wForbid by decide, show ¬ wBlock = wExempt by decide]
 simp [h1, h2, h3]
theorem mapGet {W : World} {g bR bm bH c : Nat} (hb : W.heap[g]? = some (.map (kindEs bR bm bH) c)) (s : Bytes) : (Instr.lookup 72 (.map (some g)) (.string (bs s)) true).run Tryz.prog W = .ok (.tuple #[kFn bR bm bH s, .bool (decide (kindM s ≠ 0))]) W := by
 have hc : (Instr.checkKey false 10000 9 (.string (bs s))).run Tryz.prog W = .ok () W := MapKept.run_checkKey (d := .string) mapS (by simp [MapKept.IsKey]) false 9999; have hf := MapKept.run_findKey (w := W) mapS (mapFind bR bm bH s); have hem : (kindEs bR bm bH).isEmpty = false := rfl; have hz : ∀ w : World, (zeroValue 1).run Tryz.prog w = .ok (.nilFunc) w := fun w => by kernel_rfl
 simp [Instr.lookup, run_underlying mapU, MapKept.run_getObj_map hb, hc, hf, hem, Result.andThen]
 by_cases h1 : s = wForbid
 ·simp [h1, kFn, kindM]
 by_cases h2 : s = wExempt
 ·simp [h2, kFn, kindM, show ¬ wExempt = wForbid by decide]
 by_cases h3 : s = wBlock
 ·simp [h3, kFn, kindM, show ¬ wBlock = wForbid by decide, show ¬ wBlock = wExempt by decide]
 simp [h1, h2, h3, kFn, kindM, hz, Result.andThen]
theorem target_num {fin k : Int} {m : Me} {ts r : List Tok} (hn : NameOk ts) (h : targetM fin k ts = .ok (m, r)) : m.un = -1 /\ m.wi = 0 := by
 unfold targetM at h
 split at h
 ·obtain ⟨x, y, rfl, -⟩ := ids_inv hn h; exact ⟨rfl, rfl⟩
 ·split at h
  ·cases h
  rename_i t q h0; obtain ⟨u, rfl, g1, g2, g3⟩ := name_inv h0; have hq : NameOk q := fun v hv => hn v (by simp [hv]); obtain ⟨x, y, rfl, -⟩ := ids_inv hq h; exact ⟨rfl, rfl⟩
theorem if_bounds {l : Bytes} {ts A B : List Tok} {t : Tok} (hP : LexP l 0 ts) (he : ts = A ++ t :: B) (hk : t.kind = 1) (hl : t.text.length = 2) (n : Nat) : t.pos + 2 <= endM l (B.drop n) /\ endM l (B.drop n) <= l.length := by
 subst he; have h1 := LexP.after hk hP; have h2 := LexP.word_end hk hP (by simp); rw [hl] at h1 h2; rcases hd : B.drop n with _ | ⟨u, C⟩
 ·exact ⟨h2, Nat.le_refl _⟩
 ·have h3 : B = B.take n ++ u :: C := by rw [<- hd, List.take_append_drop]
  rw [h3] at h1; have h4 := LexP.ge h1; exact ⟨h4.1, by simp only [endM]; omega⟩
theorem cellsF {a0 a1 a2 a3 a4 a5 a6 a7 a8 a9 a10 a11 : Value} (f : Fm) (kv : Value) (cs : Array Value) (hc : cs = #[a0, a1, a2, a3, a4, a5, a6, a7, a8, a9, a10, a11]) : (((((cs.setIfInBounds 4 (.int .i64 f.op)).setIfInBounds 5 (.string (bs f.name))).setIfInBounds 6 (.int .i64 f.cmp)).setIfInBounds 7 (.int .i64 f.num)).setIfInBounds 8 kv) = #[a0, a1, a2, a3, .int .i64 f.op, .string (bs f.name), .int .i64 f.cmp, .int .i64 f.num, kv, a9, a10, a11] := by
 subst hc; simp
abbrev setF (W : World) (b : Nat) (f : Fm) (kv : Value) : World := ((((W.setCell ⟨b, 4, none⟩ (.int .i64 f.op)).setCell ⟨b, 5, none⟩ (.string (bs f.name))).setCell ⟨b, 6, none⟩ (.int .i64 f.cmp)).setCell ⟨b, 7, none⟩ (.int .i64 f.num)).setCell ⟨b, 8, none⟩ kv
theorem setF_owns {w W : World} {ps : List Piece} {b : Nat} {m : Me} {kv' : Value} (h0 : Owns w W (blk b (mobj m kv') :: ps)) (f : Fm) (kv : Value) : Owns w (setF W b f kv) (blk b (mobj { m with cond := f } kv) :: ps) := by
 obtain ⟨cs, hcs⟩ : ∃ cs : Array Value, cs = #[.string (bs m.id), .string (bs m.auth), .int .i64 m.kind, .string (bs m.target), .int .i64 m.cond.op, .string (bs m.cond.name), .int .i64 m.cond.cmp, .int .i64 m.cond.num, kv', .int .i64 m.fr, .int .i64 m.un, .int .i64 m.wi] := ⟨_, rfl⟩; have h : Owns w W (blk b (.cells cs 26 (0, 0)) :: ps) := by rw [hcs]; exact h0
 have h2 := ((((h.store (i := 4) (.int .i64 f.op)).store (i := 5) (.string (bs f.name))).store (i := 6) (.int .i64 f.cmp)).store (i := 7) (.int .i64 f.num)).store (i := 8) kv; rw [cellsF f kv cs hcs] at h2; exact h2
abbrev pcap (bm be ba : Nat) : Array Value := #[.pointer (some ⟨bm, 0, none⟩), .pointer (some ⟨be, 0, none⟩), .pointer (some ⟨ba, 0, none⟩)]
abbrev pdefs (bm be ba : Nat) : List Deferred := [{ target := .fn (.func 31) (pcap bm be ba), args := #[] }]
theorem mparse_res {w W : World} {tmps : Array Value} {bm be ba : Nat} {m : Me} {kv : Value} {e p : Int} {ps : List Piece} (h2 : tmps.getD 2 undef = .pointer (some ⟨bm, 0, none⟩)) (h3 : tmps.getD 3 undef = .pointer (some ⟨be, 0, none⟩)) (h4 : tmps.getD 4 undef = .pointer (some ⟨ba, 0, none⟩)) (h : Owns w W (blk bm (mobj m kv) :: one be 29 (.int .i64 e) :: one ba 3 (.int .i64 p) :: ps)) :
  (results Tryz.f12 tmps).run Tryz.prog W = .ok (.tuple #[mval m kv, .int .i64 e, .int .i64 p]) W := by
 obtain ⟨bk, -⟩ := Owns.blk h; have cm0 := cell_of_heap bk (i := 0); have cm1 := cell_of_heap bk (i := 1); have cm2 := cell_of_heap bk (i := 2); have cm3 := cell_of_heap bk (i := 3); have cm4 := cell_of_heap bk (i := 4); have cm5 := cell_of_heap bk (i := 5); have cm6 := cell_of_heap bk (i := 6); have cm7 := cell_of_heap bk (i := 7); have cm8 := cell_of_heap bk (i := 8); have cm9 := cell_of_heap bk (i := 9); have cm10 := cell_of_heap bk (i := 10); have cm11 := cell_of_heap bk (i := 11); simp only [List.getElem?_toArray, List.getElem?_cons_succ, List.getElem?_cons_zero] at cm0 cm1 cm2 cm3 cm4 cm5 cm6 cm7 cm8 cm9 cm10 cm11; obtain ⟨-, k1, -⟩ := Owns.one h.pop; obtain ⟨-, k2, -⟩ := Owns.one h.pop.pop; have h2' : tmps[2]?.getD undef = .pointer (some ⟨bm, 0, none⟩) := by simpa using h2
 have h3' : tmps[3]?.getD undef = .pointer (some ⟨be, 0, none⟩) := by simpa using h3
 have h4' : tmps[4]?.getD undef = .pointer (some ⟨ba, 0, none⟩) := by simpa using h4
 simp [results, Tryz.results12, go_sem, h2', h3', h4', k1, k2, cm0, cm1, cm2, cm3, cm4, cm5, cm6, cm7, cm8, cm9, cm10, cm11]
theorem mbad {l : Bytes} {w W : World} {tmps : Array Value} {bm be ba : Nat} {m : Me} {kv v1 v2 : Value} {er : Er} {ps : List Piece} (h2 : tmps.getD 2 undef = .pointer (some ⟨bm, 0, none⟩)) (h3 : tmps.getD 3 undef = .pointer (some ⟨be, 0, none⟩)) (h4 : tmps.getD 4 undef = .pointer (some ⟨ba, 0, none⟩)) (h : Owns w W (blk bm (mobj m kv) :: one be 29 v1 :: one ba 3 v2 :: ps)) (hp : parseM l = (zeroM, er.1, er.2)) :
  bodyPostD Tryz.prog Tryz.f12 (MParsePost w l) (Exit.panic [{ v := .iface 64 (.agg #[.int .i64 (er.1 : Nat), .int .i64 er.2]), recovered := false }]) { tmps := tmps, defers := pdefs bm be ba } W := by
 refine leaves_cons (f := 31) (args := pcap bm be ba) (by simp) (by simp [go_sem]) ?_; refine (mcatch_c ps m kv v1 v2 er [] W h).mono ?_; rintro e u' w'' ⟨rfl, rfl, ho⟩; show Leaves _ _ _ _ [] .returning _; refine ⟨_, mparse_res h2 h3 h4 ho, ?_⟩; refine ⟨.slice none 0 0, by rw [hp], ?_, ho.1⟩; rw [hp]; exact .leaf 0 [] 0 0 none 0
theorem mgood {l : Bytes} {w W : World} {tmps : Array Value} {bm be ba : Nat} {m : Me} {kv : Value} {ps : List Piece} (h2 : tmps.getD 2 undef = .pointer (some ⟨bm, 0, none⟩)) (h3 : tmps.getD 3 undef = .pointer (some ⟨be, 0, none⟩)) (h4 : tmps.getD 4 undef = .pointer (some ⟨ba, 0, none⟩)) (h : Owns w W (blk bm (mobj m kv) :: one be 29 (.int .i64 0) :: one ba 3 (.int .i64 0) :: fmP m.cond kv :: ps)) (hp : parseM l = (m, 0, 0)) :
  bodyPostD Tryz.prog Tryz.f12 (MParsePost w l) Exit.ret { tmps := tmps, defers := pdefs bm be ba } W := by
 refine leaves_cons (f := 31) (args := pcap bm be ba) (by simp) (by simp [go_sem]) ?_; refine (midle_c W).mono ?_; rintro e u' w'' ⟨rfl, rfl, hb⟩; have ho := h.below hb; show Leaves _ _ _ _ [] .returning _; refine ⟨_, mparse_res h2 h3 h4 ho, ?_⟩; refine ⟨kv, by rw [hp]; rfl, ?_, ho.1⟩; rw [hp]; exact ho.pop.pop.pop.fm
theorem parse_bad {l : Bytes} {ts : List Tok} {er : Er} (h1 : ts = (lexAll l).1) (h2 : (lexAll l).2.1 = 0) (h : measureM l ts = .error er) : parseM l = (zeroM, er.1, er.2) := by
 unfold parseM; rw [if_neg (by simp [h2]), <- h1, h]
theorem parse_ok {l : Bytes} {ts : List Tok} {m : Me} (h1 : ts = (lexAll l).1) (h2 : (lexAll l).2.1 = 0) (h : measureM l ts = .ok m) : parseM l = (m, 0, 0) := by
 unfold parseM; rw [if_neg (by simp [h2]), <- h1, h]
set_option maxRecDepth 100000 in
set_option maxHeartbeats 40000000 in
theorem mParse_c (l : Bytes) (w : World) (hl : l.length <= 20000) : Calls Tryz.prog 12 #[.string (bs l)] w (MParsePost w l) := by
 obtain ⟨bm, hbm⟩ : ∃ b, b = w.heap.size := ⟨_, rfl⟩; obtain ⟨be, hbe⟩ : ∃ b, b = bm + 1 := ⟨_, rfl⟩; obtain ⟨ba, hba⟩ : ∃ b, b = be + 1 := ⟨_, rfl⟩; obtain ⟨W1, hW1⟩ : ∃ W, W = ((w.alloc zobjM).alloc (.cells #[.int .i64 0] 29)).alloc (.cells #[.int .i64 0] 3) := ⟨_, rfl⟩; have HO : Hid (Owns w W1 (one ba 3 (.int .i64 0) :: one be 29 (.int .i64 0) :: blk bm (mobj zeroM (.slice none 0 0)) :: [])) := by
  rw [hW1, hba, hbe, hbm]; have := (((Owns.start w).box zobjM).box (.cells #[.int .i64 0] 29 (0, 0))).box (.cells #[.int .i64 0] 3 (0, 0)); simp only [World.size_alloc] at this; exact Lib.hid this
 go_enter_defers Tryz.func12, Tryz.ntmps12
 go_wp2_with fail
 rw [<- hW1, <- hbm, <- hbe, <- hba]; clear hW1 hba hbe hbm; go_at_call 14
 refine (LexN_c l (fun _ => idxAny) W1 (by omega)).mono ?_; rintro e W2 ⟨v, rfl, htk, hb⟩; obtain ⟨ts, hts⟩ : ∃ ts, ts = (lexAll l).1 := ⟨_, rfl⟩; obtain ⟨ec, hec⟩ : ∃ ec, ec = (lexAll l).2.1 := ⟨_, rfl⟩; obtain ⟨pc, hpc⟩ : ∃ pc, pc = (lexAll l).2.2 := ⟨_, rfl⟩; rw [<- hts] at htk; rw [<- hec, <- hpc]; have HTs := Lib.hid hts; have HEc := Lib.hid hec; have HPc := Lib.hid hpc; clear hts hec hpc; obtain ⟨V, hV⟩ : ∃ V : TV, V = ⟨v, ts⟩ := ⟨_, rfl⟩; have HSuf : Hid (Suf V v ts) := by rw [hV]; exact Lib.hid (Suf.all htk.1)
 replace HO : Hid (Owns w W2 (tokP V :: one ba 3 (.int .i64 0) :: one be 29 (.int .i64 0) :: blk bm (mobj zeroM (.slice none 0 0)) :: [])) := by rw [hV]; exact Lib.hid (Owns.tokPush HO.out hb htk.1 htk.2)
 obtain ⟨yv, cv, rfl⟩ := (TokL.of htk.1).form; obtain ⟨N, hN⟩ : ∃ N, N = ts.length := ⟨_, rfl⟩; rw [<- hN] at HSuf ⊢; have HN := Lib.hid hN; clear htk hb hV hN; obtain ⟨g1, k1, q1⟩ := Owns.one HO.out.pop; obtain ⟨g2, k2, q2⟩ := Owns.one HO.out.pop.pop; have n1 := Owns.ne HO.out.pop; have n1' := n1.symm; go_upto_region 2 with fail
 have h1 := (HO.out.re [2, 0, 1]).store (i := 0) (.int .i64 (ec : Int)); have h2 : Owns w (W2.setCell ⟨be, 0, none⟩ (.int .i64 (ec : Int))) (one ba 3 (.int .i64 0) :: one be 29 (.int .i64 (ec : Int)) :: tokP V :: blk bm (mobj zeroM (.slice none 0 0)) :: []) := h1.re [2, 0, 1]; have h3 := h2.store (i := 0) (.int .i64 pc); obtain ⟨W3, hW3⟩ : ∃ W, W = (W2.setCell ⟨be, 0, none⟩ (.int .i64 (ec : Int))).setCell ⟨ba, 0, none⟩ (.int .i64 pc) := ⟨_, rfl⟩; rw [<- hW3] at h3 ⊢; replace HO : Hid (Owns w W3 (tokP V :: one ba 3 (.int .i64 pc) :: one be 29 (.int .i64 (ec : Int)) :: blk bm (mobj zeroM (.slice none 0 0)) :: [])) := Lib.hid (h3.re [2, 0, 1]); clear h1 h2 h3 hW3 g1 k1 q1 g2 k2 q2 n1 n1'; obtain ⟨g2, k2, q2⟩ := Owns.one HO.out.pop.pop; by_cases h0 : ec = 0
 rotate_left
 ·have h0' : ((ec : Int) != 0) = true := by simp; omega
  clear h0; go_wp2_with fail
  refine wp_region_walk [] 6 rfl (by decide +kernel) ?_; have ho1 := (HO.out.re [3, 2, 1, 0]).drew; generalize hWd : World.drew _ = Wd at ho1 ⊢; clear hWd HO g2 k2 q2; obtain ⟨g1, k1, q1⟩ := Owns.one ho1.pop; obtain ⟨g2, k2, q2⟩ := Owns.one ho1.pop.pop; obtain ⟨hbm, ⟨fm0, fm1, fm2, fm3, fm4, fm5, fm6, fm7, fm8, fm9, fm10, fm11⟩, cm0, cm1, cm2, cm3, cm4, cm5, cm6, cm7, cm8, cm9, cm10, cm11⟩ := bx12 (Owns.blk ho1); have n1 := Owns.ne ho1; have n1' := n1.symm; have n2 := Owns.ne (ho1.re [0, 2, 1]); have n2' := n2.symm; have n3 := Owns.ne ho1.pop; have n3' := n3.symm; have h3 := set12_owns ho1 zeroM (.slice none 0 0); have h4 := h3.swap.store (i := 0) (.int .i64 (ec : Int)); have h5 : Owns w ((set12 Wd bm zeroM (.slice none 0 0)).setCell ⟨be, 0, none⟩ (.int .i64 (ec : Int))) (one ba 3 (.int .i64 pc) :: blk bm (mobj zeroM (.slice none 0 0)) :: one be 29 (.int .i64 (ec : Int)) :: tokP V :: []) := h4.re [2, 1, 0, 3]; have h6 := h5.store (i := 0) (.int .i64 pc); have HF2 := Lib.hid (h6.re [1, 2, 0, 3]); have HP : Hid (parseM l = (zeroM, ec, pc)) := by
   show _ = _; unfold parseM; rw [if_pos (by rw [<- HEc.out]; intro h; simp [h] at h0'), <- HEc.out, <- HPc.out]
  clear ho1 h3 h4 h5 h6
  (refine cw_stepA 0 ?_; (refine cw_doA rfl rfl rfl (fun _ _ => ?_); go_wp2_with fail))
  repeat' (first | (refine cw_stepA 1 ?_; (refine cw_doA rfl rfl rfl (fun _ _ => ?_); go_wp2_with fail)) | (refine cw_stepA 2 ?_; (refine cw_doA rfl rfl rfl (fun _ _ => ?_); go_wp2_with fail)) | (refine cw_stepA 3 ?_; (refine cw_doA rfl rfl rfl (fun _ _ => ?_); go_wp2_with fail)) | (refine cw_stepA 4 ?_; (refine cw_doA rfl rfl rfl (fun _ _ => ?_); go_wp2_with fail)) | (refine cw_stepA 5 ?_; (refine cw_doA rfl rfl rfl (fun _ _ => ?_); go_wp2_with fail)) | (refine cw_three 1 2 3 (by decide +kernel) ?_ ?_ ?_ <;> (refine cw_doA rfl rfl rfl (fun _ _ => ?_); go_wp2_with fail)) | (refine cw_three 2 3 4 (by decide +kernel) ?_ ?_ ?_ <;> (refine cw_doA rfl rfl rfl (fun _ _ => ?_); go_wp2_with fail)) | (refine cw_three 1 2 4 (by decide +kernel) ?_ ?_ ?_ <;> (refine cw_doA rfl rfl rfl (fun _ _ => ?_); go_wp2_with fail)) | (refine cw_two 1 2 (by decide +kernel) ?_ ?_ <;> (refine cw_doA rfl rfl rfl (fun _ _ => ?_); go_wp2_with fail)) | (refine cw_two 1 3 (by decide +kernel) ?_ ?_ <;> (refine cw_doA rfl rfl rfl (fun _ _ => ?_); go_wp2_with fail)) | (refine cw_two 1 4 (by decide +kernel) ?_ ?_ <;> (refine cw_doA rfl rfl rfl (fun _ _ => ?_); go_wp2_with fail)) | (refine cw_two 1 5 (by decide +kernel) ?_ ?_ <;> (refine cw_doA rfl rfl rfl (fun _ _ => ?_); go_wp2_with fail)) | (refine cw_two 2 3 (by decide +kernel) ?_ ?_ <;> (refine cw_doA rfl rfl rfl (fun _ _ => ?_); go_wp2_with fail)) | (refine cw_two 2 4 (by decide +kernel) ?_ ?_ <;> (refine cw_doA rfl rfl rfl (fun _ _ => ?_); go_wp2_with fail)) | (refine cw_two 2 5 (by decide +kernel) ?_ ?_ <;> (refine cw_doA rfl rfl rfl (fun _ _ => ?_); go_wp2_with fail)) | (refine cw_two 3 4 (by decide +kernel) ?_ ?_ <;> (refine cw_doA rfl rfl rfl (fun _ _ => ?_); go_wp2_with fail)) | (refine cw_two 3 5 (by decide +kernel) ?_ ?_ <;> (refine cw_doA rfl rfl rfl (fun _ _ => ?_); go_wp2_with fail)) | (refine cw_two 4 5 (by decide +kernel) ?_ ?_ <;> (refine cw_doA rfl rfl rfl (fun _ _ => ?_); go_wp2_with fail)) | (refine cw_nil (by decide +kernel) ?_))
  all_goals go_wp2_with fail
  all_goals refine ⟨_, mparse_res rfl rfl rfl HF2.out, ?_⟩
  all_goals exact ⟨.slice none 0 0, by rw [HP.out], by rw [HP.out]; exact .leaf 0 [] 0 0 none 0, HF2.out.1⟩
 have h0' : ((ec : Int) != 0) = false := by simp; omega
 replace HEc : Hid ((lexAll l).2.1 = 0) := by rw [<- HEc.out]; exact Lib.hid h0
 clear h0; go_upto_region 6 with fail
 obtain ⟨b, hb⟩ : ∃ b, b = W3.heap.size := ⟨_, rfl⟩; obtain ⟨bR, hbR⟩ : ∃ x, x = b + 1 := ⟨_, rfl⟩; obtain ⟨W4, hW4⟩ : ∃ W, W = (W3.alloc (robj l (.slice yv N cv))).alloc (.cells #[.pointer (some ⟨b, 0, none⟩)] 66) := ⟨_, rfl⟩; have h5 := (HO.out.box (robj l (.slice yv N cv))).box (.cells #[.pointer (some ⟨W3.heap.size, 0, none⟩)] 66 (0, 0)); simp only [World.size_alloc] at h5; rw [<- hb] at h5 ⊢; rw [<- hbR] at h5 ⊢; rw [<- hW4] at h5 ⊢; rw [HN.out] at HSuf h5; have h6 : Owns w W4 (rdM V b l ts :: one ba 3 (.int .i64 pc) :: one be 29 (.int .i64 (ec : Int)) :: blk bm (mobj zeroM (.slice none 0 0)) :: one bR 66 (.pointer (some ⟨b, 0, none⟩)) :: []) := Owns.asRdm (h5.re [1, 2, 3, 4, 5, 0]) HSuf.out; replace HO : Hid (Owns w W4 (blk bm (mobj zeroM (.slice none 0 0)) :: rdM V b l ts :: one bR 66 (.pointer (some ⟨b, 0, none⟩)) :: one be 29 (.int .i64 (ec : Int)) :: one ba 3 (.int .i64 pc) :: [])) := Lib.hid (h6.re [3, 0, 4, 2, 1]); have HN9 : Hid (ts.length <= 1000000) := by
  rw [HTs.out]; have := lexAll_len l; exact Lib.hid (by omega)
 clear h5 h6 hW4 hbR hb HN HSuf g2 k2 q2 h0'; obtain ⟨hbm, ⟨fm0, fm1, fm2, fm3, fm4, fm5, fm6, fm7, fm8, fm9, fm10, fm11⟩, cm0, cm1, cm2, cm3, cm4, cm5, cm6, cm7, cm8, cm9, cm10, cm11⟩ := bx12 (Owns.blk HO.out); have h3 := set12_owns HO.out (startM 0) (.slice none 0 0); go_upto_region 7 with fail
 obtain ⟨W5, hW5⟩ : ∃ W, W = set12 W4 bm (startM 0) (.slice none 0 0) := ⟨_, rfl⟩; have hW5' : W5 = ((((((((((((W4.setCell ⟨bm, 0, none⟩ (.string ⟨#[]⟩)).setCell ⟨bm, 1, none⟩ (.string ⟨#[]⟩)).setCell ⟨bm, 2, none⟩ (.int .i64 0)).setCell ⟨bm, 3, none⟩ (.string ⟨#[]⟩)).setCell ⟨bm, 4, none⟩ (.int .i64 1)).setCell ⟨bm, 5, none⟩ (.string ⟨#[]⟩)).setCell ⟨bm, 6, none⟩ (.int .i64 0)).setCell ⟨bm, 7, none⟩ (.int .i64 0)).setCell ⟨bm, 8, none⟩ (.slice none 0 0)).setCell ⟨bm, 9, none⟩ (.int .i64 0)).setCell ⟨bm, 10, none⟩ (.int .i64 (-1))).setCell ⟨bm, 11, none⟩ (.int .i64 0)) := hW5; rw [<- hW5']; rw [<- hW5] at h3; replace HO := Lib.hid h3; clear h3 hW5' hW5 hbm fm0 cm0 fm1 cm1 fm2 cm2 fm3 cm3 fm4 cm4 fm5 cm5 fm6 cm6 fm7 cm7 fm8 cm8 fm9 cm9 fm10 cm10 fm11 cm11; obtain ⟨bH, hbH⟩ : ∃ x, x = W5.heap.size := ⟨_, rfl⟩; obtain ⟨W6, hW6⟩ : ∃ W, W = W5.alloc (.cells #[.func (.func 32) #[] #[.pointer (some ⟨bR, 0, none⟩), .pointer (some ⟨bm, 0, none⟩)]] 71) := ⟨_, rfl⟩; go_upto_region 8 with fail
 have h3 := HO.out.box (.cells #[.func (.func 32) #[] #[.pointer (some ⟨bR, 0, none⟩), .pointer (some ⟨bm, 0, none⟩)]] 71 (0, 0)); rw [<- hbH, <- hW6] at h3 ⊢; replace HO : Hid (Owns w W6 (rdM V b l ts :: blk bm (mobj (startM 0) (.slice none 0 0)) :: one bR 66 (.pointer (some ⟨b, 0, none⟩)) :: headP bH bR bm :: one be 29 (.int .i64 (ec : Int)) :: one ba 3 (.int .i64 pc) :: [])) := Lib.hid (h3.re [2, 1, 3, 0, 4, 5]); clear h3 hbH hW6; have mp0 := mapP0 W6; have mp1 := mapP1 W6 bR bm bH; have mp2 := mapP2 W6 bR bm bH; have mp3 := mapP3 W6 bR bm bH; go_upto_region 9 with fail
 clear mp0 mp1 mp2 mp3; obtain ⟨g, hg⟩ : ∃ x, x = W6.heap.size := ⟨_, rfl⟩; obtain ⟨W7, hW7⟩ : ∃ W, W = W6.alloc (.map (kindEs bR bm bH) 3) := ⟨_, rfl⟩; have h3 := HO.out.box (.map (kindEs bR bm bH) 3); rw [<- hg, <- hW7] at h3 ⊢; replace HO : Hid (Owns w W7 (rdM V b l ts :: blk bm (mobj (startM 0) (.slice none 0 0)) :: one bR 66 (.pointer (some ⟨b, 0, none⟩)) :: headP bH bR bm :: one be 29 (.int .i64 (ec : Int)) :: one ba 3 (.int .i64 pc) :: blk g (.map (kindEs bR bm bH) 3) :: [])) := Lib.hid (h3.re [1, 2, 3, 4, 5, 6, 0]); clear h3 hg hW7; obtain ⟨hbq, -, cq0⟩ := bx1 (Owns.blk (HO.out.pop.pop)); go_wp2_with fail
 clear hbq cq0; go_at_call 34
 refine (mtake_c _ ts 1 [] W7 HO.out (by omega) (by omega) HN9.out).mono ?_; intro e W8 hg; rcases hr : takeM l.length 1 [] ts with er | ⟨t, r⟩
 ·rw [hr] at hg; obtain ⟨rfl, q, ho⟩ := hg; have HE : Hid (measureM l ts = .error er) := by show _ = _; unfold measureM; rw [hr]
  exact mbad rfl rfl rfl (ho.re [1, 4, 5, 0, 2, 3]) (parse_bad HTs.out HEc.out HE.out)
 rw [hr] at hg; obtain ⟨rfl, ho⟩ := hg; have HR := Lib.hid hr; replace HN9 : Hid (r.length <= 1000000) := by
  have h1 := (take_inv hr).1; have := HN9.out; rw [h1, List.length_cons] at this; exact Lib.hid (by omega)
 replace HO := Lib.hid ho; clear ho hr; go_upto_region 10 with fail
 obtain ⟨bT, hbT⟩ : ∃ x, x = W8.heap.size := ⟨_, rfl⟩; obtain ⟨W9, hW9⟩ : ∃ W, W = W8.alloc (tkobj t) := ⟨_, rfl⟩; have h3 := HO.out.box (tkobj t); rw [<- hbT, <- hW9] at h3 ⊢; replace HO : Hid (Owns w W9 (blk bT (tkobj t) :: blk g (.map (kindEs bR bm bH) 3) :: rdM V b l r :: blk bm (mobj (startM 0) (.slice none 0 0)) :: one bR 66 (.pointer (some ⟨b, 0, none⟩)) :: headP bH bR bm :: one be 29 (.int .i64 (ec : Int)) :: one ba 3 (.int .i64 pc) :: [])) := Lib.hid (h3.re [0, 7, 1, 2, 3, 4, 5, 6]); clear h3 hbT hW9; obtain ⟨hbt, -, -, ct1, -, ct3⟩ := bx4 (Owns.blk HO.out); have mg := mapGet (Owns.blk HO.out.pop).1 t.text; obtain ⟨kf, hkf⟩ : ∃ x, x = kFn bR bm bH t.text := ⟨_, rfl⟩; rw [<- hkf] at mg; by_cases hk0 : kindM t.text = 0
 ·have hk1 : (decide (kindM t.text ≠ 0)) = false := by simp [hk0]
  rw [hk1] at mg; have HE : Hid (measureM l ts = .error (5, (t.pos : Int))) := by show _ = _; unfold measureM; rw [HR.out]; simp only; rw [if_pos hk0]
  clear hk0 hk1 hkf; go_wp2_with fail
  exact mbad (er := (5, (t.pos : Int))) rfl rfl rfl (HO.out.re [3, 6, 7, 0, 1, 2, 4, 5]) (parse_bad HTs.out HEc.out HE.out)
 have hk1 : (decide (kindM t.text ≠ 0)) = true := by simp [hk0]
 rw [hk1] at mg; clear hk1; replace HO : Hid (Owns w W9 (rdM V b l r :: blk bm (mobj (startM 0) (.slice none 0 0)) :: one bR 66 (.pointer (some ⟨b, 0, none⟩)) :: headP bH bR bm :: one be 29 (.int .i64 (ec : Int)) :: one ba 3 (.int .i64 pc) :: blk bT (tkobj t) :: blk g (.map (kindEs bR bm bH) 3) :: [])) := Lib.hid (HO.out.re [2, 3, 4, 5, 6, 7, 0, 1]); have HI : Hid (LexP l 0 ts /\ l.length <= 20000 /\ NameOk ts) := by
  have h1 := lexAll_p HEc.out; rw [HTs.out]; exact Lib.hid ⟨h1.1, h1.2.1, lexAll_names l⟩
 have hk4 : kindM t.text = 1 ∨ kindM t.text = 2 ∨ kindM t.text = 3 := by rcases kindM_le t.text with h | h | h | h <;> omega
 have HE0 : Hid (measureM l ts = match targetM l.length (kindM t.text) r with
  | .error e => .error e
  | .ok (m, q) => bodyM l m q) := by show _ = _; unfold measureM; rw [HR.out]; simp only; rw [if_neg hk0]; rcases targetM l.length (kindM t.text) r with e | ⟨m, q⟩ <;> rfl
 have HT1 : Hid (ts = t :: r) := Lib.hid (take_inv HR.out).1; clear HR hk0; replace hkf := Lib.hid hkf; replace hk4 := Lib.hid hk4; go_upto_region 13 with fail
 clear mg hbt ct1 ct3; go_cut [] from 13 to 108 (fun wx => ∃ m1 r1 A, Hid (measureM l ts = bodyM l m1 r1) /\ Hid (m1.cond = trueF /\ m1.un = -1 /\ m1.wi = 0) /\ Hid (ts = (t :: A) ++ r1) /\ Hid (r1.length <= 1000000) /\ Hid (Owns w wx (rdM V b l r1 :: blk bm (mobj m1 (.slice none 0 0)) :: one bR 66 (.pointer (some ⟨b, 0, none⟩)) :: headP bH bR bm :: one be 29 (.int .i64 (ec : Int)) :: one ba 3 (.int .i64 pc) :: blk bT (tkobj t) :: blk g (.map (kindEs bR bm bH) 3) :: [])))
 case first =>
  as_aux_lemma =>
   rcases hk4.out with hk | hk | hk
   ·have hf : t.text = wForbid := by
     unfold kindM at hk
     (repeat' split at hk) <;> first | assumption | omega
    have hkf2 : kf = kF1 bm bH := by rw [hkf.out, kFn, if_pos hf]
    subst hkf2; rw [hk] at HE0; clear hkf hf hk hk4; go_wp2_with fail
    go_at_call 35
    refine (mforbid_c _ r (startM 0) _ W9 rfl HO.out (by omega) HN9.out).mono ?_; have HKI : Hid ((1 : Int) = 1 ∨ (1 : Int) = 2 ∨ (1 : Int) = 3) := Lib.hid (.inl rfl); intro e W10 hg; rcases hr2 : targetM l.length 1 r with er | ⟨m1, r1⟩
    ·rw [hr2] at hg; obtain ⟨rfl, q, m2, ho⟩ := hg; have HE := HE0; rw [hr2] at HE; exact mbad rfl rfl rfl (ho.re [1, 4, 5, 0, 2, 3, 6, 7]) (parse_bad HTs.out HEc.out HE.out)
    rw [hr2] at hg; obtain ⟨rfl, ho⟩ := hg; have HE : Hid (measureM l ts = bodyM l m1 r1) := by have h := HE0.out; rw [hr2] at h; exact Lib.hid h
    have hnr : NameOk r := fun u hu => HI.out.2.2 u (by rw [HT1.out]; simp [hu]); obtain ⟨hkd, hcd, -, -, -, -, A, hA⟩ := target_inv HKI.out hnr hr2; have HM : Hid (m1.cond = trueF /\ m1.un = -1 /\ m1.wi = 0) := Lib.hid ⟨hcd, target_num hnr hr2⟩; have HA : Hid (ts = (t :: A) ++ r1) := by rw [HT1.out, hA]; exact Lib.hid rfl
    have HN : Hid (r1.length <= 1000000) := by
     have := HN9.out; rw [hA, List.length_append] at this; exact Lib.hid (by omega)
    replace HO := Lib.hid ho; clear ho hr2 hkd hcd hnr hA
    try dsimp only
    go_wp2_with fail
    go_meet
    exact ⟨m1, r1, A, HE, HM, HA, HN, HO⟩
   ·have hf : t.text = wExempt := by
     unfold kindM at hk
     (repeat' split at hk) <;> first | assumption | omega
    have hkf2 : kf = kF2 bR bm bH := by rw [hkf.out, kFn, hf, if_neg (by decide), if_pos rfl]
    subst hkf2; rw [hk] at HE0; clear hkf hf hk hk4; go_wp2_with fail
    go_at_call 36
    refine (mexempt_c _ r (startM 0) _ W9 rfl HO.out (by omega) HN9.out).mono ?_; have HKI : Hid ((2 : Int) = 1 ∨ (2 : Int) = 2 ∨ (2 : Int) = 3) := Lib.hid (by decide); intro e W10 hg; rcases hr2 : targetM l.length 2 r with er | ⟨m1, r1⟩
    ·rw [hr2] at hg; obtain ⟨rfl, q, m2, ho⟩ := hg; have HE := HE0; rw [hr2] at HE; exact mbad rfl rfl rfl (ho.re [1, 4, 5, 0, 2, 3, 6, 7]) (parse_bad HTs.out HEc.out HE.out)
    rw [hr2] at hg; obtain ⟨rfl, ho⟩ := hg; have HE : Hid (measureM l ts = bodyM l m1 r1) := by have h := HE0.out; rw [hr2] at h; exact Lib.hid h
    have hnr : NameOk r := fun u hu => HI.out.2.2 u (by rw [HT1.out]; simp [hu]); obtain ⟨hkd, hcd, -, -, -, -, A, hA⟩ := target_inv HKI.out hnr hr2; have HM : Hid (m1.cond = trueF /\ m1.un = -1 /\ m1.wi = 0) := Lib.hid ⟨hcd, target_num hnr hr2⟩; have HA : Hid (ts = (t :: A) ++ r1) := by rw [HT1.out, hA]; exact Lib.hid rfl
    have HN : Hid (r1.length <= 1000000) := by
     have := HN9.out; rw [hA, List.length_append] at this; exact Lib.hid (by omega)
    replace HO := Lib.hid ho; clear ho hr2 hkd hcd hnr hA
    try dsimp only
    go_wp2_with fail
    go_meet
    exact ⟨m1, r1, A, HE, HM, HA, HN, HO⟩
   ·have hf : t.text = wBlock := by
     unfold kindM at hk
     (repeat' split at hk) <;> first | assumption | omega
    have hkf2 : kf = kF3 bR bm bH := by rw [hkf.out, kFn, hf, if_neg (by decide), if_neg (by decide), if_pos rfl]
    subst hkf2; rw [hk] at HE0; clear hkf hf hk hk4; go_wp2_with fail
    go_at_call 37
    refine (mblock_c _ r (startM 0) _ W9 rfl HO.out (by omega) HN9.out).mono ?_; have HKI : Hid ((3 : Int) = 1 ∨ (3 : Int) = 2 ∨ (3 : Int) = 3) := Lib.hid (by decide); intro e W10 hg; rcases hr2 : targetM l.length 3 r with er | ⟨m1, r1⟩
    ·rw [hr2] at hg; obtain ⟨rfl, q, m2, ho⟩ := hg; have HE := HE0; rw [hr2] at HE; exact mbad rfl rfl rfl (ho.re [1, 4, 5, 0, 2, 3, 6, 7]) (parse_bad HTs.out HEc.out HE.out)
    rw [hr2] at hg; obtain ⟨rfl, ho⟩ := hg; have HE : Hid (measureM l ts = bodyM l m1 r1) := by have h := HE0.out; rw [hr2] at h; exact Lib.hid h
    have hnr : NameOk r := fun u hu => HI.out.2.2 u (by rw [HT1.out]; simp [hu]); obtain ⟨hkd, hcd, -, -, -, -, A, hA⟩ := target_inv HKI.out hnr hr2; have HM : Hid (m1.cond = trueF /\ m1.un = -1 /\ m1.wi = 0) := Lib.hid ⟨hcd, target_num hnr hr2⟩; have HA : Hid (ts = (t :: A) ++ r1) := by rw [HT1.out, hA]; exact Lib.hid rfl
    have HN : Hid (r1.length <= 1000000) := by
     have := HN9.out; rw [hA, List.length_append] at this; exact Lib.hid (by omega)
    replace HO := Lib.hid ho; clear ho hr2 hkd hcd hnr hA
    try dsimp only
    go_wp2_with fail
    go_meet
    exact ⟨m1, r1, A, HE, HM, HA, HN, HO⟩
 obtain ⟨m1, r1, A, HE, HM, HA, HN1, HO1⟩ := hcut; clear HO HN9 HE0 HT1 hkf hk4; obtain ⟨W10, hW10⟩ : ∃ W, W = wc := ⟨_, rfl⟩; rw [<- hW10] at HO1 ⊢; clear hW10; have HN := HN1; have HO := HO1; clear HN1 HO1; obtain ⟨y, mc, hv, hs, h1⟩ := HO.out.rdm; obtain ⟨hbp, ⟨fp0, fp1⟩, cp0, cp1⟩ := bx2 h1.blk; obtain ⟨hbq, -, cq0⟩ := bx1 (Owns.blk (HO.out.pop.pop)); have HS1 := Lib.hid hs; clear hs hv h1; obtain ⟨hbq, -, cq0⟩ := bx1 (Owns.blk (HO.out.pop.pop)); go_wp2_with fail
 clear hbp fp0 fp1 cp0 cp1 hbq cq0; go_at_call 38
 refine (mword_c _ r1 wIf W10 HO.out HN.out).mono ?_; rintro e W11 ⟨rfl, ho⟩; obtain ⟨q, hq⟩ : ∃ q, q = seesM wIf r1 := ⟨_, rfl⟩; rw [<- hq]; have HQ1 := Lib.hid hq; replace HO := Lib.hid ho; clear ho hq; go_upto_if 59 with fail
 go_cut [] from 13 to 108 (fun wx => ∃ mm kv r1, Hid (measureM l ts = datesM l.length mm r1) /\ Hid (mm.un = -1 /\ mm.wi = 0) /\ Hid (r1.length <= 1000000) /\ Hid (Owns w wx (rdM V b l r1 :: blk bm (mobj mm kv) :: one bR 66 (.pointer (some ⟨b, 0, none⟩)) :: headP bH bR bm :: one be 29 (.int .i64 (ec : Int)) :: one ba 3 (.int .i64 pc) :: blk bT (tkobj t) :: blk g (.map (kindEs bR bm bH) 3) :: fmP mm.cond kv :: [])))
 case first =>
  as_aux_lemma =>
   have hs1 := HQ1.out.symm; have ho := HO.out; clear HO; cases q
   ·have HEi : Hid (measureM l ts = datesM l.length m1 r1) := by
     show _ = _; rw [HE.out, bodyM, ifM, if_neg (by simp [hs1])]; simp only; rw [<- HM.out.1]
    rw [wordM, if_neg (by simp [hs1])] at ho; have h2 : Owns w W11 (fmP m1.cond (.slice none 0 0) :: rdM V b l r1 :: blk bm (mobj m1 (.slice none 0 0)) :: one bR 66 (.pointer (some ⟨b, 0, none⟩)) :: headP bH bR bm :: one be 29 (.int .i64 (ec : Int)) :: one ba 3 (.int .i64 pc) :: blk bT (tkobj t) :: blk g (.map (kindEs bR bm bH) 3) :: []) := by
     rw [HM.out.1]; exact ho.leaf 1 [] 0 0 none 0
    replace HO := Lib.hid (h2.re [1, 2, 3, 4, 5, 6, 7, 8, 0]); clear h2 ho hs1 HQ1
    try dsimp only
    go_wp2_with fail
    go_meet
    exact ⟨m1, .slice none 0 0, r1, HEi, Lib.hid HM.out.2, HN, HO⟩
   have HB1 := Lib.hid hs1; rw [wordM, if_pos hs1] at ho; rcases r1 with _ | ⟨t1, r2⟩
   ·simp [seesM] at hs1
   simp only [List.tail_cons] at ho; have hk1 : t1.kind = 1 /\ t1.text = wIf := by simpa [seesM] using hs1
   obtain ⟨hb1, hb2⟩ := if_bounds HI.out.1 HA.out hk1.1 (by rw [hk1.2]; rfl) (fromM r2); have hp1 : t1.pos + 2 <= 20000 := by have := HI.out.2.1; omega
   clear hs1 hk1; obtain ⟨yy, mm1, hv2, hs2, h2⟩ := ho.rdm; have htk : TokL W11 (.slice y (t1 :: r2).length mc) (t1 :: r2) := Owns.tokAt h2.pop HS1.out; replace HO := Lib.hid ho; clear ho hv2 hs2 h2; obtain ⟨N1, hN1⟩ : ∃ N, N = (t1 :: r2).length := ⟨_, rfl⟩; have hN0 : 0 < N1 := by rw [hN1]; simp
   rw [<- hN1] at htk; clear hN1; obtain ⟨g1, o1, rfl, hNm1, hg1, d0, d1, d2, d3⟩ := htk.get (j := 0) (Below.refl _ _) rfl; simp only [Nat.zero_mul, Nat.add_zero] at d0 d1 d2 d3; clear htk; obtain ⟨hbq, -, cq0⟩ := bx1 (Owns.blk (HO.out.pop.pop)); replace hb1 := Lib.hid hb1; replace hb2 := Lib.hid hb2; obtain ⟨k1, hk1⟩ : ∃ k, k = t1.pos := ⟨_, rfl⟩; rw [<- hk1] at d1 hb1 hp1; replace hk1 := Lib.hid hk1; go_upto_region 16 with fail
   refine wp_region_pan 9 rfl (by decide +kernel) ?_; replace HO := Lib.hid HO.out.drew; obtain ⟨WD, hWD⟩ : ∃ W, W = World.drew W11 := ⟨_, rfl⟩; rw [<- hWD] at HO ⊢; have d1' : WD.cell? ⟨g1, o1 + 1, none⟩ = some (.int .i64 (k1 : Int)) := by rw [hWD]; exact d1
   have hg1' : g1 < WD.heap.size := by rw [hWD]; exact hg1
   clear d0 d1 d2 d3 hbq cq0 hg1 hWD; obtain ⟨hbq, -, cq0⟩ := bx1 (Owns.blk (HO.out.pop.pop))
   apply once
   focus
    intro key; repeat' (first | (refine pw_two 0 1 (by decide +kernel) ?_ ?_ <;> (refine pw_do rfl rfl (fun _ _ => ?_); go_wp2_with fail)) | (refine pw_one 1 (by decide +kernel) ?_; (refine pw_do rfl rfl (fun _ _ => ?_); go_wp2_with fail)) | (refine pw_one 2 (by decide +kernel) ?_; (refine pw_do rfl rfl (fun _ _ => ?_); go_wp2_with fail)) | (refine pw_one 3 (by decide +kernel) ?_; (refine pw_do rfl rfl (fun _ _ => ?_); go_wp2_with fail)) | (refine pw_one 4 (by decide +kernel) ?_; (refine pw_do rfl rfl (fun _ _ => ?_); go_wp2_with fail)) | (refine pw_one 5 (by decide +kernel) ?_; (refine pw_do rfl rfl (fun _ _ => ?_); go_wp2_with fail)) | (refine pw_one 0 (by decide +kernel) ?_; (refine pw_do rfl rfl (fun _ _ => ?_); go_wp2_with fail)) | (refine pw_two 0 2 (by decide +kernel) ?_ ?_ <;> (refine pw_do rfl rfl (fun _ _ => ?_); go_wp2_with fail)) | (refine pw_two 0 3 (by decide +kernel) ?_ ?_ <;> (refine pw_do rfl rfl (fun _ _ => ?_); go_wp2_with fail)) | (refine pw_two 0 4 (by decide +kernel) ?_ ?_ <;> (refine pw_do rfl rfl (fun _ _ => ?_); go_wp2_with fail)) | (refine pw_two 0 5 (by decide +kernel) ?_ ?_ <;> (refine pw_do rfl rfl (fun _ _ => ?_); go_wp2_with fail)) | fail)
    all_goals (refine pw_at #[true, true, true, true, true, true, false, false, false] (by decide +kernel) ?_; exact key.out)
   clear hbq cq0; refine pw_one 6 (by decide +kernel) ?_; refine pw_do rfl rfl (fun _ _ => ?_); go_wp2_with fail
   obtain ⟨kb, hkb⟩ : ∃ kb, kb = k1 + 2 := ⟨_, rfl⟩; have e1 : (k1 : Int) + 2 = (kb : Int) := by omega
   rw [<- hkb] at hb1; rw [e1]; replace hkb := Lib.hid hkb; clear e1; go_at_call 39
   refine (mformula_c _ r2 kb WD HO.out hl (by have := HN.out; rw [List.length_cons] at this; omega) hb1.out hb2.out).mono ?_; intro e W12 hg; have HEc1 : Hid (condM l kb r2 = ifM l (t1 :: r2)) := by
    show _ = _; rw [ifM, if_pos HB1.out, hkb.out, hk1.out]
    rfl
   rcases hr : condM l kb r2 with er | ⟨f, r3⟩
   ·rw [hr] at hg; obtain ⟨rfl, q, ho⟩ := hg; have HE3 : Hid (measureM l ts = .error er) := by
     show _ = _; rw [HE.out, bodyM, <- HEc1.out, hr]
    exact mbad rfl rfl rfl (ho.re [1, 4, 5, 0, 2, 3]) (parse_bad HTs.out HEc.out HE3.out)
   rw [hr] at hg; obtain ⟨kv0, rfl, ho⟩ := hg; have HE4 : Hid (measureM l ts = datesM l.length { m1 with cond := f } r3) := by
    show _ = _; rw [HE.out, bodyM, <- HEc1.out, hr]
   have hn3 : r3.length <= 1000000 := by
    obtain ⟨-, h⟩ := cond_inv hr; have := HN.out; rw [h, List.length_drop]; rw [List.length_cons] at this; omega
   obtain ⟨yk, mk, rfl⟩ := (Owns.fm ho).form; obtain ⟨nk, hnk⟩ : ∃ n, n = f.kids.length := ⟨_, rfl⟩; rw [<- hnk] at ho ⊢; clear hnk; obtain ⟨hbm, ⟨-, -, -, -, fm4, fm5, fm6, fm7, fm8⟩, -, -, -, -, cm4, cm5, cm6, cm7, cm8⟩ := bx9 (Owns.blk (ho.re [2, 0, 1])); have h4 := setF_owns (ho.re [2, 0, 1]) f (.slice yk nk mk); go_wp2_with fail
   refine pw_one 7 (by decide +kernel) ?_; refine pw_do rfl rfl (fun _ _ => ?_); go_wp2_with fail
   refine pw_one 8 (by decide +kernel) ?_; refine pw_do rfl rfl (fun _ _ => ?_); go_wp2_with fail
   refine pw_nil (by decide +kernel) ?_; clear hbm fm4 cm4 fm5 cm5 fm6 cm6 fm7 cm7 fm8 cm8 ho hr HEc1 HB1 HS1 HA hb1 hb2 hk1 hkb hp1; have e1 : Hid (({ m1 with cond := f } : Me).un = -1 /\ ({ m1 with cond := f } : Me).wi = 0) := Lib.hid HM.out.2; replace HO := Lib.hid (h4.re [2, 0, 3, 4, 5, 6, 7, 8, 1])
   try dsimp only
   go_wp2_with fail
   go_meet
   exact ⟨{ m1 with cond := f }, .slice yk nk mk, r3, HE4, e1, Lib.hid hn3, HO⟩
 obtain ⟨mm, kv, r2, HE2, HM2, HN2, HO2⟩ := hcut; clear HO HN HE HM HA HS1 HQ1; obtain ⟨r1, hr1⟩ : ∃ x, x = r2 := ⟨_, rfl⟩; obtain ⟨W10, hW10⟩ : ∃ W, W = wc := ⟨_, rfl⟩; rw [<- hW10, <- hr1] at HO2; rw [<- hW10]; rw [<- hr1] at HE2 HN2; clear hW10 hr1; have HE := HE2; have HM := HM2; have HN := HN2; have HO := HO2; clear HE2 HM2 HN2 HO2; obtain ⟨hbq, -, cq0⟩ := bx1 (Owns.blk (HO.out.pop.pop)); go_wp2_with fail
 clear hbq cq0; go_at_call 34
 refine (mtake_c _ r1 1 wFrom W10 HO.out (by omega) (by omega) HN.out).mono ?_; intro e W12 hg; rcases hr3 : takeM l.length 1 wFrom r1 with er | ⟨t3, r3⟩
 ·rw [hr3] at hg; obtain ⟨rfl, q, ho⟩ := hg; have HE3 : Hid (measureM l ts = .error er) := by show _ = _; rw [HE.out]; unfold datesM; rw [hr3]
  exact mbad rfl rfl rfl (ho.re [1, 4, 5, 0, 2, 3]) (parse_bad HTs.out HEc.out HE3.out)
 rw [hr3] at hg; obtain ⟨rfl, ho⟩ := hg; have HR3 := Lib.hid hr3; replace HN : Hid (r3.length <= 1000000) := by
  have h1 := (take_inv hr3).1; have := HN.out; rw [h1, List.length_cons] at this; exact Lib.hid (by omega)
 replace HO := Lib.hid ho; clear ho hr3; obtain ⟨hbq, -, cq0⟩ := bx1 (Owns.blk (HO.out.pop.pop)); go_wp2_with fail
 clear hbq cq0; go_at_call 40
 refine (mnumber_c _ r3 0 100000 W12 HO.out (by omega) HN.out).mono ?_; intro e W13 hg; rcases hr4 : numM l.length 0 100000 r3 with er | ⟨fr, r4⟩
 ·rw [hr4] at hg; obtain ⟨rfl, q, ho⟩ := hg; have HE3 : Hid (measureM l ts = .error er) := by show _ = _; rw [HE.out]; unfold datesM; rw [HR3.out]; simp only; rw [hr4]
  exact mbad rfl rfl rfl (ho.re [1, 4, 5, 0, 2, 3]) (parse_bad HTs.out HEc.out HE3.out)
 rw [hr4] at hg; obtain ⟨rfl, ho⟩ := hg; have HR4 := Lib.hid hr4; replace HN : Hid (r4.length <= 1000000) := by
  obtain ⟨u, h1, -⟩ := num_inv hr4; have := HN.out; rw [h1, List.length_cons] at this; exact Lib.hid (by omega)
 obtain ⟨hbm, ⟨-, -, -, -, -, -, -, -, -, fm9⟩, -, -, -, -, -, -, -, -, -, cm9⟩ := bx10 (Owns.blk ho.pop); have h4 : Owns w (W13.setCell ⟨bm, 9, none⟩ (.int .i64 fr)) (rdM V b l r4 :: blk bm (mobj { mm with fr := fr } kv) :: one bR 66 (.pointer (some ⟨b, 0, none⟩)) :: headP bH bR bm :: one be 29 (.int .i64 (ec : Int)) :: one ba 3 (.int .i64 pc) :: blk bT (tkobj t) :: blk g (.map (kindEs bR bm bH) 3) :: fmP mm.cond kv :: []) := (ho.swap.store (i := 9) (.int .i64 fr)).swap
 try dsimp only
 go_upto_region 19 with fail
 obtain ⟨W14, hW14⟩ : ∃ W, W = W13.setCell ⟨bm, 9, none⟩ (.int .i64 fr) := ⟨_, rfl⟩; rw [<- hW14] at h4 ⊢; replace HO := Lib.hid h4; clear h4 ho hr4 hW14 hbm fm9 cm9; obtain ⟨mq, hmq⟩ : ∃ m, m = ({ mm with fr := fr } : Me) := ⟨_, rfl⟩; have e1 : mm.cond = mq.cond := by rw [hmq]
 rw [<- hmq, e1] at HO; have HF : Hid (0 <= fr /\ fr <= 100000) := by
  obtain ⟨u, -, -, h2, h3⟩ := num_inv HR4.out; exact Lib.hid ⟨h2, h3⟩
 have HMQ := Lib.hid hmq; clear hmq e1; obtain ⟨hbq, -, cq0⟩ := bx1 (Owns.blk (HO.out.pop.pop)); go_wp2_with fail
 clear hbq cq0; go_at_call 38
 refine (mword_c _ r4 wUntil W14 HO.out HN.out).mono ?_; rintro e W15 ⟨rfl, ho⟩; obtain ⟨q, hq⟩ : ∃ q, q = seesM wUntil r4 := ⟨_, rfl⟩; rw [<- hq]; have HQ1 := Lib.hid hq; replace HO := Lib.hid ho; clear ho hq; go_upto_if 74 with fail
 go_cut [] from 13 to 108 (fun wx => ∃ m3 un r5, Hid (untilM l.length fr r4 = .ok (un, r5)) /\ Hid (m3 = { mm with fr := fr, un := un }) /\ Hid (r5.length <= 1000000) /\ Hid (Owns w wx (rdM V b l r5 :: blk bm (mobj m3 kv) :: one bR 66 (.pointer (some ⟨b, 0, none⟩)) :: headP bH bR bm :: one be 29 (.int .i64 (ec : Int)) :: one ba 3 (.int .i64 pc) :: blk bT (tkobj t) :: blk g (.map (kindEs bR bm bH) 3) :: fmP m3.cond kv :: [])))
 case first =>
  as_aux_lemma =>
   have hs2 := HQ1.out.symm; have ho := HO.out; clear HO; cases q
   ·have HEu : Hid (untilM l.length fr r4 = .ok (-1, r4)) := by show _ = _; rw [untilM, if_neg (by simp [hs2])]
    rw [wordM, if_neg (by simp [hs2])] at ho; have HQ : Hid (mq = { mm with fr := fr, un := -1 }) := by show _ = _; rw [HMQ.out, <- HM.out.1]
    replace HO := Lib.hid ho; clear hs2 ho
    try dsimp only
    go_wp2_with fail
    go_meet
    exact ⟨mq, -1, r4, HEu, HQ, HN, HO⟩
   have HR5 := Lib.hid hs2; rw [wordM, if_pos hs2] at ho; have hl4 : r4.tail.length <= 1000000 := by have := HN.out; rw [List.length_tail]; omega
   clear hs2; obtain ⟨hbm, -, -, -, -, -, -, -, -, -, -, cm9⟩ := bx10 (Owns.blk ho.pop); have e1 : mq.fr = fr := by rw [HMQ.out]
   rw [e1] at cm9; clear e1; have hw1 : IntKind.i64.wrap (fr + 1) = fr + 1 := by have := HF.out; exact IntWalk.i64_in _ ⟨by omega, by omega⟩
   obtain ⟨hbq, -, cq0⟩ := bx1 (Owns.blk (ho.pop.pop)); replace HO := Lib.hid ho; clear ho
   try dsimp only
   go_wp2_with fail
   clear hbm cm9 hbq cq0; go_at_call 40
   refine (mnumber_c _ r4.tail (fr + 1) 100000 W15 HO.out (by omega) hl4).mono ?_; intro e W16 hg; rcases hr5 : numM l.length (fr + 1) 100000 r4.tail with er | ⟨un, r5⟩
   ·rw [hr5] at hg; obtain ⟨rfl, q, ho⟩ := hg; have HE3 : Hid (measureM l ts = .error er) := by show _ = _; rw [HE.out]; unfold datesM; rw [HR3.out]; simp only; rw [HR4.out]; simp only; rw [untilM, if_pos HR5.out, hr5]
    exact mbad rfl rfl rfl (ho.re [1, 4, 5, 0, 2, 3]) (parse_bad HTs.out HEc.out HE3.out)
   rw [hr5] at hg; obtain ⟨rfl, ho⟩ := hg; have HEu : Hid (untilM l.length fr r4 = .ok (un, r5)) := by show _ = _; rw [untilM, if_pos HR5.out, hr5]
   replace HN : Hid (r5.length <= 1000000) := by
    obtain ⟨u, h1, -⟩ := num_inv hr5; rw [h1, List.length_cons] at hl4; exact Lib.hid (by omega)
   obtain ⟨hbm, ⟨-, -, -, -, -, -, -, -, -, -, fm9⟩, -, -, -, -, -, -, -, -, -, -, cm9⟩ := bx11 (Owns.blk ho.pop); have h4 : Owns w (W16.setCell ⟨bm, 10, none⟩ (.int .i64 un)) (rdM V b l r5 :: blk bm (mobj { mq with un := un } kv) :: one bR 66 (.pointer (some ⟨b, 0, none⟩)) :: headP bH bR bm :: one be 29 (.int .i64 (ec : Int)) :: one ba 3 (.int .i64 pc) :: blk bT (tkobj t) :: blk g (.map (kindEs bR bm bH) 3) :: fmP mq.cond kv :: []) := (ho.swap.store (i := 10) (.int .i64 un)).swap; have HQ : Hid (({ mq with un := un } : Me) = { mm with fr := fr, un := un }) := by show _ = _; rw [HMQ.out]
   replace HO := Lib.hid h4; clear h4 ho hr5 HR5 hl4 hw1
   try dsimp only
   go_wp2_with fail
   clear hbm fm9 cm9; go_meet
   exact ⟨{ mq with un := un }, un, r5, HEu, HQ, HN, HO⟩
 obtain ⟨m3, un, r5, HEu, HQ, HN5, HO5⟩ := hcut; clear HN HO HMQ HF HQ1; obtain ⟨W17, hW17⟩ : ∃ W, W = wc := ⟨_, rfl⟩; rw [<- hW17] at HO5 ⊢; clear hW17; have HN := HN5; have HO := HO5; clear HN5 HO5; go_upto_region 21 with fail
 go_cut [87] from 13 to 108 (fun v wx => ∃ q r7, v = .bool q /\ Hid ((q = false /\ r7 = r5 /\ ¬ (mm.kind = 1 /\ seesM wWind r5 = true)) ∨ (q = true /\ r7 = r5.tail /\ mm.kind = 1 /\ seesM wWind r5 = true)) /\ Hid (Owns w wx (rdM V b l r7 :: blk bm (mobj m3 kv) :: one bR 66 (.pointer (some ⟨b, 0, none⟩)) :: headP bH bR bm :: one be 29 (.int .i64 (ec : Int)) :: one ba 3 (.int .i64 pc) :: blk bT (tkobj t) :: blk g (.map (kindEs bR bm bH) 3) :: fmP m3.cond kv :: [])))
 case first =>
  as_aux_lemma =>
   obtain ⟨hbq, -, cq0⟩ := bx1 (Owns.blk (HO.out.pop.pop)); obtain ⟨hbm, -, -, -, cm2⟩ := bx3 (Owns.blk HO.out.pop); by_cases hk1 : m3.kind = 1
   rotate_left
   ·have hk2 : (m3.kind == 1) = false := by simpa using hk1
    have HK1 : Hid (¬ mm.kind = 1) := by rw [HQ.out] at hk1; exact Lib.hid hk1
    clear hk1; go_wp2_with fail
    clear hk2 hbm cm2 hbq cq0; go_meet
    exact ⟨false, r5, rfl, Lib.hid (.inl ⟨rfl, rfl, fun h => HK1.out h.1⟩), HO⟩
   have hk2 : (m3.kind == 1) = true := by simpa using hk1
   have HK1 : Hid (mm.kind = 1) := by rw [HQ.out] at hk1; exact Lib.hid hk1
   clear hk1; go_wp2_with fail
   clear hk2 hbm cm2 hbq cq0; go_at_call 38
   refine (mword_c _ r5 wWind W17 HO.out HN.out).mono ?_; rintro e W18 ⟨rfl, ho⟩; obtain ⟨q, hq⟩ : ∃ q, q = seesM wWind r5 := ⟨_, rfl⟩; rw [<- hq]; replace hq := Lib.hid hq; replace HO := Lib.hid ho; clear ho; cases q
   ·have ho := HO.out; rw [wordM, if_neg (by simp [<- hq.out])] at ho; replace HO := Lib.hid ho; clear ho
    try dsimp only
    go_wp2_with fail
    go_meet
    exact ⟨false, r5, rfl, Lib.hid (.inl ⟨rfl, rfl, fun h => by have := hq.out; rw [h.2] at this; cases this⟩), HO⟩
   ·have ho := HO.out; rw [wordM, if_pos hq.out.symm] at ho; replace HO := Lib.hid ho; clear ho
    try dsimp only
    go_wp2_with fail
    go_meet
    exact ⟨true, r5.tail, rfl, Lib.hid (.inr ⟨rfl, rfl, HK1.out, hq.out.symm⟩), HO⟩
 obtain ⟨q, r7, rfl, HQ7, HO7⟩ := hcut; clear HO; obtain ⟨wr, hwr⟩ : ∃ W, W = wc := ⟨_, rfl⟩; rw [<- hwr] at HO7 ⊢; clear hwr; go_upto_if 87 with fail
 go_cut [] from 13 to 108 (fun wx => ∃ m4 wi r6, Hid (windM l.length mm.kind r5 = .ok (wi, r6)) /\ Hid (m4 = { mm with fr := fr, un := un, wi := wi }) /\ Hid (r6.length <= 1000000) /\ Hid (Owns w wx (rdM V b l r6 :: blk bm (mobj m4 kv) :: one bR 66 (.pointer (some ⟨b, 0, none⟩)) :: headP bH bR bm :: one be 29 (.int .i64 (ec : Int)) :: one ba 3 (.int .i64 pc) :: blk bT (tkobj t) :: blk g (.map (kindEs bR bm bH) 3) :: fmP m4.cond kv :: [])))
 case first =>
  as_aux_lemma =>
   rcases HQ7.out with ⟨e1, e2, e3⟩ | ⟨e1, e2, e3, e4⟩
   ·have HEw : Hid (windM l.length mm.kind r5 = .ok (0, r5)) := by show _ = _; rw [windM, if_neg e3]
    have HQ4 : Hid (m3 = { mm with fr := fr, un := un, wi := 0 }) := by show _ = _; rw [HQ.out, <- HM.out.2]
    rw [e2] at HO7; subst e1; clear HQ7 e2 e3; go_wp2_with fail
    go_meet
    exact ⟨m3, 0, r5, HEw, HQ4, HN, HO7⟩
   have HK1 : Hid (mm.kind = 1) := Lib.hid e3; have HR6 : Hid (seesM wWind r5 = true) := Lib.hid e4; have hl5 : r5.tail.length <= 1000000 := by have := HN.out; rw [List.length_tail]; omega
   rw [e2] at HO7; have ho := HO7.out; subst e1; clear HQ7 e2 e3 e4 HO7; obtain ⟨W18, hW18⟩ : ∃ W, W = wr := ⟨_, rfl⟩; rw [<- hW18] at ho ⊢; clear hW18; obtain ⟨hbq, -, cq0⟩ := bx1 (Owns.blk (ho.pop.pop)); have HO := Lib.hid ho; clear ho; go_wp2_with fail
   clear hbq cq0; go_at_call 40
   refine (mnumber_c _ r5.tail 0 400 W18 HO.out (by omega) hl5).mono ?_; intro e W19 hg; rcases hr6 : numM l.length 0 400 r5.tail with er | ⟨wi, r6⟩
   ·rw [hr6] at hg; obtain ⟨rfl, q, ho⟩ := hg; have HE3 : Hid (measureM l ts = .error er) := by show _ = _; rw [HE.out]; unfold datesM; rw [HR3.out]; simp only; rw [HR4.out]; simp only; rw [HEu.out]; simp only; rw [windM, if_pos ⟨HK1.out, HR6.out⟩, hr6]
    exact mbad rfl rfl rfl (ho.re [1, 4, 5, 0, 2, 3]) (parse_bad HTs.out HEc.out HE3.out)
   rw [hr6] at hg; obtain ⟨rfl, ho⟩ := hg; have HEw : Hid (windM l.length mm.kind r5 = .ok (wi, r6)) := by show _ = _; rw [windM, if_pos ⟨HK1.out, HR6.out⟩, hr6]
   replace HN : Hid (r6.length <= 1000000) := by
    obtain ⟨u, h1, -⟩ := num_inv hr6; rw [h1, List.length_cons] at hl5; exact Lib.hid (by omega)
   obtain ⟨hbm, ⟨-, -, -, -, -, -, -, -, -, -, -, fm9⟩, -, -, -, -, -, -, -, -, -, -, -, cm9⟩ := bx12 (Owns.blk ho.pop); have h4 : Owns w (W19.setCell ⟨bm, 11, none⟩ (.int .i64 wi)) (rdM V b l r6 :: blk bm (mobj { m3 with wi := wi } kv) :: one bR 66 (.pointer (some ⟨b, 0, none⟩)) :: headP bH bR bm :: one be 29 (.int .i64 (ec : Int)) :: one ba 3 (.int .i64 pc) :: blk bT (tkobj t) :: blk g (.map (kindEs bR bm bH) 3) :: fmP m3.cond kv :: []) := (ho.swap.store (i := 11) (.int .i64 wi)).swap; have HQ4 : Hid (({ m3 with wi := wi } : Me) = { mm with fr := fr, un := un, wi := wi }) := by show _ = _; rw [HQ.out]
   replace HO := Lib.hid h4; clear h4 ho hr6 HR6 hl5
   try dsimp only
   go_wp2_with fail
   clear hbm fm9 cm9; go_meet
   exact ⟨{ m3 with wi := wi }, wi, r6, HEw, HQ4, HN, HO⟩
 obtain ⟨m4, wi, r6, HEw, HQ4, HN6, HO6⟩ := hcut; clear HN HO7 HQ7 HQ; obtain ⟨WA, hWA⟩ : ∃ W, W = wc := ⟨_, rfl⟩; rw [<- hWA] at HO6 ⊢; clear hWA; have HN := HN6; have HO := HO6; clear HN6 HO6; obtain ⟨hbq, -, cq0⟩ := bx1 (Owns.blk (HO.out.pop.pop)); go_wp2_with fail
 clear hbq cq0; go_at_call 34
 refine (mtake_c _ r6 4 [59] WA HO.out (by omega) (by omega) HN.out).mono ?_; intro e WB hg; have HD : Hid (measureM l ts = match closeM l.length r6 with
   | .error e => .error e
   | .ok _ => .ok m4) := by
  show _ = _; rw [HE.out]; unfold datesM; rw [HR3.out]; simp only; rw [HR4.out]; simp only; rw [HEu.out]; simp only; rw [HEw.out]; simp only; rw [<- HQ4.out]; rcases closeM l.length r6 with e | u <;> rfl
 rcases hr7 : takeM l.length 4 [59] r6 with er | ⟨t7, r7⟩
 ·rw [hr7] at hg; obtain ⟨rfl, q, ho⟩ := hg; have HE3 : Hid (measureM l ts = .error er) := by show _ = _; rw [HD.out, closeM, hr7]
  exact mbad rfl rfl rfl (ho.re [1, 4, 5, 0, 2, 3]) (parse_bad HTs.out HEc.out HE3.out)
 rw [hr7] at hg; obtain ⟨rfl, ho⟩ := hg; obtain ⟨y7, mc7, hv, hs, h1⟩ := ho.rdm; clear hs; rcases r7 with _ | ⟨t8, r8⟩
 ·have HE3 : Hid (measureM l ts = .ok m4) := by show _ = _; rw [HD.out, closeM, hr7]
  clear hv HD hr7; simp only [List.length_nil] at h1; obtain ⟨hbp, ⟨fp0, fp1⟩, cp0, cp1⟩ := bx2 h1.blk; clear h1; obtain ⟨hbq, -, cq0⟩ := bx1 (Owns.blk (ho.pop.pop)); obtain ⟨hbm, ⟨fm0, fm1, fm2, fm3, fm4, fm5, fm6, fm7, fm8, fm9, fm10, fm11⟩, cm0, cm1, cm2, cm3, cm4, cm5, cm6, cm7, cm8, cm9, cm10, cm11⟩ := bx12 (Owns.blk ho.pop); have h0 := ho.re [1, 4, 5, 8, 0, 2, 3, 6, 7]; obtain ⟨yk, mk, rfl⟩ := (Owns.fm h0.pop.pop.pop).form; obtain ⟨g1, k1, q1⟩ := Owns.one h0.pop; obtain ⟨g2, k2, q2⟩ := Owns.one h0.pop.pop; have n1 := Owns.ne h0; have n1' := n1.symm; have n2 := Owns.ne (h0.re [0, 2, 1]); have n2' := n2.symm; have n3 := Owns.ne h0.pop; have n3' := n3.symm; have h3 := set12_owns h0 m4 (.slice yk m4.cond.kids.length mk); have h4 := h3.swap.store (i := 0) (.int .i64 0); have h5 : Owns w ((set12 WB bm m4 (.slice yk m4.cond.kids.length mk)).setCell ⟨be, 0, none⟩ (.int .i64 0)) (one ba 3 (.int .i64 pc) :: blk bm (mobj m4 (.slice yk m4.cond.kids.length mk)) :: one be 29 (.int .i64 0) :: fmP m4.cond (.slice yk m4.cond.kids.length mk) :: _) := h4.re [2, 1, 0, 3]; have h6 := h5.store (i := 0) (.int .i64 0); have HF2 := Lib.hid (h6.re [1, 2, 0, 3]); clear h0 h3 h4 h5 h6 ho
  try dsimp only
  go_wp2_with fail
  exact mgood rfl rfl rfl HF2.out (parse_ok HTs.out HEc.out HE3.out)
 have HE3 : Hid (measureM l ts = .error (5, (t8.pos : Int))) := by show _ = _; rw [HD.out, closeM, hr7]
 clear HD hr7; obtain ⟨N8, hN8⟩ : ∃ N, N = (t8 :: r8).length := ⟨_, rfl⟩; have hN0 : 0 < N8 := by rw [hN8]; simp
 rw [<- hN8] at hv h1; clear hN8; obtain ⟨g8, off8, rfl, hNm, hg8, c0, c1, c2, c3⟩ := hv.get (j := 0) (Below.refl _ _) rfl; simp only [Nat.zero_mul, Nat.add_zero] at c0 c1 c2 c3; clear hv; obtain ⟨hbp, ⟨fp0, fp1⟩, cp0, cp1⟩ := bx2 h1.blk; clear h1; obtain ⟨hbq, -, cq0⟩ := bx1 (Owns.blk (ho.pop.pop)); have HO2 := Lib.hid ho; clear ho
 try dsimp only
 go_wp2_with fail
 exact mbad (er := (5, (t8.pos : Int))) rfl rfl rfl (HO2.out.re [1, 4, 5, 0, 2, 3]) (parse_bad HTs.out HEc.out HE3.out)
end Go.Proofs.YtoeknmkephnekaaGreatDoor
namespace Go.Cz.Vd
open Go.Cz.Lx Go.Cz.Fo
def hA : Bytes := [102, 111, 114, 98, 105, 100, 32, 109, 49, 32, 111, 102, 32, 101, 117, 32, 105, 102, 32, 108, 105, 115, 116, 101, 100, 32, 61, 32, 49, 32, 102, 114, 111, 109, 32, 49, 48, 32, 119, 105, 110, 100, 32, 51, 48, 59]
def hB : Bytes := [101, 120, 101, 109, 112, 116, 32, 109, 49, 32, 120, 49, 32, 111, 102, 32, 101, 117, 32, 102, 114, 111, 109, 32, 49, 48, 32, 117, 110, 116, 105, 108, 32, 50, 48, 59]
def hC : Bytes := [98, 108, 111, 99, 107, 32, 117, 115, 32, 98, 49, 32, 111, 102, 32, 101, 117, 32, 105, 102, 32, 116, 114, 117, 101, 32, 102, 114, 111, 109, 32, 48, 59]
def hS : Bytes := [98, 108, 111, 99, 107, 32, 117, 115, 32, 98, 49, 32, 111, 102, 32, 101, 117, 32, 102, 114, 111, 109, 32, 48, 59]
def hI : Bytes := [101, 120, 101, 109, 112, 116, 32, 109, 49, 32, 120, 49, 32, 111, 102, 32, 101, 117, 32, 102, 114, 111, 109, 32, 49, 48, 32, 119, 105, 110, 100, 32, 53, 59]
def hK : Bytes := [102, 111, 114, 98, 105, 100, 32, 109, 49, 32, 111, 102, 32, 101, 117, 32, 102, 114, 111, 109, 32, 49, 48, 32, 117, 110, 116, 105, 108, 32, 49, 48, 59]
def hD : Bytes := [102, 111, 114, 98, 105, 100, 32, 109, 49, 32, 111, 102, 32, 101, 117, 32, 105, 102, 32, 102, 114, 111, 109, 32, 61, 32, 49, 32, 102, 114, 111, 109, 32, 50, 59]
def mA : Me := ⟨[109, 49], [101, 117], 1, [], .mk 3 [108, 105, 115, 116, 101, 100] 1 1 [], 10, -1, 30⟩
def mB : Me := ⟨[120, 49], [101, 117], 2, [109, 49], trueF, 10, 20, 0⟩
def mC : Me := ⟨[98, 49], [101, 117], 3, [117, 115], trueF, 0, -1, 0⟩
def mD : Me := ⟨[109, 49], [101, 117], 1, [], .mk 3 [102, 114, 111, 109] 1 1 [], 2, -1, 0⟩
theorem hd_A : parseM hA = (mA, 0, 0) := by kernel_rfl
theorem hd_B : parseM hB = (mB, 0, 0) := by kernel_rfl
theorem hd_C : parseM hC = (mC, 0, 0) := by kernel_rfl
theorem hd_I : parseM hI = (zeroM, 5, 27) := by kernel_rfl
theorem hd_K : parseM hK = (zeroM, 10, 30) := by kernel_rfl
theorem hd_D : parseM hD = (mD, 0, 0) := by kernel_rfl
theorem hd_T : textM mC = (hS, 0) := by
 have h1 : wrM mC = true := by decide +kernel
 have h2 : sayM mC = hS := by
  have e : Lib.itoa 0 = [48] := by show Lib.decDigits 0 = _; rw [Lib.decDigits, dif_pos (by decide)]; rfl
  have e2 : wordsM mC = [wBlock, [117, 115], [98, 49], wOf, [101, 117], wFrom, Lib.itoa 0] := by rfl
  rw [sayM, e2, e]
  rfl
 rw [textM, if_pos h1, h2]
end Go.Cz.Vd
namespace Go.Proofs.YtoeknmkephnekaaGreatDoor
open Go.RowKit Go.Cz Go.Cz.Lx Go.Cz.Fo Go.Cz.Vd
attribute [local go_sem] bs_size bs_extract bs_append bs_toList
attribute [local irreducible] cList cPlan
set_option maxRecDepth 100000 in
set_option maxHeartbeats 8000000 in
theorem head_c (w : World) (hs : Std w) : Calls Tryz.prog 9 #[] w fun e w' => e = .returned (.bool true) /\ Below w.heap.size w w' := by
 have HS := Lib.hid hs; clear hs; have HO : Hid (Owns w w []) := Lib.hid (Owns.start w); go_enter Tryz.func9, Tryz.ntmps9
 go_wp2_with fail
 go_at_call 12
 refine (mParse_c hA w (by decide)).mono ?_; rintro e Wp ⟨kv, he, hf, hb⟩; rw [hd_A] at he hf; subst he; obtain ⟨yk, mk, rfl⟩ := hf.form; have h1 := (Owns.fmPush HO.out hb hf).box (mobj mA (.slice yk (mA).cond.kids.length mk)); obtain ⟨ba, hba⟩ : ∃ b, b = Wp.heap.size := ⟨_, rfl⟩; obtain ⟨W1, hW⟩ : ∃ W, W = Wp.alloc (mobj mA (.slice yk (mA).cond.kids.length mk)) := ⟨_, rfl⟩; rw [<- hW, <- hba] at h1; dsimp only [mobj] at hW; replace HO := Lib.hid h1; clear h1 hf hb; go_upto_region 2 with fail
 rw [<- hba, <- hW]; clear hba hW; go_wp2_with fail
 go_at_call 12
 refine (mParse_c hB W1 (by decide)).mono ?_; rintro e Wp ⟨kv, he, hf, hb⟩; rw [hd_B] at he hf; subst he; obtain ⟨yk, mk, rfl⟩ := hf.form; have h1 := (Owns.fmPush HO.out hb hf).box (mobj mB (.slice yk (mB).cond.kids.length mk)); obtain ⟨bB, hbB⟩ : ∃ b, b = Wp.heap.size := ⟨_, rfl⟩; obtain ⟨W2, hW⟩ : ∃ W, W = Wp.alloc (mobj mB (.slice yk (mB).cond.kids.length mk)) := ⟨_, rfl⟩; rw [<- hW, <- hbB] at h1; dsimp only [mobj] at hW; replace HO := Lib.hid h1; clear h1 hf hb; go_upto_region 3 with fail
 rw [<- hbB, <- hW]; clear hbB hW; go_wp2_with fail
 go_at_call 12
 refine (mParse_c hC W2 (by decide)).mono ?_; rintro e Wp ⟨kv, he, hf, hb⟩; rw [hd_C] at he hf; subst he; obtain ⟨yk, mk, rfl⟩ := hf.form; have h1 := (Owns.fmPush HO.out hb hf).box (mobj mC (.slice yk (mC).cond.kids.length mk)); obtain ⟨bC, hbC⟩ : ∃ b, b = Wp.heap.size := ⟨_, rfl⟩; obtain ⟨W3, hW⟩ : ∃ W, W = Wp.alloc (mobj mC (.slice yk (mC).cond.kids.length mk)) := ⟨_, rfl⟩; rw [<- hW, <- hbC] at h1; dsimp only [mobj] at hW; replace HO := Lib.hid h1; clear h1 hf hb; go_upto_region 4 with fail
 rw [<- hbC, <- hW]; clear hbC hW
 skip
 focus
  obtain ⟨hx0, -, c0, c1, c2, c3, c4, c5, c6, c7, c8, c9, c10, c11⟩ := bx12 HO.out.blk; go_wp2_with fail
  clear hx0 c0 c1 c2 c3 c4 c5 c6 c7 c8 c9 c10 c11
 go_at_call 11
 refine (mText_c mC _ W3 (HS.out.below HO.out.base) (Owns.fm HO.out.pop) ⟨by decide, by decide, by decide⟩ ⟨by decide +kernel, by decide +kernel⟩).mono ?_; rintro e W4 ⟨he, hb⟩; rw [hd_T] at he; subst he; replace HO := Lib.hid (HO.out.below hb); clear hb; go_wp2_with fail
 go_at_call 12
 refine (mParse_c hI W4 (by decide)).mono ?_; rintro e Wp ⟨kv, he, hf, hb⟩; rw [hd_I] at he hf; subst he; obtain ⟨yk, mk, rfl⟩ := hf.form; have h1 := (Owns.fmPush HO.out hb hf).box (mobj zeroM (.slice yk (zeroM).cond.kids.length mk)); obtain ⟨bI, hbI⟩ : ∃ b, b = Wp.heap.size := ⟨_, rfl⟩; obtain ⟨W5, hW⟩ : ∃ W, W = Wp.alloc (mobj zeroM (.slice yk (zeroM).cond.kids.length mk)) := ⟨_, rfl⟩; rw [<- hW, <- hbI] at h1; dsimp only [mobj] at hW; replace HO := Lib.hid h1; clear h1 hf hb; go_upto_region 6 with fail
 rw [<- hbI, <- hW]; clear hbI hW; go_wp2_with fail
 go_at_call 12
 refine (mParse_c hK W5 (by decide)).mono ?_; rintro e Wp ⟨kv, he, hf, hb⟩; rw [hd_K] at he hf; subst he; obtain ⟨yk, mk, rfl⟩ := hf.form; have h1 := (Owns.fmPush HO.out hb hf).box (mobj zeroM (.slice yk (zeroM).cond.kids.length mk)); obtain ⟨bK, hbK⟩ : ∃ b, b = Wp.heap.size := ⟨_, rfl⟩; obtain ⟨W6, hW⟩ : ∃ W, W = Wp.alloc (mobj zeroM (.slice yk (zeroM).cond.kids.length mk)) := ⟨_, rfl⟩; rw [<- hW, <- hbK] at h1; dsimp only [mobj] at hW; replace HO := Lib.hid h1; clear h1 hf hb; go_upto_region 7 with fail
 rw [<- hbK, <- hW]; clear hbK hW; go_wp2_with fail
 go_at_call 12
 refine (mParse_c hD W6 (by decide)).mono ?_; rintro e Wp ⟨kv, he, hf, hb⟩; rw [hd_D] at he hf; subst he; obtain ⟨yk, mk, rfl⟩ := hf.form; have h1 := (Owns.fmPush HO.out hb hf).box (mobj mD (.slice yk (mD).cond.kids.length mk)); obtain ⟨bD, hbD⟩ : ∃ b, b = Wp.heap.size := ⟨_, rfl⟩; obtain ⟨W7, hW⟩ : ∃ W, W = Wp.alloc (mobj mD (.slice yk (mD).cond.kids.length mk)) := ⟨_, rfl⟩; rw [<- hW, <- hbD] at h1; dsimp only [mobj] at hW; replace HO := Lib.hid h1; clear h1 hf hb; go_upto_region 8 with fail
 rw [<- hbD, <- hW]; clear hbD hW
 skip
 obtain ⟨kD, -⟩ := HO.out.blk; obtain ⟨kB, -⟩ := (HO.out.re [8, 0, 1, 2, 3, 4, 5, 6, 7]).blk; obtain ⟨kA, -⟩ := (HO.out.re [10, 0, 1, 2, 3, 4, 5, 6, 7, 8, 9]).blk; have lA := lt_of_block kA; have lB := lt_of_block kB; have lD := lt_of_block kD; have a2 : W7.cell? ⟨ba, 2, none⟩ = some (.int .i64 1) := by rw [cell_of_heap kA]; rfl
 have a6 : W7.cell? ⟨ba, 10, none⟩ = some (.int .i64 (-1)) := by rw [cell_of_heap kA]; rfl
 have a7 : W7.cell? ⟨ba, 11, none⟩ = some (.int .i64 30) := by rw [cell_of_heap kA]; rfl
 have b2 : W7.cell? ⟨bB, 2, none⟩ = some (.int .i64 2) := by rw [cell_of_heap kB]; rfl
 have b3 : W7.cell? ⟨bB, 3, none⟩ = some (.string ⟨#[109, 49]⟩) := by rw [cell_of_heap kB]; rfl
 have b4 : W7.cell? ⟨bB, 4, none⟩ = some (.int .i64 1) := by rw [cell_of_heap kB]; rfl
 have d4 : W7.cell? ⟨bD, 4, none⟩ = some (.int .i64 3) := by rw [cell_of_heap kD]; rfl
 have d9 : W7.cell? ⟨bD, 9, none⟩ = some (.int .i64 2) := by rw [cell_of_heap kD]; rfl
 clear kA kB kD; have hS' : bs hS = ⟨#[98, 108, 111, 99, 107, 32, 117, 115, 32, 98, 49, 32, 111, 102, 32, 101, 117, 32, 102, 114, 111, 109, 32, 48, 59]⟩ := rfl; simp only [hS']; clear hS'; go_wp2_with fail
 go_ret
 exact ⟨rfl, HO.out.base⟩
end Go.Proofs.YtoeknmkephnekaaGreatDoor
namespace Go.Proofs.YtoeknmkephnekaaGreatDoor
open Go.RowKit Go.ChangeShapes Go.WideShapes Go.Deep
section
variable {H : Type} {enc : TypeId × Value -> H} {w : World} {base : Nat} {spare : Nat -> Bool} {held : Bool}
theorem block_lt_of_cell {w : World} {p : Addr} {v : Value} (h : w.cell? p = some v) : p.block < w.heap.size := by
 rcases Nat.lt_or_ge p.block w.heap.size with h1 | h1
 ·exact h1
 ·simp [World.cell?, Array.getElem?_eq_none h1] at h
end
end Go.Proofs.YtoeknmkephnekaaGreatDoor
namespace Go.Cz.Fo
open Go.Cz.Lx
theorem wr_short (f : Fm) : Wr f -> short 24 f = true := by
 refine Fm.induct (P := fun f => Wr f -> short 24 f = true) ?_ f; clear f; intro f ih hw; have hk : ∀ (ks : List Fm), (∀ k ∈ ks, short 24 k = true) -> shorts 24 ks = true := by
  intro ks
  induction ks with
  | nil => intro _; rfl
  | cons a r ihr =>
   intro h; rw [shorts, h a (by simp), ihr fun k hk => h k (by simp [hk])]
   rfl
 have short_kids : ∀ f : Fm, short 24 f = (shorts 24 f.kids && decide (f.name.length <= 24)) | .mk _ _ _ _ ks => by rw [short]; rfl
 rw [short_kids, hk f.kids fun k hk => ih k hk (hw.kid hk), Bool.true_and, decide_eq_true_eq]; rcases formed_cases hw.node.1 with h | h
 ·exact name_le h.2.2.2.2.1
 ·rw [h.1.1]; exact Nat.zero_le _
theorem text_small {f : Fm} (h : textE f = 0) : size f <= 200 /\ short 24 f = true /\ (textF Lib.itoa f).length <= 12000 := by
 obtain ⟨h1, h2⟩ := Go.Proofs.YtoeknmkephnekaaGreatDoor.wr_large h; unfold largeB at h1; have h3 : size f <= 200 := by simp at h1; omega
 have := (text_len f h2).1; exact ⟨h3, wr_short f h2, by omega⟩
end Go.Cz.Fo
namespace Go.Proofs.YtoeknmkephnekaaGreatDoor
open Go.RowKit Go.Cz Go.Cz.Lx Go.Cz.Fo
attribute [local go_sem] bs_size bs_extract bs_append bs_toList
attribute [local irreducible] cList cPlan
theorem idx_start (d : List Fact) (s : Bytes) : (0 <= idxD s (d.drop 0) -> idxD s d = idxD s (d.drop 0) + (0 : Nat)) /\ (idxD s (d.drop 0) < 0 -> idxD s d = -1) := by
 have : -1 <= idxD s d := by
  induction d with
  | nil => simp [idxD]
  | cons a r ih => rw [idxD]; (repeat' split) <;> omega
 exact ⟨fun _ => by simp, fun h => by simp at h; omega⟩
theorem idx_step {d : List Fact} {s : Bytes} {k : Nat} {x : Fact} (h : (0 <= idxD s (d.drop k) -> idxD s d = idxD s (d.drop k) + (k : Nat)) /\ (idxD s (d.drop k) < 0 -> idxD s d = -1)) (hx : d[k]? = some x) :
  (x.name = s -> idxD s d = k) /\ (¬ x.name = s -> ((0 <= idxD s (d.drop (k + 1)) -> idxD s d = idxD s (d.drop (k + 1)) + ((k + 1 : Nat) : Int)) /\ (idxD s (d.drop (k + 1)) < 0 -> idxD s d = -1))) := by
 have hdrop : d.drop k = x :: d.drop (k + 1) := by
  obtain ⟨hk2, rfl⟩ := List.getElem?_eq_some_iff.1 hx; exact List.drop_eq_getElem_cons hk2
 rw [hdrop, idxD] at h; refine ⟨fun e => ?_, fun e => ?_⟩
 ·rw [if_pos e] at h; have := h.1 (by omega); omega
 ·rw [if_neg e] at h
  split at h
  ·exact ⟨fun h' => by omega, fun _ => h.2 (by omega)⟩
  ·exact ⟨fun h' => by have := h.1 (by omega); omega, fun h' => by omega⟩
set_option maxHeartbeats 2000000 in
theorem rIndex_c (d : List Fact) (s : Bytes) (v : Value) (w : World) (hd : IsD w d v) (hx : ∀ x ∈ d, x.name.length <= 140737488355328) (h2 : s.length <= 140737488355328) (hn : d.length <= 1000000) :
  Calls Tryz.prog 97 #[.agg #[v], .string (bs s)] w fun e w' => e = .returned (.int .i64 (idxD s d)) /\ Below w.heap.size w w' := by
 obtain ⟨y, m, rfl⟩ := hd.form; have HD := Lib.hid hd; have HXS := Lib.hid hx; have HDn := Lib.hid hn; obtain ⟨N, hN⟩ : ∃ N, N = d.length := ⟨_, rfl⟩; have HN := Lib.hid hN; rw [<- hN] at HD hn ⊢; clear hd hx hN; obtain ⟨bx, hbx⟩ : ∃ bx, bx = w.heap.size := ⟨_, rfl⟩; obtain ⟨W1, hW1⟩ : ∃ W1, W1 = w.alloc (.cells #[.slice y N m] 45) := ⟨_, rfl⟩; have HO : Hid (Owns w W1 [blk bx (.cells #[.slice y N m] 45 (0, 0))]) := by
  rw [hW1, hbx]; exact Lib.hid ((Owns.start w).box _)
 go_enter Tryz.func97, Tryz.ntmps97
 go_wp2_with fail
 rw [<- hW1, <- hbx]; clear hW1 hbx; have H0 := Lib.hid (idx_start d s); go_loopg [5] N (fun gk i wr => ∃ k : Nat, gk = N - k /\ k <= N /\ i = .int .i64 (k : Int) /\ Hid ((0 <= idxD s (d.drop k) -> idxD s d = idxD s (d.drop k) + (k : Nat)) /\ (idxD s (d.drop k) < 0 -> idxD s d = -1)) /\ Hid (Owns w wr [blk bx (.cells #[.slice y N m] 45 (0, 0))]))
 case atStart => exact ⟨0, rfl, Nat.zero_le _, rfl, H0, HO⟩
 case round =>
  rename_i J1 K1 hJ1 hK1; clear H0 HO; obtain ⟨k, rfl, hk, rfl, HI, HO⟩ := hrel; obtain ⟨hbx, -, cb0⟩ := bx1 HO.out.blk; by_cases hlt : k < N
  ·obtain ⟨x, hx⟩ : ∃ x, d[k]? = some x := ⟨_, List.getElem?_eq_getElem (by rw [<- HN.out]; exact hlt)⟩; obtain ⟨g, off, rfl, hg, c0, c1, c2, c3⟩ := HD.out.get HO.out.base hx; have HI2 := Lib.hid (idx_step HI.out hx); have HX : x.name.length <= 140737488355328 := HXS.out x (List.mem_of_getElem? hx); clear hx HI; by_cases he : x.name = s
   ·have HE : Hid (idxD s d = k) := HI2.out.1 he; have he' : (x.name == s) = true := by simpa using he
    clear hJ1 hK1 he; go_wp2_with fail
    go_ret
    exact ⟨by rw [HE.out]; rfl, HO.out.base⟩
   ·have HI := Lib.hid (HI2.out.2 he); have he' : (x.name == s) = false := by simpa using he
    clear he; go_wp2_with fail
    go_roundg (N - (k + 1))
    case measure => omega
    case rel => exact ⟨k + 1, rfl, by omega, by go_num, HI, HO⟩
  ·obtain rfl : k = N := by omega
   have HE : Hid (idxD s d = -1) := by
    have h := HI.out; rw [HN.out, List.drop_length] at h; exact h.2 (by simp [idxD])
   clear hJ1 hK1 hlt; go_wp2_with fail
   go_ret
   exact ⟨by rw [HE.out]; rfl, HO.out.base⟩
def goodR (d : List Fact) (k : Nat) (x : Fact) : Bool := factB x && (nameB x.name && decide (idxD x.name d = k))
theorem idx_lt {s : Bytes} : ∀ {d : List Fact}, idxD s d < d.length
 | [] => by simp [idxD]
 | a :: r => by
  rw [idxD, List.length_cons]; have := idx_lt (s := s) (d := r)
  (repeat' split) <;> omega
theorem idx_app {s : Bytes} : ∀ {d e : List Fact}, s ∉ d.map (·.name) -> idxD s (d ++ e) = if idxD s e < 0 then -1 else idxD s e + d.length
 | [], e, _ => by
  simp
  intro h; have := (idx_start e s).2 (by simpa using h)
  simpa using this
 | a :: r, e, h => by
  simp only [List.map_cons, List.mem_cons, not_or] at h; rw [List.cons_append, idxD, if_neg (fun x => h.1 x.symm), idx_app h.2, List.length_cons]
  (repeat' split) <;> omega
theorem idx_app2 {s : Bytes} : ∀ {d e : List Fact}, s ∈ d.map (·.name) -> idxD s (d ++ e) = idxD s d
 | [], e, h => by simp at h
 | a :: r, e, h => by
  rw [List.cons_append, idxD, idxD]; by_cases h1 : a.name = s
  ·rw [if_pos h1, if_pos h1]
  ·rw [if_neg h1, if_neg h1]; rw [idx_app2 (d := r) (by
    simp only [List.map_cons, List.mem_cons] at h; exact h.resolve_left fun x => h1 x.symm)]
theorem idx_first {d : List Fact} {k : Nat} {x : Fact} (hx : d[k]? = some x) : idxD x.name d = k ↔ x.name ∉ (d.take k).map (·.name) := by
 obtain ⟨hk, rfl⟩ := List.getElem?_eq_some_iff.1 hx; have hs : d = d.take k ++ d.drop k := (List.take_append_drop k d).symm; have hd : idxD d[k].name (d.drop k) = 0 := by rw [List.drop_eq_getElem_cons hk, idxD, if_pos rfl]
 have hl : (d.take k).length = k := by rw [List.length_take]; omega
 constructor
 ·intro h hm; have h1 : idxD d[k].name d = idxD d[k].name (d.take k) := by
   have := idx_app2 (e := d.drop k) hm
   rwa [<- hs] at this
  have h2 := idx_lt (s := d[k].name) (d := d.take k); omega
 ·intro h; have h1 := idx_app (e := d.drop k) h; rw [<- hs, hd, hl] at h1
  simpa using h1
theorem goodR_all {d : List Fact} : ∀ (n k : Nat), d.length = n + k -> (validL ((d.take k).map (·.name)).reverse (d.drop k) = true ↔ ∀ j x, k <= j -> d[j]? = some x -> goodR d j x = true)
 | 0, k, h => by
  have : d.drop k = [] := List.drop_eq_nil_of_le (by omega); rw [this, validL]; refine ⟨fun _ j x hj hx => ?_, fun _ => rfl⟩; have := (List.getElem?_eq_some_iff.1 hx).1; omega
 | n + 1, k, h => by
  have hk : k < d.length := by omega
  have hx : d[k]? = some d[k] := List.getElem?_eq_getElem hk; rw [seen_step hx, Bool.and_eq_true, Bool.and_eq_true, Bool.and_eq_true, goodR_all n (k + 1) (by omega)]; have hc : (!((d.take k).map (·.name)).reverse.contains d[k].name) = true ↔ idxD d[k].name d = k := by
   rw [idx_first hx]; simp
  rw [hc]
  constructor
  ·rintro ⟨h1, h2, h3, h4⟩ j x hj hx2; rcases Nat.eq_or_lt_of_le hj with rfl | hj
   ·rw [hx] at hx2; cases hx2
    unfold goodR; rw [h1, h2, decide_eq_true h3]; rfl
   ·exact h4 j x hj hx2
  ·intro h1; have h2 := h1 k _ (Nat.le_refl _) hx; unfold goodR at h2; rw [Bool.and_eq_true, Bool.and_eq_true, decide_eq_true_eq] at h2; exact ⟨h2.1, h2.2.1, h2.2.2, fun j x hj hx2 => h1 j x (by omega) hx2⟩
theorem validR {d : List Fact} : validL [] d = true ↔ ∀ j x, d[j]? = some x -> goodR d j x = true := by
 have := goodR_all (d := d) d.length 0 (by omega)
 simpa using this
theorem validR_bad {d : List Fact} {k : Nat} {x : Fact} (hx : d[k]? = some x) (h : goodR d k x = false) : validD d = false := by
 unfold validD; have : ¬ validL [] d = true := fun e => by rw [validR.1 e k x hx] at h; cases h
 rw [Bool.not_eq_true] at this; rw [this]; rfl
set_option maxHeartbeats 8000000 in
theorem rfactValid_c (d : List Fact) (v : Value) (w : World) (hd : IsD w d v) (hn : d.length <= 1000000) (hx : ∀ x ∈ d, x.name.length <= 140737488355328) :
  Calls Tryz.prog 62 #[.agg #[v]] w fun e w' => e = .returned (.bool (validD d)) /\ Below w.heap.size w w' := by
 obtain ⟨y, m, rfl⟩ := hd.form; have HD := Lib.hid hd; have HXS := Lib.hid hx; have HDn := Lib.hid hn; obtain ⟨N, hN⟩ : ∃ N, N = d.length := ⟨_, rfl⟩; have HN := Lib.hid hN; rw [<- hN] at HD hn ⊢; clear hd hx hN; obtain ⟨bx, hbx⟩ : ∃ bx, bx = w.heap.size := ⟨_, rfl⟩; obtain ⟨W1, hW1⟩ : ∃ W1, W1 = w.alloc (.cells #[.slice y N m] 45) := ⟨_, rfl⟩; have HO : Hid (Owns w W1 [blk bx (.cells #[.slice y N m] 45 (0, 0))]) := by
  rw [hW1, hbx]; exact Lib.hid ((Owns.start w).box _)
 go_enter Tryz.func62, Tryz.ntmps62
 go_wp2_with fail
 rw [<- hW1, <- hbx]; clear hW1 hbx; have H0 : Hid (∀ j z, j < 0 -> d[j]? = some z -> goodR d j z = true) := Lib.hid fun j z h => by omega
 go_loopg [3] N (fun gk i wr => ∃ k : Nat, gk = N - k /\ k <= N /\ i = .int .i64 (k : Int) /\ Hid (∀ j z, j < k -> d[j]? = some z -> goodR d j z = true) /\ Hid (Owns w wr [blk bx (.cells #[.slice y N m] 45 (0, 0))]))
 case atStart => exact ⟨0, rfl, Nat.zero_le _, rfl, H0, HO⟩
 case round =>
  rename_i J1 K1 hJ1 hK1; clear H0 HO; obtain ⟨k, rfl, hk, rfl, HI, HO⟩ := hrel; obtain ⟨hbx, -, cb0⟩ := bx1 HO.out.blk; by_cases hlt : k < N
  ·obtain ⟨x, hx⟩ : ∃ x, d[k]? = some x := ⟨_, List.getElem?_eq_getElem (by rw [<- HN.out]; exact hlt)⟩; obtain ⟨g, off, rfl, hg, c0, c1, c2, c3⟩ := HD.out.get HO.out.base hx; have HX := Lib.hid hx; have HXn : Hid (x.name.length <= 140737488355328) := Lib.hid (HXS.out x (List.mem_of_getElem? hx)); obtain ⟨W4, hW4⟩ : ∃ W4, W4 = wr.alloc (.cells #[.string (bs x.name), .int .i64 x.kind, .int .i64 x.lo, .int .i64 x.hi] 47) := ⟨_, rfl⟩; obtain ⟨b4, hb4⟩ : ∃ b4, b4 = wr.heap.size := ⟨_, rfl⟩; have HO4 : Hid (Owns w W4 [blk b4 (.cells #[.string (bs x.name), .int .i64 x.kind, .int .i64 x.lo, .int .i64 x.hi] 47 (0, 0)), blk bx (.cells #[.slice (some ⟨g, off, none⟩) N m] 45 (0, 0))]) := by
    rw [hW4, hb4]; exact Lib.hid (HO.out.box _)
   obtain ⟨q, hq⟩ : ∃ q, q = nameB x.name := ⟨_, rfl⟩; obtain ⟨u, hu⟩ : ∃ u, u = idxD x.name d := ⟨_, rfl⟩; have HF : Hid (factB x = (decide (x.kind = 1 /\ x.lo = 0 /\ x.hi = 1) || decide (x.kind = 2 /\ 0 <= x.lo /\ x.lo <= x.hi /\ x.hi <= 1000000)) /\ nameB x.name = q /\ idxD x.name d = u) := ⟨rfl, hq.symm, hu.symm⟩; clear hx HO hq hu; go_wp2_with fail
   rw [<- hW4, <- hb4]; clear hW4 hb4 hbx cb0 c0 c1 c2 c3 hg; go_at_call 90
   refine (rName_c x.name W4 HXn.out).mono ?_; rintro e w1 ⟨rfl, hw⟩; subst hw; rw [HF.out.2.1]; cases q
   ·have HE : Hid (validD d = false) := by
     refine validR_bad HX.out ?_; unfold goodR; rw [HF.out.2.1]; simp
    clear hJ1 hK1; go_wp2_with fail
    go_ret
    exact ⟨by rw [HE.out]; rfl, HO4.out.base⟩
   have HO := Lib.hid HO4.out.swap; obtain ⟨hbx, -, cb0⟩ := bx1 HO.out.blk; obtain ⟨bk, -⟩ := HO4.out.blk; have hb4 := lt_of_block bk; have cx0 := cell_of_heap bk (i := 0); simp only [List.getElem?_toArray, List.getElem?_cons_succ, List.getElem?_cons_zero] at cx0; clear bk HO4; go_wp2_with fail
   clear hbx cb0 hb4 cx0; go_at_call 97
   refine (rIndex_c d x.name _ w1 (HD.out.later HO.out.base) HXS.out HXn.out HDn.out).mono ?_; rintro e w2 ⟨rfl, hb⟩; replace HO := Lib.hid (HO.out.below hb); rw [HF.out.2.2]; clear hb; by_cases hu : u = (k : Int)
   ·subst hu; have hu' : ((k : Int) != (k : Int)) = false := by simp
    obtain ⟨hb4, -, cx0, cx1, cx2, cx3⟩ := bx4 HO.out.swap.blk; replace HO := Lib.hid HO.out.swap.pop; by_cases hl0 : x.lo < 0
    ·have HE : Hid (validD d = false) := by
      refine validR_bad HX.out ?_; unfold goodR; rw [HF.out.1, decide_eq_false (p := x.kind = 1 /\ _) (by omega), decide_eq_false (p := x.kind = 2 /\ _) (by omega)]
      rfl
     clear hJ1 hK1; go_wp2_with fail
     go_ret
     exact ⟨by rw [HE.out]; rfl, HO.out.base⟩
    by_cases hlh : x.hi < x.lo
    ·have HE : Hid (validD d = false) := by
      refine validR_bad HX.out ?_; unfold goodR; rw [HF.out.1, decide_eq_false (p := x.kind = 1 /\ _) (by omega), decide_eq_false (p := x.kind = 2 /\ _) (by omega)]
      rfl
     clear hJ1 hK1; go_wp2_with fail
     go_ret
     exact ⟨by rw [HE.out]; rfl, HO.out.base⟩
    by_cases hh : 1000000 < x.hi
    ·have HE : Hid (validD d = false) := by
      refine validR_bad HX.out ?_; unfold goodR; rw [HF.out.1, decide_eq_false (p := x.kind = 1 /\ _) (by omega), decide_eq_false (p := x.kind = 2 /\ _) (by omega)]
      rfl
     clear hJ1 hK1; go_wp2_with fail
     go_ret
     exact ⟨by rw [HE.out]; rfl, HO.out.base⟩
    by_cases hk1 : x.kind < 1
    ·have HE : Hid (validD d = false) := by
      refine validR_bad HX.out ?_; unfold goodR; rw [HF.out.1, decide_eq_false (p := x.kind = 1 /\ _) (by omega), decide_eq_false (p := x.kind = 2 /\ _) (by omega)]
      rfl
     clear hJ1 hK1; go_wp2_with fail
     go_ret
     exact ⟨by rw [HE.out]; rfl, HO.out.base⟩
    by_cases hk2 : 2 < x.kind
    ·have HE : Hid (validD d = false) := by
      refine validR_bad HX.out ?_; unfold goodR; rw [HF.out.1, decide_eq_false (p := x.kind = 1 /\ _) (by omega), decide_eq_false (p := x.kind = 2 /\ _) (by omega)]
      rfl
     clear hJ1 hK1; go_wp2_with fail
     go_ret
     exact ⟨by rw [HE.out]; rfl, HO.out.base⟩
    by_cases hf : x.kind = 1
    ·have hf' : (x.kind == 1) = true := by simpa using hf
     by_cases h0 : x.lo = 0
     ·have h0' : (x.lo != 0) = false := by simpa using h0
      by_cases h1 : x.hi = 1
      ·have h1' : (x.hi != 1) = false := by simpa using h1
       have HG : Hid (goodR d k x = true) := by
        show _ = _; unfold goodR; rw [HF.out.1, HF.out.2.1, HF.out.2.2]; simp
        omega
       have HI2 : Hid (∀ j z, j < k + 1 -> d[j]? = some z -> goodR d j z = true) := by
        intro j z hj hz; rcases Nat.lt_or_ge j k with h | h
        ·exact HI.out j z h hz
        ·obtain rfl : j = k := by omega
         rw [HX.out] at hz; cases hz
         exact HG.out
       clear HG HI; go_wp2_with fail
       go_roundg (N - (k + 1))
       case measure => omega
       case rel => exact ⟨k + 1, rfl, by omega, by go_num, HI2, HO⟩
      ·have h1' : (x.hi != 1) = true := by simpa using h1
       have HE : Hid (validD d = false) := by
        refine validR_bad HX.out ?_; unfold goodR; rw [HF.out.1, decide_eq_false (p := x.kind = 1 /\ _) (by omega), decide_eq_false (p := x.kind = 2 /\ _) (by omega)]
        rfl
       clear hJ1 hK1; go_wp2_with fail
       go_ret
       exact ⟨by rw [HE.out]; rfl, HO.out.base⟩
     ·have h0' : (x.lo != 0) = true := by simpa using h0
      have HE : Hid (validD d = false) := by
       refine validR_bad HX.out ?_; unfold goodR; rw [HF.out.1, decide_eq_false (p := x.kind = 1 /\ _) (by omega), decide_eq_false (p := x.kind = 2 /\ _) (by omega)]
       rfl
      clear hJ1 hK1; go_wp2_with fail
      go_ret
      exact ⟨by rw [HE.out]; rfl, HO.out.base⟩
    ·have hf' : (x.kind == 1) = false := by simpa using hf
     have HG : Hid (goodR d k x = true) := by
      show _ = _; unfold goodR; rw [HF.out.1, HF.out.2.1, HF.out.2.2]; simp
      omega
     have HI2 : Hid (∀ j z, j < k + 1 -> d[j]? = some z -> goodR d j z = true) := by
      intro j z hj hz; rcases Nat.lt_or_ge j k with h | h
      ·exact HI.out j z h hz
      ·obtain rfl : j = k := by omega
       rw [HX.out] at hz; cases hz
       exact HG.out
     clear HG HI; go_wp2_with fail
     go_roundg (N - (k + 1))
     case measure => omega
     case rel => exact ⟨k + 1, rfl, by omega, by go_num, HI2, HO⟩
   ·have hu' : (u != (k : Int)) = true := by simpa using hu
    have HE : Hid (validD d = false) := by
     refine validR_bad HX.out ?_; unfold goodR; rw [HF.out.2.2, decide_eq_false hu]; simp
    clear hJ1 hK1 hu; go_wp2_with fail
    go_ret
    exact ⟨by rw [HE.out]; rfl, HO.out.base⟩
  ·obtain rfl : k = N := by omega
   have HE : Hid (validD d = decide (k <= 60)) := by
    show _ = _; have : validL [] d = true := validR.2 fun j z hz => HI.out j z (by have := (List.getElem?_eq_some_iff.1 hz).1; have := HN.out; omega) hz; unfold validD; rw [this, <- HN.out]; rfl
   clear hJ1 hK1 hlt; go_wp2_with fail
   go_ret
   exact ⟨congrArg (fun b => Ending.returned (Value.bool b)) (show decide ((k : Int) <= 60) = validD d by rw [HE.out, Bool.eq_iff_iff]; simp; omega), HO.out.base⟩
end Go.Proofs.YtoeknmkephnekaaGreatDoor
namespace Go.Proofs.YtoeknmkephnekaaGreatDoor
open Go.RowKit Go.Cz Go.Cz.Lx Go.Cz.Fo
attribute [local go_sem] bs_size bs_extract bs_append bs_toList
attribute [local irreducible] cList cPlan
section
variable {p : Nat -> Prop}
set_option maxHeartbeats 8000000 in
theorem rformed_c (f : Fm) (w : World) (kv : Value) (hf : IsFm p w f kv) (hl : f.name.length <= 140737488355328) : Calls Tryz.prog 118 #[fval f kv] w (fun e w' => e = .returned (.bool (formedB f)) /\ Below w.heap.size w w') := by
 obtain ⟨y, m, rfl⟩ := hf.form; obtain ⟨N, hN⟩ : ∃ N, N = f.kids.length := ⟨_, rfl⟩; have HN := Lib.hid hN; rw [<- hN] at hf ⊢; have HF := Lib.hid hf; clear hN hf; obtain ⟨W1, hW1⟩ : ∃ W1, W1 = w.alloc (fobj f (.slice y N m)) := ⟨_, rfl⟩; obtain ⟨bf, hbf⟩ : ∃ bf, bf = w.heap.size := ⟨_, rfl⟩; have HO : Hid (Owns w W1 [blk bf (fobj f (.slice y N m))]) := by
  rw [hW1, hbf]; exact Lib.hid ((Owns.start w).box _)
 have HL := Lib.hid hl; clear hl; obtain ⟨o, ho⟩ : ∃ o, o = f.op := ⟨_, rfl⟩; obtain ⟨c, hc⟩ : ∃ c, c = f.cmp := ⟨_, rfl⟩; obtain ⟨x, hx⟩ : ∃ x, x = f.num := ⟨_, rfl⟩; obtain ⟨s, hs⟩ : ∃ s, s = f.name := ⟨_, rfl⟩; have HX : Hid (f.op = o /\ f.cmp = c /\ f.num = x /\ f.name = s) := ⟨ho.symm, hc.symm, hx.symm, hs.symm⟩; simp only [fobj, fval] at HO hW1 ⊢; rw [<- ho, <- hc, <- hx, <- hs] at HO hW1 ⊢; rw [<- hs] at HL; clear ho hc hx hs; go_enter Tryz.func118, Tryz.ntmps118
 by_cases hs0 : s = []
 ·by_cases hc0 : c = 0
  ·by_cases hx0 : x = 0
   ·by_cases h3 : o = 3
    ·subst h3 hs0 hx0; have HE : Hid (formedB f = false) := by show _ = _; rw [formed_test HX.out.1, HX.out.2.1, hc0]; simp
     subst hc0; clear hW1 hbf; go_wp2_with fail
     go_ret
     exact ⟨by rw [HE.out]; rfl, (Below.refl _ _).alloc (Nat.le_refl _) _⟩
    have hf := formed_rest (f := f) (by rw [HX.out.1]; exact h3) (by rw [HX.out.2.1, HX.out.2.2.1, HX.out.2.2.2]; simp [hs0, hc0, hx0]); subst hs0 hc0 hx0; have h3' : (o == 3) = false := by simpa using h3
    rw [HX.out.1, <- HN.out] at hf; have HFm := Lib.hid hf; clear hf; by_cases h1 : o = 1
    ·subst h1; have HE : Hid (formedB f = decide (N = 0)) := by show _ = _; rw [HFm.out, if_pos (.inl rfl)]
     clear hW1 hbf; go_wp2_with fail
     go_ret
     exact ⟨congrArg (fun b => Ending.returned (Value.bool b)) (show ((N : Int) == 0) = formedB f by rw [HE.out]; exact n_eq0 _), (Below.refl _ _).alloc (Nat.le_refl _) _⟩
    have h1' : (o == 1) = false := by simpa using h1
    by_cases h2 : o = 2
    ·subst h2; have HE : Hid (formedB f = decide (N = 0)) := by show _ = _; rw [HFm.out, if_pos (.inr rfl)]
     clear hW1 hbf; go_wp2_with fail
     go_ret
     exact ⟨congrArg (fun b => Ending.returned (Value.bool b)) (show ((N : Int) == 0) = formedB f by rw [HE.out]; exact n_eq0 _), (Below.refl _ _).alloc (Nat.le_refl _) _⟩
    have h2' : (o == 2) = false := by simpa using h2
    by_cases h4 : o = 4
    ·subst h4; have HE : Hid (formedB f = decide (N = 1)) := by show _ = _; rw [HFm.out]; rfl
     clear hW1 hbf; go_wp2_with fail
     go_ret
     exact ⟨congrArg (fun b => Ending.returned (Value.bool b)) (show ((N : Int) == 1) = formedB f by rw [HE.out]; exact n_eq1 _), (Below.refl _ _).alloc (Nat.le_refl _) _⟩
    have h4' : (o == 4) = false := by simpa using h4
    by_cases h5 : o = 5
    ·subst h5; have HE : Hid (formedB f = decide (2 <= N)) := by show _ = _; rw [HFm.out]; simp
     clear hW1 hbf; go_wp2_with fail
     go_ret
     exact ⟨congrArg (fun b => Ending.returned (Value.bool b)) (show (decide ((2 : Int) <= (N : Int))) = formedB f by rw [HE.out]; exact n_le2 _), (Below.refl _ _).alloc (Nat.le_refl _) _⟩
    have h5' : (o == 5) = false := by simpa using h5
    by_cases h6 : o = 6
    ·subst h6; have HE : Hid (formedB f = decide (2 <= N)) := by show _ = _; rw [HFm.out]; simp
     clear hW1 hbf; go_wp2_with fail
     go_ret
     exact ⟨congrArg (fun b => Ending.returned (Value.bool b)) (show (decide ((2 : Int) <= (N : Int))) = formedB f by rw [HE.out]; exact n_le2 _), (Below.refl _ _).alloc (Nat.le_refl _) _⟩
    have h6' : (o == 6) = false := by simpa using h6
    have HE : Hid (formedB f = false) := by show _ = _; rw [HFm.out, if_neg (by omega), if_neg h4]; exact decide_eq_false (by omega)
    clear hW1 hbf; go_wp2_with fail
    go_ret
    exact ⟨by rw [HE.out]; rfl, (Below.refl _ _).alloc (Nat.le_refl _) _⟩
   ·have hx0' : (x == 0) = false := by simpa using hx0
    subst hs0 hc0; by_cases h3 : o = 3
    ·have HE : Hid (formedB f = false) := by show _ = _; rw [formed_test (by rw [HX.out.1]; exact h3), HX.out.2.1]; simp
     subst h3; clear hW1 hbf; go_wp2_with fail
     go_ret
     exact ⟨by rw [HE.out]; rfl, (Below.refl _ _).alloc (Nat.le_refl _) _⟩
    have h3' : (o == 3) = false := by simpa using h3
    have hb : ([] : Bytes) ≠ [] ∨ (0 : Int) ≠ 0 ∨ x ≠ 0 := .inr (.inr hx0); have HE : Hid (formedB f = false) := by
     show _ = _; exact formed_bare (by rw [HX.out.1]; exact h3) (by rw [HX.out.2.1, HX.out.2.2.1, HX.out.2.2.2]; exact hb)
    clear hb; by_cases h1 : o = 1
    ·subst h1; clear hW1 hbf; go_wp2_with fail
     go_ret
     exact ⟨by rw [HE.out]; rfl, (Below.refl _ _).alloc (Nat.le_refl _) _⟩
    have h1' : (o == 1) = false := by simpa using h1
    by_cases h2 : o = 2
    ·subst h2; clear hW1 hbf; go_wp2_with fail
     go_ret
     exact ⟨by rw [HE.out]; rfl, (Below.refl _ _).alloc (Nat.le_refl _) _⟩
    have h2' : (o == 2) = false := by simpa using h2
    by_cases h4 : o = 4
    ·subst h4; clear hW1 hbf; go_wp2_with fail
     go_ret
     exact ⟨by rw [HE.out]; rfl, (Below.refl _ _).alloc (Nat.le_refl _) _⟩
    have h4' : (o == 4) = false := by simpa using h4
    by_cases h5 : o = 5
    ·subst h5; clear hW1 hbf; go_wp2_with fail
     go_ret
     exact ⟨by rw [HE.out]; rfl, (Below.refl _ _).alloc (Nat.le_refl _) _⟩
    have h5' : (o == 5) = false := by simpa using h5
    by_cases h6 : o = 6
    ·subst h6; clear hW1 hbf; go_wp2_with fail
     go_ret
     exact ⟨by rw [HE.out]; rfl, (Below.refl _ _).alloc (Nat.le_refl _) _⟩
    have h6' : (o == 6) = false := by simpa using h6
    clear hW1 hbf; go_wp2_with fail
    go_ret
    exact ⟨by rw [HE.out]; rfl, (Below.refl _ _).alloc (Nat.le_refl _) _⟩
  ·have hc0' : (c == 0) = false := by simpa using hc0
   subst hs0; by_cases h3 : o = 3
   ·subst h3; clear hc0; have ht := formed_test HX.out.1; rw [HX.out.2.1, HX.out.2.2.2, <- HN.out] at ht; have HT := Lib.hid ht; clear ht; by_cases h1 : 1 <= c
    ·by_cases h6 : c <= 6
     ·by_cases hN0 : N = 0
      ·subst hN0; go_wp2_with fail
       rw [<- hW1, <- hbf]; clear hW1 hbf; go_at_call 90
       refine (rName_c [] W1 HL.out).mono ?_; rintro e W2 ⟨rfl, rfl⟩; obtain ⟨b, hb⟩ : ∃ b, b = nameB [] := ⟨_, rfl⟩; rw [<- hb]; have HB := Lib.hid hb; clear hb; cases b
       ·have HE : Hid (formedB f = false) := by show _ = _; rw [HT.out, <- HB.out]; simp
        go_wp2_with fail
        go_ret
        exact ⟨by rw [HE.out]; rfl, HO.out.base⟩
       ·have HE : Hid (formedB f = !keyB []) := by show _ = _; rw [HT.out, <- HB.out, decide_eq_true h1, decide_eq_true h6]; simp
        obtain ⟨hbf, -, cb0, cb1, cb2, cb3, cb4⟩ := bx5 HO.out.blk; go_wp2_with fail
        go_at_call 145
        refine (rKey_c [] _).mono ?_; rintro e W3 ⟨rfl, rfl⟩; clear cb0 cb1 cb2 cb3 cb4 hbf; obtain ⟨b, hb⟩ : ∃ b, b = keyB [] := ⟨_, rfl⟩; rw [<- hb] at HE ⊢; clear hb; go_wp2_with fail
        go_ret
        exact ⟨by rw [HE.out]; rfl, HO.out.base⟩
      ·have HE : Hid (formedB f = false) := by show _ = _; rw [HT.out, decide_eq_false hN0]; rfl
       have hN1 : ((N : Int) == 0) = false := by simp; omega
       clear hN0; clear hW1 hbf; go_wp2_with fail
       go_ret
       exact ⟨by rw [HE.out]; rfl, (Below.refl _ _).alloc (Nat.le_refl _) _⟩
     ·have HE : Hid (formedB f = false) := by show _ = _; rw [HT.out, decide_eq_false h6]; simp
      have h6' : ¬ c <= 6 := h6; clear hW1 hbf; go_wp2_with fail
      go_ret
      exact ⟨by rw [HE.out]; rfl, (Below.refl _ _).alloc (Nat.le_refl _) _⟩
    ·have HE : Hid (formedB f = false) := by show _ = _; rw [HT.out, decide_eq_false h1]; simp
     clear hW1 hbf; go_wp2_with fail
     go_ret
     exact ⟨by rw [HE.out]; rfl, (Below.refl _ _).alloc (Nat.le_refl _) _⟩
   have h3' : (o == 3) = false := by simpa using h3
   have hb : ([] : Bytes) ≠ [] ∨ c ≠ 0 ∨ x ≠ 0 := .inr (.inl hc0); clear hc0; have HE : Hid (formedB f = false) := by
    show _ = _; exact formed_bare (by rw [HX.out.1]; exact h3) (by rw [HX.out.2.1, HX.out.2.2.1, HX.out.2.2.2]; exact hb)
   clear hb; by_cases h1 : o = 1
   ·subst h1; clear hW1 hbf; go_wp2_with fail
    go_ret
    exact ⟨by rw [HE.out]; rfl, (Below.refl _ _).alloc (Nat.le_refl _) _⟩
   have h1' : (o == 1) = false := by simpa using h1
   by_cases h2 : o = 2
   ·subst h2; clear hW1 hbf; go_wp2_with fail
    go_ret
    exact ⟨by rw [HE.out]; rfl, (Below.refl _ _).alloc (Nat.le_refl _) _⟩
   have h2' : (o == 2) = false := by simpa using h2
   by_cases h4 : o = 4
   ·subst h4; clear hW1 hbf; go_wp2_with fail
    go_ret
    exact ⟨by rw [HE.out]; rfl, (Below.refl _ _).alloc (Nat.le_refl _) _⟩
   have h4' : (o == 4) = false := by simpa using h4
   by_cases h5 : o = 5
   ·subst h5; clear hW1 hbf; go_wp2_with fail
    go_ret
    exact ⟨by rw [HE.out]; rfl, (Below.refl _ _).alloc (Nat.le_refl _) _⟩
   have h5' : (o == 5) = false := by simpa using h5
   by_cases h6 : o = 6
   ·subst h6; clear hW1 hbf; go_wp2_with fail
    go_ret
    exact ⟨by rw [HE.out]; rfl, (Below.refl _ _).alloc (Nat.le_refl _) _⟩
   have h6' : (o == 6) = false := by simpa using h6
   clear hW1 hbf; go_wp2_with fail
   go_ret
   exact ⟨by rw [HE.out]; rfl, (Below.refl _ _).alloc (Nat.le_refl _) _⟩
 ·have hs1 : (s == []) = false := by simpa using hs0
  have hs2 : s.isEmpty = false := by simpa using hs0
  by_cases h3 : o = 3
  ·subst h3; have ht := formed_test HX.out.1; rw [HX.out.2.1, HX.out.2.2.2, <- HN.out] at ht; have HT := Lib.hid ht; clear ht; by_cases h1 : 1 <= c
   ·by_cases h6 : c <= 6
    ·by_cases hN0 : N = 0
     ·subst hN0; go_wp2_with fail
      rw [<- hW1, <- hbf]; clear hW1 hbf; go_at_call 90
      refine (rName_c s W1 HL.out).mono ?_; rintro e W2 ⟨rfl, rfl⟩; obtain ⟨b, hb⟩ : ∃ b, b = nameB s := ⟨_, rfl⟩; rw [<- hb]; have HB := Lib.hid hb; clear hb; cases b
      ·have HE : Hid (formedB f = false) := by show _ = _; rw [HT.out, <- HB.out]; simp
       go_wp2_with fail
       go_ret
       exact ⟨by rw [HE.out]; rfl, HO.out.base⟩
      ·have HE : Hid (formedB f = !keyB s) := by show _ = _; rw [HT.out, <- HB.out, decide_eq_true h1, decide_eq_true h6]; simp
       obtain ⟨hbf, -, cb0, cb1, cb2, cb3, cb4⟩ := bx5 HO.out.blk; go_wp2_with fail
       go_at_call 145
       refine (rKey_c s _).mono ?_; rintro e W3 ⟨rfl, rfl⟩; clear cb0 cb1 cb2 cb3 cb4 hbf; obtain ⟨b, hb⟩ : ∃ b, b = keyB s := ⟨_, rfl⟩; rw [<- hb] at HE ⊢; clear hb; go_wp2_with fail
       go_ret
       exact ⟨by rw [HE.out]; rfl, HO.out.base⟩
     ·have HE : Hid (formedB f = false) := by show _ = _; rw [HT.out, decide_eq_false hN0]; rfl
      have hN1 : ((N : Int) == 0) = false := by simp; omega
      clear hN0; clear hW1 hbf; go_wp2_with fail
      go_ret
      exact ⟨by rw [HE.out]; rfl, (Below.refl _ _).alloc (Nat.le_refl _) _⟩
    ·have HE : Hid (formedB f = false) := by show _ = _; rw [HT.out, decide_eq_false h6]; simp
     have h6' : ¬ c <= 6 := h6; clear hW1 hbf; go_wp2_with fail
     go_ret
     exact ⟨by rw [HE.out]; rfl, (Below.refl _ _).alloc (Nat.le_refl _) _⟩
   ·have HE : Hid (formedB f = false) := by show _ = _; rw [HT.out, decide_eq_false h1]; simp
    clear hW1 hbf; go_wp2_with fail
    go_ret
    exact ⟨by rw [HE.out]; rfl, (Below.refl _ _).alloc (Nat.le_refl _) _⟩
  have h3' : (o == 3) = false := by simpa using h3
  have hb : s ≠ [] ∨ c ≠ 0 ∨ x ≠ 0 := .inl hs0; clear hs0; have HE : Hid (formedB f = false) := by
   show _ = _; exact formed_bare (by rw [HX.out.1]; exact h3) (by rw [HX.out.2.1, HX.out.2.2.1, HX.out.2.2.2]; exact hb)
  clear hb; by_cases h1 : o = 1
  ·subst h1; clear hW1 hbf; go_wp2_with fail
   go_ret
   exact ⟨by rw [HE.out]; rfl, (Below.refl _ _).alloc (Nat.le_refl _) _⟩
  have h1' : (o == 1) = false := by simpa using h1
  by_cases h2 : o = 2
  ·subst h2; clear hW1 hbf; go_wp2_with fail
   go_ret
   exact ⟨by rw [HE.out]; rfl, (Below.refl _ _).alloc (Nat.le_refl _) _⟩
  have h2' : (o == 2) = false := by simpa using h2
  by_cases h4 : o = 4
  ·subst h4; clear hW1 hbf; go_wp2_with fail
   go_ret
   exact ⟨by rw [HE.out]; rfl, (Below.refl _ _).alloc (Nat.le_refl _) _⟩
  have h4' : (o == 4) = false := by simpa using h4
  by_cases h5 : o = 5
  ·subst h5; clear hW1 hbf; go_wp2_with fail
   go_ret
   exact ⟨by rw [HE.out]; rfl, (Below.refl _ _).alloc (Nat.le_refl _) _⟩
  have h5' : (o == 5) = false := by simpa using h5
  by_cases h6 : o = 6
  ·subst h6; clear hW1 hbf; go_wp2_with fail
   go_ret
   exact ⟨by rw [HE.out]; rfl, (Below.refl _ _).alloc (Nat.le_refl _) _⟩
  have h6' : (o == 6) = false := by simpa using h6
  clear hW1 hbf; go_wp2_with fail
  go_ret
  exact ⟨by rw [HE.out]; rfl, (Below.refl _ _).alloc (Nat.le_refl _) _⟩
end
end Go.Proofs.YtoeknmkephnekaaGreatDoor
namespace Go.Proofs.YtoeknmkephnekaaGreatDoor
open Go.RowKit Go.Cz Go.Cz.Lx Go.Cz.Fo
attribute [local go_sem] bs_size bs_extract bs_append bs_toList
attribute [local irreducible] cList cPlan
section
variable {p : Nat -> Prop}
set_option maxHeartbeats 8000000 in
theorem node_c (w0 : World) {lim : Nat} (hlim : lim <= 140737488355328) (d : List Fact) (yd : Option Addr) (M md : Nat) (hd : IsD w0 d (.slice yd M md)) (hn : d.length <= 1000000) (hx : ∀ x ∈ d, x.name.length <= 140737488355328)
  (f : Fm) : ∀ (w : World) (kv : Value), Below w0.heap.size w0 w -> IsFm p w0 f kv -> short lim f = true -> size f <= 900000 ->
  Calls Tryz.prog 98 #[fval f kv, .agg #[.slice yd M md]] w (fun e w' => e = .returned (.int .i64 (firstF (nodeE d) f : Nat)) /\ Below w.heap.size w w') := by
 have HD := Lib.hid hd; have HX := Lib.hid hx; have HDn := Lib.hid hn; have HLim := Lib.hid hlim; clear hd hx hn hlim; refine Fm.induct (P := fun f => ∀ (w : World) (kv : Value), Below w0.heap.size w0 w -> IsFm p w0 f kv -> short lim f = true -> size f <= 900000 ->
  Calls Tryz.prog 98 #[fval f kv, .agg #[.slice yd M md]] w (fun e w' => e = .returned (.int .i64 (firstF (nodeE d) f : Nat)) /\ Below w.heap.size w w')) ?_ f
 clear f; intro f ih w kv hw hf hs hz; have HI := Lib.hid ih; have HS := Lib.hid hs; have HZ := Lib.hid hz; have HW := Lib.hid hw; have hN9 := length_sizes f.kids; rw [size_kids] at hz; obtain ⟨y, m, rfl⟩ := hf.form; obtain ⟨N, hN⟩ : ∃ N, N = f.kids.length := ⟨_, rfl⟩; have HN := Lib.hid hN; rw [<- hN] at hf ⊢; have HF := Lib.hid hf; clear hN hf; obtain ⟨W1, hW1⟩ : ∃ W1, W1 = (w.alloc (fobj f (.slice y N m))).alloc (.cells #[.slice yd M md] 45) := ⟨_, rfl⟩; obtain ⟨bf, hbf⟩ : ∃ bf, bf = w.heap.size := ⟨_, rfl⟩; obtain ⟨bd, hbd⟩ : ∃ bd, bd = w.heap.size + 1 := ⟨_, rfl⟩; have HO : Hid (Owns w W1 [blk bf (fobj f (.slice y N m)), blk bd (.cells #[.slice yd M md] 45 (0, 0))]) := by
  rw [hW1, hbf, hbd]; have := ((Owns.start w).box (fobj f (.slice y N m))).box (.cells #[.slice yd M md] 45 (0, 0)); rw [World.size_alloc] at this; exact Lib.hid this.swap
 have hN9 : N <= 900000 := by have := HN.out; omega
 clear ih hs hz hw; obtain ⟨E, hE⟩ : ∃ E, E = nodeE d f := ⟨_, rfl⟩; have HE : Hid (E = if formedB f = false then 1 else if f.op ≠ 3 then 0 else if f.num < 0 ∨ 1000000 < f.num then 10 else if idxD f.name d < 0 then 7 else 0) := hE; have HEE : Hid (E = nodeE d f) := hE; clear hE; have HBad : Hid (E ≠ 0 -> firstF (nodeE d) f = E) := fun h => by
  rw [HEE.out] at h ⊢; rw [firstF_eq, if_pos h]
 go_enter Tryz.func98, Tryz.ntmps98
 go_wp2_with fail
 rw [<- hW1, <- hbd, <- hbf]; clear hW1 hbf hbd; go_at_call 118
 refine (rformed_c f W1 _ (HF.out.later (HW.out.trans (HO.out.base.mono HW.out.size))) (Nat.le_trans (short_name HS.out) HLim.out)).mono ?_; rintro e W2 ⟨rfl, hb⟩; replace HO := Lib.hid (HO.out.below hb); clear hb; obtain ⟨F, hF⟩ : ∃ F, F = formedB f := ⟨_, rfl⟩; rw [<- hF] at HE ⊢; clear hF; cases F
 ·have HR : Hid (firstF (nodeE d) f = 1) := by
   have := HE.out; rw [if_pos rfl] at this; have h2 := HBad.out; rw [this] at h2; exact h2 (by decide)
  go_wp2_with fail
  go_ret
  exact ⟨by rw [HR.out]; rfl, HO.out.base⟩
 rw [if_neg (by simp)] at HE
 focus
  obtain ⟨hbf, -, cb0, cb1, cb2, cb3, cb4⟩ := bx5 HO.out.blk; obtain ⟨bk, -⟩ := HO.out.swap.blk; have hbd' := lt_of_block bk; have cd0 := cell_of_heap bk (i := 0); simp only [List.getElem?_toArray, List.getElem?_cons_succ, List.getElem?_cons_zero] at cd0; clear bk; by_cases h3 : f.op = 3
  ·have h3' : (f.op == 3) = true := by simpa using h3
   rw [if_neg (by simpa using h3)] at HE; by_cases hl : f.num < 0
   ·have HR : Hid (firstF (nodeE d) f = 10) := by
     have := HE.out; rw [if_pos (.inl hl)] at this; have h2 := HBad.out; rw [this] at h2; exact h2 (by decide)
    go_wp2_with fail
    go_ret
    exact ⟨by rw [HR.out]; rfl, HO.out.base⟩
   by_cases hh : 1000000 < f.num
   ·have HR : Hid (firstF (nodeE d) f = 10) := by
     have := HE.out; rw [if_pos (.inr hh)] at this; have h2 := HBad.out; rw [this] at h2; exact h2 (by decide)
    go_wp2_with fail
    go_ret
    exact ⟨by rw [HR.out]; rfl, HO.out.base⟩
   rw [if_neg (by omega)] at HE; go_wp2_with fail
   go_at_call 97
   have HWd := Lib.hid (HW.out.trans (HO.out.base.mono HW.out.size)); refine (rIndex_c d f.name _ W2 (HD.out.later HWd.out) HX.out (Nat.le_trans (short_name HS.out) HLim.out) HDn.out).mono ?_; rintro e W3 ⟨rfl, hb⟩; replace HO := Lib.hid (HO.out.below hb); obtain ⟨u, hu⟩ : ∃ u, u = idxD f.name d := ⟨_, rfl⟩; rw [<- hu] at HE ⊢; clear hu hb cb0 cb1 cb2 cb3 cb4 hbf cd0 hbd'; by_cases hu : u < 0
   ·have HR : Hid (firstF (nodeE d) f = 7) := by
     have := HE.out; rw [if_pos hu] at this; have h2 := HBad.out; rw [this] at h2; exact h2 (by decide)
    go_wp2_with fail
    go_ret
    exact ⟨by rw [HR.out]; rfl, HO.out.base⟩
   ·rw [if_neg hu] at HE; go_wp2_with fail
    have H0 : Hid (firsts (nodeE d) (f.kids.take 0) = 0) := by show _ = _; simp [firsts]
    go_loopg [5] N (fun gk i wr => ∃ k : Nat, gk = N - k /\ k <= N /\ i = .int .i64 (k : Int) /\ Hid (firsts (nodeE d) (f.kids.take k) = 0) /\ Hid (Owns w wr [blk bf (fobj f (.slice y N m)), blk bd (.cells #[.slice yd M md] 45 (0, 0))]))
    case atStart => exact ⟨0, rfl, Nat.zero_le _, rfl, H0, HO⟩
    case round =>
     rename_i J1 K1 hJ1 hK1; clear HO H0 HBad; obtain ⟨k, rfl, hk, rfl, HC, HO⟩ := hrel; have HWr := Lib.hid (HW.out.trans (HO.out.base.mono HW.out.size)); by_cases hlt : k < N
     ·obtain ⟨q, hq⟩ : ∃ q, f.kids[k]? = some q := ⟨_, List.getElem?_eq_getElem (by rw [<- HN.out]; exact hlt)⟩; have HQ := Lib.hid hq; obtain ⟨hbf, -, cb0, cb1, cb2, cb3, cb4⟩ := bx5 HO.out.blk; go_wp2_with fail
      refine wp_region_canA [6] (List.range 8) ?_; clear cb0 cb1 cb2 cb3 cb4 hbf; replace HO := Lib.hid HO.out.drew; replace HWr := Lib.hid (HW.out.trans (HO.out.base.mono HW.out.size)); obtain ⟨W5, hW5⟩ : ∃ W5, W5 = wr.drew := ⟨_, rfl⟩; rw [<- hW5] at HO HWr ⊢; clear hW5; obtain ⟨g, off, kv, rfl, hg, hkv, c0, c1, c2, c3, c4⟩ := HF.out.old HWr.out hq; obtain ⟨y2, m2, rfl⟩ := hkv.form; have HK := Lib.hid hkv; clear hq hkv; obtain ⟨N2, hN2⟩ : ∃ N2, N2 = q.kids.length := ⟨_, rfl⟩; rw [<- hN2] at c4 HK; clear hN2; obtain ⟨hbf, -, cb0, cb1, cb2, cb3, cb4⟩ := bx5 HO.out.blk; obtain ⟨bk, -⟩ := HO.out.swap.blk; have hbd' := lt_of_block bk; have cd0 := cell_of_heap bk (i := 0); simp only [List.getElem?_toArray, List.getElem?_cons_succ, List.getElem?_cons_zero] at cd0; clear bk; iterate 6 (refine cl_doA rfl rfl rfl (fun _ _ => ?_); go_wp2_with fail)
      refine cl_call (i := 6) rfl rfl rfl (fun K hK => ?_); clear cb0 cb1 cb2 cb3 cb4 hbf cd0 hbd' c0 c1 c2 c3 c4 hg; go_wp2_with fail
      go_at_call 98
      have hm := List.mem_of_getElem? HQ.out; refine (HI.out q hm W5 _ HWr.out HK.out (short_kid HS.out hm) (by have := HZ.out; rw [size_kids] at this; have := size_mem hm; omega)).mono ?_; rintro e W6 ⟨rfl, hb⟩; have Hb := Lib.hid hb; have HO6 := Lib.hid (HO.out.below hb); obtain ⟨x, hx⟩ : ∃ x, x = firstF (nodeE d) q := ⟨_, rfl⟩; rw [<- hx]; have HX2 := Lib.hid hx; clear hx hb HO hm; go_wp2_with fail
      refine And.intro Hb.out ?_; clear Hb; refine cl_do rfl rfl rfl rfl (fun _ _ => ?_); go_wp2_with fail
      refine cl_nil ?_; by_cases hx : x = 0
      ·subst hx; have HC2 : Hid (firsts (nodeE d) (f.kids.take (k + 1)) = 0) := by
        show _ = _; rw [firsts_take HQ.out, HC.out, <- HX2.out]; rfl
       clear HC HX2; go_wp2_with fail
       go_roundg (N - (k + 1))
       case measure => omega
       case rel => exact ⟨k + 1, rfl, by omega, by go_num, HC2, HO6⟩
      ·have hx' : ((x : Int) != 0) = true := by simpa using hx
       have hx2 : ¬ (x : Int) = 0 := by omega
       have HR : Hid (firstF (nodeE d) f = x) := by
        show _ = _; have h1 : firsts (nodeE d) (f.kids.take (k + 1)) = x := by
         rw [firsts_take HQ.out, HC.out, <- HX2.out]; simp
        rw [firstF_eq, <- HEE.out, HE.out, if_neg (by simp), firsts_stop (j := k + 1) (by rw [h1]; exact hx), h1]
       clear hJ1 hK1 hx; go_wp2_with fail
       go_ret
       exact ⟨by rw [HR.out]; rfl, HO6.out.base⟩
     ·obtain rfl : k = N := by omega
      have HR : Hid (firstF (nodeE d) f = 0) := by
       show _ = _; have := HC.out; rw [HN.out, List.take_length] at this; rw [firstF_eq, <- HEE.out, HE.out, if_neg (by simp), this]
      obtain ⟨hbf, -, cb0, cb1, cb2, cb3, cb4⟩ := bx5 HO.out.blk; clear hJ1 hK1 hlt; go_wp2_with fail
      go_ret
      exact ⟨by rw [HR.out]; rfl, HO.out.base⟩
  ·have h3' : (f.op == 3) = false := by simpa using h3
   rw [if_pos h3] at HE; go_wp2_with fail
   clear cb0 cb1 cb2 cb3 cb4 hbf cd0 hbd'; have H0 : Hid (firsts (nodeE d) (f.kids.take 0) = 0) := by show _ = _; simp [firsts]
   go_loopg [5] N (fun gk i wr => ∃ k : Nat, gk = N - k /\ k <= N /\ i = .int .i64 (k : Int) /\ Hid (firsts (nodeE d) (f.kids.take k) = 0) /\ Hid (Owns w wr [blk bf (fobj f (.slice y N m)), blk bd (.cells #[.slice yd M md] 45 (0, 0))]))
   case atStart => exact ⟨0, rfl, Nat.zero_le _, rfl, H0, HO⟩
   case round =>
    rename_i J1 K1 hJ1 hK1; clear HO H0 HBad; obtain ⟨k, rfl, hk, rfl, HC, HO⟩ := hrel; have HWr := Lib.hid (HW.out.trans (HO.out.base.mono HW.out.size)); by_cases hlt : k < N
    ·obtain ⟨q, hq⟩ : ∃ q, f.kids[k]? = some q := ⟨_, List.getElem?_eq_getElem (by rw [<- HN.out]; exact hlt)⟩; have HQ := Lib.hid hq; obtain ⟨hbf, -, cb0, cb1, cb2, cb3, cb4⟩ := bx5 HO.out.blk; go_wp2_with fail
     refine wp_region_canA [6] (List.range 8) ?_; clear cb0 cb1 cb2 cb3 cb4 hbf; replace HO := Lib.hid HO.out.drew; replace HWr := Lib.hid (HW.out.trans (HO.out.base.mono HW.out.size)); obtain ⟨W5, hW5⟩ : ∃ W5, W5 = wr.drew := ⟨_, rfl⟩; rw [<- hW5] at HO HWr ⊢; clear hW5; obtain ⟨g, off, kv, rfl, hg, hkv, c0, c1, c2, c3, c4⟩ := HF.out.old HWr.out hq; obtain ⟨y2, m2, rfl⟩ := hkv.form; have HK := Lib.hid hkv; clear hq hkv; obtain ⟨N2, hN2⟩ : ∃ N2, N2 = q.kids.length := ⟨_, rfl⟩; rw [<- hN2] at c4 HK; clear hN2; obtain ⟨hbf, -, cb0, cb1, cb2, cb3, cb4⟩ := bx5 HO.out.blk; obtain ⟨bk, -⟩ := HO.out.swap.blk; have hbd' := lt_of_block bk; have cd0 := cell_of_heap bk (i := 0); simp only [List.getElem?_toArray, List.getElem?_cons_succ, List.getElem?_cons_zero] at cd0; clear bk; iterate 6 (refine cl_doA rfl rfl rfl (fun _ _ => ?_); go_wp2_with fail)
     refine cl_call (i := 6) rfl rfl rfl (fun K hK => ?_); clear cb0 cb1 cb2 cb3 cb4 hbf cd0 hbd' c0 c1 c2 c3 c4 hg; go_wp2_with fail
     go_at_call 98
     have hm := List.mem_of_getElem? HQ.out; refine (HI.out q hm W5 _ HWr.out HK.out (short_kid HS.out hm) (by have := HZ.out; rw [size_kids] at this; have := size_mem hm; omega)).mono ?_; rintro e W6 ⟨rfl, hb⟩; have Hb := Lib.hid hb; have HO6 := Lib.hid (HO.out.below hb); obtain ⟨x, hx⟩ : ∃ x, x = firstF (nodeE d) q := ⟨_, rfl⟩; rw [<- hx]; have HX2 := Lib.hid hx; clear hx hb HO hm; go_wp2_with fail
     refine And.intro Hb.out ?_; clear Hb; refine cl_do rfl rfl rfl rfl (fun _ _ => ?_); go_wp2_with fail
     refine cl_nil ?_; by_cases hx : x = 0
     ·subst hx; have HC2 : Hid (firsts (nodeE d) (f.kids.take (k + 1)) = 0) := by
       show _ = _; rw [firsts_take HQ.out, HC.out, <- HX2.out]; rfl
      clear HC HX2; go_wp2_with fail
      go_roundg (N - (k + 1))
      case measure => omega
      case rel => exact ⟨k + 1, rfl, by omega, by go_num, HC2, HO6⟩
     ·have hx' : ((x : Int) != 0) = true := by simpa using hx
      have hx2 : ¬ (x : Int) = 0 := by omega
      have HR : Hid (firstF (nodeE d) f = x) := by
       show _ = _; have h1 : firsts (nodeE d) (f.kids.take (k + 1)) = x := by
        rw [firsts_take HQ.out, HC.out, <- HX2.out]; simp
       rw [firstF_eq, <- HEE.out, HE.out, if_neg (by simp), firsts_stop (j := k + 1) (by rw [h1]; exact hx), h1]
      clear hJ1 hK1 hx; go_wp2_with fail
      go_ret
      exact ⟨by rw [HR.out]; rfl, HO6.out.base⟩
    ·obtain rfl : k = N := by omega
     have HR : Hid (firstF (nodeE d) f = 0) := by
      show _ = _; have := HC.out; rw [HN.out, List.take_length] at this; rw [firstF_eq, <- HEE.out, HE.out, if_neg (by simp), this]
     obtain ⟨hbf, -, cb0, cb1, cb2, cb3, cb4⟩ := bx5 HO.out.blk; clear hJ1 hK1 hlt; go_wp2_with fail
     go_ret
     exact ⟨by rw [HR.out]; rfl, HO.out.base⟩
theorem rCheck_c (f : Fm) (w : World) (kv : Value) (d : List Fact) (v : Value) (hf : IsFm p w f kv) (hd : IsD w d v) (hn : d.length <= 1000000) (hx : ∀ x ∈ d, x.name.length <= 140737488355328) {lim : Nat} (hlim : lim <= 140737488355328) (hs : short lim f = true) (hz : size f <= 900000) :
  Calls Tryz.prog 63 #[fval f kv, .agg #[v]] w (fun e w' => e = .returned (.int .i64 (checkF d f : Nat)) /\ Below w.heap.size w w') := by
 have HS := Lib.hid hs; have HLim := Lib.hid hlim; have HD := Lib.hid hd; have HX := Lib.hid hx; have HDn := Lib.hid hn; have HZ := Lib.hid hz; obtain ⟨yd, md, hv⟩ := HD.out.form; subst hv; obtain ⟨M, hM⟩ : ∃ M, M = d.length := ⟨_, rfl⟩; rw [<- hM] at HD ⊢; clear hs hd hx hn hz hM hlim; obtain ⟨y, m, rfl⟩ := hf.form; obtain ⟨N, hN⟩ : ∃ N, N = f.kids.length := ⟨_, rfl⟩; have HN := Lib.hid hN; rw [<- hN] at hf ⊢; have HF := Lib.hid hf; clear hN hf; obtain ⟨W1, hW1⟩ : ∃ W1, W1 = (w.alloc (fobj f (.slice y N m))).alloc (.cells #[.slice yd M md] 45) := ⟨_, rfl⟩; obtain ⟨bf, hbf⟩ : ∃ bf, bf = w.heap.size := ⟨_, rfl⟩; obtain ⟨bd, hbd⟩ : ∃ bd, bd = w.heap.size + 1 := ⟨_, rfl⟩; have HO : Hid (Owns w W1 [blk bf (fobj f (.slice y N m)), blk bd (.cells #[.slice yd M md] 45 (0, 0))]) := by
  rw [hW1, hbf, hbd]; have := ((Owns.start w).box (fobj f (.slice y N m))).box (.cells #[.slice yd M md] 45 (0, 0)); rw [World.size_alloc] at this; exact Lib.hid this.swap
 have HE : Hid (checkF d f = if largeB f = true then 2 else firstF (nodeE d) f) := rfl; go_enter Tryz.func63, Tryz.ntmps63
 go_wp2_with fail
 rw [<- hW1, <- hbd, <- hbf]; clear hW1 hbf hbd; go_at_call 87
 refine (rLarge_c f W1 _ (HF.out.later HO.out.base) HZ.out).mono ?_; rintro e W2 ⟨rfl, hb⟩; replace HO := Lib.hid (HO.out.below hb); clear hb; obtain ⟨L, hL⟩ : ∃ L, L = largeB f := ⟨_, rfl⟩; rw [<- hL] at HE ⊢; clear hL; cases L
 ·rw [if_neg (by simp)] at HE; obtain ⟨hbf, -, cb0, cb1, cb2, cb3, cb4⟩ := bx5 HO.out.blk; obtain ⟨bk, -⟩ := HO.out.swap.blk; have hbd' := lt_of_block bk; have cd0 := cell_of_heap bk (i := 0); simp only [List.getElem?_toArray, List.getElem?_cons_succ, List.getElem?_cons_zero] at cd0; clear bk; go_wp2_with fail
  go_at_call 98
  refine (node_c (p := p) w HLim.out d yd M md HD.out HDn.out HX.out f W2 _ HO.out.base HF.out HS.out HZ.out).mono ?_; rintro e W3 ⟨rfl, hb⟩; replace HO := Lib.hid (HO.out.below hb); clear hb cb0 cb1 cb2 cb3 cb4 hbf cd0 hbd'; go_wp2_with fail
  go_ret
  exact ⟨by rw [HE.out]; rfl, HO.out.base⟩
 ·rw [if_pos rfl] at HE; go_wp2_with fail
  go_ret
  exact ⟨by rw [HE.out]; rfl, HO.out.base⟩
end
end Go.Proofs.YtoeknmkephnekaaGreatDoor
namespace Go.Proofs.YtoeknmkephnekaaGreatDoor
open Go.RowKit Go.Cz Go.Cz.Lx Go.Cz.Fo Go.Cz.Vd
open Go.Cz.Wn (datedB)
attribute [local go_sem] bs_size bs_extract bs_append bs_toList
attribute [local irreducible] cList cPlan
set_option maxHeartbeats 4000000 in
theorem rNamed_c (m : Me) (y : Option Addr) (n c : Nat) (w : World) (hl : MeLen m) : Calls Tryz.prog 53 #[mval m (.slice y n c)] w fun e w' => e = .returned (.bool (namedM m)) /\ Below w.heap.size w w' := by
 have HL := Lib.hid hl; clear hl; obtain ⟨bx, hbx⟩ : ∃ bx, bx = w.heap.size := ⟨_, rfl⟩; obtain ⟨W1, hW1⟩ : ∃ W1, W1 = w.alloc (mobj m (.slice y n c)) := ⟨_, rfl⟩; have HO : Hid (Owns w W1 [blk bx (mobj m (.slice y n c))]) := by
  rw [hW1, hbx]; exact Lib.hid ((Owns.start w).box _)
 go_enter Tryz.func53, Tryz.ntmps53
 go_wp2_with fail
 rw [<- hW1, <- hbx]; clear hW1 hbx
 (try clear hx0 c0 c1 c2 c3)
 obtain ⟨hx0, -, c0, c1, c2, c3⟩ := bx4 HO.out.blk; go_wp2_with fail
 go_at_call 90
 refine (rName_c m.id W1 HL.out.id).mono ?_; rintro e W2 ⟨rfl, hb⟩; obtain rfl : W2 = W1 := hb
 (try clear hx0 c0 c1 c2 c3)
 obtain ⟨hx0, -, c0, c1, c2, c3⟩ := bx4 HO.out.blk; obtain ⟨a, ha⟩ : ∃ q, q = nameB m.id := ⟨_, rfl⟩; rw [<- ha]; replace ha := Lib.hid ha; cases a
 ·have HE : Hid (namedM m = false) := by
   show _ = _; unfold namedM; rw [<- ha.out]; simp
  go_wp2_with fail
  all_goals (go_ret; exact ⟨by rw [HE.out]; rfl, HO.out.base⟩)
 go_wp2_with fail
 go_at_call 90
 refine (rName_c m.auth W2 HL.out.auth).mono ?_; rintro e W3 ⟨rfl, hb⟩; obtain rfl : W3 = W2 := hb
 (try clear hx0 c0 c1 c2 c3)
 obtain ⟨hx0, -, c0, c1, c2, c3⟩ := bx4 HO.out.blk; obtain ⟨b, hb⟩ : ∃ q, q = nameB m.auth := ⟨_, rfl⟩; rw [<- hb]; replace hb := Lib.hid hb; cases b
 ·have HE : Hid (namedM m = false) := by
   show _ = _; unfold namedM; rw [<- hb.out]; simp
  go_wp2_with fail
  all_goals (go_ret; exact ⟨by rw [HE.out]; rfl, HO.out.base⟩)
 by_cases k : m.kind = 1
 ·have k1 : (m.kind == 1) = true := by simpa using k
  have HE : Hid (namedM m = decide (m.target = [])) := by
   show _ = _; unfold namedM; rw [<- ha.out, <- hb.out, if_pos k]; rfl
  clear k; go_wp2_with fail
  go_ret
  exact ⟨congrArg (fun b => Ending.returned (Value.bool b)) (show List.isEmpty m.target = namedM m by rw [HE.out]; cases m.target <;> simp), HO.out.base⟩
 have k1 : (m.kind == 1) = false := by simpa using k
 clear k; by_cases k : m.kind = 2
 ·have k2 : (m.kind == 2) = true := by simpa using k
  have HK : Hid (namedM m = (nameB m.target && decide (m.target ≠ m.id))) := by
   show _ = _; unfold namedM; rw [<- ha.out, <- hb.out, k]; simp
  clear k; go_wp2_with fail
  go_at_call 90
  refine (rName_c m.target W3 HL.out.target).mono ?_; rintro e W4 ⟨rfl, hb⟩; obtain rfl : W4 = W3 := hb
  (try clear hx0 c0 c1 c2 c3)
  obtain ⟨hx0, -, c0, c1, c2, c3⟩ := bx4 HO.out.blk; obtain ⟨p, hp⟩ : ∃ q, q = nameB m.target := ⟨_, rfl⟩; rw [<- hp]; replace hp := Lib.hid hp; cases p
  ·have HE : Hid (namedM m = false) := by
    show _ = _; rw [HK.out, <- hp.out]; rfl
   go_wp2_with fail
   go_ret
   exact ⟨by rw [HE.out]; rfl, HO.out.base⟩
  go_wp2_with fail
  go_ret
  exact ⟨congrArg (fun b => Ending.returned (Value.bool b)) (show (!(m.target == m.id)) = namedM m by rw [HK.out, <- hp.out]; by_cases e : m.target = m.id <;> simp [e]), HO.out.base⟩
 have k2 : (m.kind == 2) = false := by simpa using k
 clear k; by_cases k : m.kind = 3
 ·have k3 : (m.kind == 3) = true := by simpa using k
  have HK : Hid (namedM m = (nameB m.target && decide (m.target ≠ m.auth))) := by
   show _ = _; unfold namedM; rw [<- ha.out, <- hb.out, k]; simp
  clear k; go_wp2_with fail
  go_at_call 90
  refine (rName_c m.target W3 HL.out.target).mono ?_; rintro e W4 ⟨rfl, hb⟩; obtain rfl : W4 = W3 := hb
  (try clear hx0 c0 c1 c2 c3)
  obtain ⟨hx0, -, c0, c1, c2, c3⟩ := bx4 HO.out.blk; obtain ⟨p, hp⟩ : ∃ q, q = nameB m.target := ⟨_, rfl⟩; rw [<- hp]; replace hp := Lib.hid hp; cases p
  ·have HE : Hid (namedM m = false) := by
    show _ = _; rw [HK.out, <- hp.out]; rfl
   go_wp2_with fail
   go_ret
   exact ⟨by rw [HE.out]; rfl, HO.out.base⟩
  go_wp2_with fail
  go_ret
  exact ⟨congrArg (fun b => Ending.returned (Value.bool b)) (show (!(m.target == m.auth)) = namedM m by rw [HK.out, <- hp.out]; by_cases e : m.target = m.auth <;> simp [e]), HO.out.base⟩
 have k3 : (m.kind == 3) = false := by simpa using k
 clear k; have HE : Hid (namedM m = false) := by
  show _ = _; unfold namedM; rw [if_neg (by simpa using k1), if_neg (by simpa using k2), if_neg (by simpa using k3)]; simp
 go_wp2_with fail
 go_ret
 exact ⟨by rw [HE.out]; rfl, HO.out.base⟩
set_option maxHeartbeats 4000000 in
theorem rDated30_c (m : Me) (y : Option Addr) (n c : Nat) (w : World) : Calls Tryz.prog 54 #[mval m (.slice y n c)] w fun e w' => e = .returned (.bool (datedB m.kind m.fr m.un m.wi)) /\ Below w.heap.size w w' := by
 go_enter Tryz.func54, Tryz.ntmps54
 go_wp2_with fail
 all_goals go_ret
 all_goals refine ⟨congrArg (fun b => Ending.returned (Value.bool b)) ?_, (Below.refl _ _).alloc (Nat.le_refl _) _⟩
 all_goals rw [Bool.eq_iff_iff]
 all_goals simp only [datedB, Go.Cz.Wn.dayB, Bool.and_eq_true, Bool.or_eq_true, decide_eq_true_eq, beq_iff_eq, beq_eq_false_iff_ne, bne_eq_false_iff_eq, bne_iff_ne, Bool.false_eq_true, false_iff, true_iff] at *
 all_goals omega
set_option maxHeartbeats 4000000 in
theorem rValid30_c (d : List Fact) (vd : Value) (m : Me) (kv : Value) (w : World) (hd : IsD w d vd) (hf : IsFm (fun _ => True) w m.cond kv) (hD : DoLen d) (hM : MeLen m) (hC : CoLen m.cond) :
  Calls Tryz.prog 22 #[mval m kv, .agg #[vd]] w fun e w' => e = .returned (.int .i64 (validM d m : Nat)) /\ Below w.heap.size w w' := by
 have HD := Lib.hid hd; have HF := Lib.hid hf; have HDL := Lib.hid hD; have HML := Lib.hid hM; have HCL := Lib.hid hC; obtain ⟨y, c, rfl⟩ := hf.form; obtain ⟨n, hn⟩ : ∃ n, n = m.cond.kids.length := ⟨_, rfl⟩; rw [<- hn] at HF ⊢; clear hd hf hD hM hC hn; obtain ⟨bx, hbx⟩ : ∃ bx, bx = w.heap.size := ⟨_, rfl⟩; obtain ⟨by0, hby⟩ : ∃ by0, by0 = w.heap.size + 1 := ⟨_, rfl⟩; obtain ⟨W1, hW1⟩ : ∃ W1, W1 = (w.alloc (mobj m (.slice y n c))).alloc (.cells #[vd] 45) := ⟨_, rfl⟩; have HO : Hid (Owns w W1 [blk bx (mobj m (.slice y n c)), blk by0 (.cells #[vd] 45 (0, 0))]) := by
  have h := ((Owns.start w).box (mobj m (.slice y n c))).box (.cells #[vd] 45 (0, 0)); rw [World.size_alloc] at h; rw [hW1, hbx, hby]; exact Lib.hid h.swap
 go_enter Tryz.func22, Tryz.ntmps22
 go_wp2_with fail
 rw [<- hW1, <- hby, <- hbx]; clear hW1 hby hbx
 (try clear hx0 c0 c1 c2 c3 c4 c5 c6 c7 c8 c9 c10 c11)
 (try clear hy0 cd)
 obtain ⟨bk, -⟩ := HO.out.blk; obtain ⟨bd, -⟩ := HO.out.swap.blk; have hx0 := lt_of_block bk; have hy0 := lt_of_block bd; have cd : W1.cell? ⟨by0, 0, none⟩ = some vd := by rw [cell_of_heap bd]; rfl
 have c0 : W1.cell? ⟨bx, 0, none⟩ = some (.string (bs m.id)) := by rw [cell_of_heap bk]; rfl
 have c1 : W1.cell? ⟨bx, 1, none⟩ = some (.string (bs m.auth)) := by rw [cell_of_heap bk]; rfl
 have c2 : W1.cell? ⟨bx, 2, none⟩ = some (.int .i64 m.kind) := by rw [cell_of_heap bk]; rfl
 have c3 : W1.cell? ⟨bx, 3, none⟩ = some (.string (bs m.target)) := by rw [cell_of_heap bk]; rfl
 have c4 : W1.cell? ⟨bx, 4, none⟩ = some (.int .i64 m.cond.op) := by rw [cell_of_heap bk]; rfl
 have c5 : W1.cell? ⟨bx, 5, none⟩ = some (.string (bs m.cond.name)) := by rw [cell_of_heap bk]; rfl
 have c6 : W1.cell? ⟨bx, 6, none⟩ = some (.int .i64 m.cond.cmp) := by rw [cell_of_heap bk]; rfl
 have c7 : W1.cell? ⟨bx, 7, none⟩ = some (.int .i64 m.cond.num) := by rw [cell_of_heap bk]; rfl
 have c8 : W1.cell? ⟨bx, 8, none⟩ = some (.slice y n c) := by rw [cell_of_heap bk]; rfl
 have c9 : W1.cell? ⟨bx, 9, none⟩ = some (.int .i64 m.fr) := by rw [cell_of_heap bk]; rfl
 have c10 : W1.cell? ⟨bx, 10, none⟩ = some (.int .i64 m.un) := by rw [cell_of_heap bk]; rfl
 have c11 : W1.cell? ⟨bx, 11, none⟩ = some (.int .i64 m.wi) := by rw [cell_of_heap bk]; rfl
 clear bk bd; go_wp2_with fail
 go_at_call 62
 refine (rfactValid_c d vd W1 (HD.out.later HO.out.base) HDL.out.len HDL.out.names).mono ?_; rintro e W2 ⟨rfl, hb⟩; replace HO := Lib.hid (HO.out.below hb); clear hb
 (try clear hx0 c0 c1 c2 c3 c4 c5 c6 c7 c8 c9 c10 c11)
 (try clear hy0 cd)
 obtain ⟨bk, -⟩ := HO.out.blk; obtain ⟨bd, -⟩ := HO.out.swap.blk; have hx0 := lt_of_block bk; have hy0 := lt_of_block bd; have cd : W2.cell? ⟨by0, 0, none⟩ = some vd := by rw [cell_of_heap bd]; rfl
 have c0 : W2.cell? ⟨bx, 0, none⟩ = some (.string (bs m.id)) := by rw [cell_of_heap bk]; rfl
 have c1 : W2.cell? ⟨bx, 1, none⟩ = some (.string (bs m.auth)) := by rw [cell_of_heap bk]; rfl
 have c2 : W2.cell? ⟨bx, 2, none⟩ = some (.int .i64 m.kind) := by rw [cell_of_heap bk]; rfl
 have c3 : W2.cell? ⟨bx, 3, none⟩ = some (.string (bs m.target)) := by rw [cell_of_heap bk]; rfl
 have c4 : W2.cell? ⟨bx, 4, none⟩ = some (.int .i64 m.cond.op) := by rw [cell_of_heap bk]; rfl
 have c5 : W2.cell? ⟨bx, 5, none⟩ = some (.string (bs m.cond.name)) := by rw [cell_of_heap bk]; rfl
 have c6 : W2.cell? ⟨bx, 6, none⟩ = some (.int .i64 m.cond.cmp) := by rw [cell_of_heap bk]; rfl
 have c7 : W2.cell? ⟨bx, 7, none⟩ = some (.int .i64 m.cond.num) := by rw [cell_of_heap bk]; rfl
 have c8 : W2.cell? ⟨bx, 8, none⟩ = some (.slice y n c) := by rw [cell_of_heap bk]; rfl
 have c9 : W2.cell? ⟨bx, 9, none⟩ = some (.int .i64 m.fr) := by rw [cell_of_heap bk]; rfl
 have c10 : W2.cell? ⟨bx, 10, none⟩ = some (.int .i64 m.un) := by rw [cell_of_heap bk]; rfl
 have c11 : W2.cell? ⟨bx, 11, none⟩ = some (.int .i64 m.wi) := by rw [cell_of_heap bk]; rfl
 clear bk bd; obtain ⟨q, hq⟩ : ∃ q, q = validD d := ⟨_, rfl⟩; rw [<- hq]; have HQ := Lib.hid hq; clear hq; cases q
 ·have HE : Hid (validM d m = 1) := by
   show _ = _; unfold validM; rw [<- HQ.out]; simp
  go_wp2_with fail
  go_ret
  exact ⟨by rw [HE.out]; rfl, HO.out.base⟩
 go_wp2_with fail
 go_at_call 53
 refine (rNamed_c m y n c W2 HML.out).mono ?_; rintro e W3 ⟨rfl, hb⟩; replace HO := Lib.hid (HO.out.below hb); clear hb
 (try clear hx0 c0 c1 c2 c3 c4 c5 c6 c7 c8 c9 c10 c11)
 (try clear hy0 cd)
 obtain ⟨bk, -⟩ := HO.out.blk; obtain ⟨bd, -⟩ := HO.out.swap.blk; have hx0 := lt_of_block bk; have hy0 := lt_of_block bd; have cd : W3.cell? ⟨by0, 0, none⟩ = some vd := by rw [cell_of_heap bd]; rfl
 have c0 : W3.cell? ⟨bx, 0, none⟩ = some (.string (bs m.id)) := by rw [cell_of_heap bk]; rfl
 have c1 : W3.cell? ⟨bx, 1, none⟩ = some (.string (bs m.auth)) := by rw [cell_of_heap bk]; rfl
 have c2 : W3.cell? ⟨bx, 2, none⟩ = some (.int .i64 m.kind) := by rw [cell_of_heap bk]; rfl
 have c3 : W3.cell? ⟨bx, 3, none⟩ = some (.string (bs m.target)) := by rw [cell_of_heap bk]; rfl
 have c4 : W3.cell? ⟨bx, 4, none⟩ = some (.int .i64 m.cond.op) := by rw [cell_of_heap bk]; rfl
 have c5 : W3.cell? ⟨bx, 5, none⟩ = some (.string (bs m.cond.name)) := by rw [cell_of_heap bk]; rfl
 have c6 : W3.cell? ⟨bx, 6, none⟩ = some (.int .i64 m.cond.cmp) := by rw [cell_of_heap bk]; rfl
 have c7 : W3.cell? ⟨bx, 7, none⟩ = some (.int .i64 m.cond.num) := by rw [cell_of_heap bk]; rfl
 have c8 : W3.cell? ⟨bx, 8, none⟩ = some (.slice y n c) := by rw [cell_of_heap bk]; rfl
 have c9 : W3.cell? ⟨bx, 9, none⟩ = some (.int .i64 m.fr) := by rw [cell_of_heap bk]; rfl
 have c10 : W3.cell? ⟨bx, 10, none⟩ = some (.int .i64 m.un) := by rw [cell_of_heap bk]; rfl
 have c11 : W3.cell? ⟨bx, 11, none⟩ = some (.int .i64 m.wi) := by rw [cell_of_heap bk]; rfl
 clear bk bd; obtain ⟨q, hq⟩ : ∃ q, q = namedM m := ⟨_, rfl⟩; rw [<- hq]; have HP := Lib.hid hq; clear hq; cases q
 ·have HE : Hid (validM d m = 1) := by
   show _ = _; unfold validM; rw [<- HQ.out, <- HP.out]; simp
  go_wp2_with fail
  go_ret
  exact ⟨by rw [HE.out]; rfl, HO.out.base⟩
 go_wp2_with fail
 go_at_call 54
 refine (rDated30_c m y n c W3).mono ?_; rintro e W4 ⟨rfl, hb⟩; replace HO := Lib.hid (HO.out.below hb); clear hb
 (try clear hx0 c0 c1 c2 c3 c4 c5 c6 c7 c8 c9 c10 c11)
 (try clear hy0 cd)
 obtain ⟨bk, -⟩ := HO.out.blk; obtain ⟨bd, -⟩ := HO.out.swap.blk; have hx0 := lt_of_block bk; have hy0 := lt_of_block bd; have cd : W4.cell? ⟨by0, 0, none⟩ = some vd := by rw [cell_of_heap bd]; rfl
 have c0 : W4.cell? ⟨bx, 0, none⟩ = some (.string (bs m.id)) := by rw [cell_of_heap bk]; rfl
 have c1 : W4.cell? ⟨bx, 1, none⟩ = some (.string (bs m.auth)) := by rw [cell_of_heap bk]; rfl
 have c2 : W4.cell? ⟨bx, 2, none⟩ = some (.int .i64 m.kind) := by rw [cell_of_heap bk]; rfl
 have c3 : W4.cell? ⟨bx, 3, none⟩ = some (.string (bs m.target)) := by rw [cell_of_heap bk]; rfl
 have c4 : W4.cell? ⟨bx, 4, none⟩ = some (.int .i64 m.cond.op) := by rw [cell_of_heap bk]; rfl
 have c5 : W4.cell? ⟨bx, 5, none⟩ = some (.string (bs m.cond.name)) := by rw [cell_of_heap bk]; rfl
 have c6 : W4.cell? ⟨bx, 6, none⟩ = some (.int .i64 m.cond.cmp) := by rw [cell_of_heap bk]; rfl
 have c7 : W4.cell? ⟨bx, 7, none⟩ = some (.int .i64 m.cond.num) := by rw [cell_of_heap bk]; rfl
 have c8 : W4.cell? ⟨bx, 8, none⟩ = some (.slice y n c) := by rw [cell_of_heap bk]; rfl
 have c9 : W4.cell? ⟨bx, 9, none⟩ = some (.int .i64 m.fr) := by rw [cell_of_heap bk]; rfl
 have c10 : W4.cell? ⟨bx, 10, none⟩ = some (.int .i64 m.un) := by rw [cell_of_heap bk]; rfl
 have c11 : W4.cell? ⟨bx, 11, none⟩ = some (.int .i64 m.wi) := by rw [cell_of_heap bk]; rfl
 clear bk bd; obtain ⟨q, hq⟩ : ∃ q, q = datedB m.kind m.fr m.un m.wi := ⟨_, rfl⟩; rw [<- hq]; have HT := Lib.hid hq; clear hq; cases q
 ·have HE : Hid (validM d m = 10) := by
   show _ = _; unfold validM; rw [<- HQ.out, <- HP.out, <- HT.out]; simp
  go_wp2_with fail
  go_ret
  exact ⟨by rw [HE.out]; rfl, HO.out.base⟩
 go_wp2_with fail
 go_at_call 63
 refine (rCheck_c m.cond W4 (.slice y n c) d vd (HF.out.later HO.out.base) (HD.out.later HO.out.base) HDL.out.len HDL.out.names (Nat.le_refl _) HCL.out.names HCL.out.size).mono ?_; rintro e W5 ⟨rfl, hb⟩; replace HO := Lib.hid (HO.out.below hb); clear hb; have HE : Hid (validM d m = checkF d m.cond) := by
  show _ = _; unfold validM; rw [<- HQ.out, <- HP.out, <- HT.out]; simp
 go_wp2_with fail
 go_ret
 exact ⟨by rw [HE.out]; rfl, HO.out.base⟩
end Go.Proofs.YtoeknmkephnekaaGreatDoor
namespace Go.Cz.Fo
open Go.Cz.Lx
theorem ten_piece {i : Nat} (h : i < 10) : (({ data := #[48, 49, 50, 51, 52, 53, 54, 55, 56, 57] } : ByteArray).extract i (i + 1)) = bs [UInt8.ofNat (48 + i)] := by
 have : ∀ i : Fin 10, (({ data := #[48, 49, 50, 51, 52, 53, 54, 55, 56, 57] } : ByteArray).extract i.1 (i.1 + 1)) = bs [UInt8.ofNat (48 + i.1)] := by decide +kernel
 exact this ⟨i, h⟩
def decTo (N m : Nat) (l : List UInt8) : Prop := Lib.decDigits N = (if m = 0 then [] else Lib.decDigits m) ++ l
theorem decTo_start (N : Nat) : decTo N (N / 10) [UInt8.ofNat (48 + N % 10)] := by
 unfold decTo; rw [Lib.decDigits]
 split
 ·rw [if_pos (by omega), Nat.mod_eq_of_lt ‹_›]; rfl
 ·rw [if_neg (by omega)]
theorem decTo_step {N m : Nat} {l : List UInt8} (h : decTo N m l) (hm : 0 < m) : decTo N (m / 10) (UInt8.ofNat (48 + m % 10) :: l) := by
 unfold decTo at h ⊢; rw [if_neg (by omega)] at h; rw [h, show Lib.decDigits m = (if m / 10 = 0 then [] else Lib.decDigits (m / 10)) ++ [UInt8.ofNat (48 + m % 10)] from decTo_start m]; simp
theorem decTo_len {N m : Nat} {l : List UInt8} (h : decTo N m l) (hN : N <= 1000000000) : l.length <= 20 := by
 have h1 := dec_le 9 N (by rw [show 10 ^ (9 + 1) = 10000000000 by decide]; omega); unfold decTo at h; rw [h, List.length_append] at h1; omega
theorem firsts_take0 {look : Fm -> Nat} {ks : List Fm} {k : Nat} {q : Fm} (h : ks[k]? = some q) (h1 : firsts look (ks.take k) = 0) (h2 : firstF look q = 0) : firsts look (ks.take (k + 1)) = 0 := by
 rw [firsts_zero] at h1 ⊢; intro r hr; rw [List.take_add_one, h] at hr; rcases List.mem_append.1 hr with hr | hr
 ·exact h1 r hr
 ·obtain rfl : r = q := by simpa using hr
  exact h2
def accF (o : Int) (L : List Bytes) (k : Nat) : Bytes := if o = 4 then (if k = 0 then [] else [110, 111, 116, 32] ++ joinB [] (L.take k)) else if o = 5 then joinB [32, 97, 110, 100, 32] (L.take k) else joinB [32, 111, 114, 32] (L.take k)
theorem acc_and {L : List Bytes} {k : Nat} {t : Bytes} (h : L[k]? = some t) : accF 5 L (k + 1) = accF 5 L k ++ (if 0 < k then [32, 97, 110, 100, 32] ++ t else t) := by
 have hk := (List.getElem?_eq_some_iff.1 h).1; unfold accF; rw [if_neg (by decide), if_pos rfl, if_neg (by decide), if_pos rfl, List.take_add_one, h]; simp only [Option.toList_some]; rw [joinB_snoc]; cases k with
 | zero => simp [joinB]
 | succ k =>
  rw [if_neg (by intro h0; have := congrArg List.length h0; simp only [List.length_take, List.length_nil] at this; omega), if_pos (by omega)]
theorem acc_or {L : List Bytes} {k : Nat} {t : Bytes} (h : L[k]? = some t) : accF 6 L (k + 1) = accF 6 L k ++ (if 0 < k then [32, 111, 114, 32] ++ t else t) := by
 have hk := (List.getElem?_eq_some_iff.1 h).1; unfold accF; rw [if_neg (by decide), if_neg (by decide), if_neg (by decide), if_neg (by decide), List.take_add_one, h]; simp only [Option.toList_some]; rw [joinB_snoc]; cases k with
 | zero => simp [joinB]
 | succ k =>
  rw [if_neg (by intro h0; have := congrArg List.length h0; simp only [List.length_take, List.length_nil] at this; omega), if_pos (by omega)]
theorem acc_le4 {L : List Bytes} {k N : Nat} (hN : N = 1) (hk : k <= N) : (accF 4 L k).length <= (accF 4 L N).length := by
 subst hN; rcases (show k = 0 ∨ k = 1 by omega) with rfl | rfl
 ·simp [accF]
 ·exact Nat.le_refl _
theorem acc_le5 {L : List Bytes} {k N : Nat} (hN : L.length = N) : (accF 5 L k).length <= (accF 5 L N).length := by
 have e : ∀ k, accF 5 L k = joinB [32, 97, 110, 100, 32] (L.take k) := fun k => by simp [accF]
 rw [e, e, <- hN, List.take_length]; exact joinB_take _ _ _
theorem acc_le6 {L : List Bytes} {k N : Nat} (hN : L.length = N) : (accF 6 L k).length <= (accF 6 L N).length := by
 have e : ∀ k, accF 6 L k = joinB [32, 111, 114, 32] (L.take k) := fun k => by simp [accF]
 rw [e, e, <- hN, List.take_length]; exact joinB_take _ _ _
theorem acc_not {L : List Bytes} {t : Bytes} {k : Nat} (hk : k = 0) (h : L[k]? = some t) : accF 4 L (k + 1) = accF 4 L k ++ ([110, 111, 116, 32] ++ t) := by
 subst hk; unfold accF; rw [if_pos rfl, if_neg (by decide), List.take_add_one, h]; simp [joinB]
end Go.Cz.Fo
namespace Go.Proofs.YtoeknmkephnekaaGreatDoor
open Go.RowKit Go.Cz Go.Cz.Lx Go.Cz.Fo
attribute [local go_sem] bs_size bs_extract bs_append bs_toList
attribute [local irreducible] cList cPlan
set_option maxHeartbeats 2000000 in
theorem rdigits_c (N : Nat) (w : World) (hN : N <= 1000000000) : Calls Tryz.prog 91 #[.int .u64 (N : Int)] w fun e w' => e = .returned (.string (bs (Lib.decDigits N))) /\ w' = w := by
 have hm10 : N % 10 < 10 := Nat.mod_lt _ (by omega); have H0 := Lib.hid (decTo_start N); have P0 := Lib.hid (ten_piece hm10); go_enter Tryz.func91, Tryz.ntmps91
 go_wp2_with fail
 rw [P0.out]; clear hm10 P0; go_loopg [0, 3] (N / 10) (fun gk m s wr => ∃ (k : Nat) (l : List UInt8), gk = k /\ wr = w /\ k <= N /\ m = .int .u64 (k : Int) /\ s = .string (bs l) /\ Hid (decTo N k l))
 case atStart => exact ⟨N / 10, _, rfl, rfl, by omega, by go_num, rfl, H0⟩
 case round =>
  rename_i J1 K1 hJ1 hK1; clear H0; obtain ⟨k, l, rfl, rfl, hk, rfl, rfl, hv⟩ := hrel; have hl := decTo_len hv.out hN; by_cases h0 : 0 < gk
  ·have hm10 : gk % 10 < 10 := Nat.mod_lt _ (by omega); have P1 := Lib.hid (ten_piece hm10); have HS := Lib.hid (decTo_step hv.out h0); go_wp2_with fail
   rw [P1.out]; go_roundg (gk / 10)
   case measure => omega
   case rel => exact ⟨gk / 10, _, rfl, rfl, by omega, by go_num, by rw [bs_append]; rfl, HS⟩
  ·obtain rfl : gk = 0 := by omega
   have He : Hid (Lib.decDigits N = l) := hv.out; clear hJ1 hK1 hv; go_wp2_with fail
   go_ret
   exact ⟨by rw [He.out]; rfl, rfl⟩
set_option maxHeartbeats 1000000 in
theorem Decimal_c (N : Nat) (w : World) (hN : N <= 1000000000) : Calls Tryz.prog 55 #[.int .i64 (N : Int)] w fun e w' => e = .returned (.string (bs (Lib.decDigits N))) /\ w' = w := by
 go_enter Tryz.func55, Tryz.ntmps55
 go_wp2_with fail
 go_at_call 91
 refine (rdigits_c N w hN).mono ?_; rintro e w1 ⟨rfl, rfl⟩; go_wp2_with fail
 go_ret
 exact ⟨rfl, rfl⟩
abbrev symObj : Obj := .cells #[.string ⟨#[]⟩, .string ⟨#[61]⟩, .string ⟨#[33, 61]⟩, .string ⟨#[60]⟩, .string ⟨#[60, 61]⟩, .string ⟨#[62]⟩, .string ⟨#[62, 61]⟩] 9 (0, 0)
theorem comparisons_c (w : World) : Calls Tryz.prog 119 #[] w fun e w' => ∃ g, e = .returned (.slice (some ⟨g, 0, none⟩) 7 7) /\ g = w.heap.size /\ w' = w.alloc (.cells #[.string ⟨#[]⟩, .string ⟨#[61]⟩, .string ⟨#[33, 61]⟩, .string ⟨#[60]⟩, .string ⟨#[60, 61]⟩, .string ⟨#[62]⟩, .string ⟨#[62, 61]⟩] 9) := by
 go_enter Tryz.func119, Tryz.ntmps119
 go_wp2_with fail
 go_ret
 exact ⟨_, rfl, rfl, rfl⟩
section
variable {p : Nat -> Prop}
set_option maxHeartbeats 2000000 in
theorem writable_c {lim : Nat} (hlim : lim <= 140737488355328) (f : Fm) : ∀ (w : World) (kv : Value), IsFm p w f kv -> sizes f.kids <= 900000 -> short lim f = true ->
  Calls Tryz.prog 88 #[fval f kv] w (fun e w' => e = .returned (.bool (decide (firstF badE f = 0))) /\ Below w.heap.size w w') := by
 refine Fm.induct (P := fun f => ∀ (w : World) (kv : Value), IsFm p w f kv -> sizes f.kids <= 900000 -> short lim f = true ->
  Calls Tryz.prog 88 #[fval f kv] w (fun e w' => e = .returned (.bool (decide (firstF badE f = 0))) /\ Below w.heap.size w w')) ?_ f
 clear f; intro f ih w kv hf hs hsh; have HI := Lib.hid ih; have HS := Lib.hid hs; have hS := length_sizes f.kids; rw [short_kids, Bool.and_eq_true, decide_eq_true_eq] at hsh; have HSh := Lib.hid hsh.1; have hnl : f.name.length <= 140737488355328 := by omega
 have HNl := Lib.hid hnl; clear hsh hnl; obtain ⟨y, m, rfl⟩ := hf.form; obtain ⟨N, hN⟩ : ∃ N, N = f.kids.length := ⟨_, rfl⟩; have HN := Lib.hid hN; rw [<- hN] at hf ⊢; have HF := Lib.hid hf; clear hN hf; obtain ⟨W1, hW1⟩ : ∃ W1, W1 = w.alloc (fobj f (.slice y N m)) := ⟨_, rfl⟩; obtain ⟨bf, hbf⟩ : ∃ bf, bf = w.heap.size := ⟨_, rfl⟩; have HO : Hid (Owns w W1 [blk bf (fobj f (.slice y N m))]) := by
  rw [hW1, hbf]; exact Lib.hid ((Owns.start w).box _)
 have hN9 : N <= 900000 := by have := HN.out; omega
 clear hS hs ih; have HB : Hid (badE f = if formedB f = false ∨ (f.op = 3 /\ (f.num < 0 ∨ 1000000 < f.num)) then 1 else 0) := rfl; have HF0 : Hid (badE f ≠ 0 -> decide (firstF badE f = 0) = false) := Lib.hid fun h => by
  rw [decide_eq_false_iff_not, firstF_zero]; exact fun h2 => h h2.1
 go_enter Tryz.func88, Tryz.ntmps88
 go_wp2_with fail
 rw [<- hW1]
 try rw [<- hbf]
 clear hW1 hbf; go_at_call 118
 refine (rformed_c f W1 _ (HF.out.later HO.out.base) HNl.out).mono ?_; rintro e W2 ⟨rfl, hb⟩; replace HO := Lib.hid (HO.out.below hb); clear hb; obtain ⟨F, hF⟩ : ∃ F, F = formedB f := ⟨_, rfl⟩; rw [<- hF] at HB ⊢; clear hF; cases F
 ·rw [if_pos (.inl rfl)] at HB; have HE := Lib.hid (HF0.out (by rw [HB.out]; decide)); go_wp2_with fail
  go_ret
  exact ⟨by rw [HE.out]; rfl, HO.out.base⟩
 by_cases h3 : f.op = 3
 ·have h3' : (f.op == 3) = true := by simpa using h3
  by_cases hl : f.num < 0
  ·rw [if_pos (.inr ⟨h3, .inl hl⟩)] at HB; have HE := Lib.hid (HF0.out (by rw [HB.out]; decide)); obtain ⟨hbf, -, cb0, cb1, cb2, cb3, cb4⟩ := bx5 HO.out.blk; go_wp2_with fail
   go_ret
   exact ⟨by rw [HE.out]; rfl, HO.out.base⟩
  by_cases hh : 1000000 < f.num
  ·rw [if_pos (.inr ⟨h3, .inr hh⟩)] at HB; have HE := Lib.hid (HF0.out (by rw [HB.out]; decide)); obtain ⟨hbf, -, cb0, cb1, cb2, cb3, cb4⟩ := bx5 HO.out.blk; go_wp2_with fail
   go_ret
   exact ⟨by rw [HE.out]; rfl, HO.out.base⟩
  rw [if_neg (by rintro (h | ⟨-, h⟩) <;> first | (cases h; done) | omega)] at HB; have HH : Hid (badE f = 0) := HB; clear h3
  focus
   obtain ⟨hbf, -, cb0, cb1, cb2, cb3, cb4⟩ := bx5 HO.out.blk; go_wp2_with fail
   clear cb0 cb1 cb2 cb3 cb4 hbf
  have H0 : Hid (firsts badE (f.kids.take 0) = 0) := by show _ = _; simp [firsts]
  go_loopg [3] N (fun gk i wr => ∃ k : Nat, gk = N - k /\ k <= N /\ i = .int .i64 (k : Int) /\ Hid (firsts badE (f.kids.take k) = 0) /\ Hid (Owns w wr [blk bf (fobj f (.slice y N m))]))
  case atStart => exact ⟨0, rfl, Nat.zero_le _, rfl, H0, HO⟩
  case round =>
   rename_i J1 K1 hJ1 hK1; clear HO H0; obtain ⟨k, rfl, hk, rfl, HC, HO⟩ := hrel; by_cases hlt : k < N
   ·obtain ⟨q, hq⟩ : ∃ q, f.kids[k]? = some q := ⟨_, List.getElem?_eq_getElem (by rw [<- HN.out]; exact hlt)⟩; obtain ⟨g, off, kv, rfl, hg, hkv, c0, c1, c2, c3, c4⟩ := HF.out.old HO.out.base hq; obtain ⟨y2, m2, rfl⟩ := hkv.form; have HQ := Lib.hid hq; have HK := Lib.hid hkv; clear hq hkv; obtain ⟨N2, hN2⟩ : ∃ N2, N2 = q.kids.length := ⟨_, rfl⟩; rw [<- hN2] at c4 HK; clear hN2; have HLt := Lib.hid hlt
    focus
     obtain ⟨hbf, -, cb0, cb1, cb2, cb3, cb4⟩ := bx5 HO.out.blk; go_wp2_with fail
     clear cb0 cb1 cb2 cb3 cb4 hbf
    refine (HI.out q (List.mem_of_getElem? HQ.out) wr _ (HK.out.later HO.out.base) (by have := HS.out; have := size_mem (List.mem_of_getElem? HQ.out); rw [size_kids] at this; omega) (short_mem HSh.out (List.mem_of_getElem? HQ.out))).mono ?_; rintro e W2 ⟨rfl, hb⟩; have HO2 := Lib.hid (HO.out.below hb); obtain ⟨x, hx⟩ : ∃ x, x = decide (firstF badE q = 0) := ⟨_, rfl⟩; rw [<- hx]; have HX := Lib.hid hx; clear hx hb HO c0 c1 c2 c3 c4; cases x
    ·have HE : Hid (decide (firstF badE f = 0) = false) := by
      show _ = _; rw [decide_eq_false_iff_not, firstF_zero]; intro h; exact of_decide_eq_false HX.out.symm (h.2 q (List.mem_of_getElem? HQ.out))
     clear hJ1 hK1; go_wp2_with fail
     go_ret
     exact ⟨by rw [HE.out]; rfl, HO2.out.base⟩
    ·have HC2 : Hid (firsts badE (f.kids.take (k + 1)) = 0) := Lib.hid (firsts_take0 HQ.out HC.out (of_decide_eq_true HX.out.symm)); go_wp2_with fail
     go_roundg (N - (k + 1))
     case measure => omega
     case rel => exact ⟨k + 1, rfl, by omega, by go_num, HC2, HO2⟩
   ·obtain rfl : k = N := by omega
    have HE : Hid (decide (firstF badE f = 0) = true) := by
     have h1 := HC.out; rw [HN.out, List.take_length, firsts_zero] at h1; show _ = _; rw [decide_eq_true_eq, firstF_zero]; exact ⟨HH.out, h1⟩
    clear hJ1 hK1 hlt; obtain ⟨hbf, -, cb0, cb1, cb2, cb3, cb4⟩ := bx5 HO.out.blk; go_wp2_with fail
    go_ret
    exact ⟨by rw [HE.out]; rfl, HO.out.base⟩
 ·have h3' : (f.op == 3) = false := by simpa using h3
  rw [if_neg (by rintro (h | ⟨h, -⟩) <;> first | (cases h; done) | exact h3 h)] at HB; have HH : Hid (badE f = 0) := HB; clear h3
  focus
   obtain ⟨hbf, -, cb0, cb1, cb2, cb3, cb4⟩ := bx5 HO.out.blk; go_wp2_with fail
   clear cb0 cb1 cb2 cb3 cb4 hbf
  have H0 : Hid (firsts badE (f.kids.take 0) = 0) := by show _ = _; simp [firsts]
  go_loopg [3] N (fun gk i wr => ∃ k : Nat, gk = N - k /\ k <= N /\ i = .int .i64 (k : Int) /\ Hid (firsts badE (f.kids.take k) = 0) /\ Hid (Owns w wr [blk bf (fobj f (.slice y N m))]))
  case atStart => exact ⟨0, rfl, Nat.zero_le _, rfl, H0, HO⟩
  case round =>
   rename_i J1 K1 hJ1 hK1; clear HO H0; obtain ⟨k, rfl, hk, rfl, HC, HO⟩ := hrel; by_cases hlt : k < N
   ·obtain ⟨q, hq⟩ : ∃ q, f.kids[k]? = some q := ⟨_, List.getElem?_eq_getElem (by rw [<- HN.out]; exact hlt)⟩; obtain ⟨g, off, kv, rfl, hg, hkv, c0, c1, c2, c3, c4⟩ := HF.out.old HO.out.base hq; obtain ⟨y2, m2, rfl⟩ := hkv.form; have HQ := Lib.hid hq; have HK := Lib.hid hkv; clear hq hkv; obtain ⟨N2, hN2⟩ : ∃ N2, N2 = q.kids.length := ⟨_, rfl⟩; rw [<- hN2] at c4 HK; clear hN2; have HLt := Lib.hid hlt
    focus
     obtain ⟨hbf, -, cb0, cb1, cb2, cb3, cb4⟩ := bx5 HO.out.blk; go_wp2_with fail
     clear cb0 cb1 cb2 cb3 cb4 hbf
    refine (HI.out q (List.mem_of_getElem? HQ.out) wr _ (HK.out.later HO.out.base) (by have := HS.out; have := size_mem (List.mem_of_getElem? HQ.out); rw [size_kids] at this; omega) (short_mem HSh.out (List.mem_of_getElem? HQ.out))).mono ?_; rintro e W2 ⟨rfl, hb⟩; have HO2 := Lib.hid (HO.out.below hb); obtain ⟨x, hx⟩ : ∃ x, x = decide (firstF badE q = 0) := ⟨_, rfl⟩; rw [<- hx]; have HX := Lib.hid hx; clear hx hb HO c0 c1 c2 c3 c4; cases x
    ·have HE : Hid (decide (firstF badE f = 0) = false) := by
      show _ = _; rw [decide_eq_false_iff_not, firstF_zero]; intro h; exact of_decide_eq_false HX.out.symm (h.2 q (List.mem_of_getElem? HQ.out))
     clear hJ1 hK1; go_wp2_with fail
     go_ret
     exact ⟨by rw [HE.out]; rfl, HO2.out.base⟩
    ·have HC2 : Hid (firsts badE (f.kids.take (k + 1)) = 0) := Lib.hid (firsts_take0 HQ.out HC.out (of_decide_eq_true HX.out.symm)); go_wp2_with fail
     go_roundg (N - (k + 1))
     case measure => omega
     case rel => exact ⟨k + 1, rfl, by omega, by go_num, HC2, HO2⟩
   ·obtain rfl : k = N := by omega
    have HE : Hid (decide (firstF badE f = 0) = true) := by
     have h1 := HC.out; rw [HN.out, List.take_length, firsts_zero] at h1; show _ = _; rw [decide_eq_true_eq, firstF_zero]; exact ⟨HH.out, h1⟩
    clear hJ1 hK1 hlt; obtain ⟨hbf, -, cb0, cb1, cb2, cb3, cb4⟩ := bx5 HO.out.blk; go_wp2_with fail
    go_ret
    exact ⟨by rw [HE.out]; rfl, HO.out.base⟩
set_option maxRecDepth 100000 in
set_option maxHeartbeats 8000000 in
theorem written_c (f : Fm) : ∀ (w : World) (kv : Value), IsFm p w f kv -> size f <= 900000 -> Wr f ->
  Calls Tryz.prog 89 #[fval f kv] w (fun e w' => e = .returned (.string (bs (textF Lib.itoa f))) /\ Below w.heap.size w w') := by
 refine Fm.induct (P := fun f => ∀ (w : World) (kv : Value), IsFm p w f kv -> size f <= 900000 -> Wr f ->
  Calls Tryz.prog 89 #[fval f kv] w (fun e w' => e = .returned (.string (bs (textF Lib.itoa f))) /\ Below w.heap.size w w')) ?_ f
 clear f; intro f ih w kv hf hz hwr; have HI := Lib.hid ih; have HZ := Lib.hid hz; have HWR := Lib.hid hwr; have hN9 := length_sizes f.kids; rw [size_kids] at hz; obtain ⟨y, m, rfl⟩ := hf.form; obtain ⟨N, hN⟩ : ∃ N, N = f.kids.length := ⟨_, rfl⟩; have HN := Lib.hid hN; rw [<- hN] at hf ⊢; have HF := Lib.hid hf; clear hN hf; obtain ⟨W1, hW1⟩ : ∃ W1, W1 = w.alloc (fobj f (.slice y N m)) := ⟨_, rfl⟩; obtain ⟨bf, hbf⟩ : ∃ bf, bf = w.heap.size := ⟨_, rfl⟩; have HO : Hid (Owns w W1 [blk bf (fobj f (.slice y N m))]) := by
  rw [hW1, hbf]; exact Lib.hid ((Owns.start w).box _)
 have hN9 : N <= 900000 := by have := HN.out; omega
 clear ih hz; have HKc : Hid (∀ (q : Fm) (qv : Value) (W : World), q ∈ f.kids -> IsFm p W q qv -> Calls Tryz.prog 89 #[fval q qv] W fun e w' => e = .returned (.string (bs (textF Lib.itoa q))) /\ Below W.heap.size W w') := by
  intro q qv W hm hq; exact HI.out q hm W qv hq (by have := HZ.out; rw [size_kids] at this; have := size_mem hm; omega) (HWR.out.kid hm)
 have HKL : Hid (∀ q ∈ f.kids, (textF Lib.itoa q).length <= 60000000) := by
  intro q hm; have h1 := (text_len q (HWR.out.kid hm)).1; have h2 := HZ.out; rw [size_kids] at h2; have := size_mem hm; omega
 have HFL : Hid ((textF Lib.itoa f).length <= 60000000) := by
  have h1 := (text_len f HWR.out).1; have h2 := HZ.out; show _ <= _; omega
 have hcase := formed_cases hwr.node.1; have hnum := hwr.node.2; have HT := Lib.hid (textF_eq Lib.itoa f); clear hwr HI HZ HWR; obtain ⟨o, ho⟩ : ∃ o, o = f.op := ⟨_, rfl⟩; obtain ⟨mm, hmm⟩ : ∃ mm, mm = f.cmp := ⟨_, rfl⟩; obtain ⟨x, hxx⟩ : ∃ x, x = f.num := ⟨_, rfl⟩; obtain ⟨s, hss⟩ : ∃ s, s = f.name := ⟨_, rfl⟩; simp only [fobj, fval] at HO hW1 ⊢; rw [<- ho, <- hmm, <- hss, <- hxx] at hcase HO hW1 HT ⊢; rw [<- ho, <- hxx] at hnum; clear ho hmm hss hxx; go_enter Tryz.func89, Tryz.ntmps89
 by_cases h1 : o = 1
 ·subst h1; rw [if_pos rfl] at HT; clear hcase hnum; go_wp2_with fail
  rw [<- hW1]; clear hW1 hbf; go_ret
  exact ⟨by rw [HT.out]; rfl, HO.out.base⟩
 have h1' : (o == 1) = false := by simpa using h1
 rw [if_neg h1] at HT; by_cases h2 : o = 2
 ·subst h2; rw [if_pos rfl] at HT; clear hcase hnum; go_wp2_with fail
  rw [<- hW1]; clear hW1 hbf; go_ret
  exact ⟨by rw [HT.out]; rfl, HO.out.base⟩
 have h2' : (o == 2) = false := by simpa using h2
 rw [if_neg h2] at HT; by_cases h3 : o = 3
 ·subst h3; rw [if_pos rfl] at HT; obtain ⟨-, -, hm1, hm6, hnm, -⟩ := hcase.resolve_right (fun h => by omega); obtain ⟨hx0, hx1⟩ := hnum rfl; obtain ⟨X, rfl⟩ : ∃ X : Nat, x = X := ⟨x.toNat, by omega⟩; have hsl : s.length <= 24 := name_le hnm; obtain ⟨dd, hdd⟩ : ∃ dd, dd = Lib.decDigits X := ⟨_, rfl⟩; have hdl : dd.length <= 21 := by rw [hdd]; have := dec_le 9 X (by rw [show 10 ^ (9 + 1) = 10000000000 by decide]; omega); omega
  replace hdd := Lib.hid hdd; have h16 : mm = 1 ∨ mm = 2 ∨ mm = 3 ∨ mm = 4 ∨ mm = 5 ∨ mm = 6 := by omega
  clear hcase hnum hnm hm1 hm6 h1 h2 h1' h2' hx0; rcases h16 with rfl | rfl | rfl | rfl | rfl | rfl
  ·go_wp2_with fail
   rw [<- hW1]
   try rw [<- hbf]
   clear hW1 hbf; refine wp_region_canA [3, 12] [0, 1, 2, 4, 5, 10, 11, 3, 6, 7, 8, 9, 12, 13, 14] ?_; replace HO := Lib.hid HO.out.drew; obtain ⟨W5, hW5⟩ : ∃ W5, W5 = W1.drew := ⟨_, rfl⟩; rw [<- hW5] at HO ⊢; clear hW5; obtain ⟨hbf, -, cb0, cb1, cb2, cb3, cb4⟩ := bx5 HO.out.blk; iterate 7 (refine cl_doA rfl rfl rfl (fun _ _ => ?_); go_wp2_with fail)
   refine cl_call (i := 3) rfl rfl rfl (fun K hK => ?_); clear cb0 cb1 cb2 cb3 cb4 hbf; go_wp2_with fail
   go_at_call 119
   refine (comparisons_c W5).mono ?_; rintro e W6 ⟨gs, rfl, hgs, hW6⟩; have Hb : Hid (Below W5.heap.size W5 W6) := by rw [hW6]; exact Lib.hid ((Below.refl _ _).alloc (Nat.le_refl _) _)
   have bk : W6.heap[gs]? = some symObj := by rw [hW6]; exact new_heap _ _ _ hgs
   have hgl := lt_of_block bk; have cs := cell_of_heap bk (i := 1); simp only [List.getElem?_toArray, List.getElem?_cons_succ, List.getElem?_cons_zero] at cs; replace HO := Lib.hid (HO.out.below Hb.out); clear hW6 hgs bk; go_wp2_with fail
   refine And.intro Hb.out ?_; clear Hb; iterate 4 (refine cl_doA rfl rfl rfl (fun _ _ => ?_); go_wp2_with fail)
   refine cl_call (i := 12) rfl rfl rfl (fun K hK => ?_); go_wp2_with fail
   go_at_call 55
   refine (Decimal_c X W6 (by omega)).mono ?_; rintro e W7 ⟨rfl, hw⟩; subst hw; rw [<- hdd.out]; clear hx1; go_wp2_with fail
   refine And.intro (Below.refl _ _) ?_; iterate 2 (refine cl_doA rfl rfl rfl (fun _ _ => ?_); go_wp2_with fail)
   refine cl_nil ?_; go_wp2_with fail
   go_ret
   exact ⟨by (show Ending.returned (Value.string (bs s ++ bs [32] ++ bs _ ++ bs [32] ++ bs dd)) = _); rw [bs_append, bs_append, bs_append, bs_append, HT.out, Lib.itoa_nonneg, <- hdd.out]; simp [symB], HO.out.base⟩
  ·go_wp2_with fail
   rw [<- hW1]
   try rw [<- hbf]
   clear hW1 hbf; refine wp_region_canA [3, 12] [0, 1, 2, 4, 5, 10, 11, 3, 6, 7, 8, 9, 12, 13, 14] ?_; replace HO := Lib.hid HO.out.drew; obtain ⟨W5, hW5⟩ : ∃ W5, W5 = W1.drew := ⟨_, rfl⟩; rw [<- hW5] at HO ⊢; clear hW5; obtain ⟨hbf, -, cb0, cb1, cb2, cb3, cb4⟩ := bx5 HO.out.blk; iterate 7 (refine cl_doA rfl rfl rfl (fun _ _ => ?_); go_wp2_with fail)
   refine cl_call (i := 3) rfl rfl rfl (fun K hK => ?_); clear cb0 cb1 cb2 cb3 cb4 hbf; go_wp2_with fail
   go_at_call 119
   refine (comparisons_c W5).mono ?_; rintro e W6 ⟨gs, rfl, hgs, hW6⟩; have Hb : Hid (Below W5.heap.size W5 W6) := by rw [hW6]; exact Lib.hid ((Below.refl _ _).alloc (Nat.le_refl _) _)
   have bk : W6.heap[gs]? = some symObj := by rw [hW6]; exact new_heap _ _ _ hgs
   have hgl := lt_of_block bk; have cs := cell_of_heap bk (i := 2); simp only [List.getElem?_toArray, List.getElem?_cons_succ, List.getElem?_cons_zero] at cs; replace HO := Lib.hid (HO.out.below Hb.out); clear hW6 hgs bk; go_wp2_with fail
   refine And.intro Hb.out ?_; clear Hb; iterate 4 (refine cl_doA rfl rfl rfl (fun _ _ => ?_); go_wp2_with fail)
   refine cl_call (i := 12) rfl rfl rfl (fun K hK => ?_); go_wp2_with fail
   go_at_call 55
   refine (Decimal_c X W6 (by omega)).mono ?_; rintro e W7 ⟨rfl, hw⟩; subst hw; rw [<- hdd.out]; clear hx1; go_wp2_with fail
   refine And.intro (Below.refl _ _) ?_; iterate 2 (refine cl_doA rfl rfl rfl (fun _ _ => ?_); go_wp2_with fail)
   refine cl_nil ?_; go_wp2_with fail
   go_ret
   exact ⟨by (show Ending.returned (Value.string (bs s ++ bs [32] ++ bs _ ++ bs [32] ++ bs dd)) = _); rw [bs_append, bs_append, bs_append, bs_append, HT.out, Lib.itoa_nonneg, <- hdd.out]; simp [symB], HO.out.base⟩
  ·go_wp2_with fail
   rw [<- hW1]
   try rw [<- hbf]
   clear hW1 hbf; refine wp_region_canA [3, 12] [0, 1, 2, 4, 5, 10, 11, 3, 6, 7, 8, 9, 12, 13, 14] ?_; replace HO := Lib.hid HO.out.drew; obtain ⟨W5, hW5⟩ : ∃ W5, W5 = W1.drew := ⟨_, rfl⟩; rw [<- hW5] at HO ⊢; clear hW5; obtain ⟨hbf, -, cb0, cb1, cb2, cb3, cb4⟩ := bx5 HO.out.blk; iterate 7 (refine cl_doA rfl rfl rfl (fun _ _ => ?_); go_wp2_with fail)
   refine cl_call (i := 3) rfl rfl rfl (fun K hK => ?_); clear cb0 cb1 cb2 cb3 cb4 hbf; go_wp2_with fail
   go_at_call 119
   refine (comparisons_c W5).mono ?_; rintro e W6 ⟨gs, rfl, hgs, hW6⟩; have Hb : Hid (Below W5.heap.size W5 W6) := by rw [hW6]; exact Lib.hid ((Below.refl _ _).alloc (Nat.le_refl _) _)
   have bk : W6.heap[gs]? = some symObj := by rw [hW6]; exact new_heap _ _ _ hgs
   have hgl := lt_of_block bk; have cs := cell_of_heap bk (i := 3); simp only [List.getElem?_toArray, List.getElem?_cons_succ, List.getElem?_cons_zero] at cs; replace HO := Lib.hid (HO.out.below Hb.out); clear hW6 hgs bk; go_wp2_with fail
   refine And.intro Hb.out ?_; clear Hb; iterate 4 (refine cl_doA rfl rfl rfl (fun _ _ => ?_); go_wp2_with fail)
   refine cl_call (i := 12) rfl rfl rfl (fun K hK => ?_); go_wp2_with fail
   go_at_call 55
   refine (Decimal_c X W6 (by omega)).mono ?_; rintro e W7 ⟨rfl, hw⟩; subst hw; rw [<- hdd.out]; clear hx1; go_wp2_with fail
   refine And.intro (Below.refl _ _) ?_; iterate 2 (refine cl_doA rfl rfl rfl (fun _ _ => ?_); go_wp2_with fail)
   refine cl_nil ?_; go_wp2_with fail
   go_ret
   exact ⟨by (show Ending.returned (Value.string (bs s ++ bs [32] ++ bs _ ++ bs [32] ++ bs dd)) = _); rw [bs_append, bs_append, bs_append, bs_append, HT.out, Lib.itoa_nonneg, <- hdd.out]; simp [symB], HO.out.base⟩
  ·go_wp2_with fail
   rw [<- hW1]
   try rw [<- hbf]
   clear hW1 hbf; refine wp_region_canA [3, 12] [0, 1, 2, 4, 5, 10, 11, 3, 6, 7, 8, 9, 12, 13, 14] ?_; replace HO := Lib.hid HO.out.drew; obtain ⟨W5, hW5⟩ : ∃ W5, W5 = W1.drew := ⟨_, rfl⟩; rw [<- hW5] at HO ⊢; clear hW5; obtain ⟨hbf, -, cb0, cb1, cb2, cb3, cb4⟩ := bx5 HO.out.blk; iterate 7 (refine cl_doA rfl rfl rfl (fun _ _ => ?_); go_wp2_with fail)
   refine cl_call (i := 3) rfl rfl rfl (fun K hK => ?_); clear cb0 cb1 cb2 cb3 cb4 hbf; go_wp2_with fail
   go_at_call 119
   refine (comparisons_c W5).mono ?_; rintro e W6 ⟨gs, rfl, hgs, hW6⟩; have Hb : Hid (Below W5.heap.size W5 W6) := by rw [hW6]; exact Lib.hid ((Below.refl _ _).alloc (Nat.le_refl _) _)
   have bk : W6.heap[gs]? = some symObj := by rw [hW6]; exact new_heap _ _ _ hgs
   have hgl := lt_of_block bk; have cs := cell_of_heap bk (i := 4); simp only [List.getElem?_toArray, List.getElem?_cons_succ, List.getElem?_cons_zero] at cs; replace HO := Lib.hid (HO.out.below Hb.out); clear hW6 hgs bk; go_wp2_with fail
   refine And.intro Hb.out ?_; clear Hb; iterate 4 (refine cl_doA rfl rfl rfl (fun _ _ => ?_); go_wp2_with fail)
   refine cl_call (i := 12) rfl rfl rfl (fun K hK => ?_); go_wp2_with fail
   go_at_call 55
   refine (Decimal_c X W6 (by omega)).mono ?_; rintro e W7 ⟨rfl, hw⟩; subst hw; rw [<- hdd.out]; clear hx1; go_wp2_with fail
   refine And.intro (Below.refl _ _) ?_; iterate 2 (refine cl_doA rfl rfl rfl (fun _ _ => ?_); go_wp2_with fail)
   refine cl_nil ?_; go_wp2_with fail
   go_ret
   exact ⟨by (show Ending.returned (Value.string (bs s ++ bs [32] ++ bs _ ++ bs [32] ++ bs dd)) = _); rw [bs_append, bs_append, bs_append, bs_append, HT.out, Lib.itoa_nonneg, <- hdd.out]; simp [symB], HO.out.base⟩
  ·go_wp2_with fail
   rw [<- hW1]
   try rw [<- hbf]
   clear hW1 hbf; refine wp_region_canA [3, 12] [0, 1, 2, 4, 5, 10, 11, 3, 6, 7, 8, 9, 12, 13, 14] ?_; replace HO := Lib.hid HO.out.drew; obtain ⟨W5, hW5⟩ : ∃ W5, W5 = W1.drew := ⟨_, rfl⟩; rw [<- hW5] at HO ⊢; clear hW5; obtain ⟨hbf, -, cb0, cb1, cb2, cb3, cb4⟩ := bx5 HO.out.blk; iterate 7 (refine cl_doA rfl rfl rfl (fun _ _ => ?_); go_wp2_with fail)
   refine cl_call (i := 3) rfl rfl rfl (fun K hK => ?_); clear cb0 cb1 cb2 cb3 cb4 hbf; go_wp2_with fail
   go_at_call 119
   refine (comparisons_c W5).mono ?_; rintro e W6 ⟨gs, rfl, hgs, hW6⟩; have Hb : Hid (Below W5.heap.size W5 W6) := by rw [hW6]; exact Lib.hid ((Below.refl _ _).alloc (Nat.le_refl _) _)
   have bk : W6.heap[gs]? = some symObj := by rw [hW6]; exact new_heap _ _ _ hgs
   have hgl := lt_of_block bk; have cs := cell_of_heap bk (i := 5); simp only [List.getElem?_toArray, List.getElem?_cons_succ, List.getElem?_cons_zero] at cs; replace HO := Lib.hid (HO.out.below Hb.out); clear hW6 hgs bk; go_wp2_with fail
   refine And.intro Hb.out ?_; clear Hb; iterate 4 (refine cl_doA rfl rfl rfl (fun _ _ => ?_); go_wp2_with fail)
   refine cl_call (i := 12) rfl rfl rfl (fun K hK => ?_); go_wp2_with fail
   go_at_call 55
   refine (Decimal_c X W6 (by omega)).mono ?_; rintro e W7 ⟨rfl, hw⟩; subst hw; rw [<- hdd.out]; clear hx1; go_wp2_with fail
   refine And.intro (Below.refl _ _) ?_; iterate 2 (refine cl_doA rfl rfl rfl (fun _ _ => ?_); go_wp2_with fail)
   refine cl_nil ?_; go_wp2_with fail
   go_ret
   exact ⟨by (show Ending.returned (Value.string (bs s ++ bs [32] ++ bs _ ++ bs [32] ++ bs dd)) = _); rw [bs_append, bs_append, bs_append, bs_append, HT.out, Lib.itoa_nonneg, <- hdd.out]; simp [symB], HO.out.base⟩
  ·go_wp2_with fail
   rw [<- hW1]
   try rw [<- hbf]
   clear hW1 hbf; refine wp_region_canA [3, 12] [0, 1, 2, 4, 5, 10, 11, 3, 6, 7, 8, 9, 12, 13, 14] ?_; replace HO := Lib.hid HO.out.drew; obtain ⟨W5, hW5⟩ : ∃ W5, W5 = W1.drew := ⟨_, rfl⟩; rw [<- hW5] at HO ⊢; clear hW5; obtain ⟨hbf, -, cb0, cb1, cb2, cb3, cb4⟩ := bx5 HO.out.blk; iterate 7 (refine cl_doA rfl rfl rfl (fun _ _ => ?_); go_wp2_with fail)
   refine cl_call (i := 3) rfl rfl rfl (fun K hK => ?_); clear cb0 cb1 cb2 cb3 cb4 hbf; go_wp2_with fail
   go_at_call 119
   refine (comparisons_c W5).mono ?_; rintro e W6 ⟨gs, rfl, hgs, hW6⟩; have Hb : Hid (Below W5.heap.size W5 W6) := by rw [hW6]; exact Lib.hid ((Below.refl _ _).alloc (Nat.le_refl _) _)
   have bk : W6.heap[gs]? = some symObj := by rw [hW6]; exact new_heap _ _ _ hgs
   have hgl := lt_of_block bk; have cs := cell_of_heap bk (i := 6); simp only [List.getElem?_toArray, List.getElem?_cons_succ, List.getElem?_cons_zero] at cs; replace HO := Lib.hid (HO.out.below Hb.out); clear hW6 hgs bk; go_wp2_with fail
   refine And.intro Hb.out ?_; clear Hb; iterate 4 (refine cl_doA rfl rfl rfl (fun _ _ => ?_); go_wp2_with fail)
   refine cl_call (i := 12) rfl rfl rfl (fun K hK => ?_); go_wp2_with fail
   go_at_call 55
   refine (Decimal_c X W6 (by omega)).mono ?_; rintro e W7 ⟨rfl, hw⟩; subst hw; rw [<- hdd.out]; clear hx1; go_wp2_with fail
   refine And.intro (Below.refl _ _) ?_; iterate 2 (refine cl_doA rfl rfl rfl (fun _ _ => ?_); go_wp2_with fail)
   refine cl_nil ?_; go_wp2_with fail
   go_ret
   exact ⟨by (show Ending.returned (Value.string (bs s ++ bs [32] ++ bs _ ++ bs [32] ++ bs dd)) = _); rw [bs_append, bs_append, bs_append, bs_append, HT.out, Lib.itoa_nonneg, <- hdd.out]; simp [symB], HO.out.base⟩
 have h3' : (o == 3) = false := by simpa using h3
 rw [if_neg h3] at HT; have hcase2 := (hcase.resolve_left (fun h => h3 h.1)).2; have h456 : (o = 4 /\ N = 1) ∨ ((o = 5 ∨ o = 6) /\ 2 <= N) := by
  rw [HN.out]; rcases hcase2 with h | ⟨h, k, hk⟩ | ⟨h, a, b, r, hk⟩
  ·omega
  ·exact .inl ⟨h, by rw [hk]; rfl⟩
  ·exact .inr ⟨h, by rw [hk]; simp⟩
 have H456 := Lib.hid h456; clear hcase hcase2 hnum h456; go_wp2_with fail
 rw [<- hW1]
 try rw [<- hbf]
 clear hW1 hbf; obtain ⟨L, hL⟩ : ∃ L, L = textKids Lib.itoa o f.kids := ⟨_, rfl⟩; have HL := Lib.hid hL; have HLl : Hid (L.length = N) := by show _ = _; rw [hL, textKids_length, HN.out]
 rw [<- hL] at HT; clear hL
 focus
  obtain ⟨hbf, -, cb0, cb1, cb2, cb3, cb4⟩ := bx5 HO.out.blk; go_wp2_with fail
  clear cb0 cb1 cb2 cb3 cb4 hbf
 rcases H456.out with ⟨rfl, hN1⟩ | ⟨rfl | rfl, hN2⟩
 ·have HFin : Hid (accF 4 L N = textF Lib.itoa f) := by
   show _ = _; rw [HT.out, hN1]; simp [accF]
  clear h1 h2 h3 h1' h2' h3' H456; have HN1 := Lib.hid hN1; clear hN1; have HAl : Hid (∀ k, k <= N -> (accF 4 L k).length <= 60000000) := Lib.hid fun k hk => by
   have h1 := HFL.out; rw [<- HFin.out] at h1; exact Nat.le_trans (acc_le4 HN1.out hk) h1
  have H0 : Hid (([] : Bytes) = accF 4 L 0) := Lib.hid (by simp [accF, joinB]); go_loopg [3, 4] N (fun gk s' i wr => ∃ (k : Nat) (a : Bytes), gk = N - k /\ k <= N /\ i = .int .i64 (k : Int) /\ s' = .string (bs a) /\ Hid (a = accF 4 L k) /\ Hid (Owns w wr [blk bf (.cells #[.int .i64 4, .string (bs s), .int .i64 mm, .int .i64 x, .slice y N m] 24 (0, 0))]))
  case atStart => exact ⟨0, [], rfl, Nat.zero_le _, rfl, rfl, H0, HO⟩
  case round =>
   rename_i J1 K1 hJ1 hK1; clear HO H0; obtain ⟨k, a, rfl, hk, rfl, rfl, HA, HO⟩ := hrel; have hal : a.length <= 60000000 := by rw [HA.out]; exact HAl.out k hk
   by_cases hlt : k < N
   ·obtain ⟨q, hq⟩ : ∃ q, f.kids[k]? = some q := ⟨_, List.getElem?_eq_getElem (by rw [<- HN.out]; exact hlt)⟩; obtain ⟨g, off, kv, rfl, hg, hkv, c0, c1, c2, c3, c4⟩ := HF.out.old HO.out.base hq; obtain ⟨y2, m2, rfl⟩ := hkv.form; have HQ := Lib.hid hq; have HK := Lib.hid hkv; clear hq hkv; obtain ⟨N2, hN2⟩ : ∃ N2, N2 = q.kids.length := ⟨_, rfl⟩; rw [<- hN2] at c4 HK; clear hN2; have HLt := Lib.hid hlt
    focus
     obtain ⟨hbf, -, cb0, cb1, cb2, cb3, cb4⟩ := bx5 HO.out.blk; go_wp2_with fail
     clear cb0 cb1 cb2 cb3 cb4 hbf
    refine (HKc.out q _ wr (List.mem_of_getElem? HQ.out) (HK.out.later HO.out.base)).mono ?_; rintro e W5 ⟨rfl, hb⟩; have c0' := (hb.cell (p := ⟨g, off + k * 5, none⟩) hg).trans c0; have hg' := Nat.lt_of_lt_of_le hg hb.size; replace HO := Lib.hid (HO.out.below hb); clear c0 c1 c2 c3 c4 hg hb; have htl := HKL.out q (List.mem_of_getElem? HQ.out); have hlk : L[k]? = some (parT (parB 4 q.op) (textF Lib.itoa q)) := by rw [HL.out, textKids_eq, List.getElem?_map, HQ.out]; rfl
    have HLk := Lib.hid hlk; clear hlk; obtain ⟨t, ht⟩ : ∃ t, t = textF Lib.itoa q := ⟨_, rfl⟩; rw [<- ht] at htl HLk ⊢; clear ht; obtain ⟨oq, hoq⟩ : ∃ oq, oq = q.op := ⟨_, rfl⟩; rw [<- hoq] at c0' HLk; clear hoq; by_cases h6 : oq = 6
    ·subst h6; have HPT : Hid (parT (parB 4 6) t = [40] ++ (t ++ [41])) := Lib.hid rfl; have HA2 : Hid (accF 4 L (k + 1) = a ++ ([110, 111, 116, 32] ++ (([40] ++ (t ++ [41]))))) := by
      show _ = _; rw [(acc_not (by have := HN1.out; omega) HLk.out), HPT.out, <- HA.out]
      try rw [if_pos (show 0 < k by omega)]
      try rw [if_neg (show ¬ 0 < k by omega)]
      try rfl
     focus
      obtain ⟨hbf, -, cb0, cb1, cb2, cb3, cb4⟩ := bx5 HO.out.blk; go_wp2_with fail
      go_roundg (N - (k + 1))
      case measure => omega
      case rel => exact ⟨k + 1, _, rfl, by omega, by go_num, rfl, Lib.hid (by rw [HA2.out] <;> simp [bs_data]), HO⟩
    have h6' : (oq == 6) = false := by simpa using h6
    by_cases h5 : oq = 5
    ·subst h5; have HPT : Hid (parT (parB 4 5) t = ([40] ++ (t ++ [41]))) := Lib.hid rfl; have HA2 : Hid (accF 4 L (k + 1) = a ++ ([110, 111, 116, 32] ++ (([40] ++ (t ++ [41]))))) := by
      show _ = _; rw [(acc_not (by have := HN1.out; omega) HLk.out), HPT.out, <- HA.out]
      try rw [if_pos (show 0 < k by omega)]
      try rw [if_neg (show ¬ 0 < k by omega)]
      try rfl
     focus
      obtain ⟨hbf, -, cb0, cb1, cb2, cb3, cb4⟩ := bx5 HO.out.blk; go_wp2_with fail
      go_roundg (N - (k + 1))
      case measure => omega
      case rel => exact ⟨k + 1, _, rfl, by omega, by go_num, rfl, Lib.hid (by rw [HA2.out] <;> simp [bs_data]), HO⟩
    ·have h5' : (oq == 5) = false := by simpa using h5
     have HPT : Hid (parT (parB 4 oq) t = t) := by
      show _ = _; rw [parB]; simp [h5, h6, parT]
     clear h5 h6; have HA2 : Hid (accF 4 L (k + 1) = a ++ ([110, 111, 116, 32] ++ (t))) := by
      show _ = _; rw [(acc_not (by have := HN1.out; omega) HLk.out), HPT.out, <- HA.out]
      try rw [if_pos (show 0 < k by omega)]
      try rw [if_neg (show ¬ 0 < k by omega)]
      try rfl
     focus
      obtain ⟨hbf, -, cb0, cb1, cb2, cb3, cb4⟩ := bx5 HO.out.blk; go_wp2_with fail
      go_roundg (N - (k + 1))
      case measure => omega
      case rel => exact ⟨k + 1, _, rfl, by omega, by go_num, rfl, Lib.hid (by rw [HA2.out] <;> simp [bs_data]), HO⟩
   ·obtain rfl : k = N := by omega
    have HE : Hid (textF Lib.itoa f = a) := by show _ = _; rw [<- HFin.out, HA.out]
    clear hJ1 hK1 hlt HA; obtain ⟨hbf, -, cb0, cb1, cb2, cb3, cb4⟩ := bx5 HO.out.blk; go_wp2_with fail
    go_ret
    exact ⟨by rw [HE.out]; rfl, HO.out.base⟩
 ·have HFin : Hid (accF 5 L N = textF Lib.itoa f) := by
   show _ = _; rw [HT.out, <- HLl.out]; simp [accF]
  clear h1 h2 h3 h1' h2' h3' H456; have HAl : Hid (∀ k, k <= N -> (accF 5 L k).length <= 60000000) := Lib.hid fun k hk => by
   have h1 := HFL.out; rw [<- HFin.out] at h1; exact Nat.le_trans (acc_le5 HLl.out) h1
  have H0 : Hid (([] : Bytes) = accF 5 L 0) := Lib.hid (by simp [accF, joinB]); go_loopg [3, 4] N (fun gk s' i wr => ∃ (k : Nat) (a : Bytes), gk = N - k /\ k <= N /\ i = .int .i64 (k : Int) /\ s' = .string (bs a) /\ Hid (a = accF 5 L k) /\ Hid (Owns w wr [blk bf (.cells #[.int .i64 5, .string (bs s), .int .i64 mm, .int .i64 x, .slice y N m] 24 (0, 0))]))
  case atStart => exact ⟨0, [], rfl, Nat.zero_le _, rfl, rfl, H0, HO⟩
  case round =>
   rename_i J1 K1 hJ1 hK1; clear HO H0; obtain ⟨k, a, rfl, hk, rfl, rfl, HA, HO⟩ := hrel; have hal : a.length <= 60000000 := by rw [HA.out]; exact HAl.out k hk
   by_cases hlt : k < N
   ·obtain ⟨q, hq⟩ : ∃ q, f.kids[k]? = some q := ⟨_, List.getElem?_eq_getElem (by rw [<- HN.out]; exact hlt)⟩; obtain ⟨g, off, kv, rfl, hg, hkv, c0, c1, c2, c3, c4⟩ := HF.out.old HO.out.base hq; obtain ⟨y2, m2, rfl⟩ := hkv.form; have HQ := Lib.hid hq; have HK := Lib.hid hkv; clear hq hkv; obtain ⟨N2, hN2⟩ : ∃ N2, N2 = q.kids.length := ⟨_, rfl⟩; rw [<- hN2] at c4 HK; clear hN2; have HLt := Lib.hid hlt
    focus
     obtain ⟨hbf, -, cb0, cb1, cb2, cb3, cb4⟩ := bx5 HO.out.blk; go_wp2_with fail
     clear cb0 cb1 cb2 cb3 cb4 hbf
    refine (HKc.out q _ wr (List.mem_of_getElem? HQ.out) (HK.out.later HO.out.base)).mono ?_; rintro e W5 ⟨rfl, hb⟩; have c0' := (hb.cell (p := ⟨g, off + k * 5, none⟩) hg).trans c0; have hg' := Nat.lt_of_lt_of_le hg hb.size; replace HO := Lib.hid (HO.out.below hb); clear c0 c1 c2 c3 c4 hg hb; have htl := HKL.out q (List.mem_of_getElem? HQ.out); have hlk : L[k]? = some (parT (parB 5 q.op) (textF Lib.itoa q)) := by rw [HL.out, textKids_eq, List.getElem?_map, HQ.out]; rfl
    have HLk := Lib.hid hlk; clear hlk; obtain ⟨t, ht⟩ : ∃ t, t = textF Lib.itoa q := ⟨_, rfl⟩; rw [<- ht] at htl HLk ⊢; clear ht; obtain ⟨oq, hoq⟩ : ∃ oq, oq = q.op := ⟨_, rfl⟩; rw [<- hoq] at c0' HLk; clear hoq; by_cases h6 : oq = 6
    ·subst h6; have HPT : Hid (parT (parB 5 6) t = [40] ++ (t ++ [41])) := Lib.hid rfl; by_cases hk0 : k = 0
     ·subst hk0; simp only [Nat.zero_mul, Nat.add_zero] at c0'; have HA2 : Hid (accF 5 L (0 + 1) = a ++ (([40] ++ (t ++ [41])))) := by
       show _ = _; rw [acc_and HLk.out, HPT.out, <- HA.out]
       try rw [if_pos (show 0 < 0 by omega)]
       try rw [if_neg (show ¬ 0 < 0 by omega)]
       try rfl
      focus
       obtain ⟨hbf, -, cb0, cb1, cb2, cb3, cb4⟩ := bx5 HO.out.blk; go_wp2_with fail
       go_roundg (N - (0 + 1))
       case measure => omega
       case rel => exact ⟨0 + 1, _, rfl, by omega, by go_num, rfl, Lib.hid (by rw [HA2.out] <;> simp [bs_data]), HO⟩
     ·have hk1 : 0 < k := by omega
      clear hk0; have HA2 : Hid (accF 5 L (k + 1) = a ++ ([32, 97, 110, 100, 32] ++ (([40] ++ (t ++ [41]))))) := by
       show _ = _; rw [acc_and HLk.out, HPT.out, <- HA.out]
       try rw [if_pos (show 0 < k by omega)]
       try rw [if_neg (show ¬ 0 < k by omega)]
       try rfl
      focus
       obtain ⟨hbf, -, cb0, cb1, cb2, cb3, cb4⟩ := bx5 HO.out.blk; go_wp2_with fail
       go_roundg (N - (k + 1))
       case measure => omega
       case rel => exact ⟨k + 1, _, rfl, by omega, by go_num, rfl, Lib.hid (by rw [HA2.out] <;> simp [bs_data]), HO⟩
    have h6' : (oq == 6) = false := by simpa using h6
    by_cases h5 : oq = 5
    ·subst h5; have HPT : Hid (parT (parB 5 5) t = ([40] ++ (t ++ [41]))) := Lib.hid rfl; by_cases hk0 : k = 0
     ·subst hk0; simp only [Nat.zero_mul, Nat.add_zero] at c0'; have HA2 : Hid (accF 5 L (0 + 1) = a ++ (([40] ++ (t ++ [41])))) := by
       show _ = _; rw [acc_and HLk.out, HPT.out, <- HA.out]
       try rw [if_pos (show 0 < 0 by omega)]
       try rw [if_neg (show ¬ 0 < 0 by omega)]
       try rfl
      focus
       obtain ⟨hbf, -, cb0, cb1, cb2, cb3, cb4⟩ := bx5 HO.out.blk; go_wp2_with fail
       go_roundg (N - (0 + 1))
       case measure => omega
       case rel => exact ⟨0 + 1, _, rfl, by omega, by go_num, rfl, Lib.hid (by rw [HA2.out] <;> simp [bs_data]), HO⟩
     ·have hk1 : 0 < k := by omega
      clear hk0; have HA2 : Hid (accF 5 L (k + 1) = a ++ ([32, 97, 110, 100, 32] ++ (([40] ++ (t ++ [41]))))) := by
       show _ = _; rw [acc_and HLk.out, HPT.out, <- HA.out]
       try rw [if_pos (show 0 < k by omega)]
       try rw [if_neg (show ¬ 0 < k by omega)]
       try rfl
      focus
       obtain ⟨hbf, -, cb0, cb1, cb2, cb3, cb4⟩ := bx5 HO.out.blk; go_wp2_with fail
       go_roundg (N - (k + 1))
       case measure => omega
       case rel => exact ⟨k + 1, _, rfl, by omega, by go_num, rfl, Lib.hid (by rw [HA2.out] <;> simp [bs_data]), HO⟩
    ·have h5' : (oq == 5) = false := by simpa using h5
     have HPT : Hid (parT (parB 5 oq) t = t) := by
      show _ = _; rw [parB]; simp [h5, h6, parT]
     clear h5 h6; by_cases hk0 : k = 0
     ·subst hk0; simp only [Nat.zero_mul, Nat.add_zero] at c0'; have HA2 : Hid (accF 5 L (0 + 1) = a ++ (t)) := by
       show _ = _; rw [acc_and HLk.out, HPT.out, <- HA.out]
       try rw [if_pos (show 0 < 0 by omega)]
       try rw [if_neg (show ¬ 0 < 0 by omega)]
       try rfl
      focus
       obtain ⟨hbf, -, cb0, cb1, cb2, cb3, cb4⟩ := bx5 HO.out.blk; go_wp2_with fail
       go_roundg (N - (0 + 1))
       case measure => omega
       case rel => exact ⟨0 + 1, _, rfl, by omega, by go_num, rfl, Lib.hid (by rw [HA2.out] <;> simp [bs_data]), HO⟩
     ·have hk1 : 0 < k := by omega
      clear hk0; have HA2 : Hid (accF 5 L (k + 1) = a ++ ([32, 97, 110, 100, 32] ++ (t))) := by
       show _ = _; rw [acc_and HLk.out, HPT.out, <- HA.out]
       try rw [if_pos (show 0 < k by omega)]
       try rw [if_neg (show ¬ 0 < k by omega)]
       try rfl
      focus
       obtain ⟨hbf, -, cb0, cb1, cb2, cb3, cb4⟩ := bx5 HO.out.blk; go_wp2_with fail
       go_roundg (N - (k + 1))
       case measure => omega
       case rel => exact ⟨k + 1, _, rfl, by omega, by go_num, rfl, Lib.hid (by rw [HA2.out] <;> simp [bs_data]), HO⟩
   ·obtain rfl : k = N := by omega
    have HE : Hid (textF Lib.itoa f = a) := by show _ = _; rw [<- HFin.out, HA.out]
    clear hJ1 hK1 hlt HA; obtain ⟨hbf, -, cb0, cb1, cb2, cb3, cb4⟩ := bx5 HO.out.blk; go_wp2_with fail
    go_ret
    exact ⟨by rw [HE.out]; rfl, HO.out.base⟩
 ·have HFin : Hid (accF 6 L N = textF Lib.itoa f) := by
   show _ = _; rw [HT.out, <- HLl.out]; simp [accF]
  clear h1 h2 h3 h1' h2' h3' H456; have HAl : Hid (∀ k, k <= N -> (accF 6 L k).length <= 60000000) := Lib.hid fun k hk => by
   have h1 := HFL.out; rw [<- HFin.out] at h1; exact Nat.le_trans (acc_le6 HLl.out) h1
  have H0 : Hid (([] : Bytes) = accF 6 L 0) := Lib.hid (by simp [accF, joinB]); go_loopg [3, 4] N (fun gk s' i wr => ∃ (k : Nat) (a : Bytes), gk = N - k /\ k <= N /\ i = .int .i64 (k : Int) /\ s' = .string (bs a) /\ Hid (a = accF 6 L k) /\ Hid (Owns w wr [blk bf (.cells #[.int .i64 6, .string (bs s), .int .i64 mm, .int .i64 x, .slice y N m] 24 (0, 0))]))
  case atStart => exact ⟨0, [], rfl, Nat.zero_le _, rfl, rfl, H0, HO⟩
  case round =>
   rename_i J1 K1 hJ1 hK1; clear HO H0; obtain ⟨k, a, rfl, hk, rfl, rfl, HA, HO⟩ := hrel; have hal : a.length <= 60000000 := by rw [HA.out]; exact HAl.out k hk
   by_cases hlt : k < N
   ·obtain ⟨q, hq⟩ : ∃ q, f.kids[k]? = some q := ⟨_, List.getElem?_eq_getElem (by rw [<- HN.out]; exact hlt)⟩; obtain ⟨g, off, kv, rfl, hg, hkv, c0, c1, c2, c3, c4⟩ := HF.out.old HO.out.base hq; obtain ⟨y2, m2, rfl⟩ := hkv.form; have HQ := Lib.hid hq; have HK := Lib.hid hkv; clear hq hkv; obtain ⟨N2, hN2⟩ : ∃ N2, N2 = q.kids.length := ⟨_, rfl⟩; rw [<- hN2] at c4 HK; clear hN2; have HLt := Lib.hid hlt
    focus
     obtain ⟨hbf, -, cb0, cb1, cb2, cb3, cb4⟩ := bx5 HO.out.blk; go_wp2_with fail
     clear cb0 cb1 cb2 cb3 cb4 hbf
    refine (HKc.out q _ wr (List.mem_of_getElem? HQ.out) (HK.out.later HO.out.base)).mono ?_; rintro e W5 ⟨rfl, hb⟩; have c0' := (hb.cell (p := ⟨g, off + k * 5, none⟩) hg).trans c0; have hg' := Nat.lt_of_lt_of_le hg hb.size; replace HO := Lib.hid (HO.out.below hb); clear c0 c1 c2 c3 c4 hg hb; have htl := HKL.out q (List.mem_of_getElem? HQ.out); have hlk : L[k]? = some (parT (parB 6 q.op) (textF Lib.itoa q)) := by rw [HL.out, textKids_eq, List.getElem?_map, HQ.out]; rfl
    have HLk := Lib.hid hlk; clear hlk; obtain ⟨t, ht⟩ : ∃ t, t = textF Lib.itoa q := ⟨_, rfl⟩; rw [<- ht] at htl HLk ⊢; clear ht; obtain ⟨oq, hoq⟩ : ∃ oq, oq = q.op := ⟨_, rfl⟩; rw [<- hoq] at c0' HLk; clear hoq; by_cases h6 : oq = 6
    ·subst h6; have HPT : Hid (parT (parB 6 6) t = [40] ++ (t ++ [41])) := Lib.hid rfl; by_cases hk0 : k = 0
     ·subst hk0; simp only [Nat.zero_mul, Nat.add_zero] at c0'; have HA2 : Hid (accF 6 L (0 + 1) = a ++ (([40] ++ (t ++ [41])))) := by
       show _ = _; rw [acc_or HLk.out, HPT.out, <- HA.out]
       try rw [if_pos (show 0 < 0 by omega)]
       try rw [if_neg (show ¬ 0 < 0 by omega)]
       try rfl
      focus
       obtain ⟨hbf, -, cb0, cb1, cb2, cb3, cb4⟩ := bx5 HO.out.blk; go_wp2_with fail
       go_roundg (N - (0 + 1))
       case measure => omega
       case rel => exact ⟨0 + 1, _, rfl, by omega, by go_num, rfl, Lib.hid (by rw [HA2.out] <;> simp [bs_data]), HO⟩
     ·have hk1 : 0 < k := by omega
      clear hk0; have HA2 : Hid (accF 6 L (k + 1) = a ++ ([32, 111, 114, 32] ++ (([40] ++ (t ++ [41]))))) := by
       show _ = _; rw [acc_or HLk.out, HPT.out, <- HA.out]
       try rw [if_pos (show 0 < k by omega)]
       try rw [if_neg (show ¬ 0 < k by omega)]
       try rfl
      focus
       obtain ⟨hbf, -, cb0, cb1, cb2, cb3, cb4⟩ := bx5 HO.out.blk; go_wp2_with fail
       go_roundg (N - (k + 1))
       case measure => omega
       case rel => exact ⟨k + 1, _, rfl, by omega, by go_num, rfl, Lib.hid (by rw [HA2.out] <;> simp [bs_data]), HO⟩
    have h6' : (oq == 6) = false := by simpa using h6
    by_cases h5 : oq = 5
    ·subst h5; have HPT : Hid (parT (parB 6 5) t = t) := Lib.hid rfl; by_cases hk0 : k = 0
     ·subst hk0; simp only [Nat.zero_mul, Nat.add_zero] at c0'; have HA2 : Hid (accF 6 L (0 + 1) = a ++ (t)) := by
       show _ = _; rw [acc_or HLk.out, HPT.out, <- HA.out]
       try rw [if_pos (show 0 < 0 by omega)]
       try rw [if_neg (show ¬ 0 < 0 by omega)]
       try rfl
      focus
       obtain ⟨hbf, -, cb0, cb1, cb2, cb3, cb4⟩ := bx5 HO.out.blk; go_wp2_with fail
       go_roundg (N - (0 + 1))
       case measure => omega
       case rel => exact ⟨0 + 1, _, rfl, by omega, by go_num, rfl, Lib.hid (by rw [HA2.out] <;> simp [bs_data]), HO⟩
     ·have hk1 : 0 < k := by omega
      clear hk0; have HA2 : Hid (accF 6 L (k + 1) = a ++ ([32, 111, 114, 32] ++ (t))) := by
       show _ = _; rw [acc_or HLk.out, HPT.out, <- HA.out]
       try rw [if_pos (show 0 < k by omega)]
       try rw [if_neg (show ¬ 0 < k by omega)]
       try rfl
      focus
       obtain ⟨hbf, -, cb0, cb1, cb2, cb3, cb4⟩ := bx5 HO.out.blk; go_wp2_with fail
       go_roundg (N - (k + 1))
       case measure => omega
       case rel => exact ⟨k + 1, _, rfl, by omega, by go_num, rfl, Lib.hid (by rw [HA2.out] <;> simp [bs_data]), HO⟩
    ·have h5' : (oq == 5) = false := by simpa using h5
     have HPT : Hid (parT (parB 6 oq) t = t) := by
      show _ = _; rw [parB]; simp [h5, h6, parT]
     clear h5 h6; by_cases hk0 : k = 0
     ·subst hk0; simp only [Nat.zero_mul, Nat.add_zero] at c0'; have HA2 : Hid (accF 6 L (0 + 1) = a ++ (t)) := by
       show _ = _; rw [acc_or HLk.out, HPT.out, <- HA.out]
       try rw [if_pos (show 0 < 0 by omega)]
       try rw [if_neg (show ¬ 0 < 0 by omega)]
       try rfl
      focus
       obtain ⟨hbf, -, cb0, cb1, cb2, cb3, cb4⟩ := bx5 HO.out.blk; go_wp2_with fail
       go_roundg (N - (0 + 1))
       case measure => omega
       case rel => exact ⟨0 + 1, _, rfl, by omega, by go_num, rfl, Lib.hid (by rw [HA2.out] <;> simp [bs_data]), HO⟩
     ·have hk1 : 0 < k := by omega
      clear hk0; have HA2 : Hid (accF 6 L (k + 1) = a ++ ([32, 111, 114, 32] ++ (t))) := by
       show _ = _; rw [acc_or HLk.out, HPT.out, <- HA.out]
       try rw [if_pos (show 0 < k by omega)]
       try rw [if_neg (show ¬ 0 < k by omega)]
       try rfl
      focus
       obtain ⟨hbf, -, cb0, cb1, cb2, cb3, cb4⟩ := bx5 HO.out.blk; go_wp2_with fail
       go_roundg (N - (k + 1))
       case measure => omega
       case rel => exact ⟨k + 1, _, rfl, by omega, by go_num, rfl, Lib.hid (by rw [HA2.out] <;> simp [bs_data]), HO⟩
   ·obtain rfl : k = N := by omega
    have HE : Hid (textF Lib.itoa f = a) := by show _ = _; rw [<- HFin.out, HA.out]
    clear hJ1 hK1 hlt HA; obtain ⟨hbf, -, cb0, cb1, cb2, cb3, cb4⟩ := bx5 HO.out.blk; go_wp2_with fail
    go_ret
    exact ⟨by rw [HE.out]; rfl, HO.out.base⟩
set_option maxHeartbeats 2000000 in
theorem rText_c (f : Fm) (w : World) (kv : Value) (hf : IsFm p w f kv) {lim : Nat} (hlim : lim <= 140737488355328) (hs : short lim f = true) (hz : size f <= 900000) :
  Calls Tryz.prog 52 #[fval f kv] w (fun e w' => e = .returned (.tuple #[.string (bs (if textE f = 0 then textF Lib.itoa f else [])), .int .i64 (textE f : Nat)]) /\ Below w.heap.size w w') := by
 have HS := Lib.hid hs; have HLim := Lib.hid hlim; have HZ := Lib.hid hz; clear hs hlim hz; obtain ⟨y, m, rfl⟩ := hf.form; obtain ⟨N, hN⟩ : ∃ N, N = f.kids.length := ⟨_, rfl⟩; have HN := Lib.hid hN; rw [<- hN] at hf ⊢; have HF := Lib.hid hf; clear hN hf; obtain ⟨W1, hW1⟩ : ∃ W1, W1 = w.alloc (fobj f (.slice y N m)) := ⟨_, rfl⟩; obtain ⟨bf, hbf⟩ : ∃ bf, bf = w.heap.size := ⟨_, rfl⟩; have HO : Hid (Owns w W1 [blk bf (fobj f (.slice y N m))]) := by
  rw [hW1, hbf]; exact Lib.hid ((Owns.start w).box _)
 have HE : Hid (textE f = if largeB f = true ∨ firstF badE f ≠ 0 then 1 else 0) := rfl; obtain ⟨R, hR⟩ : ∃ R, R = if textE f = 0 then textF Lib.itoa f else [] := ⟨_, rfl⟩
 obtain ⟨Z, hZ⟩ : ∃ Z, Z = textE f := ⟨_, rfl⟩; rw [<- hR, <- hZ]; rw [<- hZ] at HE hR; replace hR := Lib.hid hR; clear hZ; go_enter Tryz.func52, Tryz.ntmps52
 go_wp2_with fail
 rw [<- hW1]
 try rw [<- hbf]
 clear hW1 hbf; go_at_call 87
 refine (rLarge_c f W1 _ (HF.out.later HO.out.base) HZ.out).mono ?_; rintro e W2 ⟨rfl, hb⟩; replace HO := Lib.hid (HO.out.below hb); clear hb; obtain ⟨L, hL⟩ : ∃ L, L = largeB f := ⟨_, rfl⟩; rw [<- hL] at HE ⊢; clear hL; cases L
 case true =>
  rw [if_pos (.inl rfl)] at HE; go_wp2_with fail
  go_ret2
  exact ⟨by rw [hR.out, HE.out]; rfl, HO.out.base⟩
 focus
  obtain ⟨hbf, -, cb0, cb1, cb2, cb3, cb4⟩ := bx5 HO.out.blk; go_wp2_with fail
  clear cb0 cb1 cb2 cb3 cb4 hbf
 go_at_call 88
 refine (writable_c (p := p) HLim.out f W2 _ (HF.out.later HO.out.base) (by have := HZ.out; rw [size_kids] at this; omega) HS.out).mono ?_; rintro e W3 ⟨rfl, hb⟩; replace HO := Lib.hid (HO.out.below hb); clear hb; obtain ⟨q, hq⟩ : ∃ q, q = decide (firstF badE f = 0) := ⟨_, rfl⟩; have HQ := Lib.hid hq; rw [<- hq]; clear hq; cases q
 ·rw [if_pos (.inr (of_decide_eq_false HQ.out.symm))] at HE; go_wp2_with fail
  go_ret2
  exact ⟨by rw [hR.out, HE.out]; rfl, HO.out.base⟩
 ·have hw : firstF badE f = 0 := of_decide_eq_true HQ.out.symm; rw [if_neg (by simp [hw])] at HE; have HWr := Lib.hid hw; clear hw
  focus
   obtain ⟨hbf, -, cb0, cb1, cb2, cb3, cb4⟩ := bx5 HO.out.blk; go_wp2_with fail
   clear cb0 cb1 cb2 cb3 cb4 hbf
  go_at_call 89
  refine (written_c (p := p) f W3 _ (HF.out.later HO.out.base) HZ.out HWr.out).mono ?_; rintro e W4 ⟨rfl, hb⟩; replace HO := Lib.hid (HO.out.below hb); clear hb; go_wp2_with fail
  go_ret2
  exact ⟨by rw [hR.out, HE.out]; rfl, HO.out.base⟩
end
end Go.Proofs.YtoeknmkephnekaaGreatDoor
namespace Go.Proofs.YtoeknmkephnekaaGreatDoor
open Go.RowKit Go.Cz Go.Cz.Lx Go.Cz.Fo Go.Cz.Vd
open Go.Cz.Wn (datedB)
attribute [local go_sem] bs_size bs_extract bs_append bs_toList
attribute [local irreducible] cList cPlan
set_option maxRecDepth 100000 in
set_option maxHeartbeats 8000000 in
theorem rSame30_c {p : Nat -> Prop} (a b : Me) (ka kb : Value) (w : World) (hfa : IsFm p w a.cond ka) (hfb : IsFm p w b.cond kb) (hsa : Go.Cz.Fo.size a.cond <= 900000) (hsb : Go.Cz.Fo.size b.cond <= 900000) :
  Calls Tryz.prog 23 #[mval a ka, mval b kb] w fun e w' => e = .returned (.bool (sameM a b)) /\ Below w.heap.size w w' := by
 have HFA := Lib.hid hfa; have HFB := Lib.hid hfb; have HSA := Lib.hid hsa; have HSB := Lib.hid hsb; obtain ⟨y, c, rfl⟩ := hfa.form; obtain ⟨y', c', rfl⟩ := hfb.form; obtain ⟨n, hn⟩ : ∃ n, n = a.cond.kids.length := ⟨_, rfl⟩; obtain ⟨n', hn'⟩ : ∃ n, n = b.cond.kids.length := ⟨_, rfl⟩; rw [<- hn] at HFA ⊢; rw [<- hn'] at HFB ⊢; clear hfa hfb hsa hsb hn hn'; obtain ⟨bx, hbx⟩ : ∃ bx, bx = w.heap.size := ⟨_, rfl⟩; obtain ⟨by0, hby⟩ : ∃ b2, b2 = w.heap.size + 1 := ⟨_, rfl⟩; obtain ⟨W1, hW1⟩ : ∃ W1, W1 = (w.alloc (mobj a (.slice y n c))).alloc (mobj b (.slice y' n' c')) := ⟨_, rfl⟩; have HO : Hid (Owns w W1 [blk bx (mobj a (.slice y n c)), blk by0 (mobj b (.slice y' n' c'))]) := by
  have h := ((Owns.start w).box (mobj a (.slice y n c))).box (mobj b (.slice y' n' c')); rw [World.size_alloc] at h; rw [hW1, hbx, hby]; exact Lib.hid h.swap
 go_enter Tryz.func23, Tryz.ntmps23
 go_upto_region 1 with fail
 rw [<- hby, <- hW1, <- hbx]; clear hW1 hbx hby; by_cases g0 : a.id = b.id
 rotate_left
 ·have g0' : (a.id == b.id) = false := by simpa using g0
  have HE : Hid (sameM a b = false) := by
   show _ = _; cases hq : sameM a b with
   | false => rfl
   | true => exact absurd (congrArg (fun m => m.id) (sameM_iff.1 hq)) g0
  clear g0
  (try clear hcx c0 c1 c2 c3 c4 c5 c6 c7 c8 c9 ct cu)
  obtain ⟨hcx, -, c0, c1, c2, c3, c4, c5, c6, c7, c8, c9, ct, cu⟩ := bx12 (Owns.blk (HO.out))
  (try clear hdx d0 d1 d2 d3 d4 d5 d6 d7 d8 d9 dt du)
  obtain ⟨hdx, -, d0, d1, d2, d3, d4, d5, d6, d7, d8, d9, dt, du⟩ := bx12 (Owns.blk (HO.out.pop)); go_wp2_with fail
  clear hcx c0 c1 c2 c3 c4 c5 c6 c7 c8 c9 ct cu hdx d0 d1 d2 d3 d4 d5 d6 d7 d8 d9 dt du; go_ret
  exact ⟨by rw [HE.out]; rfl, HO.out.base⟩
 have g0' : (a.id == b.id) = true := by simpa using g0
 by_cases g1 : a.auth = b.auth
 rotate_left
 ·have g1' : (a.auth == b.auth) = false := by simpa using g1
  have HE : Hid (sameM a b = false) := by
   show _ = _; cases hq : sameM a b with
   | false => rfl
   | true => exact absurd (congrArg (fun m => m.auth) (sameM_iff.1 hq)) g1
  clear g1
  (try clear hcx c0 c1 c2 c3 c4 c5 c6 c7 c8 c9 ct cu)
  obtain ⟨hcx, -, c0, c1, c2, c3, c4, c5, c6, c7, c8, c9, ct, cu⟩ := bx12 (Owns.blk (HO.out))
  (try clear hdx d0 d1 d2 d3 d4 d5 d6 d7 d8 d9 dt du)
  obtain ⟨hdx, -, d0, d1, d2, d3, d4, d5, d6, d7, d8, d9, dt, du⟩ := bx12 (Owns.blk (HO.out.pop)); go_wp2_with fail
  clear hcx c0 c1 c2 c3 c4 c5 c6 c7 c8 c9 ct cu hdx d0 d1 d2 d3 d4 d5 d6 d7 d8 d9 dt du; go_ret
  exact ⟨by rw [HE.out]; rfl, HO.out.base⟩
 have g1' : (a.auth == b.auth) = true := by simpa using g1
 by_cases g2 : a.kind = b.kind
 rotate_left
 ·have g2' : (a.kind != b.kind) = true := by simpa using g2
  have HE : Hid (sameM a b = false) := by
   show _ = _; cases hq : sameM a b with
   | false => rfl
   | true => exact absurd (congrArg (fun m => m.kind) (sameM_iff.1 hq)) g2
  clear g2
  (try clear hcx c0 c1 c2 c3 c4 c5 c6 c7 c8 c9 ct cu)
  obtain ⟨hcx, -, c0, c1, c2, c3, c4, c5, c6, c7, c8, c9, ct, cu⟩ := bx12 (Owns.blk (HO.out))
  (try clear hdx d0 d1 d2 d3 d4 d5 d6 d7 d8 d9 dt du)
  obtain ⟨hdx, -, d0, d1, d2, d3, d4, d5, d6, d7, d8, d9, dt, du⟩ := bx12 (Owns.blk (HO.out.pop)); go_wp2_with fail
  clear hcx c0 c1 c2 c3 c4 c5 c6 c7 c8 c9 ct cu hdx d0 d1 d2 d3 d4 d5 d6 d7 d8 d9 dt du; go_ret
  exact ⟨by rw [HE.out]; rfl, HO.out.base⟩
 have g2' : (a.kind != b.kind) = false := by simpa using g2
 by_cases g3 : a.target = b.target
 rotate_left
 ·have g3' : (a.target == b.target) = false := by simpa using g3
  have HE : Hid (sameM a b = false) := by
   show _ = _; cases hq : sameM a b with
   | false => rfl
   | true => exact absurd (congrArg (fun m => m.target) (sameM_iff.1 hq)) g3
  clear g3
  (try clear hcx c0 c1 c2 c3 c4 c5 c6 c7 c8 c9 ct cu)
  obtain ⟨hcx, -, c0, c1, c2, c3, c4, c5, c6, c7, c8, c9, ct, cu⟩ := bx12 (Owns.blk (HO.out))
  (try clear hdx d0 d1 d2 d3 d4 d5 d6 d7 d8 d9 dt du)
  obtain ⟨hdx, -, d0, d1, d2, d3, d4, d5, d6, d7, d8, d9, dt, du⟩ := bx12 (Owns.blk (HO.out.pop)); go_wp2_with fail
  clear hcx c0 c1 c2 c3 c4 c5 c6 c7 c8 c9 ct cu hdx d0 d1 d2 d3 d4 d5 d6 d7 d8 d9 dt du; go_ret
  exact ⟨by rw [HE.out]; rfl, HO.out.base⟩
 have g3' : (a.target == b.target) = true := by simpa using g3
 by_cases g4 : a.fr = b.fr
 rotate_left
 ·have g4' : (a.fr == b.fr) = false := by simpa using g4
  have HE : Hid (sameM a b = false) := by
   show _ = _; cases hq : sameM a b with
   | false => rfl
   | true => exact absurd (congrArg (fun m => m.fr) (sameM_iff.1 hq)) g4
  clear g4
  (try clear hcx c0 c1 c2 c3 c4 c5 c6 c7 c8 c9 ct cu)
  obtain ⟨hcx, -, c0, c1, c2, c3, c4, c5, c6, c7, c8, c9, ct, cu⟩ := bx12 (Owns.blk (HO.out))
  (try clear hdx d0 d1 d2 d3 d4 d5 d6 d7 d8 d9 dt du)
  obtain ⟨hdx, -, d0, d1, d2, d3, d4, d5, d6, d7, d8, d9, dt, du⟩ := bx12 (Owns.blk (HO.out.pop)); go_wp2_with fail
  clear hcx c0 c1 c2 c3 c4 c5 c6 c7 c8 c9 ct cu hdx d0 d1 d2 d3 d4 d5 d6 d7 d8 d9 dt du; go_ret
  exact ⟨by rw [HE.out]; rfl, HO.out.base⟩
 have g4' : (a.fr == b.fr) = true := by simpa using g4
 by_cases g5 : a.un = b.un
 rotate_left
 ·have g5' : (a.un == b.un) = false := by simpa using g5
  have HE : Hid (sameM a b = false) := by
   show _ = _; cases hq : sameM a b with
   | false => rfl
   | true => exact absurd (congrArg (fun m => m.un) (sameM_iff.1 hq)) g5
  clear g5
  (try clear hcx c0 c1 c2 c3 c4 c5 c6 c7 c8 c9 ct cu)
  obtain ⟨hcx, -, c0, c1, c2, c3, c4, c5, c6, c7, c8, c9, ct, cu⟩ := bx12 (Owns.blk (HO.out))
  (try clear hdx d0 d1 d2 d3 d4 d5 d6 d7 d8 d9 dt du)
  obtain ⟨hdx, -, d0, d1, d2, d3, d4, d5, d6, d7, d8, d9, dt, du⟩ := bx12 (Owns.blk (HO.out.pop)); go_wp2_with fail
  clear hcx c0 c1 c2 c3 c4 c5 c6 c7 c8 c9 ct cu hdx d0 d1 d2 d3 d4 d5 d6 d7 d8 d9 dt du; go_ret
  exact ⟨by rw [HE.out]; rfl, HO.out.base⟩
 have g5' : (a.un == b.un) = true := by simpa using g5
 by_cases g6 : a.wi = b.wi
 rotate_left
 ·have g6' : (a.wi == b.wi) = false := by simpa using g6
  have HE : Hid (sameM a b = false) := by
   show _ = _; cases hq : sameM a b with
   | false => rfl
   | true => exact absurd (congrArg (fun m => m.wi) (sameM_iff.1 hq)) g6
  clear g6
  (try clear hcx c0 c1 c2 c3 c4 c5 c6 c7 c8 c9 ct cu)
  obtain ⟨hcx, -, c0, c1, c2, c3, c4, c5, c6, c7, c8, c9, ct, cu⟩ := bx12 (Owns.blk (HO.out))
  (try clear hdx d0 d1 d2 d3 d4 d5 d6 d7 d8 d9 dt du)
  obtain ⟨hdx, -, d0, d1, d2, d3, d4, d5, d6, d7, d8, d9, dt, du⟩ := bx12 (Owns.blk (HO.out.pop)); go_wp2_with fail
  clear hcx c0 c1 c2 c3 c4 c5 c6 c7 c8 c9 ct cu hdx d0 d1 d2 d3 d4 d5 d6 d7 d8 d9 dt du; go_ret
  exact ⟨by rw [HE.out]; rfl, HO.out.base⟩
 have g6' : (a.wi == b.wi) = true := by simpa using g6
 have HE : Hid (sameM a b = sameF a.cond b.cond) := by
  show _ = _; unfold sameM; simp [g0, g1, g2, g3, g4, g5, g6]
 clear g0 g1 g2 g3 g4 g5 g6
 (try clear hcx c0 c1 c2 c3 c4 c5 c6 c7 c8 c9 ct cu)
 obtain ⟨hcx, -, c0, c1, c2, c3, c4, c5, c6, c7, c8, c9, ct, cu⟩ := bx12 (Owns.blk (HO.out))
 (try clear hdx d0 d1 d2 d3 d4 d5 d6 d7 d8 d9 dt du)
 obtain ⟨hdx, -, d0, d1, d2, d3, d4, d5, d6, d7, d8, d9, dt, du⟩ := bx12 (Owns.blk (HO.out.pop)); go_wp2_with fail
 clear hcx c0 c1 c2 c3 c4 c5 c6 c7 c8 c9 ct cu hdx d0 d1 d2 d3 d4 d5 d6 d7 d8 d9 dt du; go_at_call 64
 refine (rSame_c w a.cond b.cond W1 _ _ HO.out.base HFA.out HFB.out HSA.out HSB.out).mono ?_; rintro e W2 ⟨rfl, hb⟩; replace HO := Lib.hid (HO.out.below hb); clear hb; go_wp2_with fail
 go_ret
 exact ⟨by rw [HE.out]; rfl, HO.out.base⟩
end Go.Proofs.YtoeknmkephnekaaGreatDoor
