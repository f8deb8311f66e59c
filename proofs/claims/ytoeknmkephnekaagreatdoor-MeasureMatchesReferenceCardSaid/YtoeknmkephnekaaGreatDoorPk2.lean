/-
  Texts of this claim, put together by a program: FmLexes, FmPos, FmGap, MsP, FmMem, FmSize, FmRec, FmDom, FmFact, VdIdent, VdMem, FmKey, FmIdent, FmFormed, FmFirst, VdValid, VdTexts, FmPiece, Shelf2.
-/
import Derived.Test.YtoeknmkephnekaaGreatDoorPk1
import Derived.Lib.ItoaLen
import Derived.Deep.LoopGhost
import Derived.Laws.EntriesVeiled
import Derived.Maps.OwnSet
import Derived.Carry
import Derived.Shelf.LaysC
import Derived.Shelf.LaysM
import Derived.Shelf.Slices.Turned
import Derived.Shelf.Small.Strs
import Derived.Shelf.Small.Utf8
import Derived.Shelf.Strconv.Atoi
import Derived.Shelf.Strconv.AtoiAll
import Derived.Shelf.Strconv.AtoiErrFast
import Derived.Shelf.Strconv.AtoiFail
import Derived.Shelf.Strconv.AtoiInnerAll
import Derived.Shelf.Strconv.AtoiLong
import Derived.Shelf.Strconv.Clone
import Derived.Shelf.Strconv.ErrVarAll
import Derived.Shelf.Strconv.Itoa0
import Derived.Shelf.Strconv.Itoa1
import Derived.Shelf.Strconv.Itoa2
import Derived.Shelf.Strconv.Itoa3
import Derived.Shelf.Strconv.Lower
import Derived.Shelf.Strconv.ParseInt10
import Derived.Shelf.Strconv.ParseIntEmpty
import Derived.Shelf.Strconv.ParseUint10
import Derived.Shelf.Strconv.ParseUint10Any
import Derived.Shelf.Strconv.ParseUint10Empty
import Derived.Shelf.Strconv.RangeError
import Derived.Shelf.Strconv.SyntaxError
import Derived.Shelf.Strconv.ToError
import Derived.Shelf.Strconv.ToErrorRange
import Derived.Shelf.Strings.AsciiSet
import Derived.Shelf.Strings.Builder1
import Derived.Shelf.Strings.Builder2
import Derived.Shelf.Strings.BuilderF
import Derived.Shelf.Strings.IndexAny
import Derived.Shelf.Strings.IndexAnyAll
import Derived.Shelf.Strings.OnBuilder
import Derived.Shelf.Strings.Prefix
import Derived.Shelf.Strings.Runes
import Derived.Shelf.Strings.Search1
import Derived.Test.YtoeknmkephnekaaGreatDoorProg
set_option linter.unusedSimpArgs false
set_option linter.unusedVariables false
namespace Go.Cz.Lx
theorem atL_drop (l : List UInt8) (i j : Nat) : atL (l.drop i) j = atL l (i + j) := by unfold atL; rw [List.getElem?_drop]
theorem nextL_at (l : List UInt8) (i : Nat) : nextL l i = match nextL (l.drop i) 0 with | .error e => .error e | .ok (t, k) => .ok (⟨t.kind, i, t.num, t.text⟩, k) := by
 unfold nextL; have e0 : atL (l.drop i) 0 = atL l i := by rw [atL_drop]; rfl
 have e1 : ∀ j, atL (l.drop i) (0 + j) = atL l (i + j) := fun j => by rw [atL_drop, Nat.zero_add]
 have e2 : (l.drop i)[0 + 1]? = l[i + 1]? := by rw [List.getElem?_drop]
 have e3 : (l.drop i).drop (0 + 1) = l.drop (i + 1) := by rw [List.drop_drop]
 rw [e0, e1, e2, e3, List.drop_zero]; by_cases h3 : atL l i = 3
 ·rw [if_pos h3, if_pos h3]
  split <;> rfl
 rw [if_neg h3, if_neg h3]; by_cases h4 : atL l i = 4
 ·rw [if_pos h4, if_pos h4]
  split <;> rfl
 rw [if_neg h4, if_neg h4]; by_cases h6 : atL l i = 6
 ·rw [if_pos h6, if_pos h6]; rcases idxQ (l.drop (i + 1)) with _ | n
  ·rfl
  ·simp only
   split
   ·rfl
   ·split <;> rfl
 rw [if_neg h6, if_neg h6]
 split
 ·rfl
 ·split <;> rfl
end Go.Cz.Lx
namespace Go.Cz.Fo
open Go.Cz.Lx
inductive Lexes : Bytes -> List KTok -> Prop
 | nil {l} : gapL false l = l.length -> Lexes l []
 | cons {l t k ks} : gapL false l < l.length -> nextL (l.drop (gapL false l)) 0 = .ok (t, k) -> Lexes ((l.drop (gapL false l)).drop k) ks -> Lexes l (strip t :: ks)
theorem Lexes.runs {x : Bytes} {ks : List KTok} (h : Lexes x ks) : ∀ (l : Bytes) (i f : Nat) (acc : List Tok), l.drop i = x -> i <= l.length -> l.length - i < f -> acc.length + ks.length <= 5000 -> ∃ ts, lexF l f (gapE l i) acc = .ok (acc ++ ts) /\ ts.map strip = ks := by
 induction h with
 | @nil x hg =>
  intro l i f acc hx hi hf _; refine ⟨[], ?_, rfl⟩; have he : gapE l i = l.length := by
   unfold gapE; rw [hx, hg, <- hx, List.length_drop]; omega
  cases f with
  | zero => omega
  | succ f =>
   simp only [lexF]; rw [he, if_neg (by omega), List.append_nil]
 | @cons x t k ks hg hn _ ih =>
  intro l i f acc hx hi hf hc; have hlen : x.length = l.length - i := by rw [<- hx, List.length_drop]
  have he : gapE l i = i + gapL false x := by unfold gapE; rw [hx]
  obtain ⟨g, hgg⟩ : ∃ g, g = gapL false x := ⟨_, rfl⟩; rw [<- hgg] at he hg hn ih; cases f with
  | zero => omega
  | succ f =>
   have hd : l.drop (i + g) = x.drop g := by rw [<- hx, List.drop_drop]
   have hn2 : nextL l (i + g) = .ok (⟨t.kind, i + g, t.num, t.text⟩, k) := by rw [nextL_at, hd, hn]
   obtain ⟨w1, w2⟩ := nextL_width hn2 (by omega); simp only [List.length_cons] at hc; obtain ⟨ts, h1, h2⟩ := ih l (i + g + k) f (acc ++ [⟨t.kind, i + g, t.num, t.text⟩]) (by rw [<- hd, List.drop_drop]) w2 (by omega) (by simp; omega); refine ⟨⟨t.kind, i + g, t.num, t.text⟩ :: ts, ?_, ?_⟩
   ·simp only [lexF]; rw [he, if_pos (by omega), hn2]; simp only; rw [if_neg (by omega), h1]; simp
   ·rw [List.map_cons, h2]; rfl
theorem Lexes.all {l : Bytes} {ks : List KTok} (h : Lexes l ks) (h1 : l.length <= 20000) (h2 : ks.length <= 5000) : ∃ ts, lexAll l = (ts, 0, 0) /\ ts.map strip = ks := by
 obtain ⟨ts, h3, h4⟩ := h.runs l 0 (l.length + 1) [] (by simp) (by omega) (by omega) (by simpa using h2); refine ⟨ts, ?_, h4⟩; unfold lexAll; rw [if_neg (by omega), h3]
 rfl
def Brk (l : Bytes) : Prop := ∀ c r, l = c :: r -> wordB c = false
theorem gap_no {c : UInt8} {l : Bytes} (h1 : cls c ≠ 1) (h2 : cls c ≠ 2) : gapL false (c :: l) = 0 := by simp only [gapL]; rw [if_neg h1, if_neg h2]
theorem Lexes.head {c : UInt8} {r : Bytes} {t : Tok} {k : Nat} {ks : List KTok} (h1 : cls c ≠ 1) (h2 : cls c ≠ 2) (hn : nextL (c :: r) 0 = .ok (t, k)) (h : Lexes ((c :: r).drop k) ks) : Lexes (c :: r) (strip t :: ks) := by
 have hg := gap_no (l := r) h1 h2; exact .cons (by rw [hg]; simp) (by rw [hg]; exact hn) (by rw [hg]; exact h)
theorem Lexes.space {l : Bytes} {ks : List KTok} (h : Lexes l ks) : Lexes (32 :: l) ks := by
 have hg : gapL false (32 :: l) = gapL false l + 1 := by simp only [gapL]; rw [if_pos (by decide)]
 cases h with
 | nil h => exact .nil (by rw [hg, h]; rfl)
 | cons h1 h2 h3 => exact .cons (by rw [hg, List.length_cons]; omega) (by rw [hg, List.drop_succ_cons]; exact h2) (by rw [hg, List.drop_succ_cons]; exact h3)
theorem while_brk {C : List Nat} (hC : ∀ c : UInt8, C.contains (cls c) = true -> wordB c = true) : ∀ (s rest : Bytes), (∀ c ∈ s, C.contains (cls c) = true) -> Brk rest -> whileN C (s ++ rest) = s.length
 | [], rest, _, hb => by
  cases rest with
  | nil => rfl
  | cons c r =>
   show whileN C (c :: r) = 0; unfold whileN; rw [if_neg]; intro h; have := hC c h; rw [hb c r rfl] at this; cases this
 | c :: s, rest, hs, hb => by
  rw [List.cons_append]; unfold whileN; rw [if_pos (hs c (by simp)), while_brk hC s rest (fun d hd => hs d (by simp [hd])) hb]
  rfl
theorem Lexes.name {s rest : Bytes} {ks : List KTok} (hn : nameB s = true) (hb : Brk rest) (h : Lexes rest ks) : Lexes (s ++ rest) (kName s :: ks) := by
 unfold nameB at hn; simp only [Bool.and_eq_true, decide_eq_true_eq, beq_iff_eq, List.all_eq_true] at hn; obtain ⟨h1, h2, h3, h4⟩ := hn; have hw := while_brk (C := [3, 4, 5]) (fun c hc => hc) s rest (fun c hc => h1 c hc) hb
 match s, h2 with
 | c :: s, _ =>
  have hc : cls c = 3 := h4; have := Lexes.head (c := c) (r := s ++ rest) (t := ⟨1, 0, 0, c :: s⟩) (k := (c :: s).length) (ks := ks) (by rw [hc]; decide) (by rw [hc]; decide) (by
   unfold nextL; have e : atL (c :: (s ++ rest)) 0 = 3 := hc; have hw' : whileN [3, 4, 5] (c :: (s ++ rest)) = (c :: s).length := hw; rw [if_pos e, List.drop_zero, hw', if_neg (by omega)]; have e2 : (c :: (s ++ rest)).take (c :: s).length = c :: s := by
    have : c :: (s ++ rest) = (c :: s) ++ rest := rfl; rw [this, List.take_append_of_le_length (Nat.le_refl _), List.take_length]
   rw [e2]) (by
   have : c :: (s ++ rest) = (c :: s) ++ rest := rfl; rw [this, List.drop_append_of_le_length (Nat.le_refl _), List.drop_length]; exact h)
  exact this
theorem dig_cls {c : UInt8} (h : 48 <= c.toNat /\ c.toNat <= 57) : cls c = 4 := all_bytes (p := fun c => 48 <= c.toNat /\ c.toNat <= 57 -> cls c = 4) (by decide +kernel) c h
theorem dig_val {k : Nat} (h : k < 10) : (UInt8.ofNat (48 + k)).toNat - 48 = k /\ 48 <= (UInt8.ofNat (48 + k)).toNat /\ (UInt8.ofNat (48 + k)).toNat <= 57 := by
 have : ∀ k : Fin 10, (UInt8.ofNat (48 + k.1)).toNat - 48 = k.1 /\ 48 <= (UInt8.ofNat (48 + k.1)).toNat /\ (UInt8.ofNat (48 + k.1)).toNat <= 57 := by decide
 exact this ⟨k, h⟩
theorem numV_snoc (l : Bytes) (c : UInt8) : numV (l ++ [c]) = 10 * numV l + (c.toNat - 48) := by simp [numV]
theorem numV_dec : ∀ n : Nat, numV (Lib.decDigits n) = n := by
 intro n
 induction n using Nat.strongRecOn with
 | _ n ih =>
  rw [Lib.decDigits]; by_cases h : n < 10
  ·rw [dif_pos h]; have := (dig_val h).1; simp [numV] at this ⊢
   omega
  ·rw [dif_neg h, numV_snoc, ih (n / 10) (by omega), (dig_val (Nat.mod_lt n (by decide))).1]; omega
theorem dec_digit : ∀ (n : Nat), ∀ c ∈ Lib.decDigits n, 48 <= c.toNat /\ c.toNat <= 57 := by
 intro n
 induction n using Nat.strongRecOn with
 | _ n ih =>
  intro c hc; rw [Lib.decDigits] at hc; by_cases h : n < 10
  ·rw [dif_pos h] at hc; have : c = UInt8.ofNat (48 + n) := by simpa using hc
   rw [this]; exact (dig_val h).2
  ·rw [dif_neg h] at hc; rcases List.mem_append.1 hc with hc | hc
   ·exact ih (n / 10) (by omega) c hc
   ·have : c = UInt8.ofNat (48 + n % 10) := by simpa using hc
    rw [this]; exact (dig_val (Nat.mod_lt n (by decide))).2
theorem dec_le : ∀ (k n : Nat), n < 10 ^ (k + 1) -> (Lib.decDigits n).length <= k + 1
 | 0, n, h => by rw [Lib.decDigits, dif_pos (by simpa using h)]; simp
 | k + 1, n, h => by
  rw [Lib.decDigits]; by_cases h10 : n < 10
  ·rw [dif_pos h10]; simp
  ·rw [dif_neg h10, List.length_append]; have := dec_le k (n / 10) (by rw [Nat.pow_succ] at h; omega); simp; omega
theorem dec_pos (n : Nat) : 1 <= (Lib.decDigits n).length := by rw [Lib.decDigits_length]; exact Lib.nDigits_pos n
theorem cls_word4 {c : UInt8} (h : [4].contains (cls c) = true) : wordB c = true := by
 have : cls c = 4 := by simpa [eq_comm] using h
 unfold wordB; rw [this]; rfl
theorem Lexes.num {n : Nat} {rest : Bytes} {ks : List KTok} (hn : n <= 1000000) (hb : Brk rest) (h : Lexes rest ks) : Lexes (Lib.decDigits n ++ rest) ((2, n, Lib.decDigits n) :: ks) := by
 have h1 := dec_digit n; have h2 := dec_le 6 n (by rw [show 10 ^ (6 + 1) = 10000000 by decide]; omega); have h3 := dec_pos n; have h4 := numV_dec n; obtain ⟨s, hs⟩ : ∃ s, s = Lib.decDigits n := ⟨_, rfl⟩; rw [<- hs] at h1 h2 h3 h4 ⊢; have hw := while_brk (C := [4]) (fun c => cls_word4) s rest (fun c hc => by rw [dig_cls (h1 c hc)]; rfl) hb
 match s, h3 with
 | c :: s, _ =>
  have hc : cls c = 4 := dig_cls (h1 c (by simp)); have he : ∀ k, k = 3 ∨ k = 5 -> atL (c :: (s ++ rest)) (0 + (c :: s).length) ≠ k := fun k hk e => by
   rw [Nat.zero_add, show c :: (s ++ rest) = (c :: s) ++ rest from rfl] at e; unfold atL at e; rw [List.getElem?_append_right (Nat.le_refl _), Nat.sub_self] at e; cases rest with
   | nil => simp at e; omega
   | cons d r =>
    have := hb d r rfl; simp at e
    unfold wordB at this; rw [e] at this; rcases hk with rfl | rfl <;> simp at this
  have := Lexes.head (c := c) (r := s ++ rest) (t := ⟨2, 0, n, c :: s⟩) (k := (c :: s).length) (ks := ks) (by rw [hc]; decide) (by rw [hc]; decide) (by
   unfold nextL; have e : atL (c :: (s ++ rest)) 0 = 4 := hc; have hw' : whileN [4] (c :: (s ++ rest)) = (c :: s).length := hw; have e2 : (c :: (s ++ rest)).take (c :: s).length = c :: s := by
    have : c :: (s ++ rest) = (c :: s) ++ rest := rfl; rw [this, List.take_append_of_le_length (Nat.le_refl _), List.take_length]
   rw [if_neg (by rw [e]; decide), if_pos e, List.drop_zero, hw', if_neg (by
    rintro (h | h | h)
    ·omega
    ·exact he 3 (.inl rfl) h
    ·exact he 5 (.inr rfl) h), e2, h4]) (by
   have : c :: (s ++ rest) = (c :: s) ++ rest := rfl; rw [this, List.drop_append_of_le_length (Nat.le_refl _), List.drop_length]; exact h)
  exact this
theorem Lexes.one {c : UInt8} {rest : Bytes} {ks : List KTok} (hc : cls c = 9) (h : Lexes rest ks) : Lexes (c :: rest) (kSym [c] :: ks) := by
 have e : atL (c :: rest) 0 = 9 := hc; refine Lexes.head (t := ⟨4, 0, 0, [c]⟩) (k := 1) (by rw [hc]; decide) (by rw [hc]; decide) ?_ h; unfold nextL; rw [if_neg (by rw [e]; decide), if_neg (by rw [e]; decide), if_neg (by rw [e]; decide), if_neg (by rw [e]; simp), if_pos (.inr e)]
 rfl
theorem Lexes.sym {m : Int} (h1 : 1 <= m) (h6 : m <= 6) {rest : Bytes} {ks : List KTok} (h : Lexes (32 :: rest) ks) : Lexes (symB m ++ 32 :: rest) (kSym (symB m) :: ks) := by
 have : m = 1 ∨ m = 2 ∨ m = 3 ∨ m = 4 ∨ m = 5 ∨ m = 6 := by omega
 rcases this with rfl | rfl | rfl | rfl | rfl | rfl
 ·exact Lexes.one (c := 61) (by decide) h
 ·exact Lexes.head (c := 33) (r := 61 :: 32 :: rest) (t := ⟨4, 0, 0, [33, 61]⟩) (k := 2) (by decide) (by decide) (by rfl) h
 ·exact Lexes.head (c := 60) (r := 32 :: rest) (t := ⟨4, 0, 0, [60]⟩) (k := 1) (by decide) (by decide) (by rfl) h
 ·exact Lexes.head (c := 60) (r := 61 :: 32 :: rest) (t := ⟨4, 0, 0, [60, 61]⟩) (k := 2) (by decide) (by decide) (by rfl) h
 ·exact Lexes.head (c := 62) (r := 32 :: rest) (t := ⟨4, 0, 0, [62]⟩) (k := 1) (by decide) (by decide) (by rfl) h
 ·exact Lexes.head (c := 62) (r := 61 :: 32 :: rest) (t := ⟨4, 0, 0, [62, 61]⟩) (k := 2) (by decide) (by decide) (by rfl) h
theorem brk_space (l : Bytes) : Brk (32 :: l) := fun c r e => by cases e; decide
theorem brk_close (l : Bytes) : Brk (41 :: l) := fun c r e => by cases e; decide
def Says (x : Bytes) (ts : List KTok) : Prop := ∀ rest ks, Brk rest -> Lexes rest ks -> Lexes (x ++ rest) (ts ++ ks)
theorem Says.par {x : Bytes} {ts : List KTok} (h : Says x ts) (b : Bool) : Says (parT b x) (parK b ts) := by
 cases b with
 | false => exact h
 | true =>
  intro rest ks hb hl; have h1 := Lexes.one (c := 41) (by decide) hl; have h2 := Lexes.one (c := 40) (by decide) (h _ _ (brk_close rest) h1); have e1 : parT true x ++ rest = 40 :: (x ++ 41 :: rest) := by simp [parT]
  have e2 : parK true ts ++ ks = kSym [40] :: (ts ++ kSym [41] :: ks) := by simp [parK]
  rw [e1, e2]; exact h2
theorem says_join {w : Bytes} (hw : nameB w = true) : ∀ l : List (Bytes × List KTok), l ≠ [] -> (∀ p ∈ l, Says p.1 p.2) -> Says (joinB (32 :: (w ++ [32])) (l.map Prod.fst)) (joinK (kName w) (l.map Prod.snd))
 | [], h, _ => absurd rfl h
 | [p], _, h => h p (by simp)
 | p :: q :: r, _, h => by
  have ih := says_join hw (q :: r) (by simp) fun x hx => h x (by simp [hx]); intro rest ks hb hl; have h1 := (ih rest ks hb hl).space; have h2 := (Lexes.name hw (brk_space _) h1).space; have h3 := h p (by simp) _ _ (brk_space _) h2; simp only [List.map_cons, joinB, joinK] at h3 ⊢
  simpa using h3
theorem Says.text (f : Fm) : Wr f -> Says (textF Lib.itoa f) (toksF f) := by
 refine Fm.induct (P := fun f => Wr f -> Says (textF Lib.itoa f) (toksF f)) ?_ f; clear f; intro f ih hw; have hk : ∀ k ∈ f.kids, ∀ b, Says (parT b (textF Lib.itoa k)) (parK b (toksF k)) := fun k hk b => (ih k hk (hw.kid hk)).par b; have kids : ∀ (op : Int) (w : Bytes), nameB w = true -> f.kids ≠ [] -> Says (joinB (32 :: (w ++ [32])) (textKids Lib.itoa op f.kids)) (joinK (kName w) (toksKids op f.kids)) := fun op w hn h0 => by
  have := says_join hn (f.kids.map fun k => (parT (parB op k.op) (textF Lib.itoa k), parK (parB op k.op) (toksF k))) (by simpa using h0) fun p hp => by
   obtain ⟨k, h1, rfl⟩ := List.mem_map.1 hp; exact hk k h1 _
  rw [List.map_map, List.map_map] at this; rw [textKids_eq, toksKids_eq]; exact this
 rcases hw.forms with ⟨s, m, n, rfl, hm1, hm6, hs, hy, hn0, hn1⟩ | rfl | rfl | ⟨k, rfl⟩ | ⟨a, b, r, rfl⟩ | ⟨a, b, r, rfl⟩
 ·intro rest ks hb hl; obtain ⟨N, rfl⟩ : ∃ N : Nat, n = N := ⟨n.toNat, (Int.toNat_of_nonneg hn0).symm⟩; have e : Lib.itoa (N : Int) = Lib.decDigits N := Lib.itoa_nonneg N; have h1 := (Lexes.num (n := N) (by omega) hb hl).space; have h2 := (Lexes.sym hm1 hm6 h1).space; have h3 := Lexes.name hs (brk_space _) h2; have e1 : textF Lib.itoa (.mk 3 s m N []) ++ rest = s ++ 32 :: (symB m ++ 32 :: (Lib.decDigits N ++ rest)) := by simp [textF, e]
  have e2 : toksF (.mk 3 s m N []) ++ ks = kName s :: kSym (symB m) :: (2, N, Lib.decDigits N) :: ks := by simp [toksF, kNum, e]
  rw [e1, e2]; exact h3
 ·intro rest ks hb hl; have := Lexes.name (s := wTrue) (by decide) hb hl
  simpa [textF, toksF] using this
 ·intro rest ks hb hl; have := Lexes.name (s := wFalse) (by decide) hb hl
  simpa [textF, toksF] using this
 ·intro rest ks hb hl; have h1 := (hk k (by simp [Fm.kids]) (parB 4 k.op) rest ks hb hl).space; have h2 := Lexes.name (s := wNot) (by decide) (brk_space _) h1; have e1 : textF Lib.itoa (.mk 4 [] 0 0 [k]) ++ rest = wNot ++ 32 :: (parT (parB 4 k.op) (textF Lib.itoa k) ++ rest) := by simp [textF, textKids, joinB, wNot]
  have e2 : toksF (.mk 4 [] 0 0 [k]) ++ ks = kName wNot :: (parK (parB 4 k.op) (toksF k) ++ ks) := by simp [toksF, toksKids, joinK]
  rw [e1, e2]; exact h2
 ·have := kids 5 wAnd (by decide) (by simp [Fm.kids]); have e1 : textF Lib.itoa (.mk 5 [] 0 0 (a :: b :: r)) = joinB (32 :: (wAnd ++ [32])) (textKids Lib.itoa 5 (a :: b :: r)) := by simp [textF, wAnd]
  have e2 : toksF (.mk 5 [] 0 0 (a :: b :: r)) = joinK (kName wAnd) (toksKids 5 (a :: b :: r)) := by simp [toksF]
  rw [e1, e2]; exact this
 ·have := kids 6 wOr (by decide) (by simp [Fm.kids]); have e1 : textF Lib.itoa (.mk 6 [] 0 0 (a :: b :: r)) = joinB (32 :: (wOr ++ [32])) (textKids Lib.itoa 6 (a :: b :: r)) := by simp [textF, wOr]
  have e2 : toksF (.mk 6 [] 0 0 (a :: b :: r)) = joinK (kName wOr) (toksKids 6 (a :: b :: r)) := by simp [toksF]
  rw [e1, e2]; exact this
theorem name_le {s : Bytes} (h : nameB s = true) : s.length <= 24 := by
 unfold nameB at h; simp only [Bool.and_eq_true, decide_eq_true_eq] at h; exact h.2.2.1
theorem par_len (b : Bool) (s : Bytes) (t : List KTok) : (parT b s).length <= s.length + 2 /\ (parK b t).length <= t.length + 2 := by cases b <;> simp [parT, parK]
theorem join_len {sep : Bytes} {k : KTok} (hs : sep.length <= 5) : ∀ l : List (Bytes × List KTok), (joinB sep (l.map Prod.fst)).length <= (l.map fun p => p.1.length + 5).sum /\ (joinK k (l.map Prod.snd)).length <= (l.map fun p => p.2.length + 1).sum
 | [] => by simp [joinB, joinK]
 | [p] => by simp [joinB, joinK]
 | p :: q :: r => by
  have ih := join_len (sep := sep) (k := k) hs (q :: r); simp only [List.map_cons, joinB, joinK, List.length_append, List.length_cons, List.sum_cons] at ih ⊢; omega
theorem text_len (f : Fm) : Wr f -> (textF Lib.itoa f).length + 7 <= 60 * size f /\ (toksF f).length + 3 <= 8 * size f := by
 refine Fm.induct (P := fun f => Wr f -> (textF Lib.itoa f).length + 7 <= 60 * size f /\ (toksF f).length + 3 <= 8 * size f) ?_ f; clear f; intro f ih hw; have kids : ∀ (op : Int) (sep : Bytes) (k : KTok), sep.length <= 5 -> (joinB sep (textKids Lib.itoa op f.kids)).length <= 60 * sizes f.kids /\ (joinK k (toksKids op f.kids)).length <= 8 * sizes f.kids := fun op sep k hs => by
  have h1 := join_len (k := k) hs (f.kids.map fun q => (parT (parB op q.op) (textF Lib.itoa q), parK (parB op q.op) (toksF q))); rw [List.map_map, List.map_map, List.map_map, List.map_map] at h1; rw [textKids_eq, toksKids_eq]; have h2 : ∀ ks : List Fm, (∀ q ∈ ks, (textF Lib.itoa q).length + 7 <= 60 * size q /\ (toksF q).length + 3 <= 8 * size q) ->
    (ks.map fun q => (parT (parB op q.op) (textF Lib.itoa q)).length + 5).sum <= 60 * sizes ks /\ (ks.map fun q => (parK (parB op q.op) (toksF q)).length + 1).sum <= 8 * sizes ks := by
   intro ks
   induction ks with
   | nil => intro _; simp [sizes]
   | cons a r ih2 =>
    intro h; have h3 := ih2 fun q hq => h q (by simp [hq]); have h4 := h a (by simp); have h5 := par_len (parB op a.op) (textF Lib.itoa a) (toksF a); simp only [List.map_cons, List.sum_cons, sizes]; omega
  have h3 := h2 f.kids fun q hq => ih q hq (hw.kid hq); exact ⟨Nat.le_trans h1.1 h3.1, Nat.le_trans h1.2 h3.2⟩
 rcases hw.forms with ⟨s, m, n, rfl, hm1, hm6, hs, hy, hn0, hn1⟩ | rfl | rfl | ⟨k, rfl⟩ | ⟨a, b, r, rfl⟩ | ⟨a, b, r, rfl⟩
 ·have h1 := name_le hs; have h2 := Lib.itoa_length_le n (by omega) (by omega); have h3 : (symB m).length <= 2 := by unfold symB; (repeat' split) <;> decide
  have e1 : textF Lib.itoa (.mk 3 s m n []) = s ++ ([32] ++ (symB m ++ ([32] ++ Lib.itoa n))) := by simp [textF]
  have e2 : toksF (.mk 3 s m n []) = [kName s, kSym (symB m), kNum n] := by simp [toksF]
  rw [e1, e2]; simp only [List.length_append, List.length_cons, List.length_nil, size, sizes]; omega
 ·simp [textF, toksF, wTrue, size, sizes]
 ·simp [textF, toksF, wFalse, size, sizes]
 ·have h1 := ih k (by simp [Fm.kids]) (hw.kid (by simp [Fm.kids])); have h2 := par_len (parB 4 k.op) (textF Lib.itoa k) (toksF k); have e1 : textF Lib.itoa (.mk 4 [] 0 0 [k]) = [110, 111, 116, 32] ++ parT (parB 4 k.op) (textF Lib.itoa k) := by simp [textF, textKids, joinB]
  have e2 : toksF (.mk 4 [] 0 0 [k]) = kName wNot :: parK (parB 4 k.op) (toksF k) := by simp [toksF, toksKids, joinK]
  rw [e1, e2]; simp only [List.length_append, List.length_cons, List.length_nil, size, sizes]; omega
 ·have h1 := kids 5 [32, 97, 110, 100, 32] (kName wAnd) (by decide); have e1 : textF Lib.itoa (.mk 5 [] 0 0 (a :: b :: r)) = joinB [32, 97, 110, 100, 32] (textKids Lib.itoa 5 (a :: b :: r)) := by simp [textF]
  have e2 : toksF (.mk 5 [] 0 0 (a :: b :: r)) = joinK (kName wAnd) (toksKids 5 (a :: b :: r)) := by simp [toksF]
  simp only [Fm.kids] at h1; rw [e1, e2, size]; omega
 ·have h1 := kids 6 [32, 111, 114, 32] (kName wOr) (by decide); have e1 : textF Lib.itoa (.mk 6 [] 0 0 (a :: b :: r)) = joinB [32, 111, 114, 32] (textKids Lib.itoa 6 (a :: b :: r)) := by simp [textF]
  have e2 : toksF (.mk 6 [] 0 0 (a :: b :: r)) = joinK (kName wOr) (toksKids 6 (a :: b :: r)) := by simp [toksF]
  simp only [Fm.kids] at h1; rw [e1, e2, size]; omega
theorem next_ok {l : Bytes} {i : Nat} {t : Tok} {k : Nat} (h : nextL l i = .ok (t, k)) (hk : t.kind = 1) : nameB t.text = true := by
 obtain ⟨h1, h2, h3⟩ := next_name h hk; have hi : i < l.length := Decidable.byContradiction fun hx => by
  rw [atL_none (by omega)] at h1; cases h1
 have hw : 1 <= whileN [3, 4, 5] (l.drop i) := by
  rw [whileN_drop hi, if_pos]
  ·omega
  ·rw [atL_some hi] at h1; rw [h1]; rfl
 have hle := whileN_le [3, 4, 5] (l.drop i); rw [h3]; unfold nameB; simp only [Bool.and_eq_true, decide_eq_true_eq, beq_iff_eq, List.all_eq_true, List.length_take]; refine ⟨fun c hc => ?_, by omega, by omega, ?_⟩
 ·exact whileN_mem hc
 ·rw [List.drop_eq_getElem_cons hi]; obtain ⟨m, hm⟩ : ∃ m, whileN [3, 4, 5] (l.drop i) = m + 1 := ⟨whileN [3, 4, 5] (l.drop i) - 1, by omega⟩; rw [<- List.drop_eq_getElem_cons hi, hm, List.drop_eq_getElem_cons hi, List.take_succ_cons]; show cls l[i] = 3; rw [<- atL_some hi]; exact h1
theorem lexF_names : ∀ (f : Nat) (l : Bytes) (i : Nat) (acc ts : List Tok), NameOk acc -> lexF l f i acc = .ok ts -> NameOk ts
 | 0, l, i, acc, ts, ha, h => by simp only [lexF, Except.ok.injEq] at h; exact h ▸ ha
 | f + 1, l, i, acc, ts, ha, h => by
  simp only [lexF] at h
  split at h
  ·split at h
   ·cases h
   ·rename_i t k hn
    split at h
    ·cases h
    ·refine lexF_names f l _ _ _ (fun u hu hk => ?_) h; rcases List.mem_append.1 hu with hu | hu
     ·exact ha u hu hk
     ·obtain rfl : u = t := by simpa using hu
      exact next_ok hn hk
  ·simp only [Except.ok.injEq] at h; exact h ▸ ha
theorem lexAll_names (l : Bytes) : NameOk (lexAll l).1 := by
 unfold lexAll
 split
 ·intro t ht; simp at ht
 ·split
  ·intro t ht; simp at ht
  ·rename_i ts h; exact lexF_names _ _ _ _ _ (fun t ht => by simp at ht) h
theorem parse_writes {l : Bytes} {f : Fm} {at' : Int} (h : parseF l = (f, 0, at')) : textE f = 0 := by
 unfold parseF at h
 split at h
 ·rename_i h1; simp only [Prod.mk.injEq] at h; exact absurd h.2.1 h1
 ·split at h
  ·rename_i e he; simp only [Prod.mk.injEq] at h; have := either_err _ _ _ he; omega
  ·simp at h
  ·rename_i g he; obtain ⟨h1, -⟩ := either_wr _ _ _ _ (lexAll_names l) he
   split at h
   ·simp at h
   ·rename_i hL; simp only [Prod.mk.injEq] at h; obtain ⟨rfl, -, -⟩ := h; unfold textE; rw [if_neg]; simp only [not_or]; exact ⟨hL, by simp [h1]⟩
end Go.Cz.Fo
namespace Go.Cz.Fo
open Go.Cz.Lx
def InT (B : Nat) (ts : List Tok) : Prop := ∀ t ∈ ts, t.pos <= B
def PosOk (B : Nat) (part : List Tok -> Res) : Prop := ∀ ts, InT B ts -> (∀ f r, part ts = .ok (f, r) -> InT B r) /\ (∀ e, part ts = .error e -> 0 <= e.2 /\ e.2 <= (B : Int))
section
variable {B : Nat} {part : List Tok -> Res} {w : Bytes} {fin : Int}
theorem InT.tail {t : Tok} {ts : List Tok} (h : InT B (t :: ts)) : InT B ts := fun u hu => h u (by simp [hu])
theorem InT.head {t : Tok} {ts : List Tok} (h : InT B (t :: ts)) : t.pos <= B := h t (by simp)
theorem more_pos (hp : PosOk B part) : ∀ (n : Nat) (ts : List Tok), InT B ts -> (∀ ks r, moreF w part n ts = .ok (ks, r) -> InT B r) /\ (∀ e, moreF w part n ts = .error e -> 0 <= e.2 /\ e.2 <= (B : Int))
 | 0, ts, ht => by
  refine ⟨fun ks r h => ?_, fun e h => by simp [moreF] at h⟩; simp only [moreF, Except.ok.injEq, Prod.mk.injEq] at h; obtain ⟨rfl, rfl⟩ := h; exact ht
 | n + 1, [], ht => by
  refine ⟨fun ks r h => ?_, fun e h => by simp [moreF] at h⟩; simp only [moreF, Except.ok.injEq, Prod.mk.injEq] at h; obtain ⟨rfl, rfl⟩ := h; exact ht
 | n + 1, t :: ts, ht => by
  simp only [moreF]; by_cases hc : t.kind = 1 /\ t.text = w
  ·rw [if_pos hc]; obtain ⟨p1, p2⟩ := hp ts ht.tail; rcases hq : part ts with e | ⟨f, r⟩
   ·refine ⟨fun ks r h => by simp at h, fun e2 h => ?_⟩; simp only [Except.error.injEq] at h; subst h; exact p2 _ hq
   ·obtain ⟨i1, i2⟩ := more_pos hp n r (p1 _ _ hq); simp only; rcases hm : moreF w part n r with e | ⟨ks, r2⟩
    ·refine ⟨fun ks r h => by simp at h, fun e2 h => ?_⟩; simp only [Except.error.injEq] at h; subst h; exact i2 _ hm
    ·refine ⟨fun ks' r' h => ?_, fun e h => by simp at h⟩; simp only [Except.ok.injEq, Prod.mk.injEq] at h; obtain ⟨rfl, rfl⟩ := h; exact i1 _ _ hm
  ·rw [if_neg hc]; refine ⟨fun ks r h => ?_, fun e h => by simp at h⟩; simp only [Except.ok.injEq, Prod.mk.injEq] at h; obtain ⟨rfl, rfl⟩ := h; exact ht
theorem parts_pos {op : Int} (hp : PosOk B part) : PosOk B (partsF op w part) := fun ts ht => by
 obtain ⟨p1, p2⟩ := hp ts ht; unfold partsF; rcases hq : part ts with e | ⟨f, r⟩
 ·refine ⟨fun ks r h => by simp at h, fun e2 h => ?_⟩; simp only [Except.error.injEq] at h; subst h; exact p2 _ hq
 ·obtain ⟨i1, i2⟩ := more_pos (w := w) hp (r.length + 1) r (p1 _ _ hq); simp only; rcases hm : moreF w part (r.length + 1) r with e | ⟨ks, r2⟩
  ·refine ⟨fun ks r h => by simp at h, fun e2 h => ?_⟩; simp only [Except.error.injEq] at h; subst h; exact i2 _ hm
  ·refine ⟨fun ks' r' h => ?_, fun e h => by simp at h⟩; simp only [Except.ok.injEq, Prod.mk.injEq] at h; obtain ⟨rfl, rfl⟩ := h; exact i1 _ _ hm
theorem test_pos (h0 : 0 <= fin) (hB : fin <= (B : Int)) (s : Bytes) : PosOk B (testF fin s) := fun ts ht => by
 match ts with
 | [] => exact ⟨fun f r h => by simp [testF] at h, fun e h => by simp only [testF, Except.error.injEq] at h; subst h; exact ⟨h0, hB⟩⟩
 | c :: r =>
  have hc := ht.head; simp only [testF]
  split
  ·exact ⟨fun f r h => by simp at h, fun e h => by simp only [Except.error.injEq] at h; subst h; simp only; omega⟩
  ·match r, ht with
   | [], ht => exact ⟨fun f r h => by simp at h, fun e h => by simp only [Except.error.injEq] at h; subst h; exact ⟨h0, hB⟩⟩
   | m :: r2, ht =>
    have hm := ht.tail.head; simp only
    split
    ·exact ⟨fun f r h => by simp at h, fun e h => by simp only [Except.error.injEq] at h; subst h; simp only; omega⟩
    split
    ·exact ⟨fun f r h => by simp at h, fun e h => by simp only [Except.error.injEq] at h; subst h; simp only; omega⟩
    ·refine ⟨fun f r h => ?_, fun e h => by simp at h⟩; simp only [Except.ok.injEq, Prod.mk.injEq] at h; obtain ⟨rfl, rfl⟩ := h; exact ht.tail.tail
theorem one_pos (h0 : 0 <= fin) (hB : fin <= (B : Int)) : ∀ n : Nat, PosOk B (oneF fin n)
 | 0 => fun ts ht => ⟨fun f r h => by simp [oneF] at h, fun e h => by simp only [oneF, Except.error.injEq] at h; subst h; exact ⟨h0, hB⟩⟩
 | n + 1 => fun ts ht => by
  match ts with
  | [] => exact ⟨fun f r h => by simp [oneF] at h, fun e h => by simp only [oneF, Except.error.injEq] at h; subst h; exact ⟨h0, hB⟩⟩
  | t :: ts =>
   have hth := ht.head; simp only [oneF]
   split
   ·obtain ⟨p1, p2⟩ := one_pos h0 hB n ts ht.tail; rcases hq : oneF fin n ts with e | ⟨f, r⟩
    ·refine ⟨fun ks r h => by simp at h, fun e2 h => ?_⟩; simp only [Except.error.injEq] at h; subst h; exact p2 _ hq
    ·refine ⟨fun ks' r' h => ?_, fun e h => by simp at h⟩; simp only [Except.ok.injEq, Prod.mk.injEq] at h; obtain ⟨rfl, rfl⟩ := h; exact p1 _ _ hq
   split
   ·refine ⟨fun ks' r' h => ?_, fun e h => by simp at h⟩; simp only [Except.ok.injEq, Prod.mk.injEq] at h; obtain ⟨rfl, rfl⟩ := h; exact ht.tail
   split
   ·refine ⟨fun ks' r' h => ?_, fun e h => by simp at h⟩; simp only [Except.ok.injEq, Prod.mk.injEq] at h; obtain ⟨rfl, rfl⟩ := h; exact ht.tail
   split
   ·obtain ⟨p1, p2⟩ := parts_pos (op := 6) (w := wOr) (parts_pos (op := 5) (w := wAnd) (one_pos h0 hB n)) ts ht.tail; rcases hq : partsF 6 wOr (partsF 5 wAnd (oneF fin n)) ts with e | ⟨f, _ | ⟨u, r⟩⟩
    ·refine ⟨fun ks r h => by simp at h, fun e2 h => ?_⟩; simp only [Except.error.injEq] at h; subst h; exact p2 _ hq
    ·refine ⟨fun ks r h => by simp at h, fun e2 h => ?_⟩; simp only [Except.error.injEq] at h; subst h; exact ⟨h0, hB⟩
    ·have hu := (p1 _ _ hq).head; simp only
     split
     ·refine ⟨fun ks' r' h => ?_, fun e h => by simp at h⟩; simp only [Except.ok.injEq, Prod.mk.injEq] at h; obtain ⟨rfl, rfl⟩ := h; exact (p1 _ _ hq).tail
     ·refine ⟨fun ks r h => by simp at h, fun e2 h => ?_⟩; simp only [Except.error.injEq] at h; subst h; simp only; omega
   split
   ·refine ⟨fun ks r h => by simp at h, fun e2 h => ?_⟩; simp only [Except.error.injEq] at h; subst h; simp only; omega
   ·exact test_pos h0 hB _ ts ht.tail
end
theorem nextL_pos {l : Bytes} {i : Nat} {t : Tok} {k : Nat} (h : nextL l i = .ok (t, k)) : t.pos = i := by
 unfold nextL at h
 split at h
 ·split at h
  ·cases h
  ·injection h with h; injection h with h _; subst h; rfl
 split at h
 ·split at h
  ·cases h
  ·injection h with h; injection h with h _; subst h; rfl
 split at h
 ·split at h
  ·cases h
  ·split at h
   ·cases h
   split at h
   ·cases h
   ·injection h with h; injection h with h _; subst h; rfl
 split at h
 ·injection h with h; injection h with h _; subst h; rfl
 split at h
 ·injection h with h; injection h with h _; subst h; rfl
 ·cases h
theorem lexF_pos : ∀ (f : Nat) (l : Bytes) (i : Nat) (acc : List Tok), InT l.length acc -> (∀ ts, lexF l f i acc = .ok ts -> InT l.length ts) /\ (∀ e j, lexF l f i acc = .error (e, j) -> j <= l.length)
 | 0, l, i, acc, ha => ⟨fun ts h => by simp only [lexF, Except.ok.injEq] at h; exact h ▸ ha, fun e j h => by simp [lexF] at h⟩
 | f + 1, l, i, acc, ha => by
  simp only [lexF]; by_cases hi : i < l.length
  ·rw [if_pos hi]; rcases hn : nextL l i with e | ⟨t, k⟩
   ·exact ⟨fun ts h => by simp at h, fun e2 j h => by simp only [Except.error.injEq, Prod.mk.injEq] at h; omega⟩
   ·simp only
    split
    ·exact ⟨fun ts h => by simp at h, fun e2 j h => by simp only [Except.error.injEq, Prod.mk.injEq] at h; omega⟩
    ·refine lexF_pos f l _ _ fun u hu => ?_; rcases List.mem_append.1 hu with hu | hu
     ·exact ha u hu
     ·obtain rfl : u = t := by simpa using hu
      rw [nextL_pos hn]; omega
  ·rw [if_neg hi]; exact ⟨fun ts h => by simp only [Except.ok.injEq] at h; exact h ▸ ha, fun e2 j h => by simp at h⟩
theorem lexAll_pos (l : Bytes) : InT l.length (lexAll l).1 /\ -1 <= (lexAll l).2.2 /\ (lexAll l).2.2 <= (l.length : Int) := by
 obtain ⟨h1, h2⟩ := lexF_pos (l.length + 1) l (gapE l 0) [] (fun t ht => by simp at ht); unfold lexAll
 split
 ·exact ⟨fun t ht => by simp at ht, by simp only; omega, by simp only; omega⟩
 ·rcases hz : lexF l (l.length + 1) (gapE l 0) [] with ⟨e, j⟩ | ts
  ·have := h2 e j hz; exact ⟨fun t ht => by simp at ht, by simp only; omega, by simp only; omega⟩
  ·exact ⟨h1 ts hz, by simp only; omega, by simp only; omega⟩
theorem parse_pos (l : Bytes) : -1 <= (parseF l).2.2 /\ (parseF l).2.2 <= (l.length : Int) := by
 obtain ⟨h1, h2⟩ := lexAll_pos l; unfold parseF
 split
 ·exact h2
 ·have hp := parts_pos (op := 6) (w := wOr) (parts_pos (op := 5) (w := wAnd) (one_pos (B := l.length) (fin := (l.length : Int)) (by omega) (by omega) ((lexAll l).1.length + 1))) (lexAll l).1 h1; obtain ⟨p1, p2⟩ := hp; rcases hz : eitherF l.length ((lexAll l).1.length + 1) (lexAll l).1 with e | ⟨f, _ | ⟨t, r⟩⟩
  ·have := p2 e hz; simp only; omega
  ·simp only
   split
   ·simp only; omega
   ·simp only; omega
  ·have := (p1 _ _ hz).head; simp only; omega
end Go.Cz.Fo
namespace Go.Cz.Lx
section
variable {x g L : List UInt8} {n : Nat}
end
end Go.Cz.Lx
namespace Go.Cz.Fo
open Go.Cz.Lx
section
variable {n : Nat} {u : Tok} {part part' : List Tok -> Res} {w : Bytes} {fin fin' : Int}
end
end Go.Cz.Fo
namespace Go.Cz.Vd
open Go.Cz.Lx Go.Cz.Fo
open Go.Cz.Wn (datedB)
def wForbid : Bytes := [102, 111, 114, 98, 105, 100]
def wExempt : Bytes := [101, 120, 101, 109, 112, 116]
def wBlock : Bytes := [98, 108, 111, 99, 107]
def wOf : Bytes := [111, 102]
def wIf : Bytes := [105, 102]
def wFrom : Bytes := [102, 114, 111, 109]
def wUntil : Bytes := [117, 110, 116, 105, 108]
def wWind : Bytes := [119, 105, 110, 100]
def wKind (k : Int) : Bytes := if k = 1 then wForbid else if k = 2 then wExempt else if k = 3 then wBlock else []
def wrM (m : Me) : Bool := decide (textE m.cond = 0) && (namedM m && datedB m.kind m.fr m.un m.wi)
def wordsM (m : Me) : List Bytes :=
 [wKind m.kind] ++ ((if m.target = [] then [] else [m.target]) ++ ([m.id, wOf, m.auth] ++ ((if m.cond.op = 1 then [] else [wIf, textF Lib.itoa m.cond]) ++
  ([wFrom, Lib.itoa m.fr] ++ ((if 0 <= m.un then [wUntil, Lib.itoa m.un] else []) ++ (if 0 < m.wi then [wWind, Lib.itoa m.wi] else []))))))
def sayM (m : Me) : Bytes := joinB [32] (wordsM m) ++ [59]
def textM (m : Me) : Bytes × Nat := if wrM m = true then (sayM m, 0) else ([], 1)
def zeroM : Me := ⟨[], [], 0, [], zeroF, 0, 0, 0⟩
def trueF : Fm := .mk 1 [] 0 0 []
abbrev Er := Nat × Int
def takeM (fin : Int) (kind : Nat) (text : Bytes) : List Tok -> Except Er (Tok × List Tok)
 | [] => .error (6, fin)
 | t :: r => if t.kind ≠ kind ∨ (text ≠ [] /\ t.text ≠ text) then .error (5, t.pos) else .ok (t, r)
def nameM (fin : Int) (no : Bytes) (ts : List Tok) : Except Er (Bytes × List Tok) :=
 match takeM fin 1 [] ts with
 | .error e => .error e
 | .ok (t, r) => if t.text = no then .error (1, t.pos) else .ok (t.text, r)
def numM (fin least most : Int) (ts : List Tok) : Except Er (Int × List Tok) :=
 match takeM fin 2 [] ts with
 | .error e => .error e
 | .ok (t, r) => if (t.num : Int) < least ∨ most < (t.num : Int) then .error (10, t.pos) else .ok ((t.num : Int), r)
def seesM (w : Bytes) : List Tok -> Bool
 | [] => false
 | t :: _ => decide (t.kind = 1) && decide (t.text = w)
def termB : List Tok -> Bool
 | t :: u :: _ => decide (t.kind = 1) && (decide (t.text = wFrom) && decide (u.kind = 2))
 | _ => false
def fromM : List Tok -> Nat
 | [] => 0
 | t :: r => if termB (t :: r) = true then 0 else fromM r + 1
def endM (l : Bytes) : List Tok -> Nat
 | [] => l.length
 | t :: _ => t.pos
def condE (begin fin : Nat) (closed : Bool) (p : Fm × Nat × Int) : Option Er :=
 if p.2.1 = 6 /\ closed = true then some (5, (fin : Int)) else if p.2.1 = 0 then none else if p.2.2 < 0 then some (p.2.1, p.2.2) else some (p.2.1, (begin : Int) + p.2.2)
def condM (l : Bytes) (begin : Nat) (ts : List Tok) : Except Er (Fm × List Tok) :=
 match condE begin (endM l (ts.drop (fromM ts))) (decide (fromM ts < ts.length)) (parseF ((l.take (endM l (ts.drop (fromM ts)))).drop begin)) with
 | some e => .error e
 | none => .ok ((parseF ((l.take (endM l (ts.drop (fromM ts)))).drop begin)).1, ts.drop (fromM ts))
def ifM (l : Bytes) (ts : List Tok) : Except Er (Fm × List Tok) :=
 if seesM wIf ts = true then condM l (endM l ts + 2) ts.tail else .ok (trueF, ts)
def untilM (fin fr : Int) (ts : List Tok) : Except Er (Int × List Tok) :=
 if seesM wUntil ts = true then numM fin (fr + 1) 100000 ts.tail else .ok (-1, ts)
def windM (fin kind : Int) (ts : List Tok) : Except Er (Int × List Tok) :=
 if kind = 1 /\ seesM wWind ts = true then numM fin 0 400 ts.tail else .ok (0, ts)
def closeM (fin : Int) (ts : List Tok) : Except Er Unit :=
 match takeM fin 4 [59] ts with
 | .error e => .error e
 | .ok (_, []) => .ok ()
 | .ok (_, t :: _) => .error (5, t.pos)
def datesM (fin : Int) (m : Me) (ts : List Tok) : Except Er Me :=
 match takeM fin 1 wFrom ts with
 | .error e => .error e
 | .ok (_, ts) => match numM fin 0 100000 ts with
  | .error e => .error e
  | .ok (fr, ts) => match untilM fin fr ts with
   | .error e => .error e
   | .ok (un, ts) => match windM fin m.kind ts with
    | .error e => .error e
    | .ok (wi, ts) => match closeM fin ts with
     | .error e => .error e
     | .ok _ => .ok { m with fr := fr, un := un, wi := wi }
def bodyM (l : Bytes) (m : Me) (ts : List Tok) : Except Er Me :=
 match ifM l ts with
 | .error e => .error e
 | .ok (f, ts) => datesM (l.length : Int) { m with cond := f } ts
def idsM (fin : Int) (noId noAuth : Bytes) (m : Me) (ts : List Tok) : Except Er (Me × List Tok) :=
 match nameM fin noId ts with
 | .error e => .error e
 | .ok (a, ts) => match takeM fin 1 wOf ts with
  | .error e => .error e
  | .ok (_, ts) => match nameM fin noAuth ts with
   | .error e => .error e
   | .ok (b, ts) => .ok ({ m with id := a, auth := b }, ts)
def startM (k : Int) : Me := ⟨[], [], k, [], trueF, 0, -1, 0⟩
def kindM (w : Bytes) : Int := if w = wForbid then 1 else if w = wExempt then 2 else if w = wBlock then 3 else 0
def targetM (fin : Int) (k : Int) (ts : List Tok) : Except Er (Me × List Tok) :=
 if k = 1 then idsM fin [] [] (startM 1) ts
 else match nameM fin [] ts with
  | .error e => .error e
  | .ok (t, ts) => idsM fin (if k = 2 then t else []) (if k = 3 then t else []) { startM k with target := t } ts
def measureM (l : Bytes) (ts : List Tok) : Except Er Me :=
 match takeM (l.length : Int) 1 [] ts with
 | .error e => .error e
 | .ok (t, ts) => if kindM t.text = 0 then .error (5, t.pos) else
  match targetM (l.length : Int) (kindM t.text) ts with
  | .error e => .error e
  | .ok (m, ts) => bodyM l m ts
def parseM (l : Bytes) : Me × Nat × Int :=
 if (lexAll l).2.1 ≠ 0 then (zeroM, (lexAll l).2.1, (lexAll l).2.2)
 else match measureM l (lexAll l).1 with
  | .error e => (zeroM, e.1, e.2)
  | .ok m => (m, 0, 0)
def sameM (a b : Me) : Bool := decide (a.id = b.id) && (decide (a.auth = b.auth) && (decide (a.kind = b.kind) && (decide (a.target = b.target) && (decide (a.fr = b.fr) && (decide (a.un = b.un) && (decide (a.wi = b.wi) && sameF a.cond b.cond))))))
theorem sameM_iff {a b : Me} : sameM a b = true ↔ a = b := by
 obtain ⟨a1, a2, a3, a4, a5, a6, a7, a8⟩ := a; obtain ⟨b1, b2, b3, b4, b5, b6, b7, b8⟩ := b; simp only [sameM, Bool.and_eq_true, decide_eq_true_eq, sameF_iff, Me.mk.injEq]; exact ⟨fun ⟨h1, h2, h3, h4, h6, h7, h8, h5⟩ => ⟨h1, h2, h3, h4, h5, h6, h7, h8⟩, fun ⟨h1, h2, h3, h4, h5, h6, h7, h8⟩ => ⟨h1, h2, h3, h4, h6, h7, h8, h5⟩⟩
end Go.Cz.Vd
namespace Go.Cz.Lx
theorem gap_take : ∀ (x : List UInt8) (b : Bool) (n : Nat), gapL b (x.take n) = min n (gapL b x)
 | [], b, n => by cases b <;> simp [gapL]
 | c :: x, b, 0 => by cases b <;> simp [gapL]
 | c :: x, true, n + 1 => by
  rw [List.take_succ_cons]; simp only [gapL]
  split
  ·rw [gap_take x false n]; omega
  ·rw [gap_take x true n]; omega
 | c :: x, false, n + 1 => by
  rw [List.take_succ_cons]; simp only [gapL]
  split
  ·rw [gap_take x false n]; omega
  ·split
   ·rw [gap_take x true n]; omega
   ·omega
theorem while_take {C : List Nat} : ∀ (x : List UInt8) (n : Nat), whileN C (x.take n) = min n (whileN C x)
 | [], n => by simp [whileN]
 | c :: x, 0 => by simp [whileN]
 | c :: x, n + 1 => by
  rw [List.take_succ_cons]; unfold whileN
  split
  ·rw [while_take x n]; omega
  ·omega
theorem idxQ_take : ∀ {x : List UInt8} {m n : Nat}, idxQ x = some m -> m < n -> idxQ (x.take n) = some m
 | [], m, n, h, _ => by simp [idxQ] at h
 | c :: x, m, 0, _, h => by omega
 | c :: x, m, n + 1, h, hn => by
  rw [List.take_succ_cons]; unfold idxQ at h ⊢
  split at h
  ·rename_i hc; rw [if_pos hc]; exact h
  ·rename_i hc; rw [if_neg hc]; rcases h1 : idxQ x with _ | q
   ·rw [h1] at h; simp at h
   ·rw [h1] at h; simp at h
    rw [idxQ_take h1 (by omega)]; simp [h]
theorem atL_take (x : List UInt8) (n j : Nat) : atL (x.take n) j = if j < n then atL x j else 0 := by
 unfold atL; rw [List.getElem?_take]; by_cases h : j < n
 ·rw [if_pos h, if_pos h]
 ·rw [if_neg h, if_neg h]
theorem next_take {x : List UInt8} {t : Tok} {k n : Nat} (h : nextL x 0 = .ok (t, k)) (hk : k <= n) (h1 : 1 <= k) : nextL (x.take n) 0 = .ok (t, k) := by
 have e0 : atL (x.take n) 0 = atL x 0 := by rw [atL_take, if_pos (by omega)]
 have ht : ∀ j ≤ n, (x.take n).take j = x.take j := fun j hj => by rw [List.take_take, Nat.min_eq_left hj]
 unfold nextL at h ⊢; rw [e0]; rw [List.drop_zero] at h ⊢; rw [while_take, while_take]; by_cases h3 : atL x 0 = 3
 ·rw [if_pos h3] at h ⊢
  split at h
  ·cases h
  ·rename_i hw; simp only [Except.ok.injEq, Prod.mk.injEq] at h; obtain ⟨h2, rfl⟩ := h; rw [Nat.min_eq_right hk, if_neg hw, ht _ hk, h2]
 rw [if_neg h3] at h ⊢; by_cases h4 : atL x 0 = 4
 ·rw [if_pos h4] at h ⊢
  split at h
  ·cases h
  ·rename_i hw; simp only [Except.ok.injEq, Prod.mk.injEq] at h; obtain ⟨h2, rfl⟩ := h; rw [Nat.min_eq_right hk, ht _ hk, h2, atL_take, if_neg]; rintro (h5 | h5 | h5)
   ·exact hw (.inl h5)
   ·split at h5
    ·exact hw (.inr (.inl h5))
    ·cases h5
   ·split at h5
    ·exact hw (.inr (.inr h5))
    ·cases h5
 rw [if_neg h4] at h ⊢; by_cases h6 : atL x 0 = 6
 ·rw [if_pos h6] at h ⊢; rcases hq : idxQ (x.drop (0 + 1)) with _ | m
  ·rw [hq] at h; simp at h
  ·rw [hq] at h; simp only at h
   split at h
   ·cases h
   rename_i h7
   split at h
   ·cases h
   rename_i h8; simp only [Except.ok.injEq, Prod.mk.injEq] at h; obtain ⟨h2, rfl⟩ := h; have hd : (x.take n).drop (0 + 1) = (x.drop (0 + 1)).take (n - 1) := by rw [List.drop_take]
   rw [hd, idxQ_take hq (by omega)]; simp only; rw [if_neg, if_neg h8, List.take_take, Nat.min_eq_left (by omega), h2]; rw [List.getElem?_take, if_pos (by omega)]; exact h7
 rw [if_neg h6] at h ⊢; by_cases h7 : (atL x 0 = 7 ∨ atL x 0 = 8) /\ x[0 + 1]? = some 61
 ·rw [if_pos h7] at h; simp only [Except.ok.injEq, Prod.mk.injEq] at h; obtain ⟨h2, rfl⟩ := h; rw [if_pos ⟨h7.1, by rw [List.getElem?_take, if_pos (by omega)]; exact h7.2⟩, ht _ hk, h2]
 ·rw [if_neg h7] at h
  split at h
  ·rename_i h8; simp only [Except.ok.injEq, Prod.mk.injEq] at h; obtain ⟨h2, rfl⟩ := h; rw [if_neg, if_pos h8, ht _ hk, h2]; rintro ⟨h9, h10⟩; rw [List.getElem?_take] at h10
   split at h10
   ·exact h7 ⟨h9, h10⟩
   ·cases h10
  ·cases h
inductive LexP (l : List UInt8) : Nat -> List Tok -> Prop
 | nil {i} : gapE l i = l.length -> LexP l i []
 | cons {i t k ts} : gapE l i < l.length -> nextL l (gapE l i) = .ok (t, k) -> LexP l (gapE l i + k) ts -> LexP l i (t :: ts)
theorem lexF_p {l : List UInt8} : ∀ (f i : Nat) (acc ts : List Tok), i <= l.length -> l.length - i < f -> acc.length <= 5000 -> lexF l f (gapE l i) acc = .ok ts -> ∃ us, ts = acc ++ us /\ LexP l i us /\ ts.length <= 5000
 | 0, i, acc, ts, _, h, _, _ => by omega
 | f + 1, i, acc, ts, hi, hf, ha, h => by
  have hg := gapE_le l i hi; simp only [lexF] at h
  split at h
  ·rename_i hlt
   split at h
   ·cases h
   ·rename_i t k hn
    split at h
    ·cases h
    ·rename_i h5; obtain ⟨w1, w2⟩ := nextL_width hn hlt; have hge : i <= gapE l i := by unfold gapE; omega
     obtain ⟨us, h1, h2, h3⟩ := lexF_p f (gapE l i + k) (acc ++ [t]) ts w2 (by omega) (by simp; omega) h; exact ⟨t :: us, by rw [h1]; simp, .cons hlt hn h2, h3⟩
  ·simp only [Except.ok.injEq] at h; exact ⟨[], by rw [h]; simp, .nil (by omega), by rw [<- h]; exact ha⟩
theorem lexAll_p {l : List UInt8} (h : (lexAll l).2.1 = 0) : LexP l 0 (lexAll l).1 /\ l.length <= 20000 /\ (lexAll l).1.length <= 5000 := by
 unfold lexAll at h ⊢
 split at h
 ·simp at h
 ·rename_i hl; rw [if_neg hl]
  split at h
  ·rename_i e i he
   exfalso
   simp only at h; subst h; have : ∀ (f i : Nat) (acc : List Tok) (e j : Nat), lexF l f i acc = .error (e, j) -> e ≠ 0 := by
    intro f
    induction f with
    | zero => intro i acc e j h; simp [lexF] at h
    | succ f ih =>
     intro i acc e j h; simp only [lexF] at h
     split at h
     ·split at h
      ·rename_i e2 h2; have := nextL_err h2; simp only [Except.error.injEq, Prod.mk.injEq] at h; omega
      ·split at h
       ·simp only [Except.error.injEq, Prod.mk.injEq] at h; omega
       ·exact ih _ _ _ _ h
     ·cases h
   exact this _ _ _ _ _ he rfl
  ·rename_i ts he; obtain ⟨us, h1, h2, h3⟩ := lexF_p _ 0 [] ts (by omega) (by omega) (by simp) he; simp only [List.nil_append] at h1; subst h1; exact ⟨h2, by omega, h3⟩
end Go.Cz.Lx
namespace Go.Cz.Fo
open Go.Cz.Lx
theorem LexP.rest {l : Bytes} {i : Nat} {ts : List Tok} (h : LexP l i ts) : Lexes (l.drop i) (ts.map strip) := by
 induction h with
 | @nil i h =>
  refine .nil ?_; unfold gapE at h; have := gapL_le (l.drop i) false; rw [List.length_drop] at this ⊢; omega
 | @cons i t k ts h1 h2 h3 ih =>
  have h4 := nextL_at l (gapE l i); rw [h2] at h4; rcases hz : nextL (l.drop (gapE l i)) 0 with e | ⟨u, k'⟩
  ·rw [hz] at h4; simp at h4
  ·rw [hz] at h4; simp only [Except.ok.injEq, Prod.mk.injEq] at h4; obtain ⟨rfl, rfl⟩ := h4; have hd : (l.drop i).drop (gapL false (l.drop i)) = l.drop (gapE l i) := by rw [List.drop_drop]; rfl
   refine Lexes.cons (t := u) (k := k) ?_ ?_ ?_
   ·unfold gapE at h1; rw [List.length_drop]; omega
   ·rw [hd]; exact hz
   ·rw [hd, List.drop_drop]; exact ih
theorem LexP.ge {l : Bytes} {u : Tok} : ∀ {B C : List Tok} {i : Nat}, LexP l i (B ++ u :: C) -> i <= u.pos /\ u.pos < l.length
 | [], C, i, h => by
  cases h with
  | cons h1 h2 h3 =>
   have := nextL_pos h2; rw [this]; exact ⟨by unfold gapE; omega, h1⟩
 | t :: B, C, i, h => by
  rw [List.cons_append] at h; cases h with
  | cons h1 h2 h3 =>
   have := LexP.ge h3; unfold gapE at this; omega
theorem LexP.mid {l : Bytes} {u : Tok} : ∀ {B C : List Tok} {i : Nat}, LexP l i (B ++ u :: C) -> Lexes ((l.drop i).take (u.pos - i)) (B.map strip)
 | [], C, i, h => by
  cases h with
  | cons h1 h2 h3 =>
   have hp := nextL_pos h2; refine .nil ?_; rw [gap_take, List.length_take, hp]; unfold gapE at h1 ⊢; have := gapL_le (l.drop i) false; omega
 | t :: B, C, i, h => by
  rw [List.cons_append] at h; cases h with
  | @cons _ _ k _ h1 h2 h3 =>
   have hge := LexP.ge h3; have hm := LexP.mid h3; have h4 := nextL_at l (gapE l i); rw [h2] at h4; rcases hz : nextL (l.drop (gapE l i)) 0 with e | ⟨v, k'⟩
   ·rw [hz] at h4; simp at h4
   ·rw [hz] at h4; simp only [Except.ok.injEq, Prod.mk.injEq] at h4; obtain ⟨rfl, rfl⟩ := h4; obtain ⟨w1, w2⟩ := nextL_width h2 h1; obtain ⟨g, hg⟩ : ∃ g, g = gapL false (l.drop i) := ⟨_, rfl⟩; have he : gapE l i = i + g := by unfold gapE; rw [hg]
    rw [he] at hge hm hz w2 h1; have e1 : gapL false ((l.drop i).take (u.pos - i)) = g := by rw [gap_take, <- hg]; omega
    have hd : ((l.drop i).take (u.pos - i)).drop g = (l.drop (i + g)).take (u.pos - (i + g)) := by rw [List.drop_take, List.drop_drop, Nat.sub_sub]
    refine Lexes.cons (t := v) (k := k) ?_ ?_ ?_
    ·rw [e1, List.length_take, List.length_drop]; omega
    ·rw [e1, hd]; exact next_take hz (by omega) w1
    ·rw [e1, hd, List.drop_take, List.drop_drop, Nat.sub_sub]; exact hm
end Go.Cz.Fo
namespace Go.Cz.Vd
open Go.Cz.Lx Go.Cz.Fo
open Go.Cz.Wn (datedB dayB)
def okK : Nat -> List KTok -> Bool
 | _, [] => true
 | p, t :: r => !(p == 1 && t.1 == 2) && okK t.1 r
theorem okK_any {p : Nat} : ∀ {l : List KTok}, okK 1 l = true -> okK p l = true
 | [], _ => rfl
 | t :: r, h => by
  simp only [okK, Bool.and_eq_true] at h ⊢; refine ⟨?_, h.2⟩; have h1 := h.1
  revert h1
  cases p == 1 <;> simp
theorem okK_append {b : List KTok} (hb : okK 1 b = true) : ∀ {p : Nat} {a : List KTok}, okK p a = true -> okK p (a ++ b) = true
 | p, [], _ => okK_any hb
 | p, t :: r, h => by
  rw [List.cons_append]; simp only [okK, Bool.and_eq_true] at h ⊢; exact ⟨h.1, okK_append hb h.2⟩
theorem okK_name (s : Bytes) {l : List KTok} (h : okK 1 l = true) : okK 1 (kName s :: l) = true := by simp [okK, kName, h]
theorem okK_sym (s : Bytes) {l : List KTok} (h : okK 4 l = true) : okK 1 (kSym s :: l) = true := by simp [okK, kSym, h]
theorem okK_par {b : Bool} {l : List KTok} (h : okK 1 l = true) : okK 1 (parK b l) = true := by
 cases b
 ·exact h
 ·refine okK_sym _ (okK_append ?_ (okK_any h)); simp [okK, kSym]
theorem okK_join {w : Bytes} : ∀ {l : List (List KTok)}, (∀ x ∈ l, okK 1 x = true) -> okK 1 (joinK (kName w) l) = true
 | [], _ => rfl
 | [a], h => h a (by simp)
 | a :: b :: r, h => by
  rw [joinK]; exact okK_append (okK_name _ (okK_join fun x hx => h x (by simp [hx]))) (h a (by simp))
theorem okK_toks (f : Fm) : okK 1 (toksF f) = true := by
 refine Fm.induct (P := fun f => okK 1 (toksF f) = true) ?_ f; clear f; intro f ih; have hk : ∀ op, ∀ x ∈ toksKids op f.kids, okK 1 x = true := fun op x hx => by
  rw [toksKids_eq] at hx; obtain ⟨k, h1, rfl⟩ := List.mem_map.1 hx; exact okK_par (ih k h1)
 obtain ⟨op, name, m, n, ks⟩ := f; simp only [Fm.kids] at hk; rw [toksF]
 split
 ·rfl
 split
 ·rfl
 split
 ·simp [okK, kName, kSym, kNum]
 split
 ·exact okK_name _ (okK_join fun x hx => hk _ x (List.mem_of_mem_take hx))
 split
 ·exact okK_join (hk _)
 ·exact okK_join (hk _)
theorem from_count {t u : Tok} {C : List Tok} (h1 : t.kind = 1) (h2 : t.text = wFrom) (h3 : u.kind = 2) : ∀ {B : List Tok} {p : Nat}, okK p (B.map strip) = true -> fromM (B ++ t :: u :: C) = B.length
 | [], p, _ => by
  simp only [List.nil_append, fromM, termB, h1, h2, h3]
  rfl
 | [b], p, h => by
  have e : termB (b :: t :: u :: C) = false := by simp [termB, h1]
  have e2 : termB (t :: u :: C) = true := by simp [termB, h1, h2, h3]
  simp only [List.cons_append, List.nil_append, fromM, e, e2]
  rfl
 | b :: c :: r, p, h => by
  rw [List.map_cons] at h; simp only [okK, Bool.and_eq_true] at h; have ih := from_count (C := C) h1 h2 h3 (B := c :: r) h.2; have e : termB (b :: c :: (r ++ t :: u :: C)) = false := by
   have h4 := h.2; rw [List.map_cons] at h4; simp only [okK, Bool.and_eq_true, strip] at h4; have h5 := h4.1; simp only [termB]; by_cases k1 : b.kind = 1
   ·by_cases k2 : c.kind = 2
    ·simp [k1, k2] at h5
    ·simp [k2]
   ·simp [k1]
  rw [List.cons_append, List.cons_append, fromM, e, if_neg (by simp)]; rw [List.cons_append] at ih; rw [ih]
  rfl
theorem next_len {l : Bytes} {i : Nat} {t : Tok} {k : Nat} (h : nextL l i = .ok (t, k)) (hk : t.kind = 1) : t.text.length = k := by
 obtain ⟨h1, h2, h3⟩ := next_name h hk; have hw := whileN_le [3, 4, 5] (l.drop i); unfold nextL at h; rw [if_pos h1] at h
 split at h
 ·cases h
 ·simp only [Except.ok.injEq, Prod.mk.injEq] at h; rw [<- h.2, h3, List.length_take]; omega
theorem LexP.after {l : Bytes} {t : Tok} (hk : t.kind = 1) : ∀ {A B : List Tok} {i : Nat}, LexP l i (A ++ t :: B) -> LexP l (t.pos + t.text.length) B
 | [], B, i, h => by
  cases h with
  | cons h1 h2 h3 => rw [nextL_pos h2, next_len h2 hk]; exact h3
 | a :: A, B, i, h => by
  cases h with
  | cons h1 h2 h3 => exact LexP.after hk h3
theorem sub_parse {l : Bytes} {A B C : List Tok} {t u : Tok} {f : Fm} (h : LexP l 0 (A ++ t :: (B ++ u :: C))) (h1 : l.length <= 20000) (h2 : B.length <= 5000) (hk : t.kind = 1) (hs : B.map strip = toksF f) (hw : Wr f) (hL : largeB f = false) :
  parseF ((l.take u.pos).drop (t.pos + t.text.length)) = (f, 0, 0) := by
 have h3 := LexP.mid (LexP.after hk h); rw [<- List.drop_take] at h3; obtain ⟨ts, h4, h5⟩ := h3.all (by rw [List.length_drop, List.length_take]; omega) (by rw [List.length_map]; exact h2); exact parse_toks h4 (h5.trans hs) hw hL
theorem says_words : ∀ l : List (Bytes × List KTok), l ≠ [] -> (∀ p ∈ l, Says p.1 p.2) -> Says (joinB [32] (l.map Prod.fst)) (l.flatMap Prod.snd)
 | [], h, _ => absurd rfl h
 | [p], _, h => by simpa [joinB] using h p (by simp)
 | p :: q :: r, _, h => by
  have ih := says_words (q :: r) (by simp) fun x hx => h x (by simp [hx]); intro rest ks hb hl; have h1 := (ih rest ks hb hl).space; have h2 := h p (by simp) _ _ (brk_space _) h1; simp only [List.map_cons, joinB, List.flatMap_cons] at h2 ⊢
  simpa using h2
theorem says_name {s : Bytes} (h : nameB s = true) : Says s [kName s] := fun rest ks hb hl => Lexes.name h hb hl
theorem says_num {n : Int} (h0 : 0 <= n) (h1 : n <= 1000000) : Says (Lib.itoa n) [kNum n] := fun rest ks hb hl => by
 obtain ⟨N, rfl⟩ : ∃ N : Nat, n = N := ⟨n.toNat, (Int.toNat_of_nonneg h0).symm⟩; have e : Lib.itoa (N : Int) = Lib.decDigits N := Lib.itoa_nonneg N; have := Lexes.num (n := N) (by omega) hb hl
 simpa [kNum, e] using this
def pairsM (m : Me) : List (Bytes × List KTok) :=
 [(wKind m.kind, [kName (wKind m.kind)])] ++ ((if m.target = [] then [] else [(m.target, [kName m.target])]) ++ ([(m.id, [kName m.id]), (wOf, [kName wOf]), (m.auth, [kName m.auth])] ++
  ((if m.cond.op = 1 then [] else [(wIf, [kName wIf]), (textF Lib.itoa m.cond, toksF m.cond)]) ++
  ([(wFrom, [kName wFrom]), (Lib.itoa m.fr, [kNum m.fr])] ++ ((if 0 <= m.un then [(wUntil, [kName wUntil]), (Lib.itoa m.un, [kNum m.un])] else []) ++ (if 0 < m.wi then [(wWind, [kName wWind]), (Lib.itoa m.wi, [kNum m.wi])] else []))))))
def toksM (m : Me) : List KTok :=
 kName (wKind m.kind) :: ((if m.target = [] then [] else [kName m.target]) ++ (kName m.id :: kName wOf :: kName m.auth :: ((if m.cond.op = 1 then [] else kName wIf :: toksF m.cond) ++
  (kName wFrom :: kNum m.fr :: ((if 0 <= m.un then [kName wUntil, kNum m.un] else []) ++ ((if 0 < m.wi then [kName wWind, kNum m.wi] else []) ++ [kSym [59]]))))))
theorem pairs_words (m : Me) : (pairsM m).map Prod.fst = wordsM m := by
 unfold pairsM wordsM; simp only [List.map_append, List.map_cons, List.map_nil]
 congr 1
 (repeat' split) <;> rfl
theorem pairs_toks (m : Me) : (pairsM m).flatMap Prod.snd ++ [kSym [59]] = toksM m := by
 unfold pairsM toksM
 (repeat' split) <;> simp
structure WrM (m : Me) : Prop where
 large : largeB m.cond = false
 wr : Wr m.cond
 id : nameB m.id = true
 auth : nameB m.auth = true
 kind : (m.kind = 1 /\ m.target = []) ∨ (m.kind = 2 /\ nameB m.target = true /\ m.target ≠ m.id) ∨ (m.kind = 3 /\ nameB m.target = true /\ m.target ≠ m.auth)
 fr : 0 <= m.fr /\ m.fr <= 100000
 un : m.un = -1 ∨ (m.fr < m.un /\ m.un <= 100000)
 wi : 0 <= m.wi /\ m.wi <= 400
 wk : m.kind ≠ 1 -> m.wi = 0
theorem wrM_parts {m : Me} (h : wrM m = true) : WrM m := by
 unfold wrM at h; simp only [Bool.and_eq_true, decide_eq_true_eq] at h; obtain ⟨h1, h2, h3⟩ := h; have h4 : largeB m.cond = false /\ Wr m.cond := by
  unfold textE at h1
  split at h1
  ·simp at h1
  ·rename_i h5; simp only [not_or, Bool.not_eq_true, ne_eq, Decidable.not_not] at h5; exact h5
 unfold namedM at h2; simp only [Bool.and_eq_true] at h2; obtain ⟨k1, k2, k3⟩ := h2; unfold datedB dayB at h3; simp only [Bool.and_eq_true, Bool.or_eq_true, decide_eq_true_eq, beq_iff_eq] at h3; obtain ⟨d1, d2, d3, d4, d5⟩ := h3; refine ⟨h4.1, h4.2, k1, k2, ?_, d1, by omega, ⟨d2, d3⟩, fun hk => by omega⟩
 split at k3
 ·rename_i hk; exact .inl ⟨hk, by simpa using k3⟩
 ·split at k3
  ·rename_i hk; simp only [Bool.and_eq_true, decide_eq_true_eq] at k3; exact .inr (.inl ⟨hk, k3⟩)
  ·split at k3
   ·rename_i hk; simp only [Bool.and_eq_true, decide_eq_true_eq] at k3; exact .inr (.inr ⟨hk, k3⟩)
   ·cases k3
theorem wr_parts_iff {m : Me} (h : WrM m) : wrM m = true := by
 unfold wrM textE; rw [if_neg (by simp [h.large, h.wr])]; simp only [decide_true, Bool.true_and, Bool.and_eq_true]
 constructor
 ·unfold namedM; rw [h.id, h.auth]; rcases h.kind with ⟨k, t⟩ | ⟨k, t, n⟩ | ⟨k, t, n⟩
  ·rw [if_pos k, t]; rfl
  ·rw [if_neg (by omega), if_pos k, t]; simp [n]
  ·rw [if_neg (by omega), if_neg (by omega), if_pos k, t]; simp [n]
 ·have h1 := h.fr; have h2 := h.un; have h3 := h.wi; have h4 := h.wk; unfold datedB dayB; simp only [Bool.and_eq_true, Bool.or_eq_true, decide_eq_true_eq, beq_iff_eq]; refine ⟨h1, h3.1, h3.2, ?_, by omega⟩; by_cases k : m.kind = 1
  ·exact .inr k
  ·exact .inl (by have := h4 k; omega)
theorem kind_name {m : Me} (h : WrM m) : nameB (wKind m.kind) = true := by
 unfold wKind; rcases h.kind with ⟨k, -⟩ | ⟨k, -⟩ | ⟨k, -⟩
 ·rw [if_pos k]; decide
 ·rw [if_neg (by omega), if_pos k]; decide
 ·rw [if_neg (by omega), if_neg (by omega), if_pos k]; decide
theorem lexes_say {m : Me} (h : WrM m) : Lexes (sayM m) (toksM m) := by
 have hs := says_words (pairsM m) (by unfold pairsM; simp) fun p hp => by
  have hfr := h.fr; have hun := h.un; have hwi := h.wi; unfold pairsM at hp; simp only [List.mem_append, List.mem_cons, List.not_mem_nil, or_false] at hp; rcases hp with rfl | hp | (rfl | rfl | rfl) | hp | (rfl | rfl) | hp | hp
  ·exact says_name (kind_name h)
  ·split at hp
   ·cases hp
   ·rename_i ht; obtain rfl : p = (m.target, [kName m.target]) := by simpa using hp
    rcases h.kind with ⟨-, t⟩ | ⟨-, t, -⟩ | ⟨-, t, -⟩
    ·exact absurd t ht
    ·exact says_name t
    ·exact says_name t
  ·exact says_name h.id
  ·exact says_name (by decide)
  ·exact says_name h.auth
  ·split at hp
   ·cases hp
   ·simp only [List.mem_cons, List.not_mem_nil, or_false] at hp; rcases hp with rfl | rfl
    ·exact says_name (by decide)
    ·exact Says.text _ h.wr
  ·exact says_name (by decide)
  ·exact says_num (by omega) (by omega)
  ·split at hp
   ·simp only [List.mem_cons, List.not_mem_nil, or_false] at hp; rcases hp with rfl | rfl
    ·exact says_name (by decide)
    ·exact says_num (by omega) (by omega)
   ·cases hp
  ·split at hp
   ·simp only [List.mem_cons, List.not_mem_nil, or_false] at hp; rcases hp with rfl | rfl
    ·exact says_name (by decide)
    ·exact says_num (by omega) (by omega)
   ·cases hp
 have h1 : Lexes [59] [kSym [59]] := Lexes.one (c := 59) (by decide) (.nil rfl); have h2 := hs [59] [kSym [59]] (fun c r e => by cases e; decide) h1; rw [pairs_words, pairs_toks] at h2; exact h2
theorem words_len : ∀ l : List Bytes, (joinB [32] l).length <= (l.map fun s => s.length + 1).sum
 | [] => by simp [joinB]
 | [a] => by simp [joinB]
 | a :: b :: r => by
  have := words_len (b :: r); simp only [joinB, List.length_append, List.map_cons, List.sum_cons, List.length_cons, List.length_nil] at this ⊢; omega
theorem say_len {m : Me} (h : WrM m) : (sayM m).length <= 13000 /\ (toksM m).length <= 2000 := by
 have h1 := text_len m.cond h.wr; have h2 := (largeB_false.1 h.large).1; have h3 := name_le (kind_name h); have h4 := name_le h.id; have h5 := name_le h.auth; have h6 : m.target.length <= 24 := by
  rcases h.kind with ⟨-, t⟩ | ⟨-, t, -⟩ | ⟨-, t, -⟩
  ·rw [t]; simp
  ·exact name_le t
  ·exact name_le t
 have hfr := h.fr; have hun := h.un; have hwi := h.wi; have h7 := Lib.itoa_length_le m.fr (by omega) (by omega); have h8 := Lib.itoa_length_le m.un (by omega) (by omega); have h9 := Lib.itoa_length_le m.wi (by omega) (by omega)
 constructor
 ·have h10 := words_len (wordsM m); unfold sayM; rw [List.length_append]; have h11 : ((wordsM m).map fun s => s.length + 1).sum <= 12900 := by
   unfold wordsM; simp only [List.map_append, List.sum_append, List.map_cons, List.map_nil, List.sum_cons, List.sum_nil, wOf, wFrom, List.length_cons, List.length_nil]
   (repeat' split) <;> simp only [List.map_cons, List.map_nil, List.sum_cons, List.sum_nil, wIf, wUntil, wWind, List.length_cons, List.length_nil] <;> omega
  simp only [List.length_cons, List.length_nil]; omega
 ·unfold toksM; simp only [List.length_append, List.length_cons, List.length_nil]
  (repeat' split) <;> simp only [List.length_cons, List.length_nil] <;> omega
theorem strip_cons {ts : List Tok} {k : KTok} {ks : List KTok} (h : ts.map strip = k :: ks) : ∃ t r, ts = t :: r /\ strip t = k /\ r.map strip = ks := by
 cases ts with
 | nil => simp at h
 | cons t r => simp only [List.map_cons, List.cons.injEq] at h; exact ⟨t, r, rfl, h.1, h.2⟩
theorem strip_append {ts : List Tok} {a b : List KTok} (h : ts.map strip = a ++ b) : ∃ x y, ts = x ++ y /\ x.map strip = a /\ y.map strip = b := by
 refine ⟨ts.take a.length, ts.drop a.length, (List.take_append_drop _ _).symm, ?_, ?_⟩
 ·rw [List.map_take, h, List.take_left']; rfl
 ·rw [List.map_drop, h, List.drop_left']; rfl
theorem strip_name {t : Tok} {s : Bytes} (h : strip t = kName s) : t.kind = 1 /\ t.text = s := by simp only [strip, kName, Prod.mk.injEq] at h; exact ⟨h.1, h.2.2⟩
theorem strip_sym {t : Tok} {s : Bytes} (h : strip t = kSym s) : t.kind = 4 /\ t.text = s := by simp only [strip, kSym, Prod.mk.injEq] at h; exact ⟨h.1, h.2.2⟩
theorem strip_num {t : Tok} {n : Int} (h : strip t = kNum n) (h0 : 0 <= n) : t.kind = 2 /\ (t.num : Int) = n := by simp only [strip, kNum, Prod.mk.injEq] at h; exact ⟨h.1, by omega⟩
theorem take_name {fin : Int} {t : Tok} {s : Bytes} {r : List Tok} (h : strip t = kName s) : takeM fin 1 s (t :: r) = .ok (t, r) := by
 obtain ⟨h1, h2⟩ := strip_name h; simp only [takeM]; rw [if_neg (by simp [h1, h2])]
theorem name_ok {fin : Int} {t : Tok} {s no : Bytes} {r : List Tok} (h : strip t = kName s) (hn : s ≠ no) : nameM fin no (t :: r) = .ok (s, r) := by
 obtain ⟨h1, h2⟩ := strip_name h; unfold nameM; simp only [takeM]; rw [if_neg (by simp [h1])]; simp only; rw [if_neg (by rw [h2]; exact hn), h2]
theorem num_ok {fin least most : Int} {t : Tok} {n : Int} {r : List Tok} (h : strip t = kNum n) (h0 : 0 <= n) (hl : least <= n) (hm : n <= most) : numM fin least most (t :: r) = .ok (n, r) := by
 obtain ⟨h1, h2⟩ := strip_num h h0; unfold numM; simp only [takeM]; rw [if_neg (by simp [h1])]; simp only; rw [if_neg (by omega), h2]
theorem close_ok {fin : Int} {t : Tok} (h : strip t = kSym [59]) : closeM fin [t] = .ok () := by
 obtain ⟨h1, h2⟩ := strip_sym h; unfold closeM; simp only [takeM]; rw [if_neg (by simp [h1, h2])]
theorem sees_name {t : Tok} {s w : Bytes} {r : List Tok} (h : strip t = kName s) : seesM w (t :: r) = decide (s = w) := by
 obtain ⟨h1, h2⟩ := strip_name h; simp [seesM, h1, h2]
theorem sees_sym {t : Tok} {s w : Bytes} {r : List Tok} (h : strip t = kSym s) : seesM w (t :: r) = false := by
 obtain ⟨h1, h2⟩ := strip_sym h; simp [seesM, h1]
theorem dates_ok {fin : Int} {m : Me} (h : WrM m) {m0 : Me} (hk : m0.kind = m.kind) {ts : List Tok}
  (hs : ts.map strip = kName wFrom :: kNum m.fr :: ((if 0 <= m.un then [kName wUntil, kNum m.un] else []) ++ ((if 0 < m.wi then [kName wWind, kNum m.wi] else []) ++ [kSym [59]]))) :
  datesM fin m0 ts = .ok { m0 with fr := m.fr, un := m.un, wi := m.wi } := by
 have hfr := h.fr; have hun := h.un; have hwi := h.wi; have hwk := h.wk; obtain ⟨t1, r1, rfl, e1, hs⟩ := strip_cons hs; obtain ⟨t2, r2, rfl, e2, hs⟩ := strip_cons hs; obtain ⟨x, y, rfl, e3, hs⟩ := strip_append hs; obtain ⟨x2, y2, rfl, e4, hs⟩ := strip_append hs; obtain ⟨t5, r5, rfl, e5, hs⟩ := strip_cons hs; obtain rfl : r5 = [] := by simpa using hs
 have hclose := close_ok (fin := fin) e5; have hwind : windM fin m0.kind (x2 ++ [t5]) = .ok (m.wi, [t5]) := by
  unfold windM; by_cases hw : 0 < m.wi
  ·rw [if_pos hw] at e4; obtain ⟨a, ra, rfl, ea, e4⟩ := strip_cons e4; obtain ⟨b, rb, rfl, eb, e4⟩ := strip_cons e4; obtain rfl : rb = [] := by simpa using e4
   have hk1 : m.kind = 1 := Decidable.byContradiction fun hx => by have := hwk hx; omega
   rw [if_pos ⟨hk.trans hk1, by rw [List.cons_append, sees_name ea]; simp⟩]; exact num_ok eb (by omega) (by omega) (by omega)
  ·rw [if_neg hw] at e4; obtain rfl : x2 = [] := by simpa using e4
   rw [if_neg (by rintro ⟨-, hx⟩; rw [List.nil_append, sees_sym e5] at hx; cases hx), show m.wi = 0 by omega]
   rfl
 have huntil : untilM fin m.fr (x ++ (x2 ++ [t5])) = .ok (m.un, x2 ++ [t5]) := by
  unfold untilM; by_cases hu : 0 <= m.un
  ·rw [if_pos hu] at e3; obtain ⟨a, ra, rfl, ea, e3⟩ := strip_cons e3; obtain ⟨b, rb, rfl, eb, e3⟩ := strip_cons e3; obtain rfl : rb = [] := by simpa using e3
   rw [if_pos (by rw [List.cons_append, sees_name ea]; simp)]; exact num_ok eb (by omega) (by omega) (by omega)
  ·rw [if_neg hu] at e3; obtain rfl : x = [] := by simpa using e3
   rw [if_neg, show m.un = -1 by omega]
   ·rfl
   ·rw [List.nil_append]; intro hx; by_cases hw : 0 < m.wi
    ·rw [if_pos hw] at e4; obtain ⟨a, ra, rfl, ea, e4⟩ := strip_cons e4; rw [List.cons_append, sees_name ea] at hx
     revert hx; decide
    ·rw [if_neg hw] at e4; obtain rfl : x2 = [] := by simpa using e4
     rw [List.nil_append, sees_sym e5] at hx; cases hx
 unfold datesM; rw [take_name e1]; simp only; rw [num_ok e2 (by omega) (by omega) (by omega)]; simp only; rw [huntil]; simp only; rw [hwind]; simp only; rw [hclose]
theorem ids_ok {fin : Int} {m : Me} (h : WrM m) {m0 : Me} {a b : Bytes} (ha : m.id ≠ a) (hb : m.auth ≠ b) {ts : List Tok} {R : List KTok} (hs : ts.map strip = kName m.id :: kName wOf :: kName m.auth :: R) :
  ∃ A x r, ts = A ++ x :: r /\ r.map strip = R /\ idsM fin a b m0 ts = .ok ({ m0 with id := m.id, auth := m.auth }, r) := by
 obtain ⟨t1, r1, rfl, e1, hs⟩ := strip_cons hs; obtain ⟨t2, r2, rfl, e2, hs⟩ := strip_cons hs; obtain ⟨t3, r3, rfl, e3, hs⟩ := strip_cons hs; refine ⟨[t1, t2], t3, r3, rfl, hs, ?_⟩; unfold idsM; rw [name_ok e1 ha]; simp only; rw [take_name e2]; simp only; rw [name_ok e3 hb]
theorem head_ok {fin : Int} {m : Me} (h : WrM m) {ts : List Tok} {R : List KTok} (hs : ts.map strip = (if m.target = [] then [] else [kName m.target]) ++ kName m.id :: kName wOf :: kName m.auth :: R) :
  ∃ A x r, ts = A ++ x :: r /\ r.map strip = R /\ targetM fin m.kind ts = .ok (⟨m.id, m.auth, m.kind, m.target, trueF, 0, -1, 0⟩, r) := by
 have hi : m.id ≠ [] := name_some h.id; have hau : m.auth ≠ [] := name_some h.auth; unfold targetM; rcases h.kind with ⟨k, t⟩ | ⟨k, t, n⟩ | ⟨k, t, n⟩
 ·rw [if_pos t, List.nil_append] at hs; rw [if_pos k]; obtain ⟨A, x, r, h1, h2, h3⟩ := ids_ok (fin := fin) h (m0 := startM 1) hi hau hs; refine ⟨A, x, r, h1, h2, ?_⟩; rw [h3, k, t]
  rfl
 ·have ht := name_some t; rw [if_neg ht] at hs; obtain ⟨t1, r1, rfl, e1, hs⟩ := strip_cons (ks := kName m.id :: kName wOf :: kName m.auth :: R) hs; rw [if_neg (by omega), name_ok e1 ht]; simp only; rw [if_pos k, if_neg (by omega)]; obtain ⟨A, x, r, h1, h2, h3⟩ := ids_ok (fin := fin) h (m0 := { startM m.kind with target := m.target }) (Ne.symm n) hau hs; refine ⟨t1 :: A, x, r, by rw [h1]; rfl, h2, ?_⟩; rw [h3]
  rfl
 ·have ht := name_some t; rw [if_neg ht] at hs; obtain ⟨t1, r1, rfl, e1, hs⟩ := strip_cons (ks := kName m.id :: kName wOf :: kName m.auth :: R) hs; rw [if_neg (by omega), name_ok e1 ht]; simp only; rw [if_neg (by omega), if_pos k]; obtain ⟨A, x, r, h1, h2, h3⟩ := ids_ok (fin := fin) h (m0 := { startM m.kind with target := m.target }) hi (Ne.symm n) hs; refine ⟨t1 :: A, x, r, by rw [h1]; rfl, h2, ?_⟩; rw [h3]
  rfl
theorem kind_back {m : Me} (h : WrM m) : kindM (wKind m.kind) = m.kind /\ m.kind ≠ 0 := by
 rcases h.kind with ⟨k, -⟩ | ⟨k, -⟩ | ⟨k, -⟩ <;> rw [k] <;> decide
theorem cond_ok {l : Bytes} {b n : Nat} {ts r : List Tok} {f : Fm} (hn : fromM ts = n) (hd : ts.drop n = r) (hp : parseF ((l.take (endM l r)).drop b) = (f, 0, 0)) : condM l b ts = .ok (f, r) := by
 subst hn; subst hd; unfold condM; rw [hp]; simp [condE]
theorem measure_back {m : Me} (h : WrM m) : parseM (sayM m) = (m, 0, 0) := by
 obtain ⟨L1, L2⟩ := say_len h; obtain ⟨ts, hl, hs⟩ := (lexes_say h).all (by omega) (by omega); have hP := (lexAll_p (l := sayM m) (by rw [hl])).1; rw [hl] at hP; simp only at hP; have hlen : ts.length <= 5000 := by
  have := congrArg List.length hs; rw [List.length_map] at this; omega
 obtain ⟨kb, k0⟩ := kind_back h; unfold toksM at hs; obtain ⟨t0, r0, rfl, e0, hs⟩ := strip_cons hs; obtain ⟨n1, n2⟩ := strip_name e0; obtain ⟨A, x, r, rfl, hs2, hh⟩ := head_ok (fin := ((sayM m).length : Int)) h hs; have hbody : bodyM (sayM m) ⟨m.id, m.auth, m.kind, m.target, trueF, 0, -1, 0⟩ r = .ok m := by
  unfold bodyM ifM; by_cases hop : m.cond.op = 1
  ·rw [if_pos hop, List.nil_append] at hs2; obtain ⟨t1, r1, rfl, e1, hs3⟩ := strip_cons hs2; rw [if_neg (by rw [sees_name e1]; decide)]; simp only; rw [dates_ok h (m0 := ⟨m.id, m.auth, m.kind, m.target, trueF, 0, -1, 0⟩) rfl hs2]; have : m.cond = trueF := by
    rcases h.wr.forms with ⟨s, a, n, e, -⟩ | e | e | ⟨k, e⟩ | ⟨a, b, r, e⟩ | ⟨a, b, r, e⟩
    all_goals rw [e] at hop ⊢
    all_goals first | rfl | simp [Fm.op] at hop
   obtain ⟨a1, a2, a3, a4, a5, a6, a7, a8⟩ := m; simp only at this; rw [this]
  ·rw [if_neg hop] at hs2; obtain ⟨t1, r1, rfl, e1, hs3⟩ := strip_cons (ks := toksF m.cond ++ kName wFrom :: kNum m.fr :: ((if 0 <= m.un then [kName wUntil, kNum m.un] else []) ++ ((if 0 < m.wi then [kName wWind, kNum m.wi] else []) ++ [kSym [59]]))) hs2; obtain ⟨B, y, rfl, eB, hs4⟩ := strip_append hs3; obtain ⟨u, r2, rfl, eu, hs5⟩ := strip_cons hs4; obtain ⟨v, r3, rfl, ev, hs6⟩ := strip_cons hs5; obtain ⟨u1, u2⟩ := strip_name eu; have v1 := (strip_num ev h.fr.1).1; obtain ⟨w1, w2⟩ := strip_name e1; have hn : fromM (B ++ u :: v :: r3) = B.length := from_count (p := 1) u1 u2 v1 (by rw [eB]; exact okK_toks _); rw [if_pos (by rw [sees_name e1]; decide)]; have hP2 : LexP (sayM m) 0 ((t0 :: (A ++ [x])) ++ t1 :: (B ++ u :: (v :: r3))) := by simpa using hP
   have hB : B.length <= 5000 := by simp at hlen; omega
   have hp := sub_parse hP2 (by omega) hB w1 eB h.wr h.large; have e2 : t1.text.length = 2 := by rw [w2]; rfl
   rw [e2] at hp; have hc : condM (sayM m) (endM (sayM m) (t1 :: (B ++ u :: v :: r3)) + 2) (t1 :: (B ++ u :: v :: r3)).tail = .ok (m.cond, u :: v :: r3) := by
    exact cond_ok (r := u :: v :: r3) hn (by rw [List.tail_cons, List.drop_left]) hp
   rw [hc]; simp only; rw [dates_ok h (m0 := ⟨m.id, m.auth, m.kind, m.target, m.cond, 0, -1, 0⟩) rfl hs4]
 unfold parseM; rw [hl]; simp only [ne_eq, not_true_eq_false, if_false]; unfold measureM; have ht : takeM ((sayM m).length : Int) 1 [] (t0 :: (A ++ x :: r)) = .ok (t0, A ++ x :: r) := by
  simp only [takeM]; rw [if_neg (by simp [n1])]
 rw [ht]; simp only; rw [n2, kb, if_neg k0, hh]; simp only; rw [hbody]
theorem text_of {m : Me} (h : (textM m).2 = 0) : wrM m = true /\ (textM m).1 = sayM m := by
 unfold textM at h ⊢
 split at h
 ·rename_i hw; rw [if_pos hw]; exact ⟨hw, rfl⟩
 ·simp at h
theorem text_parse {m : Me} (h : (textM m).2 = 0) : parseM (textM m).1 = (m, 0, 0) := by
 obtain ⟨h1, h2⟩ := text_of h; rw [h2]; exact measure_back (wrM_parts h1)
end Go.Cz.Vd
namespace Go.Cz.Vd
open Go.Cz.Lx Go.Cz.Fo
open Go.Cz.Wn (datedB dayB)
section
variable {fin : Int} {B : Nat} {ts r : List Tok} {e : Er}
theorem take_inv {k : Nat} {s : Bytes} {t : Tok} (h : takeM fin k s ts = .ok (t, r)) : ts = t :: r /\ t.kind = k /\ (s ≠ [] -> t.text = s) := by
 cases ts with
 | nil => simp [takeM] at h
 | cons u q =>
  simp only [takeM] at h
  split at h
  ·cases h
  ·rename_i hc; simp only [Except.ok.injEq, Prod.mk.injEq] at h; obtain ⟨rfl, rfl⟩ := h; simp only [not_or, ne_eq, Decidable.not_not, not_and] at hc; exact ⟨rfl, hc.1, hc.2⟩
theorem name_inv {no s : Bytes} (h : nameM fin no ts = .ok (s, r)) : ∃ t, ts = t :: r /\ t.kind = 1 /\ t.text = s /\ s ≠ no := by
 unfold nameM at h
 split at h
 ·cases h
 ·rename_i t q h1; obtain ⟨rfl, h2, -⟩ := take_inv h1
  split at h
  ·cases h
  ·rename_i h3; simp only [Except.ok.injEq, Prod.mk.injEq] at h; obtain ⟨rfl, rfl⟩ := h; exact ⟨t, rfl, h2, rfl, h3⟩
theorem num_inv {least most n : Int} (h : numM fin least most ts = .ok (n, r)) : ∃ t, ts = t :: r /\ n = (t.num : Int) /\ least <= n /\ n <= most := by
 unfold numM at h
 split at h
 ·cases h
 ·rename_i t q h1; obtain ⟨rfl, h2, -⟩ := take_inv h1
  split at h
  ·cases h
  ·rename_i h3; simp only [Except.ok.injEq, Prod.mk.injEq] at h; obtain ⟨rfl, rfl⟩ := h; exact ⟨t, rfl, rfl, by omega, by omega⟩
def BadE (B : Nat) (e : Er) : Prop := e.1 ≠ 0 /\ -1 <= e.2 /\ e.2 <= (B : Int)
theorem take_bad {k : Nat} {s : Bytes} (ht : InT B ts) (h : takeM (B : Int) k s ts = .error e) : BadE B e := by
 cases ts with
 | nil =>
  simp only [takeM, Except.error.injEq] at h; subst h; exact ⟨by simp, by simp only; omega, by simp⟩
 | cons u q =>
  simp only [takeM] at h; have := ht.head
  split at h
  ·simp only [Except.error.injEq] at h; subst h; exact ⟨by simp, by simp only; omega, by simp only; omega⟩
  ·cases h
theorem name_bad {no : Bytes} (ht : InT B ts) (h : nameM (B : Int) no ts = .error e) : BadE B e := by
 unfold nameM at h
 split at h
 ·rename_i e2 h1; simp only [Except.error.injEq] at h; exact h ▸ take_bad ht h1
 ·rename_i t q h1; obtain ⟨rfl, h2, -⟩ := take_inv h1; have := ht.head
  split at h
  ·simp only [Except.error.injEq] at h; subst h; exact ⟨by simp, by simp only; omega, by simp only; omega⟩
  ·cases h
theorem num_bad {least most : Int} (ht : InT B ts) (h : numM (B : Int) least most ts = .error e) : BadE B e := by
 unfold numM at h
 split at h
 ·rename_i e2 h1; simp only [Except.error.injEq] at h; exact h ▸ take_bad ht h1
 ·rename_i t q h1; obtain ⟨rfl, h2, -⟩ := take_inv h1; have := ht.head
  split at h
  ·simp only [Except.error.injEq] at h; subst h; exact ⟨by simp, by simp only; omega, by simp only; omega⟩
  ·cases h
theorem tail_in (ht : InT B ts) : InT B ts.tail := fun t h => ht t (List.mem_of_mem_tail h)
end
theorem dates_inv {fin : Int} {m0 m : Me} {ts : List Tok} (h : datesM fin m0 ts = .ok m) : ∃ fr un wi : Int, m = { m0 with fr := fr, un := un, wi := wi } /\ (0 <= fr /\ fr <= 100000) /\ (un = -1 ∨ (fr < un /\ un <= 100000)) /\ (0 <= wi /\ wi <= 400) /\ (m0.kind ≠ 1 -> wi = 0) := by
 unfold datesM at h
 split at h
 ·cases h
 split at h
 ·cases h
 rename_i fr r2 h2
 split at h
 ·cases h
 rename_i un r3 h3
 split at h
 ·cases h
 rename_i wi r4 h4
 split at h
 ·cases h
 simp only [Except.ok.injEq] at h; obtain ⟨t, -, -, l1, l2⟩ := num_inv h2; refine ⟨fr, un, wi, h.symm, ⟨l1, l2⟩, ?_, ?_⟩
 ·unfold untilM at h3
  split at h3
  ·obtain ⟨t, -, -, l3, l4⟩ := num_inv h3; exact .inr ⟨by omega, l4⟩
  ·simp only [Except.ok.injEq, Prod.mk.injEq] at h3; exact .inl h3.1.symm
 ·unfold windM at h4
  split at h4
  ·rename_i hk; obtain ⟨t, -, -, l3, l4⟩ := num_inv h4; exact ⟨⟨l3, l4⟩, fun h => absurd hk.1 h⟩
  ·simp only [Except.ok.injEq, Prod.mk.injEq] at h4; exact ⟨by omega, fun _ => h4.1.symm⟩
theorem cond_inv {l : Bytes} {b : Nat} {ts r : List Tok} {f : Fm} (h : condM l b ts = .ok (f, r)) : textE f = 0 /\ r = ts.drop (fromM ts) := by
 unfold condM at h
 split at h
 ·cases h
 ·rename_i hc; simp only [Except.ok.injEq, Prod.mk.injEq] at h; obtain ⟨rfl, rfl⟩ := h; refine ⟨?_, rfl⟩; obtain ⟨p, hp⟩ : ∃ p, p = parseF ((l.take (endM l (ts.drop (fromM ts)))).drop b) := ⟨_, rfl⟩; rw [<- hp] at hc ⊢; have h0 : p.2.1 = 0 := by
   unfold condE at hc
   split at hc
   ·cases hc
   split at hc
   ·assumption
   split at hc <;> cases hc
  exact parse_writes (l := (l.take (endM l (ts.drop (fromM ts)))).drop b) (at' := p.2.2) (by rw [<- hp, <- h0])
theorem ids_inv {fin : Int} {a b : Bytes} {m0 m : Me} {ts r : List Tok} (hn : NameOk ts) (h : idsM fin a b m0 ts = .ok (m, r)) : ∃ x y : Bytes, m = { m0 with id := x, auth := y } /\ nameB x = true /\ nameB y = true /\ x ≠ a /\ y ≠ b /\ NameOk r /\ ∃ A, ts = A ++ r := by
 unfold idsM at h
 split at h
 ·cases h
 rename_i x r1 h1
 split at h
 ·cases h
 rename_i t r2 h2
 split at h
 ·cases h
 rename_i y r3 h3; simp only [Except.ok.injEq, Prod.mk.injEq] at h; obtain ⟨rfl, rfl⟩ := h; obtain ⟨u, rfl, k1, k2, k3⟩ := name_inv h1; obtain ⟨rfl, -, -⟩ := take_inv h2; obtain ⟨v, rfl, k4, k5, k6⟩ := name_inv h3; exact ⟨x, y, rfl, by rw [<- k2]; exact hn u (by simp) k1, by rw [<- k5]; exact hn v (by simp) k4, k3, k6, fun q hq => hn q (by simp [hq]), [u, t, v], rfl⟩
theorem kindM_le (s : Bytes) : kindM s = 0 ∨ kindM s = 1 ∨ kindM s = 2 ∨ kindM s = 3 := by unfold kindM; (repeat' split) <;> simp
theorem target_inv {fin k : Int} {m : Me} {ts r : List Tok} (hk : k = 1 ∨ k = 2 ∨ k = 3) (hn : NameOk ts) (h : targetM fin k ts = .ok (m, r)) :
  m.kind = k /\ m.cond = trueF /\ nameB m.id = true /\ nameB m.auth = true /\ ((k = 1 /\ m.target = []) ∨ (k = 2 /\ nameB m.target = true /\ m.target ≠ m.id) ∨ (k = 3 /\ nameB m.target = true /\ m.target ≠ m.auth)) /\ NameOk r /\ ∃ A, ts = A ++ r := by
 unfold targetM at h
 split at h
 ·rename_i k1; obtain ⟨x, y, rfl, h1, h2, h3, h4, h5, h6⟩ := ids_inv hn h; exact ⟨k1.symm, rfl, h1, h2, .inl ⟨k1, rfl⟩, h5, h6⟩
 ·rename_i k1
  split at h
  ·cases h
  rename_i t q h0; obtain ⟨u, rfl, g1, g2, g3⟩ := name_inv h0; have hq : NameOk q := fun v hv => hn v (by simp [hv]); obtain ⟨x, y, rfl, h1, h2, h3, h4, h5, A, h6⟩ := ids_inv hq h; have ht : nameB t = true := by rw [<- g2]; exact hn u (by simp) g1
  refine ⟨rfl, rfl, h1, h2, ?_, h5, u :: A, by rw [h6]; rfl⟩; rcases hk with rfl | rfl | rfl
  ·exact absurd rfl k1
  ·exact .inr (.inl ⟨rfl, ht, by simpa using Ne.symm h3⟩)
  ·exact .inr (.inr ⟨rfl, ht, by simpa using Ne.symm h4⟩)
theorem measure_wr {l : Bytes} {ts : List Tok} {m : Me} (hn : NameOk ts) (h : measureM l ts = .ok m) : wrM m = true := by
 unfold measureM at h
 split at h
 ·cases h
 rename_i t r h0; obtain ⟨rfl, k1, -⟩ := take_inv h0; have hr : NameOk r := fun v hv => hn v (by simp [hv])
 split at h
 ·cases h
 rename_i hk
 split at h
 ·cases h
 rename_i m1 r1 h1; have hk3 : kindM t.text = 1 ∨ kindM t.text = 2 ∨ kindM t.text = 3 := by have := kindM_le t.text; omega
 obtain ⟨g1, g2, g3, g4, g5, g6, -⟩ := target_inv hk3 hr h1; unfold bodyM at h
 split at h
 ·cases h
 rename_i f r2 h2; have hf : textE f = 0 := by
  unfold ifM at h2
  split at h2
  ·exact (cond_inv h2).1
  ·simp only [Except.ok.injEq, Prod.mk.injEq] at h2; rw [<- h2.1]
   decide
 obtain ⟨fr, un, wi, rfl, d1, d2, d3, d4⟩ := dates_inv h; have hw : largeB f = false /\ Wr f := by
  unfold textE at hf
  split at hf
  ·simp at hf
  ·rename_i h5; simp only [not_or, Bool.not_eq_true, ne_eq, Decidable.not_not] at h5; exact h5
 exact wr_parts_iff ⟨hw.1, hw.2, g3, g4, by simpa [g1] using g5, d1, d2, d3, d4⟩
theorem dates_bad {B : Nat} {m0 : Me} {ts : List Tok} {e : Er} (ht : InT B ts) (h : datesM (B : Int) m0 ts = .error e) : BadE B e := by
 unfold datesM at h
 split at h
 ·rename_i e1 h1; simp only [Except.error.injEq] at h; exact h ▸ take_bad ht h1
 rename_i t r1 h1; obtain ⟨rfl, -, -⟩ := take_inv h1; have ht := ht.tail
 split at h
 ·rename_i e1 h1; simp only [Except.error.injEq] at h; exact h ▸ num_bad ht h1
 rename_i fr r2 h2; obtain ⟨t2, rfl, -⟩ := num_inv h2; have ht := ht.tail
 split at h
 ·rename_i e1 h1; simp only [Except.error.injEq] at h; subst h; unfold untilM at h1
  split at h1
  ·exact num_bad (tail_in ht) h1
  ·cases h1
 rename_i un r3 h3; have ht3 : InT B r3 := by
  unfold untilM at h3
  split at h3
  ·obtain ⟨t3, e3, -⟩ := num_inv h3; have := tail_in ht; rw [e3] at this; exact this.tail
  ·simp only [Except.ok.injEq, Prod.mk.injEq] at h3; exact h3.2 ▸ ht
 split at h
 ·rename_i e1 h1; simp only [Except.error.injEq] at h; subst h; unfold windM at h1
  split at h1
  ·exact num_bad (tail_in ht3) h1
  ·cases h1
 rename_i wi r4 h4; have ht4 : InT B r4 := by
  unfold windM at h4
  split at h4
  ·obtain ⟨t3, e3, -⟩ := num_inv h4; have := tail_in ht3; rw [e3] at this; exact this.tail
  ·simp only [Except.ok.injEq, Prod.mk.injEq] at h4; exact h4.2 ▸ ht3
 split at h
 ·rename_i e1 h1; simp only [Except.error.injEq] at h; subst h; unfold closeM at h1
  split at h1
  ·rename_i e2 h2; simp only [Except.error.injEq] at h1; exact h1 ▸ take_bad ht4 h2
  ·cases h1
  ·rename_i a t r h2; obtain ⟨rfl, -, -⟩ := take_inv h2; simp only [Except.error.injEq] at h1; subst h1; have := ht4.tail.head; exact ⟨by simp, by simp only; omega, by simp only; omega⟩
 ·cases h
theorem LexP.word_end {l : Bytes} {t : Tok} (hk : t.kind = 1) : ∀ {ts : List Tok} {i : Nat}, LexP l i ts -> t ∈ ts -> t.pos + t.text.length <= l.length
 | [], i, h, hm => by simp at hm
 | a :: r, i, h, hm => by
  cases h with
  | cons h1 h2 h3 =>
   rcases List.mem_cons.1 hm with rfl | hm
   ·rw [nextL_pos h2, next_len h2 hk]; exact (nextL_width h2 h1).2
   ·exact LexP.word_end hk h3 hm
theorem cond_bad {l : Bytes} {b : Nat} {ts : List Tok} {e : Er} (ht : InT l.length ts) (hb : b <= l.length) (h : condM l b ts = .error e) : BadE l.length e := by
 have hE : endM l (ts.drop (fromM ts)) <= l.length := by
  rcases hd : ts.drop (fromM ts) with _ | ⟨t, r⟩
  ·exact Nat.le_refl _
  ·exact ht t (List.mem_of_mem_drop (i := fromM ts) (by rw [hd]; simp))
 unfold condM at h
 split at h
 ·rename_i e1 hc; simp only [Except.error.injEq] at h; subst h; have hp := parse_pos ((l.take (endM l (ts.drop (fromM ts)))).drop b); rw [List.length_drop, List.length_take] at hp; obtain ⟨E, hEe⟩ : ∃ E, E = endM l (ts.drop (fromM ts)) := ⟨_, rfl⟩; rw [<- hEe] at hc hp hE; obtain ⟨p, hpe⟩ : ∃ p, p = parseF ((l.take E).drop b) := ⟨_, rfl⟩; rw [<- hpe] at hc hp; unfold condE at hc
  split at hc
  ·simp only [Option.some.injEq] at hc; subst hc; exact ⟨by simp, by simp only; omega, by simp only; omega⟩
  split at hc
  ·cases hc
  rename_i h0
  split at hc
  ·simp only [Option.some.injEq] at hc; subst hc; exact ⟨h0, hp.1, by simp only; omega⟩
  ·simp only [Option.some.injEq] at hc; subst hc; exact ⟨h0, by simp only; omega, by simp only; omega⟩
 ·cases h
theorem ids_bad {B : Nat} {a b : Bytes} {m0 : Me} {ts : List Tok} {e : Er} (ht : InT B ts) (h : idsM (B : Int) a b m0 ts = .error e) : BadE B e := by
 unfold idsM at h
 split at h
 ·rename_i e1 h1; simp only [Except.error.injEq] at h; exact h ▸ name_bad ht h1
 rename_i x r1 h1; obtain ⟨u, rfl, -⟩ := name_inv h1; have ht := ht.tail
 split at h
 ·rename_i e1 h1; simp only [Except.error.injEq] at h; exact h ▸ take_bad ht h1
 rename_i t r2 h2; obtain ⟨rfl, -⟩ := take_inv h2; have ht := ht.tail
 split at h
 ·rename_i e1 h1; simp only [Except.error.injEq] at h; exact h ▸ name_bad ht h1
 ·cases h
theorem target_bad {B : Nat} {k : Int} {ts : List Tok} {e : Er} (ht : InT B ts) (h : targetM (B : Int) k ts = .error e) : BadE B e := by
 unfold targetM at h
 split at h
 ·exact ids_bad ht h
 ·split at h
  ·rename_i e1 h1; simp only [Except.error.injEq] at h; exact h ▸ name_bad ht h1
  ·rename_i x r1 h1; obtain ⟨u, rfl, -⟩ := name_inv h1; exact ids_bad ht.tail h
theorem measure_bad {l : Bytes} {ts : List Tok} {e : Er} (hP : LexP l 0 ts) (hn : NameOk ts) (ht : InT l.length ts) (h : measureM l ts = .error e) : BadE l.length e := by
 unfold measureM at h
 split at h
 ·rename_i e1 h1; simp only [Except.error.injEq] at h; exact h ▸ take_bad ht h1
 rename_i t r h0; obtain ⟨rfl, k1, -⟩ := take_inv h0; have hr : NameOk r := fun v hv => hn v (by simp [hv]); have hr2 := ht.tail
 split at h
 ·simp only [Except.error.injEq] at h; subst h; have := ht.head; exact ⟨by simp, by simp only; omega, by simp only; omega⟩
 rename_i hk; have hk3 : kindM t.text = 1 ∨ kindM t.text = 2 ∨ kindM t.text = 3 := by have := kindM_le t.text; omega
 split at h
 ·rename_i e1 h1; simp only [Except.error.injEq] at h; exact h ▸ target_bad hr2 h1
 rename_i m1 r1 h1; obtain ⟨g1, g2, g3, g4, g5, g6, A, rfl⟩ := target_inv hk3 hr h1; have hr3 : InT l.length r1 := fun v hv => hr2 v (by simp [hv]); unfold bodyM at h
 split at h
 ·rename_i e1 h2; simp only [Except.error.injEq] at h; subst h; unfold ifM at h2
  split at h2
  ·rename_i hs; cases r1 with
   | nil => simp [seesM] at hs
   | cons v r2 =>
    simp only [seesM, Bool.and_eq_true, decide_eq_true_eq] at hs; have hw := LexP.word_end hs.1 hP (by simp); rw [hs.2] at hw; exact cond_bad hr3.tail hw h2
  ·cases h2
 ·rename_i f r2 h2; refine dates_bad (ts := r2) ?_ h; unfold ifM at h2
  split at h2
  ·rw [(cond_inv h2).2]; exact fun v hv => tail_in hr3 v (List.mem_of_mem_drop hv)
  ·simp only [Except.ok.injEq, Prod.mk.injEq] at h2; exact h2.2 ▸ hr3
theorem parses_law (l : Bytes) : ((parseM l).2.1 ≠ 0 -> (parseM l).1 = zeroM /\ -1 <= (parseM l).2.2 /\ (parseM l).2.2 <= (l.length : Int)) /\
  ((parseM l).2.1 = 0 -> (parseM l).2.2 = 0 /\ (textM (parseM l).1).2 = 0 /\ parseM (textM (parseM l).1).1 = ((parseM l).1, 0, 0)) := by
 have hpos := lexAll_pos l; by_cases h0 : (lexAll l).2.1 = 0
 ·have hP := lexAll_p h0; have hN := lexAll_names l; rcases hm : measureM l (lexAll l).1 with e | m
  ·have hb := measure_bad hP.1 hN hpos.1 hm; have he : parseM l = (zeroM, e.1, e.2) := by
    unfold parseM; rw [if_neg (by simpa using h0), hm]
   rw [he]; exact ⟨fun _ => ⟨rfl, hb.2.1, hb.2.2⟩, fun h => absurd h hb.1⟩
  ·have he : parseM l = (m, 0, 0) := by
    unfold parseM; rw [if_neg (by simpa using h0), hm]
   rw [he]; have hw := measure_wr hN hm; have ht : (textM m).2 = 0 := by unfold textM; rw [if_pos hw]
   exact ⟨fun h => absurd rfl h, fun _ => ⟨rfl, ht, text_parse ht⟩⟩
 ·have he : parseM l = (zeroM, (lexAll l).2.1, (lexAll l).2.2) := by
   unfold parseM; rw [if_pos h0]
  rw [he]; exact ⟨fun _ => ⟨rfl, hpos.2.1, hpos.2.2⟩, fun h => absurd h h0⟩
end Go.Cz.Vd
namespace Go.Cz.Lx
end Go.Cz.Lx
namespace Go.Cz.Fo
open Go.Cz.Lx
abbrev SimL (ts us : List Tok) : Prop := ts.map strip = us.map strip
theorem SimL.cons {t : Tok} {ts us : List Tok} (h : SimL (t :: ts) us) : ∃ u r, us = u :: r /\ t.kind = u.kind /\ t.num = u.num /\ t.text = u.text /\ SimL ts r := by
 cases us with
 | nil => simp [SimL] at h
 | cons u r =>
  simp only [SimL, List.map_cons, List.cons.injEq, strip, Prod.mk.injEq] at h; exact ⟨u, r, rfl, h.1.1, h.1.2.1, h.1.2.2, h.2⟩
theorem SimL.nil {us : List Tok} (h : SimL [] us) : us = [] := by
 cases us with
 | nil => rfl
 | cons u r => simp [SimL] at h
theorem SimL.len {ts us : List Tok} (h : SimL ts us) : ts.length = us.length := by
 have := congrArg List.length h
 simpa using this
theorem SimL.symm {ts us : List Tok} (h : SimL ts us) : SimL us ts := Eq.symm h
theorem SimL.drop {ts us : List Tok} (h : SimL ts us) (n : Nat) : SimL (ts.drop n) (us.drop n) := by
 show (ts.drop n).map strip = (us.drop n).map strip; rw [List.map_drop, List.map_drop, h]
theorem SimL.tail {ts us : List Tok} (h : SimL ts us) : SimL ts.tail us.tail := by
 have := h.drop 1
 simpa using this
end Go.Cz.Fo
namespace Go.Cz.Vd
open Go.Cz.Lx Go.Cz.Fo
section
variable {fin fin' : Int} {ts us : List Tok}
end
end Go.Cz.Vd
namespace Go.Cz
def pick : List Piece -> Nat -> Piece
 | [], _ => blk 0 (.cells #[] 0 (0, 0))
 | p :: _, 0 => p
 | _ :: ps, n + 1 => pick ps n
theorem pick_take : ∀ (k : Nat) (ps : List Piece), k <= ps.length -> (List.range k).map (pick ps) = ps.take k
 | 0, _, _ => by simp
 | k + 1, [], h => by simp at h
 | k + 1, p :: ps, h => by
  rw [List.range_succ_eq_map, List.map_cons, List.map_map, List.take_succ_cons]; exact congrArg (p :: ·) (pick_take k ps (by simpa using h))
theorem Owns.re {w0 w : World} {ps : List Piece} (h : Owns w0 w ps) (σ : List Nat) (hσ : σ.isPerm (List.range σ.length) = true := by decide) (hk : σ.length <= ps.length := by first | (simp only [List.length_cons, List.length_nil]; omega) | (simp [pick]; omega) | simp [pick]) : Owns w0 w (σ.map (pick ps) ++ ps.drop σ.length) := by
 refine h.perm ?_; have h1 : (σ.map (pick ps)).Perm (ps.take σ.length) := by
  rw [<- pick_take _ _ hk]; exact (List.isPerm_iff.1 hσ).map _
 have h2 := (h1.append_right (ps.drop σ.length)).symm; rw [List.take_append_drop] at h2; exact h2
end Go.Cz
namespace Go.Proofs.YtoeknmkephnekaaGreatDoor
open Go.RowKit Go.Cz Go.Cz.Lx Go.Cz.Fo
abbrev one (b : Nat) (t : TypeId) (v : Value) : Piece := blk b (.cells #[v] t (0, 0))
theorem Owns.one {w0 w : World} {ps : List Piece} {b : Nat} {t : TypeId} {v : Value} (h : Owns w0 w (Go.Proofs.YtoeknmkephnekaaGreatDoor.one b t v :: ps)) : b < w.heap.size /\ w.cell? ⟨b, 0, none⟩ = some v /\ w.frozen? ⟨b, 0, none⟩ = false := by
 obtain ⟨bk, -⟩ := h.blk; exact ⟨lt_of_block bk, by rw [cell_of_heap bk]; rfl, free_of_heap bk⟩
theorem Owns.ne {w0 w : World} {ps : List Piece} {b b' : Nat} {o o' : Obj} (h : Owns w0 w (blk b o :: blk b' o' :: ps)) : b ≠ b' := by
 obtain ⟨-, S, ⟨rfl, -⟩, -, S', ⟨rfl, -⟩, h5, -⟩ := h; have := (h5 b' (by simp)).2; simp at this
 exact fun e => this e.symm
abbrev fval (f : Fm) (kv : Value) : Value := .agg #[.int .i64 f.op, .string (bs f.name), .int .i64 f.cmp, .int .i64 f.num, kv]
abbrev fobj (f : Fm) (kv : Value) : Obj := .cells #[.int .i64 f.op, .string (bs f.name), .int .i64 f.cmp, .int .i64 f.num, kv] 24 (0, 0)
def fcells (f : Fm) (kv : Value) : List Value := [.int .i64 f.op, .string (bs f.name), .int .i64 f.cmp, .int .i64 f.num, kv]
inductive IsFm (p : Nat -> Prop) (W : World) : Fm -> Value -> Prop
 | leaf (a : Int) (s : Bytes) (c d : Int) (y : Option Addr) (m : Nat) : IsFm p W (.mk a s c d []) (.slice y 0 m)
 | node (a : Int) (s : Bytes) (c d : Int) (ks : List Fm) (g off m : Nat) (kv : Nat -> Value) : ks.length <= m -> g < W.heap.size -> p g ->
   (∀ (j : Nat) (k : Fm), ks[j]? = some k -> W.cell? ⟨g, off + j * 5, none⟩ = some (.int .i64 k.op) /\ W.cell? ⟨g, off + j * 5 + 1, none⟩ = some (.string (bs k.name)) /\ W.cell? ⟨g, off + j * 5 + 2, none⟩ = some (.int .i64 k.cmp) /\ W.cell? ⟨g, off + j * 5 + 3, none⟩ = some (.int .i64 k.num) /\ W.cell? ⟨g, off + j * 5 + 4, none⟩ = some (kv j)) ->
   (∀ (j : Nat) (k : Fm), ks[j]? = some k -> IsFm p W k (kv j)) -> IsFm p W (.mk a s c d ks) (.slice (some ⟨g, off, none⟩) ks.length m)
section
variable {p q : Nat -> Prop} {W W' : World} {f k : Fm} {v : Value} {n m j : Nat} {y : Option Addr}
theorem IsFm.keep (h : IsFm p W f v) (hk : ∀ g, p g -> g < W.heap.size -> W'.heap[g]? = W.heap[g]?) : IsFm p W' f v := by
 induction h with
 | leaf a s c d y m => exact .leaf a s c d y m
 | node a s c d ks g off m kv h1 h2 h3 h4 _ ih =>
  have e : ∀ i, W'.cell? ⟨g, i, none⟩ = W.cell? ⟨g, i, none⟩ := fun i => World.cell?_of_block (w := W) (hk g h3 h2); have h2' : g < W'.heap.size := by
   have := hk g h3 h2; rw [Array.getElem?_eq_getElem h2] at this; exact (Array.getElem?_eq_some_iff.1 this).1
  refine .node a s c d ks g off m kv h1 h2' h3 (fun j k hj => ?_) ih; simp only [e]; exact h4 j k hj
theorem IsFm.mono (h : IsFm p W f v) (hk : ∀ g, p g -> g < W.heap.size -> q g) : IsFm q W f v := by
 induction h with
 | leaf a s c d y m => exact .leaf a s c d y m
 | node a s c d ks g off m kv h1 h2 h3 h4 _ ih => exact .node a s c d ks g off m kv h1 h2 (hk g h3 h2) h4 ih
theorem IsFm.later (h : IsFm p W f v) (hb : Below W.heap.size W W') : IsFm p W' f v := h.keep fun g _ hg => hb.block g hg
theorem IsFm.form (h : IsFm p W f v) : ∃ y m, v = .slice y f.kids.length m := by
 cases h with
 | leaf a s c d y m => exact ⟨y, m, rfl⟩
 | node a s c d ks g off m kv _ _ _ _ _ => exact ⟨_, m, rfl⟩
theorem IsFm.get (h : IsFm p W f (.slice y n m)) (hj : f.kids[j]? = some k) : ∃ g off kv, y = some ⟨g, off, none⟩ /\ g < W.heap.size /\ p g /\ IsFm p W k kv /\
  W.cell? ⟨g, off + j * 5, none⟩ = some (.int .i64 k.op) /\ W.cell? ⟨g, off + j * 5 + 1, none⟩ = some (.string (bs k.name)) /\ W.cell? ⟨g, off + j * 5 + 2, none⟩ = some (.int .i64 k.cmp) /\ W.cell? ⟨g, off + j * 5 + 3, none⟩ = some (.int .i64 k.num) /\ W.cell? ⟨g, off + j * 5 + 4, none⟩ = some kv := by
 cases h with
 | leaf a s c d y m => simp [Fm.kids] at hj
 | node a s c d ks g off m kv _ h2 h3 h4 h5 => exact ⟨g, off, kv j, rfl, h2, h3, h5 j k hj, h4 j k hj⟩
theorem IsFm.old (h : IsFm p W f (.slice y n m)) (hb : Below W.heap.size W W') (hj : f.kids[j]? = some k) : ∃ g off kv, y = some ⟨g, off, none⟩ /\ g < W'.heap.size /\ IsFm p W k kv /\
  W'.cell? ⟨g, off + j * 5, none⟩ = some (.int .i64 k.op) /\ W'.cell? ⟨g, off + j * 5 + 1, none⟩ = some (.string (bs k.name)) /\ W'.cell? ⟨g, off + j * 5 + 2, none⟩ = some (.int .i64 k.cmp) /\ W'.cell? ⟨g, off + j * 5 + 3, none⟩ = some (.int .i64 k.num) /\ W'.cell? ⟨g, off + j * 5 + 4, none⟩ = some kv := by
 obtain ⟨g, off, kv, e, hg, -, hk, h0, h1, h2, h3, h4⟩ := h.get hj; have e2 : ∀ i, W'.cell? ⟨g, i, none⟩ = W.cell? ⟨g, i, none⟩ := fun i => hb.cell (p := ⟨g, i, none⟩) hg; exact ⟨g, off, kv, e, Nat.lt_of_lt_of_le hg hb.size, hk, by rw [e2]; exact h0, by rw [e2]; exact h1, by rw [e2]; exact h2, by rw [e2]; exact h3, by rw [e2]; exact h4⟩
theorem IsFm.cap (h : IsFm p W f (.slice y n m)) (hn : 0 < n) : n <= m := by
 cases h with
 | leaf a s c d y m => omega
 | node a s c d ks g off m kv h1 _ _ _ _ => exact h1
end
theorem sizes_take : ∀ {ks : List Fm} {j : Nat} {k : Fm}, ks[j]? = some k -> sizes (ks.take (j + 1)) = sizes (ks.take j) + size k
 | [], j, k, h => by simp at h
 | a :: r, 0, k, h => by simp at h; subst h; simp [sizes]
 | a :: r, j + 1, k, h => by
  have := sizes_take (ks := r) (j := j) (k := k) (by simpa using h); rw [List.take_succ_cons, List.take_succ_cons, sizes, sizes, this]; omega
theorem depths_take : ∀ {ks : List Fm} {j : Nat} {k : Fm}, ks[j]? = some k -> depths (ks.take (j + 1)) = max (depths (ks.take j)) (depth k)
 | [], j, k, h => by simp at h
 | a :: r, 0, k, h => by simp at h; subst h; simp [depths]
 | a :: r, j + 1, k, h => by
  have := depths_take (ks := r) (j := j) (k := k) (by simpa using h); rw [List.take_succ_cons, List.take_succ_cons, depths, depths, this]; omega
theorem shorts_take {n : Nat} : ∀ {ks : List Fm} {j : Nat} {k : Fm}, ks[j]? = some k -> shorts n (ks.take (j + 1)) = (shorts n (ks.take j) && short n k)
 | [], j, k, h => by simp at h
 | a :: r, 0, k, h => by simp at h; subst h; simp [shorts]
 | a :: r, j + 1, k, h => by
  have := shorts_take (n := n) (ks := r) (j := j) (k := k) (by simpa using h); rw [List.take_succ_cons, List.take_succ_cons, shorts, shorts, this, Bool.and_assoc]
theorem short_kids {n : Nat} : ∀ f : Fm, short n f = (shorts n f.kids && decide (f.name.length <= n)) | .mk _ _ _ _ ks => by rw [short]; rfl
theorem sizes_le : ∀ (ks : List Fm) (j : Nat), sizes (ks.take j) <= sizes ks
 | [], j => by simp
 | a :: r, 0 => by simp [sizes]
 | a :: r, j + 1 => by rw [List.take_succ_cons, sizes, sizes]; have := sizes_le r j; omega
theorem depths_le : ∀ (ks : List Fm) (j : Nat), depths (ks.take j) <= depths ks
 | [], j => by simp
 | a :: r, 0 => by simp [depths]
 | a :: r, j + 1 => by rw [List.take_succ_cons, depths, depths]; have := depths_le r j; omega
end Go.Proofs.YtoeknmkephnekaaGreatDoor
namespace Go.Proofs.YtoeknmkephnekaaGreatDoor
open Go.RowKit Go.Cz Go.Cz.Lx Go.Cz.Fo
attribute [local go_sem] bs_size bs_extract bs_append bs_toList
attribute [local irreducible] cList cPlan
theorem cut1 {Goal : Prop} {Hyp G : World -> Prop} (h1 : (∀ W, Hyp W -> G W) -> Goal) (h2 : ∀ W, Hyp W -> G W) : Goal := h1 h2
abbrev visV (bn bd bv : Nat) : Value := .func (.func 116) #[] #[.pointer (some ⟨bn, 0, none⟩), .pointer (some ⟨bd, 0, none⟩), .pointer (some ⟨bv, 0, none⟩)]
abbrev szP (bn bd bv n d : Nat) (ps : List Piece) : List Piece := one bn 3 (.int .i64 (n : Int)) :: one bd 3 (.int .i64 (d : Int)) :: one bv 145 (visV bn bd bv) :: ps
section
variable {w0 : World} {p : Nat -> Prop} {bn bd bv : Nat}
theorem Owns.sz3 {w : World} {ps : List Piece} {P : Piece} {n d n' d' : Nat} (h : Owns w0 w (P :: szP bn bd bv n d ps)) : Owns w0 ((w.setCell ⟨bn, 0, none⟩ (.int .i64 (n' : Int))).setCell ⟨bd, 0, none⟩ (.int .i64 (d' : Int))) (P :: szP bn bd bv n' d' ps) :=
 ((h.rot.rot.store (i := 0) (.int .i64 (n' : Int))).swap.store (i := 0) (.int .i64 (d' : Int))).swap.rot
set_option maxHeartbeats 2000000 in
theorem visit_c (f : Fm) : ∀ (ps : List Piece) (w : World) (kv : Value) (n d lv : Nat), IsFm p w0 f kv -> Owns w0 w (szP bn bd bv n d ps) -> 1 <= lv -> n + size f <= 1000000 -> lv + depth f <= 1000000 -> d <= 1000000 ->
  Calls Tryz.prog 116 #[fval f kv, .int .i64 (lv : Int), .pointer (some ⟨bn, 0, none⟩), .pointer (some ⟨bd, 0, none⟩), .pointer (some ⟨bv, 0, none⟩)] w (fun e w' => e = .returned (.tuple #[]) /\ Owns w0 w' (szP bn bd bv (n + size f) (max d (lv + depth f - 1)) ps)) := by
 refine Fm.induct (P := fun f => ∀ (ps : List Piece) (w : World) (kv : Value) (n d lv : Nat), IsFm p w0 f kv -> Owns w0 w (szP bn bd bv n d ps) -> 1 <= lv -> n + size f <= 1000000 -> lv + depth f <= 1000000 -> d <= 1000000 ->
  Calls Tryz.prog 116 #[fval f kv, .int .i64 (lv : Int), .pointer (some ⟨bn, 0, none⟩), .pointer (some ⟨bd, 0, none⟩), .pointer (some ⟨bv, 0, none⟩)] w (fun e w' => e = .returned (.tuple #[]) /\ Owns w0 w' (szP bn bd bv (n + size f) (max d (lv + depth f - 1)) ps))) ?_ f
 clear f; intro f ih ps w kv n d lv hf ho h1 hn hl hd; obtain ⟨y, m, rfl⟩ := hf.form; have HF := Lib.hid hf; have HI := Lib.hid ih; have HO := Lib.hid ho; have HB : Hid (n + 1 + sizes f.kids <= 1000000 /\ lv + 1 + depths f.kids <= 1000000) := ⟨by rw [size_kids] at hn; omega, by rw [depth_kids] at hl; omega⟩; have hn9 : n <= 1000000 := by omega
 have hl9 : lv <= 1000000 := by omega
 clear hf ih ho hn hl; obtain ⟨N, hN⟩ : ∃ N, N = f.kids.length := ⟨_, rfl⟩; have HN := Lib.hid hN; have hN9 : N <= 1000000 := by have := length_sizes f.kids; have := HB.out; omega
 rw [<- hN]; clear hN; go_enter Tryz.func116, Tryz.ntmps116
 go_wp2_with fail
 obtain ⟨W1, hW1⟩ : ∃ W1, W1 = w.alloc (fobj f (.slice y N m)) := ⟨_, rfl⟩; obtain ⟨bf, hbf⟩ : ∃ bf, bf = w.heap.size := ⟨_, rfl⟩; have HO1 : Hid (Owns w0 W1 (blk bf (fobj f (.slice y N m)) :: szP bn bd bv n d ps)) := by
  rw [hW1, hbf]; exact Lib.hid (HO.out.box _)
 rw [<- hW1, <- hbf]; clear hW1 hbf HO; obtain ⟨D, hD⟩ : ∃ D, D = max d lv := ⟨_, rfl⟩; have HDm := Lib.hid hD; obtain ⟨n1, hn1⟩ : ∃ n1, n1 = n + 1 := ⟨_, rfl⟩; have HN1 := Lib.hid hn1; have e1 : (n : Int) + 1 = (n1 : Int) := by omega
 clear hn1; have e2 : max (d : Int) (lv : Int) = (D : Int) := by rw [hD]; omega
 clear hD
 apply cut1 (Hyp := fun W => Hid (Owns w0 W (blk bf (fobj f (.slice y N m)) :: szP bn bd bv n1 D ps)))
 focus
  intro key; refine wp_region_plan [] (.step 0 (.step 1 (.step 3 (.fork 2 (.step 4 (.step 5 (.step 6 .done))) 5 (.step 2 (.step 4 (.step 6 .done))))))) (by decide +kernel) (by decide +kernel) ?_; replace HO1 := Lib.hid HO1.out.drew; obtain ⟨W2, hW2⟩ : ∃ W2, W2 = W1.drew := ⟨_, rfl⟩; rw [<- hW2] at HO1 ⊢; clear hW2; obtain ⟨h2, c2, f2⟩ := Owns.one HO1.out.swap; obtain ⟨h3, c3, f3⟩ := Owns.one HO1.out.rot; have hne := Owns.ne HO1.out.pop; have hne' := hne.symm; iterate 3 (refine cp_do rfl rfl rfl rfl (fun _ _ => ?_); go_wp2_with fail)
  refine cp_fork ?_ ?_
  focus
   refine cp_do rfl rfl rfl (by first | rfl | simp [okB, lenV, plainV, Act.eval]) (fun _ _ => ?_); go_wp2_with fail; refine cp_do rfl rfl rfl (by first | rfl | simp [okB, lenV, plainV, Act.eval]) (fun _ _ => ?_); go_wp2_with fail; refine cp_do rfl rfl rfl (by first | rfl | simp [okB, lenV, plainV, Act.eval]) (fun _ _ => ?_); go_wp2_with fail; refine cp_do rfl rfl rfl (by first | rfl | simp [okB, lenV, plainV, Act.eval]) (fun _ _ => ?_); go_wp2_with fail; refine cp_nil ?_; exact key _ (Lib.hid (Owns.sz3 HO1.out))
  focus
   refine cp_do rfl rfl rfl (by first | rfl | simp [okB, lenV, plainV, Act.eval]) (fun _ _ => ?_); go_wp2_with fail; refine cp_do rfl rfl rfl (by first | rfl | simp [okB, lenV, plainV, Act.eval]) (fun _ _ => ?_); go_wp2_with fail; refine cp_do rfl rfl rfl (by first | rfl | simp [okB, lenV, plainV, Act.eval]) (fun _ _ => ?_); go_wp2_with fail; refine cp_do rfl rfl rfl (by first | rfl | simp [okB, lenV, plainV, Act.eval]) (fun _ _ => ?_); go_wp2_with fail; refine cp_nil ?_; exact key _ (Lib.hid (Owns.sz3 HO1.out))
 intro W3 HO; clear HO1 e1 e2; have HO3 : Hid (Owns w0 W3 (blk bf (fobj f (.slice y N m)) :: szP bn bd bv (n1 + sizes (f.kids.take 0)) (max D (lv + depths (f.kids.take 0))) ps)) := by
  have h0 : max D (lv + depths (f.kids.take 0)) = D := by rw [HDm.out]; simp [depths]
  rw [h0]; exact HO
 obtain ⟨bk, -⟩ := HO.out.blk; have hbf := lt_of_block bk; have cb4 : W3.cell? ⟨bf, 4, none⟩ = some (.slice y N m) := by rw [cell_of_heap bk]; rfl
 clear bk HO; go_wp2_with fail
 clear cb4 hbf; go_loopg [17] N (fun gk i wr => ∃ k : Nat, gk = N - k /\ k <= N /\ i = .int .i64 (k : Int) /\ Hid (Owns w0 wr (blk bf (fobj f (.slice y N m)) :: szP bn bd bv (n1 + sizes (f.kids.take k)) (max D (lv + depths (f.kids.take k))) ps)))
 case atStart => exact ⟨0, rfl, Nat.zero_le _, rfl, HO3⟩
 case round =>
  rename_i J1 K1 hJ1 hK1; obtain ⟨k, rfl, hk, rfl, HO⟩ := hrel; by_cases hlt : k < N
  ·obtain ⟨q, hq⟩ : ∃ q, f.kids[k]? = some q := ⟨_, List.getElem?_eq_getElem (by rw [<- HN.out]; exact hlt)⟩; obtain ⟨g, off, kv, rfl, hg, hkv, c0, c1, c2, c3, c4⟩ := HF.out.old HO.out.base hq; obtain ⟨y2, m2, rfl⟩ := hkv.form; have HQ := Lib.hid hq; have HK := Lib.hid hkv; clear hq hkv; obtain ⟨N2, hN2⟩ : ∃ N2, N2 = q.kids.length := ⟨_, rfl⟩; rw [<- hN2] at c4 HK; clear hN2; obtain ⟨hv, cv, -⟩ := Owns.one HO.out.rot4; obtain ⟨l1, hl1⟩ : ∃ l1, l1 = lv + 1 := ⟨_, rfl⟩; have e3 : (lv : Int) + 1 = (l1 : Int) := by omega
   have hl12 : l1 <= 1000001 := by omega
   have HL1 := Lib.hid hl1; have HLt := Lib.hid hlt; obtain ⟨W4, hW4⟩ : ∃ W4, W4 = wr.alloc (fobj q (.slice y2 N2 m2)) := ⟨_, rfl⟩; have HO4 : Hid (Owns w0 W4 (szP bn bd bv (n1 + sizes (f.kids.take k)) (max D (lv + depths (f.kids.take k))) (blk bf (fobj f (.slice (some ⟨g, off, none⟩) N m)) :: ps))) := by
    rw [hW4]; exact Lib.hid ((HO.out.alloc (fobj q (.slice y2 N2 m2))).re [1, 2, 3, 0])
   clear hl1; go_wp2_with fail
   rw [<- hW4]; clear hW4 hv cv c0 c1 c2 c3 c4 e3 HO; go_at_call 116
   have h5 := sizes_take HQ.out; have h6 := depths_take HQ.out; have h7 := sizes_le f.kids (k + 1); have h8 := depths_le f.kids (k + 1); have h9 := HB.out; have h10 := HN1.out; have h11 := HL1.out; have h12 := HDm.out; refine (HI.out q (List.mem_of_getElem? HQ.out) _ W4 _ _ _ l1 HK.out HO4.out (by omega) (by omega) (by omega) (by omega)).mono ?_; rintro e W5 ⟨rfl, ho⟩; rw [show n1 + sizes (f.kids.take k) + size q = n1 + sizes (f.kids.take (k + 1)) by omega, show max (max D (lv + depths (f.kids.take k))) (l1 + depth q - 1) = max D (lv + depths (f.kids.take (k + 1))) by omega] at ho; have HO5 : Hid (Owns w0 W5 (blk bf (fobj f (.slice (some ⟨g, off, none⟩) N m)) :: szP bn bd bv (n1 + sizes (f.kids.take (k + 1))) (max D (lv + depths (f.kids.take (k + 1)))) ps)) := Lib.hid (ho.re [3, 0, 1, 2]); clear h5 h6 h7 h8 h9 h10 h11 h12 ho HO4; go_wp2_with fail
   go_roundg (N - (k + 1))
   case measure => omega
   case rel => exact ⟨k + 1, rfl, by omega, by go_num, HO5⟩
  ·obtain rfl : k = N := by omega
   have hS : n1 + sizes (f.kids.take k) = n + size f := by
    rw [HN.out, List.take_length, size_kids, HN1.out]; omega
   have hD : max D (lv + depths (f.kids.take k)) = max d (lv + depth f - 1) := by
    rw [HN.out, List.take_length, depth_kids, HDm.out]; omega
   rw [hS, hD] at HO; have HE : Hid (Owns w0 wr (szP bn bd bv (n + size f) (max d (lv + depth f - 1)) ps)) := Lib.hid HO.out.pop; clear hS hD HO hlt hJ1 hK1; go_wp2_with fail
   go_end0
   exact ⟨rfl, HE.out⟩
set_option maxHeartbeats 2000000 in
theorem Size_c (f : Fm) (w : World) (kv : Value) (hf : IsFm p w f kv) (hn : size f <= 900000) : Calls Tryz.prog 83 #[fval f kv] w (fun e w' => e = .returned (.tuple #[.int .i64 (size f : Int), .int .i64 (depth f : Int)]) /\ Below w.heap.size w w') := by
 obtain ⟨y, m, rfl⟩ := hf.form; have HF := Lib.hid hf; have HO : Hid (Owns w ((((w.alloc (fobj f (.slice y f.kids.length m))).alloc (.cells #[.int .i64 0] 3)).alloc (.cells #[.int .i64 0] 3)).alloc (.cells #[visV (w.heap.size + 1) (w.heap.size + 1 + 1) (w.heap.size + 1 + 1 + 1)] 145)) (szP (w.heap.size + 1) (w.heap.size + 1 + 1) (w.heap.size + 1 + 1 + 1) 0 0 [])) := by
  have h := ((((Owns.start w).alloc (fobj f (.slice y f.kids.length m))).box (.cells #[.int .i64 0] 3)).box (.cells #[.int .i64 0] 3)).box (.cells #[visV (w.heap.size + 1) (w.heap.size + 1 + 1) (w.heap.size + 1 + 1 + 1)] 145); simp only [World.size_alloc] at h; exact Lib.hid (h.re [2, 1, 0])
 have hN := Lib.hid hn; clear hf hn; obtain ⟨N, hN⟩ : ∃ N, N = f.kids.length := ⟨_, rfl⟩; rw [<- hN] at HO HF ⊢; clear hN; go_enter Tryz.func83, Tryz.ntmps83
 go_wp2_with fail
 obtain ⟨b1, hb1⟩ : ∃ b1, b1 = w.heap.size + 1 := ⟨_, rfl⟩; obtain ⟨b2, hb2⟩ : ∃ b2, b2 = b1 + 1 := ⟨_, rfl⟩; obtain ⟨b3, hb3⟩ : ∃ b3, b3 = b2 + 1 := ⟨_, rfl⟩; rw [<- hb1, <- hb2, <- hb3] at HO ⊢; clear hb1 hb2 hb3; refine (visit_c f [] _ _ 0 0 1 HF.out HO.out (by omega) (by have := hN.out; omega) (by have := hN.out; have := depth_size f; omega) (by omega)).mono ?_; rintro e W5 ⟨rfl, ho⟩; rw [show 0 + size f = size f by omega, show max 0 (1 + depth f - 1) = depth f by omega] at ho; have HO5 := Lib.hid ho.drew; clear ho HO; go_wp2_with fail
 refine wp_region_canA [] (List.range 4) ?_; obtain ⟨h2, c2, -⟩ := Owns.one HO5.out; obtain ⟨h3, c3, -⟩ := Owns.one HO5.out.swap; go_wp2_with (first | refine cl_do rfl rfl rfl rfl (fun _ _ => ?_) | refine cl_nil ?_)
 go_ret2
 exact ⟨rfl, HO5.out.base⟩
end
end Go.Proofs.YtoeknmkephnekaaGreatDoor
namespace Go.Proofs.YtoeknmkephnekaaGreatDoor
open Go.RowKit Go.Cz Go.Cz.Lx Go.Cz.Fo
attribute [local go_sem] bs_size bs_extract bs_append bs_toList
attribute [local irreducible] cList cPlan
section
variable {p : Nat -> Prop}
set_option maxHeartbeats 2000000 in
theorem large_c (f : Fm) (w : World) (kv : Value) (hf : IsFm p w f kv) (hn : size f <= 900000) : Calls Tryz.prog 47 #[fval f kv] w (fun e w' => e = .returned (.bool (largeB f)) /\ Below w.heap.size w w') := by
 obtain ⟨y, m, rfl⟩ := hf.form; obtain ⟨N, hN⟩ : ∃ N, N = f.kids.length := ⟨_, rfl⟩; have HN := Lib.hid hN; rw [<- hN] at hf ⊢; have HF := Lib.hid hf; clear hN hf; obtain ⟨W1, hW1⟩ : ∃ W1, W1 = w.alloc (fobj f (.slice y N m)) := ⟨_, rfl⟩; obtain ⟨bf, hbf⟩ : ∃ bf, bf = w.heap.size := ⟨_, rfl⟩; have HO : Hid (Owns w W1 [blk bf (fobj f (.slice y N m))]) := by
  rw [hW1, hbf]; exact Lib.hid ((Owns.start w).box _)
 have HS := Lib.hid hn; clear hn; go_enter Tryz.func47, Tryz.ntmps47
 go_wp2_with fail
 rw [<- hW1]; clear hW1 hbf; go_at_call 83
 refine (Size_c f W1 _ (HF.out.later HO.out.base) HS.out).mono ?_; rintro e W2 ⟨rfl, hb⟩; have HB := Lib.hid (HO.out.base.trans (hb.mono HO.out.base.size)); clear hb HO; have he : largeB f = (decide (200 < size f) || decide (20 < depth f)) := rfl; obtain ⟨n, hn⟩ : ∃ n, n = size f := ⟨_, rfl⟩; obtain ⟨d, hd⟩ : ∃ d, d = depth f := ⟨_, rfl⟩; rw [<- hn, <- hd] at he ⊢; have He := Lib.hid he; clear hn hd he; by_cases h1 : 200 < n
 ·have h1' : (200 : Int) < (n : Int) := by omega
  have He : Hid (largeB f = true) := by show _ = _; rw [He.out, decide_eq_true h1]; rfl
  clear h1; go_wp2_with fail
  go_ret
  exact ⟨by rw [He.out]; rfl, HB.out⟩
 ·have h1' : ¬ (200 : Int) < (n : Int) := by omega
  by_cases h2 : 20 < d
  ·have h2' : (20 : Int) < (d : Int) := by omega
   have He : Hid (largeB f = true) := by show _ = _; rw [He.out, decide_eq_true h2]; simp
   clear h1 h2; go_wp2_with fail
   go_ret
   exact ⟨by rw [He.out]; rfl, HB.out⟩
  ·have h2' : ¬ (20 : Int) < (d : Int) := by omega
   clear h1 h2; go_wp2_with fail
   go_ret
   exact ⟨congrArg (fun b => Ending.returned (Value.bool b)) (show (decide ((200 : Int) < (n : Int)) || decide ((20 : Int) < (d : Int))) = largeB f by rw [He.out, decide_eq_false (by omega), decide_eq_false (by omega), decide_eq_false (by omega), decide_eq_false (by omega)]), HB.out⟩
set_option maxHeartbeats 2000000 in
theorem rSize_c (f : Fm) : ∀ (w : World) (kv : Value), IsFm p w f kv -> size f <= 900000 ->
  Calls Tryz.prog 117 #[fval f kv] w (fun e w' => e = .returned (.tuple #[.int .i64 (size f : Int), .int .i64 (depth f : Int)]) /\ Below w.heap.size w w') := by
 refine Fm.induct (P := fun f => ∀ (w : World) (kv : Value), IsFm p w f kv -> size f <= 900000 ->
  Calls Tryz.prog 117 #[fval f kv] w (fun e w' => e = .returned (.tuple #[.int .i64 (size f : Int), .int .i64 (depth f : Int)]) /\ Below w.heap.size w w')) ?_ f
 clear f; intro f ih w kv hf hs; have HI := Lib.hid ih; have HS := Lib.hid hs; have hS := length_sizes f.kids; have hD := depths_sizes f.kids; rw [size_kids] at hs; obtain ⟨y, m, rfl⟩ := hf.form; obtain ⟨N, hN⟩ : ∃ N, N = f.kids.length := ⟨_, rfl⟩; have HN := Lib.hid hN; rw [<- hN] at hf ⊢; have HF := Lib.hid hf; clear hN hf; obtain ⟨W1, hW1⟩ : ∃ W1, W1 = w.alloc (fobj f (.slice y N m)) := ⟨_, rfl⟩; obtain ⟨bf, hbf⟩ : ∃ bf, bf = w.heap.size := ⟨_, rfl⟩; have HO : Hid (Owns w W1 [blk bf (fobj f (.slice y N m))]) := by
  rw [hW1, hbf]; exact Lib.hid ((Owns.start w).box _)
 have HD2 : Hid (depths f.kids <= 900000 /\ sizes f.kids <= 900000) := ⟨by omega, by omega⟩; have hN9 : N <= 900000 := by have := HN.out; omega
 clear hS hD hs ih; go_enter Tryz.func117, Tryz.ntmps117
 go_wp2_with fail
 rw [<- hW1, <- hbf]; clear hW1 hbf; have H0 : Hid (1 + sizes (f.kids.take 0) = 1 /\ depths (f.kids.take 0) = 0) := ⟨by simp [sizes], by simp [depths]⟩; go_loopg [4, 5, 6] N (fun gk a b i wr => ∃ k c d : Nat, gk = N - k /\ k <= N /\ i = .int .i64 (k : Int) /\ a = .int .i64 (c : Int) /\ b = .int .i64 (d : Int) /\ c <= 900001 /\ d <= 900000 /\ Hid (1 + sizes (f.kids.take k) = c /\ depths (f.kids.take k) = d) /\ Hid (Owns w wr [blk bf (fobj f (.slice y N m))]))
 case atStart => exact ⟨0, 1, 0, rfl, Nat.zero_le _, rfl, rfl, rfl, by omega, by omega, H0, HO⟩
 case round =>
  rename_i J1 K1 hJ1 hK1; clear HO H0; obtain ⟨k, c, d, rfl, hk, rfl, rfl, rfl, hc, hd, HC, HO⟩ := hrel; obtain ⟨bk, -⟩ := HO.out.blk; have hbf := lt_of_block bk; have cb4 := cell_of_heap bk (i := 4); simp only [List.getElem?_toArray, List.getElem?_cons_succ, List.getElem?_cons_zero] at cb4; by_cases hlt : k < N
  ·obtain ⟨q, hq⟩ : ∃ q, f.kids[k]? = some q := ⟨_, List.getElem?_eq_getElem (by rw [<- HN.out]; exact hlt)⟩; obtain ⟨g, off, kv, rfl, hg, hkv, c0, c1, c2, c3, c4⟩ := HF.out.old HO.out.base hq; obtain ⟨y2, m2, rfl⟩ := hkv.form; have HQ := Lib.hid hq; have HK := Lib.hid hkv; clear hq hkv; obtain ⟨N2, hN2⟩ : ∃ N2, N2 = q.kids.length := ⟨_, rfl⟩; rw [<- hN2] at c4 HK; clear hN2; have HLt := Lib.hid hlt; go_wp2_with fail
   refine (HI.out q (List.mem_of_getElem? HQ.out) wr _ (HK.out.later HO.out.base) (by have := HS.out; rw [size_kids] at this; have := size_mem (List.mem_of_getElem? HQ.out); omega)).mono ?_; rintro e W2 ⟨rfl, hb⟩; have HO2 := Lib.hid (HO.out.below hb); obtain ⟨x, hx⟩ : ∃ x, x = size q := ⟨_, rfl⟩; obtain ⟨z, hz⟩ : ∃ z, z = depth q := ⟨_, rfl⟩; obtain ⟨c', hc'⟩ : ∃ c', c' = c + x := ⟨_, rfl⟩; obtain ⟨d', hd'⟩ : ∃ d', d' = max d z := ⟨_, rfl⟩; rw [<- hx, <- hz]; have HC2 : Hid (1 + sizes (f.kids.take (k + 1)) = c' /\ depths (f.kids.take (k + 1)) = d') := by
    have := HC.out; exact ⟨by rw [sizes_take HQ.out]; omega, by rw [depths_take HQ.out]; omega⟩
   have hc9 : c' <= 900001 := by have := HC2.out; have := sizes_le f.kids (k + 1); have := HD2.out; omega
   have hd9 : d' <= 900000 := by have := HC2.out; have := depths_le f.kids (k + 1); have := HD2.out; omega
   have ec : (c : Int) + (x : Int) = (c' : Int) := by omega
   have ed : max (d : Int) (z : Int) = (d' : Int) := by omega
   clear hx hc' hz hd' hb HO HC c0 c1 c2 c3 c4 bk cb4 hbf; go_wp2_with fail
   go_roundg (N - (k + 1))
   case measure => omega
   case rel => exact ⟨k + 1, c', d', rfl, by omega, by go_num, rfl, rfl, hc9, hd9, HC2, HO2⟩
  ·obtain rfl : k = N := by omega
   have HE : Hid (size f = c /\ depth f = d + 1) := by
    have h1 := HC.out; rw [HN.out, List.take_length] at h1; exact ⟨by rw [size_kids]; omega, by rw [depth_kids]; omega⟩
   clear hJ1 hK1 hlt; go_wp2_with fail
   go_ret2
   exact ⟨by rw [HE.out.1, HE.out.2]; rfl, HO.out.base⟩
set_option maxHeartbeats 2000000 in
theorem rLarge_c (f : Fm) (w : World) (kv : Value) (hf : IsFm p w f kv) (hn : size f <= 900000) : Calls Tryz.prog 87 #[fval f kv] w (fun e w' => e = .returned (.bool (largeB f)) /\ Below w.heap.size w w') := by
 obtain ⟨y, m, rfl⟩ := hf.form; obtain ⟨N, hN⟩ : ∃ N, N = f.kids.length := ⟨_, rfl⟩; have HN := Lib.hid hN; rw [<- hN] at hf ⊢; have HF := Lib.hid hf; clear hN hf; obtain ⟨W1, hW1⟩ : ∃ W1, W1 = w.alloc (fobj f (.slice y N m)) := ⟨_, rfl⟩; obtain ⟨bf, hbf⟩ : ∃ bf, bf = w.heap.size := ⟨_, rfl⟩; have HO : Hid (Owns w W1 [blk bf (fobj f (.slice y N m))]) := by
  rw [hW1, hbf]; exact Lib.hid ((Owns.start w).box _)
 have HS := Lib.hid hn; clear hn; go_enter Tryz.func87, Tryz.ntmps87
 go_wp2_with fail
 rw [<- hW1]; clear hW1 hbf; go_at_call 117
 refine (rSize_c f W1 _ (HF.out.later HO.out.base) HS.out).mono ?_; rintro e W2 ⟨rfl, hb⟩; have HB := Lib.hid (HO.out.base.trans (hb.mono HO.out.base.size)); clear hb HO; have he : largeB f = (decide (200 < size f) || decide (20 < depth f)) := rfl; obtain ⟨n, hn⟩ : ∃ n, n = size f := ⟨_, rfl⟩; obtain ⟨d, hd⟩ : ∃ d, d = depth f := ⟨_, rfl⟩; rw [<- hn, <- hd] at he ⊢; have He := Lib.hid he; clear hn hd he; by_cases h1 : 200 < n
 ·have h1' : (200 : Int) < (n : Int) := by omega
  have He : Hid (largeB f = true) := by show _ = _; rw [He.out, decide_eq_true h1]; rfl
  clear h1; go_wp2_with fail
  go_ret
  exact ⟨by rw [He.out]; rfl, HB.out⟩
 ·have h1' : ¬ (200 : Int) < (n : Int) := by omega
  by_cases h2 : 20 < d
  ·have h2' : (20 : Int) < (d : Int) := by omega
   have He : Hid (largeB f = true) := by show _ = _; rw [He.out, decide_eq_true h2]; simp
   clear h1 h2; go_wp2_with fail
   go_ret
   exact ⟨by rw [He.out]; rfl, HB.out⟩
  ·have h2' : ¬ (20 : Int) < (d : Int) := by omega
   clear h1 h2; go_wp2_with fail
   go_ret
   exact ⟨congrArg (fun b => Ending.returned (Value.bool b)) (show (decide ((200 : Int) < (n : Int)) || decide ((20 : Int) < (d : Int))) = largeB f by rw [He.out, decide_eq_false (by omega), decide_eq_false (by omega), decide_eq_false (by omega), decide_eq_false (by omega)]), HB.out⟩
end
end Go.Proofs.YtoeknmkephnekaaGreatDoor
namespace Go.Proofs.YtoeknmkephnekaaGreatDoor
open Go.RowKit Go.Cz Go.Cz.Lx Go.Cz.Fo
attribute [local go_sem] bs_size bs_extract bs_append bs_toList
attribute [local irreducible] cList cPlan
def IsD (W : World) (d : List Fact) (v : Value) : Prop := ∃ y m, v = .slice y d.length m /\ (d = [] ∨ ∃ g off, y = some ⟨g, off, none⟩ /\ g < W.heap.size /\ d.length <= m /\ ∀ (j : Nat) (x : Fact), d[j]? = some x ->
 W.cell? ⟨g, off + j * 4, none⟩ = some (.string (bs x.name)) /\ W.cell? ⟨g, off + j * 4 + 1, none⟩ = some (.int .i64 x.kind) /\ W.cell? ⟨g, off + j * 4 + 2, none⟩ = some (.int .i64 x.lo) /\ W.cell? ⟨g, off + j * 4 + 3, none⟩ = some (.int .i64 x.hi))
def IsC (W : World) (c : List Int) (v : Value) : Prop := ∃ y m, v = .slice y c.length m /\ (c = [] ∨ ∃ g off, y = some ⟨g, off, none⟩ /\ g < W.heap.size /\ c.length <= m /\ ∀ (j : Nat) (x : Int), c[j]? = some x -> W.cell? ⟨g, off + j, none⟩ = some (.int .i64 x))
abbrev xval (x : Fact) : Value := .agg #[.string (bs x.name), .int .i64 x.kind, .int .i64 x.lo, .int .i64 x.hi]
section
variable {W W' w0 : World} {d : List Fact} {c : List Int} {v : Value} {x : Fact} {u : Int} {y : Option Addr} {n m j : Nat}
theorem IsD.later (h : IsD W d v) (hb : Below W.heap.size W W') : IsD W' d v := by
 obtain ⟨y, m, h1, h2⟩ := h; refine ⟨y, m, h1, ?_⟩; rcases h2 with h2 | ⟨g, off, e, hg, hm, hc⟩
 ·exact .inl h2
 ·refine .inr ⟨g, off, e, Nat.lt_of_lt_of_le hg hb.size, hm, fun j x hj => ?_⟩; have e2 : ∀ i, W'.cell? ⟨g, i, none⟩ = W.cell? ⟨g, i, none⟩ := fun i => hb.cell (p := ⟨g, i, none⟩) hg; simp only [e2]; exact hc j x hj
theorem IsD.form (h : IsD W d v) : ∃ y m, v = .slice y d.length m := by obtain ⟨y, m, h1, -⟩ := h; exact ⟨y, m, h1⟩
theorem IsD.get (h : IsD W d (.slice y n m)) (hb : Below W.heap.size W W') (hj : d[j]? = some x) : ∃ g off, y = some ⟨g, off, none⟩ /\ g < W'.heap.size /\
  W'.cell? ⟨g, off + j * 4, none⟩ = some (.string (bs x.name)) /\ W'.cell? ⟨g, off + j * 4 + 1, none⟩ = some (.int .i64 x.kind) /\ W'.cell? ⟨g, off + j * 4 + 2, none⟩ = some (.int .i64 x.lo) /\ W'.cell? ⟨g, off + j * 4 + 3, none⟩ = some (.int .i64 x.hi) := by
 obtain ⟨y', m', h1, h2⟩ := h.later hb; cases h1
 rcases h2 with rfl | ⟨g, off, e, hg, -, hc⟩
 ·simp at hj
 ·exact ⟨g, off, e, hg, hc j x hj⟩
theorem IsC.later (h : IsC W c v) (hb : Below W.heap.size W W') : IsC W' c v := by
 obtain ⟨y, m, h1, h2⟩ := h; refine ⟨y, m, h1, ?_⟩; rcases h2 with h2 | ⟨g, off, e, hg, hm, hc⟩
 ·exact .inl h2
 ·refine .inr ⟨g, off, e, Nat.lt_of_lt_of_le hg hb.size, hm, fun j x hj => ?_⟩; have e2 : ∀ i, W'.cell? ⟨g, i, none⟩ = W.cell? ⟨g, i, none⟩ := fun i => hb.cell (p := ⟨g, i, none⟩) hg; simp only [e2]; exact hc j x hj
theorem IsC.form (h : IsC W c v) : ∃ y m, v = .slice y c.length m := by obtain ⟨y, m, h1, -⟩ := h; exact ⟨y, m, h1⟩
theorem IsC.get (h : IsC W c (.slice y n m)) (hb : Below W.heap.size W W') (hj : c[j]? = some u) : ∃ g off, y = some ⟨g, off, none⟩ /\ g < W'.heap.size /\ W'.cell? ⟨g, off + j, none⟩ = some (.int .i64 u) := by
 obtain ⟨y', m', h1, h2⟩ := h.later hb; cases h1
 rcases h2 with rfl | ⟨g, off, e, hg, -, hc⟩
 ·simp at hj
 ·exact ⟨g, off, e, hg, hc j u hj⟩
end
theorem Index1_c (x : Fact) (s : Bytes) (b : Nat) (w : World) (hb : b < w.heap.size) (hc : w.cell? ⟨b, 0, none⟩ = some (.string (bs s))) (h1 : x.name.length <= 140737488355328) (h2 : s.length <= 140737488355328) :
  Calls Tryz.prog 86 #[xval x, .pointer (some ⟨b, 0, none⟩)] w fun e w' => e = .returned (.bool (decide (x.name = s))) /\ Below w.heap.size w w' := by
 have he : Hid ((x.name == s) = decide (x.name = s)) := by show _ = _; rw [Bool.eq_iff_iff]; simp
 go_enter Tryz.func86, Tryz.ntmps86
 go_wp2_with fail
 go_ret
 exact ⟨congrArg (fun b => Ending.returned (Value.bool b)) (show (x.name == s) = decide (x.name = s) from he.out), (Below.refl _ _).alloc (Nat.le_refl _) _⟩
theorem IndexX_c (d : List Fact) (s : Bytes) (b : Nat) (v : Value) (w : World) (hd : IsD w d v) (hb : b < w.heap.size) (hc : w.cell? ⟨b, 0, none⟩ = some (.string (bs s))) (h1 : ∀ x ∈ d, x.name.length <= 140737488355328) (h2 : s.length <= 140737488355328) (hn : d.length <= 1000000) :
  Calls Tryz.prog 85 #[v, .func (.func 86) #[] #[.pointer (some ⟨b, 0, none⟩)]] w fun e w' => e = .returned (.int .i64 (idxD s d)) /\ Below w.heap.size w w' := by
 obtain ⟨y, m, rfl⟩ := hd.form; obtain ⟨N, hN⟩ : ∃ N, N = d.length := ⟨_, rfl⟩; have HN := Lib.hid hN; rw [<- hN] at hd hn ⊢; have HD := Lib.hid hd; have H1 := Lib.hid h1; have H2 := Lib.hid h2; have HC := Lib.hid hc; have HB := Lib.hid hb; clear hN hd h1 hb hc; go_enter Tryz.func85, Tryz.ntmps85
 go_wp2_with fail
 have H0 : Hid ((0 <= idxD s (d.drop 0) -> idxD s d = idxD s (d.drop 0) + (0 : Nat)) /\ (idxD s (d.drop 0) < 0 -> idxD s d = -1)) := by
  have : -1 <= idxD s d := by
   clear HN HD H1
   induction d with
   | nil => simp [idxD]
   | cons a r ih => rw [idxD]; repeat' split; all_goals omega
  exact ⟨fun _ => by simp, fun h => by simp at h; omega⟩
 have HW : Hid (Below w.heap.size w w) := Lib.hid (Below.refl _ _); go_loopg [8] N (fun gk i wr => ∃ k : Nat, gk = N - k /\ k <= N /\ i = .int .i64 (k : Int) /\ Hid ((0 <= idxD s (d.drop k) -> idxD s d = idxD s (d.drop k) + (k : Nat)) /\ (idxD s (d.drop k) < 0 -> idxD s d = -1)) /\ Hid (Below w.heap.size w wr))
 case atStart => exact ⟨0, rfl, Nat.zero_le _, rfl, H0, HW⟩
 case round =>
  rename_i J1 K1 hJ1 hK1; clear H0 HW; obtain ⟨k, rfl, hk, rfl, HI, HW⟩ := hrel; by_cases hlt : k < N
  ·obtain ⟨x, hx⟩ : ∃ x, d[k]? = some x := ⟨_, List.getElem?_eq_getElem (by rw [<- HN.out]; exact hlt)⟩; obtain ⟨g, off, rfl, hg, c0, c1, c2, c3⟩ := HD.out.get HW.out hx; have hdrop : d.drop k = x :: d.drop (k + 1) := by
    obtain ⟨hk2, rfl⟩ := List.getElem?_eq_some_iff.1 hx; exact List.drop_eq_getElem_cons hk2
   have HX : Hid (x.name.length <= 140737488355328) := Lib.hid (H1.out x (List.mem_of_getElem? hx)); have HI2 : Hid ((x.name = s -> idxD s d = k) /\ (¬ x.name = s -> ((0 <= idxD s (d.drop (k + 1)) -> idxD s d = idxD s (d.drop (k + 1)) + ((k + 1 : Nat) : Int)) /\ (idxD s (d.drop (k + 1)) < 0 -> idxD s d = -1)))) := by
    have h := HI.out; rw [hdrop, idxD] at h; refine ⟨fun e => ?_, fun e => ?_⟩
    ·rw [if_pos e] at h; have := h.1 (by omega); omega
    ·rw [if_neg e] at h
     split at h
     ·exact ⟨fun h' => by omega, fun _ => h.2 (by omega)⟩
     ·exact ⟨fun h' => by have := h.1 (by omega); omega, fun h' => by omega⟩
   clear hx hdrop HI; go_wp2_with fail
   refine (Index1_c x s b wr (Nat.lt_of_lt_of_le HB.out HW.out.size) (by rw [HW.out.cell (p := ⟨b, 0, none⟩) HB.out]; exact HC.out) HX.out H2.out).mono ?_; rintro e W2 ⟨rfl, hb⟩; have HW2 := Lib.hid (HW.out.trans (hb.mono HW.out.size)); clear hb HW c0 c1 c2 c3; by_cases he : x.name = s
   ·have HE : Hid (idxD s d = k) := HI2.out.1 he; rw [decide_eq_true he]; clear hJ1 hK1; go_wp2_with fail
    go_ret
    exact ⟨by rw [HE.out]; rfl, HW2.out⟩
   ·have HI := Lib.hid (HI2.out.2 he); rw [decide_eq_false he]; go_wp2_with fail
    go_roundg (N - (k + 1))
    case measure => omega
    case rel => exact ⟨k + 1, rfl, by omega, by go_num, HI, HW2⟩
  ·obtain rfl : k = N := by omega
   have HE : Hid (idxD s d = -1) := by
    have h := HI.out; rw [HN.out, List.drop_length] at h; exact h.2 (by simp [idxD])
   clear hJ1 hK1 hlt; go_wp2_with fail
   go_ret
   exact ⟨by rw [HE.out]; rfl, HW.out⟩
theorem Index_c (d : List Fact) (s : Bytes) (v : Value) (w : World) (hd : IsD w d v) (h1 : ∀ x ∈ d, x.name.length <= 140737488355328) (h2 : s.length <= 140737488355328) (hn : d.length <= 1000000) :
  Calls Tryz.prog 51 #[.agg #[v], .string (bs s)] w fun e w' => e = .returned (.int .i64 (idxD s d)) /\ Below w.heap.size w w' := by
 obtain ⟨y, m, rfl⟩ := hd.form; have HD := Lib.hid hd; have H1 := Lib.hid h1; have H2 := Lib.hid h2; have HN := Lib.hid hn; clear hd h1 hn; obtain ⟨N, hN⟩ : ∃ N, N = d.length := ⟨_, rfl⟩; rw [<- hN] at HD ⊢; clear hN; obtain ⟨W1, hW1⟩ : ∃ W1, W1 = (w.alloc (.cells #[.slice y N m] 45)).alloc (.cells #[.string (bs s)] 9) := ⟨_, rfl⟩; have HB : Hid (Below w.heap.size w W1 /\ w.heap.size + 1 < W1.heap.size /\ W1.cell? ⟨w.heap.size + 1, 0, none⟩ = some (.string (bs s))) := by
  rw [hW1]; refine ⟨((Below.refl _ _).alloc (Nat.le_refl _) _).alloc (by simp) _, by simp, ?_⟩; rw [cell_of_heap (new_heap (w.alloc _) _ _ (by simp))]; rfl
 go_enter Tryz.func51, Tryz.ntmps51
 go_wp2_with fail
 rw [<- hW1]; clear hW1; refine (IndexX_c d s _ _ W1 (HD.out.later HB.out.1) HB.out.2.1 HB.out.2.2 H1.out H2.out HN.out).mono ?_; rintro e W2 ⟨rfl, hb⟩; have HB2 := Lib.hid (HB.out.1.trans (hb.mono HB.out.1.size)); clear hb HB; go_wp2_with fail
 go_ret
 exact ⟨rfl, HB2.out⟩
end Go.Proofs.YtoeknmkephnekaaGreatDoor
namespace Go.Proofs.YtoeknmkephnekaaGreatDoor
open Go.RowKit Go.Cz Go.Cz.Lx Go.Cz.Fo
open Go.WideMaps (keyOf_string_mk)
attribute [local go_sem] bs_size bs_extract bs_append bs_toList
attribute [local irreducible] cList cPlan
def upto (l : Bytes) (k : Nat) : Prop := (∀ c ∈ l.take k, wordB c = true) /\ (0 < k -> ∃ c, l[0]? = some c /\ cls c = 3)
theorem upto_next {l : Bytes} {k : Nat} {c : UInt8} (h : upto l k) (hc : l[k]? = some c) (h1 : wordB c = true) (h2 : k = 0 -> cls c = 3) : upto l (k + 1) := by
 refine ⟨fun d hd => ?_, fun _ => ?_⟩
 ·rw [List.take_add_one, hc] at hd; rcases List.mem_append.1 hd with hd | hd
  ·exact h.1 d hd
  ·obtain rfl : d = c := by simpa using hd
   exact h1
 ·by_cases h0 : k = 0
  ·subst h0; exact ⟨c, hc, h2 rfl⟩
  ·exact h.2 (by omega)
theorem upto_bad {l : Bytes} {k : Nat} {c : UInt8} (hc : l[k]? = some c) (h : wordB c = false ∨ (k = 0 /\ cls c ≠ 3)) : nameB l = false := by
 unfold nameB; rcases h with h | ⟨rfl, h⟩
 ·have : l.all wordB = false := by
   rw [List.all_eq_false]; exact ⟨c, List.mem_of_getElem? hc, by rw [h]; simp⟩
  rw [this]; rfl
 ·have : (atL l 0 == 3) = false := by
   unfold atL; rw [hc]
   simpa using h
  rw [this]; simp
theorem upto_end {l : Bytes} (h : upto l l.length) : nameB l = (decide (0 < l.length) && decide (l.length <= 24)) := by
 unfold nameB; have h1 : l.all wordB = true := List.all_eq_true.2 fun c hc => h.1 c (by rw [List.take_length]; exact hc); rw [h1]; by_cases h0 : 0 < l.length
 ·obtain ⟨c, h2, h3⟩ := h.2 h0; have : atL l 0 = 3 := by unfold atL; rw [h2]; exact h3
  rw [this]; simp
 ·rw [decide_eq_false h0]; simp
set_option maxHeartbeats 4000000 in
theorem isName_c (l : List UInt8) (w : World) (hl : l.length <= 140737488355328) : Calls Tryz.prog 46 #[.string (bs l)] w fun e w' => e = .returned (.bool (nameB l)) /\ w' = w := by
 obtain ⟨u, hu⟩ : ∃ u, u = bs l := ⟨_, rfl⟩; have hus : u.size = l.length := by rw [hu, bs_size]
 have hget : ∀ (i : Nat) (h : i < u.size) (h2 : i < l.length), u[i]'h = l[i]'h2 := by
  subst hu; intro i h h2; rfl
 have HU := Lib.hid hget; have Htl : Hid (u.toList = l) := by show _ = _; rw [hu, bs_toList]
 rw [<- hu]; clear hget hu; obtain ⟨N, hN⟩ : ∃ N, N = l.length := ⟨_, rfl⟩; rw [<- hN] at hus hl; have HN := Lib.hid hN; clear hN; go_enter Tryz.func46, Tryz.ntmps46
 go_wp2_with fail
 go_loopg [9] N (fun gk i wr => ∃ k : Nat, gk = N - k /\ k <= N /\ i = .int .i64 (k : Int) /\ wr = w /\ Hid (upto l k))
 case atStart => exact ⟨0, rfl, Nat.zero_le _, rfl, rfl, ⟨by simp, fun h => absurd h (by omega)⟩⟩
 case round =>
  rename_i J1 K1 hJ1 hK1; obtain ⟨k, rfl, hk, rfl, rfl, HU2⟩ := hrel; by_cases hlt : k < N
  ·have kl : k < u.size := by omega
   have hkl : k < l.length := by have := HN.out; omega
   obtain ⟨c, hc⟩ : ∃ c, c = l[k] := ⟨_, rfl⟩; have hcu : u[k] = c := by rw [HU.out k kl hkl, hc]
   have Hc : Hid (l[k]? = some c) := by show _ = _; rw [List.getElem?_eq_getElem hkl, hc]
   clear hc hkl; have H3 := all_bytes (p := fun c => (97 <= (c.toNat : Int) /\ (c.toNat : Int) <= 122) ∨ (65 <= (c.toNat : Int) /\ (c.toNat : Int) <= 90) -> wordB c = true /\ cls c = 3) (by decide +kernel) c; have H4 := all_bytes (p := fun c => (48 <= (c.toNat : Int) /\ (c.toNat : Int) <= 57) ∨ (c.toNat : Int) = 95 -> wordB c = true /\ ¬ cls c = 3) (by decide +kernel) c; have H5 := all_bytes (p := fun c => ¬ ((97 <= (c.toNat : Int) /\ (c.toNat : Int) <= 122) ∨ (65 <= (c.toNat : Int) /\ (c.toNat : Int) <= 90) ∨ (48 <= (c.toNat : Int) /\ (c.toNat : Int) <= 57) ∨ (c.toNat : Int) = 95) -> wordB c = false) (by decide +kernel) c; have HC : Hid ((97 <= (c.toNat : Int) /\ (c.toNat : Int) <= 122) ∨ (65 <= (c.toNat : Int) /\ (c.toNat : Int) <= 90) -> wordB c = true /\ cls c = 3) := Lib.hid H3; have HD : Hid ((48 <= (c.toNat : Int) /\ (c.toNat : Int) <= 57) ∨ (c.toNat : Int) = 95 -> wordB c = true /\ ¬ cls c = 3) := Lib.hid H4; have HX : Hid (¬ ((97 <= (c.toNat : Int) /\ (c.toNat : Int) <= 122) ∨ (65 <= (c.toNat : Int) /\ (c.toNat : Int) <= 90) ∨ (48 <= (c.toNat : Int) /\ (c.toNat : Int) <= 57) ∨ (c.toNat : Int) = 95) -> wordB c = false) := Lib.hid H5; clear H3 H4 H5; by_cases a1 : 97 <= (c.toNat : Int)
   ·have b1 : 48 <= (c.toNat : Int) := by omega
    have b2 : ¬ (c.toNat : Int) <= 57 := by omega
    have b3 : ((c.toNat : Int) == 95) = false := by simp; omega
    by_cases a2 : (c.toNat : Int) <= 122
    ·obtain ⟨h1, h2⟩ : wordB c = true /\ cls c = 3 := HC.out (.inl ⟨a1, a2⟩); have HV : Hid (upto l (k + 1)) := upto_next HU2.out Hc.out h1 fun _ => h2; clear h1 h2 HC HD HX; go_wp2_with fail
     go_roundg (N - (k + 1))
     case measure => omega
     case rel => exact ⟨k + 1, rfl, by omega, by go_num, rfl, HV⟩
    ·have a3 : 65 <= (c.toNat : Int) := by omega
     have a4 : ¬ (c.toNat : Int) <= 90 := by omega
     have HE : Hid (nameB l = false) := upto_bad Hc.out (.inl (HX.out (by omega))); clear HC HD HX; by_cases hk0 : k = 0
     ·subst hk0; clear hJ1 hK1; go_wp2_with fail
      go_ret
      exact ⟨by rw [HE.out]; rfl, rfl⟩
     ·have hk1 : ((k : Int) == 0) = false := by simp; omega
      clear hJ1 hK1 hk0; go_wp2_with fail
      go_ret
      exact ⟨by rw [HE.out]; rfl, rfl⟩
   by_cases a3 : 65 <= (c.toNat : Int)
   ·have b1 : 48 <= (c.toNat : Int) := by omega
    have b2 : ¬ (c.toNat : Int) <= 57 := by omega
    by_cases a4 : (c.toNat : Int) <= 90
    ·have b3 : ((c.toNat : Int) == 95) = false := by simp; omega
     obtain ⟨h1, h2⟩ : wordB c = true /\ cls c = 3 := HC.out (.inr ⟨a3, a4⟩); have HV : Hid (upto l (k + 1)) := upto_next HU2.out Hc.out h1 fun _ => h2; clear h1 h2 HC HD HX; go_wp2_with fail
     go_roundg (N - (k + 1))
     case measure => omega
     case rel => exact ⟨k + 1, rfl, by omega, by go_num, rfl, HV⟩
    by_cases e : (c.toNat : Int) = 95
    ·have b3 : ((c.toNat : Int) == 95) = true := by simpa using e
     obtain ⟨h1, h2⟩ : wordB c = true /\ ¬ cls c = 3 := HD.out (.inr e); clear e; by_cases hk0 : k = 0
     ·have HE : Hid (nameB l = false) := upto_bad Hc.out (.inr ⟨hk0, h2⟩); subst hk0; clear h1 h2 HC HD HX hJ1 hK1; go_wp2_with fail
      go_ret
      exact ⟨by rw [HE.out]; rfl, rfl⟩
     ·have HV : Hid (upto l (k + 1)) := upto_next HU2.out Hc.out h1 fun h => absurd h hk0; have hk1 : ((k : Int) == 0) = false := by simp; omega
      clear h1 h2 HC HD HX hk0; go_wp2_with fail
      go_roundg (N - (k + 1))
      case measure => omega
      case rel => exact ⟨k + 1, rfl, by omega, by go_num, rfl, HV⟩
    ·have b3 : ((c.toNat : Int) == 95) = false := by simpa using e
     have HE : Hid (nameB l = false) := upto_bad Hc.out (.inl (HX.out (by omega))); clear HC HD HX; by_cases hk0 : k = 0
     ·subst hk0; clear hJ1 hK1; go_wp2_with fail
      go_ret
      exact ⟨by rw [HE.out]; rfl, rfl⟩
     ·have hk1 : ((k : Int) == 0) = false := by simp; omega
      clear hJ1 hK1 hk0; go_wp2_with fail
      go_ret
      exact ⟨by rw [HE.out]; rfl, rfl⟩
   have b3 : ((c.toNat : Int) == 95) = false := by simp; omega
   by_cases b1 : 48 <= (c.toNat : Int)
   ·by_cases b2 : (c.toNat : Int) <= 57
    ·obtain ⟨h1, h2⟩ : wordB c = true /\ ¬ cls c = 3 := HD.out (.inl ⟨b1, b2⟩); by_cases hk0 : k = 0
     ·have HE : Hid (nameB l = false) := upto_bad Hc.out (.inr ⟨hk0, h2⟩); subst hk0; clear h1 h2 HC HD HX hJ1 hK1; go_wp2_with fail
      go_ret
      exact ⟨by rw [HE.out]; rfl, rfl⟩
     ·have HV : Hid (upto l (k + 1)) := upto_next HU2.out Hc.out h1 fun h => absurd h hk0; have hk1 : ((k : Int) == 0) = false := by simp; omega
      clear h1 h2 HC HD HX hk0; go_wp2_with fail
      go_roundg (N - (k + 1))
      case measure => omega
      case rel => exact ⟨k + 1, rfl, by omega, by go_num, rfl, HV⟩
    ·have HE : Hid (nameB l = false) := upto_bad Hc.out (.inl (HX.out (by omega))); clear HC HD HX; by_cases hk0 : k = 0
     ·subst hk0; clear hJ1 hK1; go_wp2_with fail
      go_ret
      exact ⟨by rw [HE.out]; rfl, rfl⟩
     ·have hk1 : ((k : Int) == 0) = false := by simp; omega
      clear hJ1 hK1 hk0; go_wp2_with fail
      go_ret
      exact ⟨by rw [HE.out]; rfl, rfl⟩
   ·have HE : Hid (nameB l = false) := upto_bad Hc.out (.inl (HX.out (by omega))); clear HC HD HX; by_cases hk0 : k = 0
    ·subst hk0; clear hJ1 hK1; go_wp2_with fail
     go_ret
     exact ⟨by rw [HE.out]; rfl, rfl⟩
    ·have hk1 : ((k : Int) == 0) = false := by simp; omega
     clear hJ1 hK1 hk0; go_wp2_with fail
     go_ret
     exact ⟨by rw [HE.out]; rfl, rfl⟩
  ·obtain rfl : k = N := by omega
   have HE : Hid (nameB l = (decide (0 < k) && decide (k <= 24))) := by
    show _ = _; have := HU2.out; rw [HN.out] at this ⊢; exact upto_end this
   clear hJ1 hK1 hlt; by_cases h0 : k = 0
   ·have hs : u.toList = [] := by rw [Htl.out]; exact List.length_eq_zero_iff.1 (by rw [<- HN.out]; exact h0)
    subst h0; go_wp2_with fail
    go_ret
    exact ⟨by rw [HE.out]; rfl, rfl⟩
   ·have hs : ¬ u.toList = [] := fun e => h0 (by rw [HN.out, <- Htl.out, e]; rfl); go_wp2_with fail
    go_ret
    exact ⟨congrArg (fun b => Ending.returned (Value.bool b)) (show (!u.toList.isEmpty && decide ((k : Int) <= 24)) = nameB l by
     have e : u.toList.isEmpty = false := by simpa using hs
     rw [HE.out, e, decide_eq_true (p := 0 < k) (by omega), Bool.not_false, Bool.true_and, Bool.true_and, Bool.eq_iff_iff]; simp
     omega), rfl⟩
open Go.Maps (Keyed IsMap isMap_empty atKey_put_same atKey_put_other) in
def seenD : List Bytes -> DataW Unit
 | [] => .map []
 | s :: r => (seenD r).put (.string s) (.lit (.bool true))
theorem seen_map : ∀ l, Go.Maps.IsMap (seenD l)
 | [] => Go.Maps.isMap_empty
 | s :: r => (seen_map r).put _ _
theorem seen_at (s : Bytes) : ∀ l, (seenD l).atKey (.string s) (.lit (.bool false)) = .lit (.bool (l.contains s))
 | [] => rfl
 | t :: r => by
  show ((seenD r).put (.string t) (.lit (.bool true))).atKey (.string s) (.lit (.bool false)) = _; by_cases h : s = t
  ·subst h; rw [Go.Maps.atKey_put_same (seen_map r) (by trivial)]; simp
  ·rw [Go.Maps.atKey_put_other (by simpa using h), seen_at s r]; simp [h]
theorem plainElem_bool_inv {H : Type} {P : Program} {e : TypeId} (he : P.underlying e = some .bool) {v : Value} {z : DataW H × List MemPlace} (h : plainElem P e v = some z) : ∃ q, v = .bool q /\ z = (.lit (.bool q), []) := by
 unfold plainElem at h; rw [he] at h; cases v <;> simp at h
 rename_i q; exact ⟨q, rfl, h.symm⟩
theorem key_str : Go.Maps.Keyed Tryz.prog 9 := Go.Maps.string_keyed Tryz.underlying9
theorem zero_bool (w : World) : (zeroValue 4).run Tryz.prog w = .ok (.bool false) w := by kernel_rfl
structure VI (w wr : World) (bx bm : Nat) (o : Obj) (n : Nat) (l : List Bytes) : Prop where
 base : Below w.heap.size w wr
 box : wr.heap[bx]? = some o
 map : wr.ownsMap Tryz.prog 9 (plainElem Tryz.prog 4) bm n (seenD l)
 ne : bx ≠ bm
 new : w.heap.size <= bm
section
variable {w wr W : World} {bx bm n : Nat} {o : Obj} {l : List Bytes}
theorem VI.below (h : VI w wr bx bm o n l) (hb : Below wr.heap.size wr W) : VI w W bx bm o n l :=
 ⟨h.base.trans (hb.mono h.base.size), (hb.block bx (lt_of_block h.box)).trans h.box, h.map.kept ⟨hb.os, hb.tape, hb.output, hb.size, fun k hk _ => hb.block k hk⟩ (row := none) (by simp), h.ne, h.new⟩
theorem VI.look (h : VI w wr bx bm o n l) (s : Bytes) (hs : s.length <= 140737488355328) : (Instr.lookup 86 (.map (some bm)) (.string (bs s)) false).run Tryz.prog wr = .ok (.bool (l.contains s)) wr := by
 obtain ⟨v, ps, hrun, hv⟩ := h.map.lookup key_str Tryz.underlying86 (zero_bool wr) (plainElem_bool Tryz.underlying4 false) (keyOf_string_mk Tryz.underlying9 (s := bs s) (by rw [bs_size]; unfold maxLen; omega)); have e : (bs s).data.toList = s := by simp [bs]
 rw [e, seen_at] at hv; obtain ⟨q, rfl, e2⟩ := plainElem_bool_inv Tryz.underlying4 hv; simp only [Prod.mk.injEq, DataW.lit.injEq, Lit.bool.injEq] at e2; rw [hrun, e2.1]
theorem VI.step (h : VI w wr bx bm o n l) {s : Bytes} (hm : W.ownsMap Tryz.prog 9 (plainElem Tryz.prog 4) bm (n + 1) ((seenD l).put (.string s) (.lit (.bool true)))) (hg : wr.grownBy W (some bm)) : VI w W bx bm o (n + 1) (s :: l) :=
 ⟨h.base.grown hg h.base.size (fun k hk => by cases hk; exact h.new), (hg.block bx (lt_of_block h.box) (by simpa using h.ne)).trans h.box, hm, h.ne, h.new⟩
end
theorem seen_step {d : List Fact} {k : Nat} {x : Fact} (hx : d[k]? = some x) : validL ((d.take k).map (·.name)).reverse (d.drop k) = (factB x && (nameB x.name && (!((d.take k).map (·.name)).reverse.contains x.name && validL ((d.take (k + 1)).map (·.name)).reverse (d.drop (k + 1))))) := by
 obtain ⟨hk, rfl⟩ := List.getElem?_eq_some_iff.1 hx; rw [List.drop_eq_getElem_cons hk, validL, List.take_add_one, List.getElem?_eq_getElem hk, List.map_append, List.reverse_append]
 rfl
set_option maxHeartbeats 4000000 in
theorem factValid_c (d : List Fact) (v : Value) (w : World) (hd : IsD w d v) (hn : d.length <= 1000000) (hx : ∀ x ∈ d, x.name.length <= 140737488355328) :
  Calls Tryz.prog 18 #[.agg #[v]] w fun e w' => e = .returned (.bool (validD d)) /\ Below w.heap.size w w' := by
 obtain ⟨y, m, rfl⟩ := hd.form; have HD := Lib.hid hd; have HXS := Lib.hid hx; obtain ⟨N, hN⟩ : ∃ N, N = d.length := ⟨_, rfl⟩; have HN := Lib.hid hN; rw [<- hN] at HD hn ⊢; clear hd hx hN; obtain ⟨bx, hbx⟩ : ∃ bx, bx = w.heap.size := ⟨_, rfl⟩; obtain ⟨bm, hbm⟩ : ∃ bm, bm = w.heap.size + 1 := ⟨_, rfl⟩; obtain ⟨W1, hW1⟩ : ∃ W1, W1 = (w.alloc (.cells #[.slice y N m] 45)).alloc (.map #[] 0) := ⟨_, rfl⟩; have HV : Hid (VI w W1 bx bm (.cells #[.slice y N m] 45 (0, 0)) 0 []) := by
  rw [hW1, hbx, hbm]; refine ⟨((Below.refl _ _).alloc (Nat.le_refl _) _).alloc (by simp) _, ?_, ?_, by omega, by omega⟩
  ·have h1 := new_heap w (.cells #[.slice y N m] 45) w.heap.size rfl; rw [(((Below.refl _ _).alloc (Nat.le_refl _) (.map #[] 0)).block _ (lt_of_block h1))]; exact h1
  ·have := World.ownsMap_made (w.alloc (.cells #[.slice y N m] 45)) Tryz.prog 9 (plainElem (H := Unit) Tryz.prog 4); rw [World.size_alloc] at this; exact this
 have H0 : Hid (validL [] d = validL ((d.take 0).map (·.name)).reverse (d.drop 0)) := by show _ = _; simp
 have hmm := @run_makeMap Tryz.prog; go_enter Tryz.func18, Tryz.ntmps18
 go_wp2_with fail
 rw [<- hW1, <- hbm, <- hbx]; clear hW1 hbx hbm; have hbx := lt_of_block HV.out.box; have cb0 : W1.cell? ⟨bx, 0, none⟩ = some (.slice y N m) := by rw [cell_of_heap HV.out.box]; rfl
 go_wp2_with fail
 clear hbx cb0; go_loopg [12] N (fun gk i wr => ∃ k : Nat, gk = N - k /\ k <= N /\ i = .int .i64 (k : Int) /\ Hid (validL [] d = validL ((d.take k).map (·.name)).reverse (d.drop k)) /\ Hid (VI w wr bx bm (.cells #[.slice y N m] 45 (0, 0)) k ((d.take k).map (·.name)).reverse))
 case atStart => exact ⟨0, rfl, Nat.zero_le _, rfl, H0, HV⟩
 case round =>
  rename_i J1 K1 hJ1 hK1; clear HV H0; obtain ⟨k, rfl, hk, rfl, HI, HV⟩ := hrel; by_cases hlt : k < N
  ·obtain ⟨x, hx⟩ : ∃ x, d[k]? = some x := ⟨_, List.getElem?_eq_getElem (by rw [<- HN.out]; exact hlt)⟩; obtain ⟨g, off, rfl, hg, c0, c1, c2, c3⟩ := HD.out.get HV.out.base hx; have HX := Lib.hid hx; have HXn : Hid (x.name.length <= 140737488355328) := Lib.hid (HXS.out x (List.mem_of_getElem? hx)); obtain ⟨W4, hW4⟩ : ∃ W4, W4 = wr.alloc (.cells #[.string (bs x.name), .int .i64 x.kind, .int .i64 x.lo, .int .i64 x.hi] 47) := ⟨_, rfl⟩; have HV4 : Hid (VI w W4 bx bm (.cells #[.slice (some ⟨g, off, none⟩) N m] 45 (0, 0)) k ((d.take k).map (·.name)).reverse) := by
    rw [hW4]; exact Lib.hid (HV.out.below ((Below.refl _ _).alloc (Nat.le_refl _) _))
   have HB4 : Hid (wr.heap.size < W4.heap.size /\ W4.cell? ⟨wr.heap.size, 0, none⟩ = some (.string (bs x.name)) /\ W4.cell? ⟨wr.heap.size, 1, none⟩ = some (.int .i64 x.kind) /\ W4.cell? ⟨wr.heap.size, 2, none⟩ = some (.int .i64 x.lo) /\ W4.cell? ⟨wr.heap.size, 3, none⟩ = some (.int .i64 x.hi)) := by
    have h := new_heap wr (.cells #[.string (bs x.name), .int .i64 x.kind, .int .i64 x.lo, .int .i64 x.hi] 47) wr.heap.size rfl; rw [<- hW4] at h; exact ⟨lt_of_block h, by rw [cell_of_heap h]; rfl, by rw [cell_of_heap h]; rfl, by rw [cell_of_heap h]; rfl, by rw [cell_of_heap h]; rfl⟩
   obtain ⟨F, hF⟩ : ∃ F, F = factB x := ⟨_, rfl⟩; have HFB : Hid (factB x = F) := hF.symm; have hfb : factB x = (decide (x.kind = 1 /\ x.lo = 0 /\ x.hi = 1) || decide (x.kind = 2 /\ 0 <= x.lo /\ x.lo <= x.hi /\ x.hi <= 1000000)) := rfl; rw [<- hF] at hfb; clear hx hF HV; by_cases k1 : x.kind = 1
   ·have k1' : (x.kind == 1) = true := by simpa using k1
    have k2' : (x.kind == 2) = false := by rw [k1]; rfl
    by_cases l0 : x.lo = 0
    ·have l0' : (x.lo == 0) = true := by simpa using l0
     by_cases h1 : x.hi = 1
     ·have h1' : (x.hi == 1) = true := by simpa using h1
      obtain rfl : F = true := by rw [hfb, decide_eq_true ⟨k1, l0, h1⟩]; rfl
      clear k1 l0 h1 hfb; go_wp2_with fail
      rw [<- hW4]; clear hW4; go_at_call 46
      refine (isName_c x.name W4 HXn.out).mono ?_; rintro e w1 ⟨rfl, hw⟩; subst hw; obtain ⟨q, hq⟩ : ∃ q, q = nameB x.name := ⟨_, rfl⟩; rw [<- hq]; have HQ := Lib.hid hq; clear hq; cases q
      ·have HE : Hid (validD d = false) := by
        show _ = _; unfold validD; rw [HI.out, seen_step HX.out, HFB.out, <- HQ.out]; rfl
       clear hJ1 hK1; go_wp2_with fail
       go_ret
       exact ⟨by rw [HE.out]; rfl, HV4.out.base⟩
      obtain ⟨q, hq⟩ : ∃ q, q = ((d.take k).map (·.name)).reverse.contains x.name := ⟨_, rfl⟩; have hrun := HV4.out.look x.name HXn.out; rw [<- hq] at hrun; have HQ2 := Lib.hid hq; clear hq; obtain ⟨hx4, cx0, cx1, cx2, cx3⟩ := HB4.out; cases q
      ·have HI2 : Hid (validL [] d = validL ((d.take (k + 1)).map (·.name)).reverse (d.drop (k + 1))) := by
        show _ = _; rw [HI.out, seen_step HX.out, HFB.out, <- HQ.out, <- HQ2.out]; rfl
       go_wp2_with (first | (at_mapUpdate; refine wpList_mapUpdate_own _ rfl _ _ _ 86 rfl 9 4 key_str Tryz.underlying86 _ bm k (seenD ((d.take k).map (·.name)).reverse) rfl HV4.out.map (by unfold maxLen; omega) _ _ _ rfl rfl (keyOf_string_mk Tryz.underlying9 (s := bs x.name) (by rw [bs_size]; have := HXn.out; unfold maxLen; omega)) (.lit (.bool true)) [] (plainElem_bool Tryz.underlying4 true) ?_; intro w2 hown hgrow))
       have HV5 : Hid (VI w w2 bx bm (.cells #[.slice (some ⟨g, off, none⟩) N m] 45 (0, 0)) (k + 1) ((d.take (k + 1)).map (·.name)).reverse) := by
        have e : (bs x.name).data.toList = x.name := by simp [bs]
        rw [e] at hown; have := HV4.out.step hown hgrow; rw [List.take_add_one, HX.out]
        simpa using Lib.hid this
       clear hown hgrow HV4; go_roundg (N - (k + 1))
       case measure => omega
       case rel => exact ⟨k + 1, rfl, by omega, by go_num, HI2, HV5⟩
      ·have HE : Hid (validD d = false) := by
        show _ = _; unfold validD; rw [HI.out, seen_step HX.out, HFB.out, <- HQ.out, <- HQ2.out]; rfl
       clear hJ1 hK1; go_wp2_with fail
       go_ret
       exact ⟨by rw [HE.out]; rfl, HV4.out.base⟩
     ·have h1' : (x.hi == 1) = false := by simpa using h1
      obtain rfl : F = false := by rw [hfb, decide_eq_false (by omega), decide_eq_false (by omega)]; rfl
      clear k1 l0 h1 hfb; have HE : Hid (validD d = false) := by
       show _ = _; unfold validD; rw [HI.out, seen_step HX.out, HFB.out]; rfl
      clear hJ1 hK1; go_wp2_with fail
      rw [<- hW4]; clear hW4; go_ret
      exact ⟨by rw [HE.out]; rfl, HV4.out.base⟩
    ·have l0' : (x.lo == 0) = false := by simpa using l0
     obtain rfl : F = false := by rw [hfb, decide_eq_false (by omega), decide_eq_false (by omega)]; rfl
     clear k1 l0 hfb; have HE : Hid (validD d = false) := by
      show _ = _; unfold validD; rw [HI.out, seen_step HX.out, HFB.out]; rfl
     clear hJ1 hK1; go_wp2_with fail
     rw [<- hW4]; clear hW4; go_ret
     exact ⟨by rw [HE.out]; rfl, HV4.out.base⟩
   have k1' : (x.kind == 1) = false := by simpa using k1
   by_cases k2 : x.kind = 2
   ·have k2' : (x.kind == 2) = true := by simpa using k2
    by_cases l0 : 0 <= x.lo
    ·by_cases lh : x.lo <= x.hi
     ·by_cases hm : x.hi <= 1000000
      ·obtain rfl : F = true := by rw [hfb, decide_eq_true (p := x.kind = 2 /\ _) ⟨k2, l0, lh, hm⟩]; simp
       clear k1 k2 hfb; go_wp2_with fail
       rw [<- hW4]; clear hW4; go_at_call 46
       refine (isName_c x.name W4 HXn.out).mono ?_; rintro e w1 ⟨rfl, hw⟩; subst hw; obtain ⟨q, hq⟩ : ∃ q, q = nameB x.name := ⟨_, rfl⟩; rw [<- hq]; have HQ := Lib.hid hq; clear hq; cases q
       ·have HE : Hid (validD d = false) := by
         show _ = _; unfold validD; rw [HI.out, seen_step HX.out, HFB.out, <- HQ.out]; rfl
        clear hJ1 hK1; go_wp2_with fail
        go_ret
        exact ⟨by rw [HE.out]; rfl, HV4.out.base⟩
       obtain ⟨q, hq⟩ : ∃ q, q = ((d.take k).map (·.name)).reverse.contains x.name := ⟨_, rfl⟩; have hrun := HV4.out.look x.name HXn.out; rw [<- hq] at hrun; have HQ2 := Lib.hid hq; clear hq; obtain ⟨hx4, cx0, cx1, cx2, cx3⟩ := HB4.out; cases q
       ·have HI2 : Hid (validL [] d = validL ((d.take (k + 1)).map (·.name)).reverse (d.drop (k + 1))) := by
         show _ = _; rw [HI.out, seen_step HX.out, HFB.out, <- HQ.out, <- HQ2.out]; rfl
        go_wp2_with (first | (at_mapUpdate; refine wpList_mapUpdate_own _ rfl _ _ _ 86 rfl 9 4 key_str Tryz.underlying86 _ bm k (seenD ((d.take k).map (·.name)).reverse) rfl HV4.out.map (by unfold maxLen; omega) _ _ _ rfl rfl (keyOf_string_mk Tryz.underlying9 (s := bs x.name) (by rw [bs_size]; have := HXn.out; unfold maxLen; omega)) (.lit (.bool true)) [] (plainElem_bool Tryz.underlying4 true) ?_; intro w2 hown hgrow))
        have HV5 : Hid (VI w w2 bx bm (.cells #[.slice (some ⟨g, off, none⟩) N m] 45 (0, 0)) (k + 1) ((d.take (k + 1)).map (·.name)).reverse) := by
         have e : (bs x.name).data.toList = x.name := by simp [bs]
         rw [e] at hown; have := HV4.out.step hown hgrow; rw [List.take_add_one, HX.out]
         simpa using Lib.hid this
        clear hown hgrow HV4; go_roundg (N - (k + 1))
        case measure => omega
        case rel => exact ⟨k + 1, rfl, by omega, by go_num, HI2, HV5⟩
       ·have HE : Hid (validD d = false) := by
         show _ = _; unfold validD; rw [HI.out, seen_step HX.out, HFB.out, <- HQ.out, <- HQ2.out]; rfl
        clear hJ1 hK1; go_wp2_with fail
        go_ret
        exact ⟨by rw [HE.out]; rfl, HV4.out.base⟩
      ·obtain rfl : F = false := by rw [hfb, decide_eq_false (by omega), decide_eq_false (by omega)]; rfl
       clear k1 k2 hfb; have HE : Hid (validD d = false) := by
        show _ = _; unfold validD; rw [HI.out, seen_step HX.out, HFB.out]; rfl
       clear hJ1 hK1; go_wp2_with fail
       rw [<- hW4]; clear hW4; go_ret
       exact ⟨by rw [HE.out]; rfl, HV4.out.base⟩
     ·obtain rfl : F = false := by rw [hfb, decide_eq_false (by omega), decide_eq_false (by omega)]; rfl
      clear k1 k2 hfb; have HE : Hid (validD d = false) := by
       show _ = _; unfold validD; rw [HI.out, seen_step HX.out, HFB.out]; rfl
      clear hJ1 hK1; go_wp2_with fail
      rw [<- hW4]; clear hW4; go_ret
      exact ⟨by rw [HE.out]; rfl, HV4.out.base⟩
    ·obtain rfl : F = false := by rw [hfb, decide_eq_false (by omega), decide_eq_false (by omega)]; rfl
     clear k1 k2 hfb; have HE : Hid (validD d = false) := by
      show _ = _; unfold validD; rw [HI.out, seen_step HX.out, HFB.out]; rfl
     clear hJ1 hK1; go_wp2_with fail
     rw [<- hW4]; clear hW4; go_ret
     exact ⟨by rw [HE.out]; rfl, HV4.out.base⟩
   ·have k2' : (x.kind == 2) = false := by simpa using k2
    obtain rfl : F = false := by rw [hfb, decide_eq_false (by omega), decide_eq_false (by omega)]; rfl
    clear k1 k2 hfb; have HE : Hid (validD d = false) := by
     show _ = _; unfold validD; rw [HI.out, seen_step HX.out, HFB.out]; rfl
    clear hJ1 hK1; go_wp2_with fail
    rw [<- hW4]; clear hW4; go_ret
    exact ⟨by rw [HE.out]; rfl, HV4.out.base⟩
  ·obtain rfl : k = N := by omega
   have HE : Hid (validD d = decide (k <= 60)) := by
    show _ = _; unfold validD; have h := HI.out; rw [HN.out, List.drop_length] at h; rw [h, validL, <- HN.out]; rfl
   have hbx := lt_of_block HV.out.box; have cb0 : wr.cell? ⟨bx, 0, none⟩ = some (.slice y k m) := by rw [cell_of_heap HV.out.box]; rfl
   clear hJ1 hK1 hlt; go_wp2_with fail
   go_ret
   exact ⟨congrArg (fun b => Ending.returned (Value.bool b)) (show decide ((k : Int) <= 60) = validD d by rw [HE.out, Bool.eq_iff_iff]; simp; omega), HV.out.base⟩
end Go.Proofs.YtoeknmkephnekaaGreatDoor
namespace Go.Proofs.YtoeknmkephnekaaGreatDoor
open Go.RowKit Go.Cz Go.Cz.Lx Go.Cz.Fo
attribute [local go_sem] bs_size bs_extract bs_append bs_toList
attribute [local irreducible] cList cPlan
set_option maxHeartbeats 4000000 in
theorem identM_c (l : List UInt8) (w : World) (hl : l.length <= 140737488355328) : Calls Tryz.prog 69 #[.string (bs l)] w fun e w' => e = .returned (.bool (nameB l)) /\ Below w.heap.size w w' := by
 obtain ⟨u, hu⟩ : ∃ u, u = bs l := ⟨_, rfl⟩; have hus : u.size = l.length := by rw [hu, bs_size]
 have hget : ∀ (i : Nat) (h : i < u.size) (h2 : i < l.length), u[i]'h = l[i]'h2 := by
  subst hu; intro i h h2; rfl
 have HU := Lib.hid hget; have Htl : Hid (u.toList = l) := by show _ = _; rw [hu, bs_toList]
 rw [<- hu]; clear hget hu; obtain ⟨N, hN⟩ : ∃ N, N = l.length := ⟨_, rfl⟩; rw [<- hN] at hus hl; have HN := Lib.hid hN; clear hN; go_enter Tryz.func69, Tryz.ntmps69
 go_wp2_with fail
 go_loopg [9] N (fun gk i wr => ∃ k : Nat, gk = N - k /\ k <= N /\ i = .int .i64 (k : Int) /\ Hid (Below w.heap.size w wr) /\ Hid (upto l k))
 case atStart => exact ⟨0, rfl, Nat.zero_le _, rfl, Lib.hid (Below.refl _ _), ⟨by simp, fun h => absurd h (by omega)⟩⟩
 case round =>
  rename_i J1 K1 hJ1 hK1; obtain ⟨k, rfl, hk, rfl, HB, HU2⟩ := hrel; by_cases hlt : k < N
  ·have kl : k < u.size := by omega
   have hkl : k < l.length := by have := HN.out; omega
   obtain ⟨c, hc⟩ : ∃ c, c = l[k] := ⟨_, rfl⟩; have hcu : u[k] = c := by rw [HU.out k kl hkl, hc]
   have Hc : Hid (l[k]? = some c) := by show _ = _; rw [List.getElem?_eq_getElem hkl, hc]
   clear hc hkl; obtain ⟨m, hm⟩ : ∃ m, m = bits BinOp.or IntKind.u8 (c.toNat : Int) 32 := ⟨_, rfl⟩; have hm0 : 0 <= m /\ m <= 255 := by rw [hm]; exact all_bytes (p := fun c => 0 <= bits BinOp.or IntKind.u8 (c.toNat : Int) 32 /\ bits BinOp.or IntKind.u8 (c.toNat : Int) 32 <= 255) (by decide +kernel) c
   have HC : Hid (97 <= m /\ m <= 122 -> wordB c = true /\ cls c = 3) := by
    rw [hm]; exact Lib.hid (all_bytes (p := fun c => 97 <= bits BinOp.or IntKind.u8 (c.toNat : Int) 32 /\ bits BinOp.or IntKind.u8 (c.toNat : Int) 32 <= 122 -> wordB c = true /\ cls c = 3) (by decide +kernel) c)
   have HD : Hid ((48 <= (c.toNat : Int) /\ (c.toNat : Int) <= 57) ∨ (c.toNat : Int) = 95 -> wordB c = true) := Lib.hid (all_bytes (p := fun c => (48 <= (c.toNat : Int) /\ (c.toNat : Int) <= 57) ∨ (c.toNat : Int) = 95 -> wordB c = true) (by decide +kernel) c); have HX : Hid (¬ (97 <= m /\ m <= 122) -> cls c ≠ 3) := by
    rw [hm]; exact Lib.hid (all_bytes (p := fun c => ¬ (97 <= bits BinOp.or IntKind.u8 (c.toNat : Int) 32 /\ bits BinOp.or IntKind.u8 (c.toNat : Int) 32 <= 122) -> cls c ≠ 3) (by decide +kernel) c)
   have HY : Hid (¬ (97 <= m /\ m <= 122) -> ¬ ((48 <= (c.toNat : Int) /\ (c.toNat : Int) <= 57) ∨ (c.toNat : Int) = 95) -> wordB c = false) := by
    rw [hm]; exact Lib.hid (all_bytes (p := fun c => ¬ (97 <= bits BinOp.or IntKind.u8 (c.toNat : Int) 32 /\ bits BinOp.or IntKind.u8 (c.toNat : Int) 32 <= 122) -> ¬ ((48 <= (c.toNat : Int) /\ (c.toNat : Int) <= 57) ∨ (c.toNat : Int) = 95) -> wordB c = false) (by decide +kernel) c)
   go_wp2_with fail
   rw [<- hm]; clear hm; refine wp_region_canA [] (List.range 24) ?_; by_cases a1 : 97 <= m
   ·by_cases a2 : m <= 122
    ·obtain ⟨h1, h2⟩ := HC.out ⟨a1, a2⟩; have e1 := decide_eq_true a1; have e2 := decide_eq_true a2; by_cases b1 : 48 <= (c.toNat : Int)
     ·by_cases b2 : (c.toNat : Int) <= 57
      ·have b3 : ((c.toNat : Int) == 95) = false := by simp; omega
       have f1 := decide_eq_true b1; have f2 := decide_eq_true b2; have HV : Hid (upto l (k + 1)) := upto_next HU2.out Hc.out h1 fun _ => h2; clear h1 h2 HC HD HX HY; iterate 24 (first | (refine cl_do rfl rfl rfl rfl (fun _ _ => ?_); go_wp2_with fail; try simp only [e1, e2, f1, f2]) | (refine cl_yesA rfl rfl rfl rfl (fun _ _ => ?_); go_wp2_with fail; try simp only [e1, e2, f1, f2]) | (refine cl_no rfl rfl rfl ?_; go_simp))
       refine cl_nil ?_; go_wp2_with fail
       go_roundg (N - (k + 1))
       case measure => omega
       case rel => exact ⟨k + 1, rfl, by omega, by go_num, HB.out.drew, HV⟩
      ·have f1 := decide_eq_true b1; have f2 := decide_eq_false b2; by_cases e : (c.toNat : Int) = 95
       ·have b3 : ((c.toNat : Int) == 95) = true := by simpa using e
        have HV : Hid (upto l (k + 1)) := upto_next HU2.out Hc.out h1 fun _ => h2; clear h1 h2 HC HD HX HY; iterate 24 (first | (refine cl_do rfl rfl rfl rfl (fun _ _ => ?_); go_wp2_with fail; try simp only [e1, e2, f1, f2]) | (refine cl_yesA rfl rfl rfl rfl (fun _ _ => ?_); go_wp2_with fail; try simp only [e1, e2, f1, f2]) | (refine cl_no rfl rfl rfl ?_; go_simp))
        refine cl_nil ?_; go_wp2_with fail
        go_roundg (N - (k + 1))
        case measure => omega
        case rel => exact ⟨k + 1, rfl, by omega, by go_num, HB.out.drew, HV⟩
       ·have b3 : ((c.toNat : Int) == 95) = false := by simpa using e
        have HV : Hid (upto l (k + 1)) := upto_next HU2.out Hc.out h1 fun _ => h2; clear h1 h2 HC HD HX HY; iterate 24 (first | (refine cl_do rfl rfl rfl rfl (fun _ _ => ?_); go_wp2_with fail; try simp only [e1, e2, f1, f2]) | (refine cl_yesA rfl rfl rfl rfl (fun _ _ => ?_); go_wp2_with fail; try simp only [e1, e2, f1, f2]) | (refine cl_no rfl rfl rfl ?_; go_simp))
        refine cl_nil ?_; go_wp2_with fail
        go_roundg (N - (k + 1))
        case measure => omega
        case rel => exact ⟨k + 1, rfl, by omega, by go_num, HB.out.drew, HV⟩
     ·have b3 : ((c.toNat : Int) == 95) = false := by simp; omega
      have f1 := decide_eq_false b1; have f2 : True := trivial; have HV : Hid (upto l (k + 1)) := upto_next HU2.out Hc.out h1 fun _ => h2; clear h1 h2 HC HD HX HY; iterate 24 (first | (refine cl_do rfl rfl rfl rfl (fun _ _ => ?_); go_wp2_with fail; try simp only [e1, e2, f1, f2]) | (refine cl_yesA rfl rfl rfl rfl (fun _ _ => ?_); go_wp2_with fail; try simp only [e1, e2, f1, f2]) | (refine cl_no rfl rfl rfl ?_; go_simp))
      refine cl_nil ?_; go_wp2_with fail
      go_roundg (N - (k + 1))
      case measure => omega
      case rel => exact ⟨k + 1, rfl, by omega, by go_num, HB.out.drew, HV⟩
    ·have HN2 : Hid (¬ (97 <= m /\ m <= 122)) := by show ¬ _; omega
     have e1 := decide_eq_true a1; have e2 := decide_eq_false a2; by_cases b1 : 48 <= (c.toNat : Int)
     ·by_cases b2 : (c.toNat : Int) <= 57
      ·have b3 : ((c.toNat : Int) == 95) = false := by simp; omega
       have f1 := decide_eq_true b1; have f2 := decide_eq_true b2; have h1 := HD.out (.inl ⟨b1, b2⟩); have h2 := HX.out HN2.out; by_cases hk0 : k = 0
       ·have HE : Hid (nameB l = false) := upto_bad Hc.out (.inr ⟨hk0, h2⟩); subst hk0; clear h1 h2 HC HD HX HY hJ1 hK1; iterate 24 (first | (refine cl_do rfl rfl rfl rfl (fun _ _ => ?_); go_wp2_with fail; try simp only [e1, e2, f1, f2]) | (refine cl_yesA rfl rfl rfl rfl (fun _ _ => ?_); go_wp2_with fail; try simp only [e1, e2, f1, f2]) | (refine cl_no rfl rfl rfl ?_; go_simp))
        refine cl_nil ?_; go_wp2_with fail
        go_ret
        exact ⟨by rw [HE.out]; rfl, HB.out.drew⟩
       ·have HV : Hid (upto l (k + 1)) := upto_next HU2.out Hc.out h1 fun h => absurd h hk0; have hk1 : ((k : Int) == 0) = false := by simp; omega
        clear h1 h2 HC HD HX HY hk0; iterate 24 (first | (refine cl_do rfl rfl rfl rfl (fun _ _ => ?_); go_wp2_with fail; try simp only [e1, e2, f1, f2]) | (refine cl_yesA rfl rfl rfl rfl (fun _ _ => ?_); go_wp2_with fail; try simp only [e1, e2, f1, f2]) | (refine cl_no rfl rfl rfl ?_; go_simp))
        refine cl_nil ?_; go_wp2_with fail
        go_roundg (N - (k + 1))
        case measure => omega
        case rel => exact ⟨k + 1, rfl, by omega, by go_num, HB.out.drew, HV⟩
      ·have f1 := decide_eq_true b1; have f2 := decide_eq_false b2; by_cases e : (c.toNat : Int) = 95
       ·have b3 : ((c.toNat : Int) == 95) = true := by simpa using e
        have h1 := HD.out (.inr e); have h2 := HX.out HN2.out; by_cases hk0 : k = 0
        ·have HE : Hid (nameB l = false) := upto_bad Hc.out (.inr ⟨hk0, h2⟩); subst hk0; clear h1 h2 HC HD HX HY hJ1 hK1; iterate 24 (first | (refine cl_do rfl rfl rfl rfl (fun _ _ => ?_); go_wp2_with fail; try simp only [e1, e2, f1, f2]) | (refine cl_yesA rfl rfl rfl rfl (fun _ _ => ?_); go_wp2_with fail; try simp only [e1, e2, f1, f2]) | (refine cl_no rfl rfl rfl ?_; go_simp))
         refine cl_nil ?_; go_wp2_with fail
         go_ret
         exact ⟨by rw [HE.out]; rfl, HB.out.drew⟩
        ·have HV : Hid (upto l (k + 1)) := upto_next HU2.out Hc.out h1 fun h => absurd h hk0; have hk1 : ((k : Int) == 0) = false := by simp; omega
         clear h1 h2 HC HD HX HY hk0; iterate 24 (first | (refine cl_do rfl rfl rfl rfl (fun _ _ => ?_); go_wp2_with fail; try simp only [e1, e2, f1, f2]) | (refine cl_yesA rfl rfl rfl rfl (fun _ _ => ?_); go_wp2_with fail; try simp only [e1, e2, f1, f2]) | (refine cl_no rfl rfl rfl ?_; go_simp))
         refine cl_nil ?_; go_wp2_with fail
         go_roundg (N - (k + 1))
         case measure => omega
         case rel => exact ⟨k + 1, rfl, by omega, by go_num, HB.out.drew, HV⟩
       ·have b3 : ((c.toNat : Int) == 95) = false := by simpa using e
        have HE : Hid (nameB l = false) := upto_bad Hc.out (.inl (HY.out HN2.out (by omega))); clear HC HD HX HY; by_cases hk0 : k = 0
        ·subst hk0; clear hJ1 hK1; iterate 24 (first | (refine cl_do rfl rfl rfl rfl (fun _ _ => ?_); go_wp2_with fail; try simp only [e1, e2, f1, f2]) | (refine cl_yesA rfl rfl rfl rfl (fun _ _ => ?_); go_wp2_with fail; try simp only [e1, e2, f1, f2]) | (refine cl_no rfl rfl rfl ?_; go_simp))
         refine cl_nil ?_; go_wp2_with fail
         go_ret
         exact ⟨by rw [HE.out]; rfl, HB.out.drew⟩
        ·have hk1 : ((k : Int) == 0) = false := by simp; omega
         clear hJ1 hK1 hk0; iterate 24 (first | (refine cl_do rfl rfl rfl rfl (fun _ _ => ?_); go_wp2_with fail; try simp only [e1, e2, f1, f2]) | (refine cl_yesA rfl rfl rfl rfl (fun _ _ => ?_); go_wp2_with fail; try simp only [e1, e2, f1, f2]) | (refine cl_no rfl rfl rfl ?_; go_simp))
         refine cl_nil ?_; go_wp2_with fail
         go_ret
         exact ⟨by rw [HE.out]; rfl, HB.out.drew⟩
     ·have b3 : ((c.toNat : Int) == 95) = false := by simp; omega
      have f1 := decide_eq_false b1; have f2 : True := trivial; have HE : Hid (nameB l = false) := upto_bad Hc.out (.inl (HY.out HN2.out (by omega))); clear HC HD HX HY; by_cases hk0 : k = 0
      ·subst hk0; clear hJ1 hK1; iterate 24 (first | (refine cl_do rfl rfl rfl rfl (fun _ _ => ?_); go_wp2_with fail; try simp only [e1, e2, f1, f2]) | (refine cl_yesA rfl rfl rfl rfl (fun _ _ => ?_); go_wp2_with fail; try simp only [e1, e2, f1, f2]) | (refine cl_no rfl rfl rfl ?_; go_simp))
       refine cl_nil ?_; go_wp2_with fail
       go_ret
       exact ⟨by rw [HE.out]; rfl, HB.out.drew⟩
      ·have hk1 : ((k : Int) == 0) = false := by simp; omega
       clear hJ1 hK1 hk0; iterate 24 (first | (refine cl_do rfl rfl rfl rfl (fun _ _ => ?_); go_wp2_with fail; try simp only [e1, e2, f1, f2]) | (refine cl_yesA rfl rfl rfl rfl (fun _ _ => ?_); go_wp2_with fail; try simp only [e1, e2, f1, f2]) | (refine cl_no rfl rfl rfl ?_; go_simp))
       refine cl_nil ?_; go_wp2_with fail
       go_ret
       exact ⟨by rw [HE.out]; rfl, HB.out.drew⟩
   ·have HN2 : Hid (¬ (97 <= m /\ m <= 122)) := by show ¬ _; omega
    have e1 := decide_eq_false a1; have e2 : True := trivial; by_cases b1 : 48 <= (c.toNat : Int)
    ·by_cases b2 : (c.toNat : Int) <= 57
     ·have b3 : ((c.toNat : Int) == 95) = false := by simp; omega
      have f1 := decide_eq_true b1; have f2 := decide_eq_true b2; have h1 := HD.out (.inl ⟨b1, b2⟩); have h2 := HX.out HN2.out; by_cases hk0 : k = 0
      ·have HE : Hid (nameB l = false) := upto_bad Hc.out (.inr ⟨hk0, h2⟩); subst hk0; clear h1 h2 HC HD HX HY hJ1 hK1; iterate 24 (first | (refine cl_do rfl rfl rfl rfl (fun _ _ => ?_); go_wp2_with fail; try simp only [e1, e2, f1, f2]) | (refine cl_yesA rfl rfl rfl rfl (fun _ _ => ?_); go_wp2_with fail; try simp only [e1, e2, f1, f2]) | (refine cl_no rfl rfl rfl ?_; go_simp))
       refine cl_nil ?_; go_wp2_with fail
       go_ret
       exact ⟨by rw [HE.out]; rfl, HB.out.drew⟩
      ·have HV : Hid (upto l (k + 1)) := upto_next HU2.out Hc.out h1 fun h => absurd h hk0; have hk1 : ((k : Int) == 0) = false := by simp; omega
       clear h1 h2 HC HD HX HY hk0; iterate 24 (first | (refine cl_do rfl rfl rfl rfl (fun _ _ => ?_); go_wp2_with fail; try simp only [e1, e2, f1, f2]) | (refine cl_yesA rfl rfl rfl rfl (fun _ _ => ?_); go_wp2_with fail; try simp only [e1, e2, f1, f2]) | (refine cl_no rfl rfl rfl ?_; go_simp))
       refine cl_nil ?_; go_wp2_with fail
       go_roundg (N - (k + 1))
       case measure => omega
       case rel => exact ⟨k + 1, rfl, by omega, by go_num, HB.out.drew, HV⟩
     ·have f1 := decide_eq_true b1; have f2 := decide_eq_false b2; by_cases e : (c.toNat : Int) = 95
      ·have b3 : ((c.toNat : Int) == 95) = true := by simpa using e
       have h1 := HD.out (.inr e); have h2 := HX.out HN2.out; by_cases hk0 : k = 0
       ·have HE : Hid (nameB l = false) := upto_bad Hc.out (.inr ⟨hk0, h2⟩); subst hk0; clear h1 h2 HC HD HX HY hJ1 hK1; iterate 24 (first | (refine cl_do rfl rfl rfl rfl (fun _ _ => ?_); go_wp2_with fail; try simp only [e1, e2, f1, f2]) | (refine cl_yesA rfl rfl rfl rfl (fun _ _ => ?_); go_wp2_with fail; try simp only [e1, e2, f1, f2]) | (refine cl_no rfl rfl rfl ?_; go_simp))
        refine cl_nil ?_; go_wp2_with fail
        go_ret
        exact ⟨by rw [HE.out]; rfl, HB.out.drew⟩
       ·have HV : Hid (upto l (k + 1)) := upto_next HU2.out Hc.out h1 fun h => absurd h hk0; have hk1 : ((k : Int) == 0) = false := by simp; omega
        clear h1 h2 HC HD HX HY hk0; iterate 24 (first | (refine cl_do rfl rfl rfl rfl (fun _ _ => ?_); go_wp2_with fail; try simp only [e1, e2, f1, f2]) | (refine cl_yesA rfl rfl rfl rfl (fun _ _ => ?_); go_wp2_with fail; try simp only [e1, e2, f1, f2]) | (refine cl_no rfl rfl rfl ?_; go_simp))
        refine cl_nil ?_; go_wp2_with fail
        go_roundg (N - (k + 1))
        case measure => omega
        case rel => exact ⟨k + 1, rfl, by omega, by go_num, HB.out.drew, HV⟩
      ·have b3 : ((c.toNat : Int) == 95) = false := by simpa using e
       have HE : Hid (nameB l = false) := upto_bad Hc.out (.inl (HY.out HN2.out (by omega))); clear HC HD HX HY; by_cases hk0 : k = 0
       ·subst hk0; clear hJ1 hK1; iterate 24 (first | (refine cl_do rfl rfl rfl rfl (fun _ _ => ?_); go_wp2_with fail; try simp only [e1, e2, f1, f2]) | (refine cl_yesA rfl rfl rfl rfl (fun _ _ => ?_); go_wp2_with fail; try simp only [e1, e2, f1, f2]) | (refine cl_no rfl rfl rfl ?_; go_simp))
        refine cl_nil ?_; go_wp2_with fail
        go_ret
        exact ⟨by rw [HE.out]; rfl, HB.out.drew⟩
       ·have hk1 : ((k : Int) == 0) = false := by simp; omega
        clear hJ1 hK1 hk0; iterate 24 (first | (refine cl_do rfl rfl rfl rfl (fun _ _ => ?_); go_wp2_with fail; try simp only [e1, e2, f1, f2]) | (refine cl_yesA rfl rfl rfl rfl (fun _ _ => ?_); go_wp2_with fail; try simp only [e1, e2, f1, f2]) | (refine cl_no rfl rfl rfl ?_; go_simp))
        refine cl_nil ?_; go_wp2_with fail
        go_ret
        exact ⟨by rw [HE.out]; rfl, HB.out.drew⟩
    ·have b3 : ((c.toNat : Int) == 95) = false := by simp; omega
     have f1 := decide_eq_false b1; have f2 : True := trivial; have HE : Hid (nameB l = false) := upto_bad Hc.out (.inl (HY.out HN2.out (by omega))); clear HC HD HX HY; by_cases hk0 : k = 0
     ·subst hk0; clear hJ1 hK1; iterate 24 (first | (refine cl_do rfl rfl rfl rfl (fun _ _ => ?_); go_wp2_with fail; try simp only [e1, e2, f1, f2]) | (refine cl_yesA rfl rfl rfl rfl (fun _ _ => ?_); go_wp2_with fail; try simp only [e1, e2, f1, f2]) | (refine cl_no rfl rfl rfl ?_; go_simp))
      refine cl_nil ?_; go_wp2_with fail
      go_ret
      exact ⟨by rw [HE.out]; rfl, HB.out.drew⟩
     ·have hk1 : ((k : Int) == 0) = false := by simp; omega
      clear hJ1 hK1 hk0; iterate 24 (first | (refine cl_do rfl rfl rfl rfl (fun _ _ => ?_); go_wp2_with fail; try simp only [e1, e2, f1, f2]) | (refine cl_yesA rfl rfl rfl rfl (fun _ _ => ?_); go_wp2_with fail; try simp only [e1, e2, f1, f2]) | (refine cl_no rfl rfl rfl ?_; go_simp))
      refine cl_nil ?_; go_wp2_with fail
      go_ret
      exact ⟨by rw [HE.out]; rfl, HB.out.drew⟩
  ·obtain rfl : k = N := by omega
   have HE : Hid (nameB l = (decide (0 < k) && decide (k <= 24))) := by
    show _ = _; have := HU2.out; rw [HN.out] at this ⊢; exact upto_end this
   clear hJ1 hK1 hlt; by_cases h0 : k = 0
   ·have hs : u.toList = [] := by rw [Htl.out]; exact List.length_eq_zero_iff.1 (by rw [<- HN.out]; exact h0)
    subst h0; go_wp2_with fail
    go_ret
    exact ⟨by rw [HE.out]; rfl, HB.out⟩
   ·have hs : ¬ u.toList = [] := fun e => h0 (by rw [HN.out, <- Htl.out, e]; rfl); go_wp2_with fail
    go_ret
    exact ⟨congrArg (fun b => Ending.returned (Value.bool b)) (show (!u.toList.isEmpty && decide ((k : Int) <= 24)) = nameB l by
     have e : u.toList.isEmpty = false := by simpa using hs
     rw [HE.out, e, decide_eq_true (p := 0 < k) (by omega), Bool.not_false, Bool.true_and, Bool.true_and, Bool.eq_iff_iff]; simp
     omega), HB.out⟩
end Go.Proofs.YtoeknmkephnekaaGreatDoor
namespace Go.Proofs.YtoeknmkephnekaaGreatDoor
open Go.RowKit Go.Cz Go.Cz.Lx Go.Cz.Fo Go.Cz.Vd
open Go.Cz.Ck (Shift validB)
abbrev mval (m : Me) (kv : Value) : Value := .agg #[.string (bs m.id), .string (bs m.auth), .int .i64 m.kind, .string (bs m.target), .int .i64 m.cond.op, .string (bs m.cond.name), .int .i64 m.cond.cmp, .int .i64 m.cond.num, kv, .int .i64 m.fr, .int .i64 m.un, .int .i64 m.wi]
abbrev mobj (m : Me) (kv : Value) : Obj := .cells #[.string (bs m.id), .string (bs m.auth), .int .i64 m.kind, .string (bs m.target), .int .i64 m.cond.op, .string (bs m.cond.name), .int .i64 m.cond.cmp, .int .i64 m.cond.num, kv, .int .i64 m.fr, .int .i64 m.un, .int .i64 m.wi] 26 (0, 0)
structure MeAt (W : World) (g o : Nat) (m : Me) (kv : Value) : Prop where
 c0 : W.cell? ⟨g, o, none⟩ = some (.string (bs m.id))
 c1 : W.cell? ⟨g, o + 1, none⟩ = some (.string (bs m.auth))
 c2 : W.cell? ⟨g, o + 2, none⟩ = some (.int .i64 m.kind)
 c3 : W.cell? ⟨g, o + 3, none⟩ = some (.string (bs m.target))
 c4 : W.cell? ⟨g, o + 4, none⟩ = some (.int .i64 m.cond.op)
 c5 : W.cell? ⟨g, o + 5, none⟩ = some (.string (bs m.cond.name))
 c6 : W.cell? ⟨g, o + 6, none⟩ = some (.int .i64 m.cond.cmp)
 c7 : W.cell? ⟨g, o + 7, none⟩ = some (.int .i64 m.cond.num)
 c8 : W.cell? ⟨g, o + 8, none⟩ = some kv
 c9 : W.cell? ⟨g, o + 9, none⟩ = some (.int .i64 m.fr)
 c10 : W.cell? ⟨g, o + 10, none⟩ = some (.int .i64 m.un)
 c11 : W.cell? ⟨g, o + 11, none⟩ = some (.int .i64 m.wi)
theorem MeAt.later {W W' : World} {g o : Nat} {m : Me} {kv : Value} (h : MeAt W g o m kv) (hg : g < W.heap.size) (hb : Below W.heap.size W W') : MeAt W' g o m kv := by
 have e : ∀ i, W'.cell? ⟨g, i, none⟩ = W.cell? ⟨g, i, none⟩ := fun i => hb.cell (p := ⟨g, i, none⟩) hg; exact ⟨(e _).trans h.c0, (e _).trans h.c1, (e _).trans h.c2, (e _).trans h.c3, (e _).trans h.c4, (e _).trans h.c5, (e _).trans h.c6, (e _).trans h.c7, (e _).trans h.c8, (e _).trans h.c9, (e _).trans h.c10, (e _).trans h.c11⟩
def IsMeR (W : World) (l : List Me) (v : Value) : Prop := ∃ y c, v = .slice y l.length c /\ (l = [] ∨ ∃ g off, y = some ⟨g, off, none⟩ /\ g < W.heap.size /\ l.length <= c /\ ∀ (j : Nat) (m : Me), l[j]? = some m -> ∃ kv, MeAt W g (off + j * 12) m kv /\ IsFm (fun _ => True) W m.cond kv)
def IsTxR (W : World) (l : List Bytes) (v : Value) : Prop := ∃ y c, v = .slice y l.length c /\ (l = [] ∨ ∃ g off, y = some ⟨g, off, none⟩ /\ g < W.heap.size /\ l.length <= c /\ ∀ (j : Nat) (s : Bytes), l[j]? = some s -> W.cell? ⟨g, off + j, none⟩ = some (.string (bs s)))
def IsCaR (W : World) (l : List (List Int)) (v : Value) : Prop := ∃ y c, v = .slice y l.length c /\ (l = [] ∨ ∃ g off, y = some ⟨g, off, none⟩ /\ g < W.heap.size /\ l.length <= c /\ ∀ (j : Nat) (a : List Int), l[j]? = some a -> ∃ u, W.cell? ⟨g, off + j, none⟩ = some u /\ IsC W a u)
section
variable {W W' : World} {l : List Me} {ts : List Bytes} {zs : List (List Shift)} {cs : List (List Int)} {v : Value} {y : Option Addr} {n c j : Nat} {m : Me} {s : Bytes} {z : List Shift} {a : List Int}
theorem IsMeR.later (h : IsMeR W l v) (hb : Below W.heap.size W W') : IsMeR W' l v := by
 obtain ⟨y, c, rfl, h⟩ := h; refine ⟨y, c, rfl, h.imp id ?_⟩; rintro ⟨g, off, rfl, hg, hm, hc⟩; refine ⟨g, off, rfl, Nat.lt_of_lt_of_le hg hb.size, hm, fun j m hj => ?_⟩; obtain ⟨kv, h1, h2⟩ := hc j m hj; exact ⟨kv, h1.later hg hb, h2.later hb⟩
theorem IsTxR.later (h : IsTxR W ts v) (hb : Below W.heap.size W W') : IsTxR W' ts v := by
 obtain ⟨y, c, rfl, h⟩ := h; refine ⟨y, c, rfl, h.imp id ?_⟩; rintro ⟨g, off, rfl, hg, hm, hc⟩; exact ⟨g, off, rfl, Nat.lt_of_lt_of_le hg hb.size, hm, fun j s hj => (hb.cell (p := ⟨g, off + j, none⟩) hg).trans (hc j s hj)⟩
theorem IsCaR.later (h : IsCaR W cs v) (hb : Below W.heap.size W W') : IsCaR W' cs v := by
 obtain ⟨y, c, rfl, h⟩ := h; refine ⟨y, c, rfl, h.imp id ?_⟩; rintro ⟨g, off, rfl, hg, hm, hc⟩; refine ⟨g, off, rfl, Nat.lt_of_lt_of_le hg hb.size, hm, fun j z hj => ?_⟩; obtain ⟨u, h1, h2⟩ := hc j z hj; exact ⟨u, (hb.cell (p := ⟨g, off + j, none⟩) hg).trans h1, h2.later hb⟩
theorem IsMeR.form (h : IsMeR W l v) : ∃ y c, v = .slice y l.length c := by obtain ⟨y, c, h1, -⟩ := h; exact ⟨y, c, h1⟩
theorem IsTxR.form (h : IsTxR W ts v) : ∃ y c, v = .slice y ts.length c := by obtain ⟨y, c, h1, -⟩ := h; exact ⟨y, c, h1⟩
theorem IsCaR.form (h : IsCaR W cs v) : ∃ y c, v = .slice y cs.length c := by obtain ⟨y, c, h1, -⟩ := h; exact ⟨y, c, h1⟩
theorem IsMeR.get (h : IsMeR W l (.slice y n c)) (hb : Below W.heap.size W W') (hj : l[j]? = some m) : ∃ g off kv, y = some ⟨g, off, none⟩ /\ g < W'.heap.size /\ MeAt W' g (off + j * 12) m kv /\ IsFm (fun _ => True) W' m.cond kv := by
 obtain ⟨y', c', e, h⟩ := h.later hb; cases e
 rcases h with rfl | ⟨g, off, e, hg, -, hc⟩
 ·simp at hj
 ·obtain ⟨kv, h1, h2⟩ := hc j m hj; exact ⟨g, off, kv, e, hg, h1, h2⟩
theorem IsTxR.get (h : IsTxR W ts (.slice y n c)) (hb : Below W.heap.size W W') (hj : ts[j]? = some s) : ∃ g off, y = some ⟨g, off, none⟩ /\ g < W'.heap.size /\ W'.cell? ⟨g, off + j, none⟩ = some (.string (bs s)) := by
 obtain ⟨y', c', e, h⟩ := h.later hb; cases e
 rcases h with rfl | ⟨g, off, e, hg, -, hc⟩
 ·simp at hj
 ·exact ⟨g, off, e, hg, hc j s hj⟩
theorem IsCaR.get (h : IsCaR W cs (.slice y n c)) (hb : Below W.heap.size W W') (hj : cs[j]? = some a) : ∃ g off u, y = some ⟨g, off, none⟩ /\ g < W'.heap.size /\ W'.cell? ⟨g, off + j, none⟩ = some u /\ IsC W' a u := by
 obtain ⟨y', c', e, h⟩ := h.later hb; cases e
 rcases h with rfl | ⟨g, off, e, hg, -, hc⟩
 ·simp at hj
 ·obtain ⟨u, h1, h2⟩ := hc j a hj; exact ⟨g, off, u, e, hg, h1, h2⟩
end
end Go.Proofs.YtoeknmkephnekaaGreatDoor
namespace Go.Proofs.YtoeknmkephnekaaGreatDoor
open Go.RowKit Go.Cz Go.Cz.Lx Go.Cz.Fo
attribute [local go_sem] bs_size bs_extract bs_append bs_toList
attribute [local irreducible] cList cPlan
section
variable {p : Nat -> Prop}
end
theorem keyB_has (s : Bytes) : Lib.containsS ([bs wOr, bs wAnd, bs wNot, bs wTrue, bs wFalse].take 5) (bs s) = keyB s := by
 rw [Bool.eq_iff_iff, Lib.containsS_iff]; have e : ∀ a : Bytes, (bs s = bs a) = (s = a) := fun a => propext ⟨bs_inj, fun h => by rw [h]⟩; simp [keyB, e]
theorem key_c (s : Bytes) (w : World) : Calls Tryz.prog 67 #[.string (bs s)] w (fun e w' => e = .returned (.bool (keyB s)) /\ Below w.heap.size w w') := by
 go_enter Tryz.func67, Tryz.ntmps67
 go_wp2_with fail
 have hcell : ∀ j, j < [bs wOr, bs wAnd, bs wNot, bs wTrue, bs wFalse].length -> (w.alloc (.cells #[.string ⟨#[111, 114]⟩, .string ⟨#[97, 110, 100]⟩, .string ⟨#[110, 111, 116]⟩, .string ⟨#[116, 114, 117, 101]⟩, .string ⟨#[102, 97, 108, 115, 101]⟩] 9)).cell? ⟨w.heap.size, 0 + j, none⟩ = some (.string ([bs wOr, bs wAnd, bs wNot, bs wTrue, bs wFalse].getD j ByteArray.empty)) := by
  intro j hj; rw [cell_of_heap (new_heap w _ _ rfl)]; rcases j with _ | _ | _ | _ | _ | j
  iterate 5 rfl
  simp at hj
  omega
 have HC := Lib.hid hcell; clear hcell; refine (Tryz.slices_Contains_string w.heap.size 0 5 5 [bs wOr, bs wAnd, bs wNot, bs wTrue, bs wFalse] (bs s) _ (by simp) (by omega) HC.out).mono ?_; rintro e w2 ⟨rfl, rfl⟩; rw [keyB_has]; clear HC; go_wp2_with fail
 go_ret
 exact ⟨rfl, (Below.refl _ _).alloc (Nat.le_refl _) _⟩
theorem rKey_c (s : Bytes) (w : World) : Calls Tryz.prog 145 #[.string (bs s)] w (fun e w' => e = .returned (.bool (keyB s)) /\ w' = w) := by
 go_enter Tryz.func145, Tryz.ntmps145
 go_wp2_with fail
 all_goals go_ret
 all_goals refine ⟨?_, rfl⟩
 all_goals simp_all [keyB, wOr, wAnd, wNot, wTrue, wFalse, Bool.or_assoc]
end Go.Proofs.YtoeknmkephnekaaGreatDoor
namespace Go.Proofs.YtoeknmkephnekaaGreatDoor
open Go.RowKit Go.Cz Go.Cz.Lx
attribute [local go_sem] bs_size bs_extract bs_append bs_toList
attribute [local irreducible] cList
set_option maxHeartbeats 2000000 in
theorem identF_c (l : List UInt8) (HI : 34 ∈ l -> IdxAny) (w : World) (hl : l.length <= 140737488355328) : Calls Tryz.prog 84 #[.string (bs l)] w fun e w' => e = .returned (.bool (identB l)) /\ Below w.heap.size w w' := by
 have HL := Lib.hid (Lex_c l HI w hl); clear HI hl; rcases hx : lexAll l with ⟨ts, e1, o1⟩
 have Hx := Lib.hid hx; clear hx; go_enter Tryz.func84, Tryz.ntmps84
 go_wp2_with fail
 go_at_call 14
 refine HL.out.mono ?_; rintro e W2 ⟨v, rfl, ht, hb⟩; rw [Hx.out] at ht ⊢; have HB := Lib.hid hb; dsimp only at ht ⊢; clear hb HL; by_cases h0 : e1 = 0
 ·subst h0; rcases ts with _ | ⟨t, _ | ⟨t2, r⟩⟩
  ·have He : Hid (identB l = false) := by show _ = _; unfold identB; rw [Hx.out]; rfl
   obtain ⟨a, c, rfl⟩ : ∃ a c, v = .slice a 0 c := by
    rcases ht with ⟨-, rfl⟩ | ⟨g, c, rfl, -⟩
    ·exact ⟨none, 0, rfl⟩
    ·exact ⟨_, c, rfl⟩
   clear ht; go_wp2_with fail
   go_ret
   exact ⟨by rw [He.out]; rfl, HB.out⟩
  ·rcases ht with ⟨h, -⟩ | ⟨g, c, rfl, -, hz, hc⟩
   ·cases h
   obtain ⟨c0, -, -, c3⟩ := hc 0 t rfl; simp only [Nat.zero_mul, Nat.zero_add, List.length_cons, List.length_nil] at c0 c3 ⊢; clear hc; by_cases hk : t.kind = 1
   ·have hk1 : ((t.kind : Int) == 1) = true := by simp; omega
    obtain ⟨q, hq⟩ : ∃ q, q = (t.text == l) := ⟨_, rfl⟩; have He : Hid (identB l = q) := by show _ = _; unfold identB; rw [Hx.out, hq]; simp [hk]
    have Hq := Lib.hid hq; clear hq hk; cases q
    ·have hq2 : (t.text == l) = false := Hq.out.symm; go_wp2_with fail
     go_ret
     exact ⟨by rw [He.out]; rfl, HB.out⟩
    ·have hq2 : t.text = l := by simpa using Hq.out.symm
     rw [hq2] at c3; clear hq2; go_wp2_with fail
     go_ret
     exact ⟨by rw [He.out]; rfl, HB.out⟩
   ·have hk1 : ((t.kind : Int) == 1) = false := by simp; omega
    have He : Hid (identB l = false) := by show _ = _; unfold identB; rw [Hx.out]; simp [hk]
    clear hk; go_wp2_with fail
    go_ret
    exact ⟨by rw [He.out]; rfl, HB.out⟩
  ·have He : Hid (identB l = false) := by show _ = _; unfold identB; rw [Hx.out]; rfl
   rcases ht with ⟨h, -⟩ | ⟨g, c, rfl, -⟩
   ·cases h
   obtain ⟨N, hN⟩ : ∃ N, N = (t :: t2 :: r).length := ⟨_, rfl⟩; have hN2 : ((N : Int) == 1) = false := by simp; simp at hN; omega
   rw [<- hN]; clear hN; go_wp2_with fail
   go_ret
   exact ⟨by rw [He.out]; rfl, HB.out⟩
 ·have h0b : ((e1 : Int) == 0) = false := by simp; omega
  have He : Hid (identB l = false) := by show _ = _; unfold identB; rw [Hx.out]; simp [h0]
  clear h0 ht; go_wp2_with fail
  go_ret
  exact ⟨by rw [He.out]; rfl, HB.out⟩
end Go.Proofs.YtoeknmkephnekaaGreatDoor
namespace Go.Cz.Fo
open Go.Cz.Lx
theorem formed_test {f : Fm} (h : f.op = 3) : formedB f = (decide (f.kids.length = 0) && (decide (1 <= f.cmp) && (decide (f.cmp <= 6) && (nameB f.name && !keyB f.name)))) := by unfold formedB; rw [if_pos h]
theorem formed_bare {f : Fm} (h : f.op ≠ 3) (h2 : f.name ≠ [] ∨ f.cmp ≠ 0 ∨ f.num ≠ 0) : formedB f = false := by unfold formedB; rw [if_neg h, if_pos h2]
theorem formed_rest {f : Fm} (h : f.op ≠ 3) (h2 : ¬ (f.name ≠ [] ∨ f.cmp ≠ 0 ∨ f.num ≠ 0)) : formedB f = if f.op = 1 ∨ f.op = 2 then decide (f.kids.length = 0) else if f.op = 4 then decide (f.kids.length = 1) else decide ((f.op = 5 ∨ f.op = 6) /\ 2 <= f.kids.length) := by unfold formedB; rw [if_neg h, if_neg h2]
end Go.Cz.Fo
namespace Go.Proofs.YtoeknmkephnekaaGreatDoor
open Go.RowKit Go.Cz Go.Cz.Lx Go.Cz.Fo
attribute [local go_sem] bs_size bs_extract bs_append bs_toList
attribute [local irreducible] cList cPlan
theorem n_eq0 (N : Nat) : ((N : Int) == 0) = decide (N = 0) := by rw [Bool.eq_iff_iff]; simp
theorem n_eq1 (N : Nat) : ((N : Int) == 1) = decide (N = 1) := by rw [Bool.eq_iff_iff]; simp; omega
theorem n_le2 (N : Nat) : decide ((2 : Int) <= (N : Int)) = decide (2 <= N) := by rw [Bool.eq_iff_iff]; simp; omega
section
variable {p : Nat -> Prop}
set_option maxHeartbeats 2000000 in
theorem formed_c (f : Fm) (w : World) (kv : Value) (hf : IsFm p w f kv) (hl : f.name.length <= 140737488355328) : Calls Tryz.prog 50 #[fval f kv] w (fun e w' => e = .returned (.bool (formedB f)) /\ Below w.heap.size w w') := by
 obtain ⟨y, m, rfl⟩ := hf.form; obtain ⟨N, hN⟩ : ∃ N, N = f.kids.length := ⟨_, rfl⟩; have HN := Lib.hid hN; rw [<- hN] at hf ⊢; have HF := Lib.hid hf; clear hN hf; obtain ⟨W1, hW1⟩ : ∃ W1, W1 = w.alloc (fobj f (.slice y N m)) := ⟨_, rfl⟩; obtain ⟨bf, hbf⟩ : ∃ bf, bf = w.heap.size := ⟨_, rfl⟩; have HO : Hid (Owns w W1 [blk bf (fobj f (.slice y N m))]) := by
  rw [hW1, hbf]; exact Lib.hid ((Owns.start w).box _)
 have HL := Lib.hid hl; clear hl; obtain ⟨o, ho⟩ : ∃ o, o = f.op := ⟨_, rfl⟩; obtain ⟨c, hc⟩ : ∃ c, c = f.cmp := ⟨_, rfl⟩; obtain ⟨x, hx⟩ : ∃ x, x = f.num := ⟨_, rfl⟩; obtain ⟨s, hs⟩ : ∃ s, s = f.name := ⟨_, rfl⟩; have HX : Hid (f.op = o /\ f.cmp = c /\ f.num = x /\ f.name = s) := ⟨ho.symm, hc.symm, hx.symm, hs.symm⟩; simp only [fobj, fval] at HO hW1 ⊢; rw [<- ho, <- hc, <- hx, <- hs] at HO hW1 ⊢; rw [<- hs] at HL; clear ho hc hx hs; go_enter Tryz.func50, Tryz.ntmps50
 by_cases h3 : o = 3
 ·subst h3; have ht := formed_test HX.out.1; rw [HX.out.2.1, HX.out.2.2.2, <- HN.out] at ht; have HT := Lib.hid ht; clear ht; by_cases hN0 : N = 0
  ·subst hN0; by_cases h1 : 1 <= c
   ·by_cases h6 : c <= 6
    ·go_wp2_with fail
     rw [<- hW1, <- hbf]; clear hW1 hbf; go_at_call 84
     refine (identF_c s (fun _ => idxAny) W1 HL.out).mono ?_; rintro e W2 ⟨rfl, hb⟩; rw [identB_name]; have HO2 := Lib.hid (HO.out.below hb); clear hb HO; have HO := HO2; clear HO2; obtain ⟨b, hb⟩ : ∃ b, b = nameB s := ⟨_, rfl⟩; rw [<- hb]; have HB := Lib.hid hb; clear hb; cases b
     ·have HE : Hid (formedB f = false) := by show _ = _; rw [HT.out, <- HB.out]; simp
      go_wp2_with fail
      go_ret
      exact ⟨by rw [HE.out]; rfl, HO.out.base⟩
     ·have HE : Hid (formedB f = !keyB s) := by show _ = _; rw [HT.out, <- HB.out, decide_eq_true h1, decide_eq_true h6]; simp
      obtain ⟨hbf, -, cb0, cb1, cb2, cb3, cb4⟩ := bx5 HO.out.blk; go_wp2_with fail
      go_at_call 67
      refine (key_c s W2).mono ?_; rintro e W3 ⟨rfl, hb⟩; have HB3 := Lib.hid (HO.out.base.trans (hb.mono HO.out.base.size)); clear hb HO cb0 cb1 cb2 cb3 cb4 hbf; obtain ⟨b, hb⟩ : ∃ b, b = keyB s := ⟨_, rfl⟩; rw [<- hb] at HE ⊢; clear hb; go_wp2_with fail
      go_ret
      exact ⟨by rw [HE.out]; rfl, HB3.out⟩
    ·have HE : Hid (formedB f = false) := by show _ = _; rw [HT.out, decide_eq_false h6]; simp
     have h6' : ¬ c <= 6 := h6; clear hW1 hbf; go_wp2_with fail
     go_ret
     exact ⟨by rw [HE.out]; rfl, (Below.refl _ _).alloc (Nat.le_refl _) _⟩
   ·have HE : Hid (formedB f = false) := by show _ = _; rw [HT.out, decide_eq_false h1]; simp
    clear hW1 hbf; go_wp2_with fail
    go_ret
    exact ⟨by rw [HE.out]; rfl, (Below.refl _ _).alloc (Nat.le_refl _) _⟩
  ·have HE : Hid (formedB f = false) := by show _ = _; rw [HT.out, decide_eq_false hN0]; rfl
   have hN1 : ((N : Int) == 0) = false := by simp; omega
   clear hN0; clear hW1 hbf; go_wp2_with fail
   go_ret
   exact ⟨by rw [HE.out]; rfl, (Below.refl _ _).alloc (Nat.le_refl _) _⟩
 ·have h3' : (o == 3) = false := by simpa using h3
  by_cases hb : s ≠ [] ∨ c ≠ 0 ∨ x ≠ 0
  ·have HE : Hid (formedB f = false) := by
    show _ = _; exact formed_bare (by rw [HX.out.1]; exact h3) (by rw [HX.out.2.1, HX.out.2.2.1, HX.out.2.2.2]; exact hb)
   by_cases hs0 : s = []
   ·subst hs0; by_cases hc0 : c = 0
    ·subst hc0; have hx0 : (x == 0) = false := by simpa using hb
     clear hb; clear hW1 hbf; go_wp2_with fail
     go_ret
     exact ⟨by rw [HE.out]; rfl, (Below.refl _ _).alloc (Nat.le_refl _) _⟩
    ·have hc0' : (c == 0) = false := by simpa using hc0
     clear hb hc0; clear hW1 hbf; go_wp2_with fail
     go_ret
     exact ⟨by rw [HE.out]; rfl, (Below.refl _ _).alloc (Nat.le_refl _) _⟩
   ·have hs1 : (s == []) = false := by simpa using hs0
    have hs2 : s.isEmpty = false := by simpa using hs0
    clear hb; clear hW1 hbf; go_wp2_with fail
    go_ret
    exact ⟨by rw [HE.out]; rfl, (Below.refl _ _).alloc (Nat.le_refl _) _⟩
  ·have hf := formed_rest (f := f) (by rw [HX.out.1]; exact h3) (by rw [HX.out.2.1, HX.out.2.2.1, HX.out.2.2.2]; exact hb); obtain ⟨rfl, rfl, rfl⟩ : s = [] /\ c = 0 /\ x = 0 := by
    refine ⟨?_, ?_, ?_⟩
    ·exact Decidable.byContradiction fun h => hb (.inl h)
    ·exact Decidable.byContradiction fun h => hb (.inr (.inl h))
    ·exact Decidable.byContradiction fun h => hb (.inr (.inr h))
   rw [HX.out.1, <- HN.out] at hf; have HFm := Lib.hid hf; clear hf hb; by_cases h1 : o = 1
   ·subst h1; have HE : Hid (formedB f = decide (N = 0)) := by show _ = _; rw [HFm.out, if_pos (.inl rfl)]
    clear hW1 hbf; go_wp2_with fail
    go_ret
    exact ⟨congrArg (fun b => Ending.returned (Value.bool b)) (show ((N : Int) == 0) = formedB f by rw [HE.out]; exact n_eq0 _), (Below.refl _ _).alloc (Nat.le_refl _) _⟩
   have h1' : (o == 1) = false := by simpa using h1
   by_cases h2 : o = 2
   ·subst h2; have HE : Hid (formedB f = decide (N = 0)) := by show _ = _; rw [HFm.out, if_pos (.inr rfl)]
    clear hW1 hbf; go_wp2_with fail
    go_ret
    exact ⟨congrArg (fun b => Ending.returned (Value.bool b)) (show ((N : Int) == 0) = formedB f by rw [HE.out]; exact n_eq0 _), (Below.refl _ _).alloc (Nat.le_refl _) _⟩
   have h2' : (o == 2) = false := by simpa using h2
   by_cases h4 : o = 4
   ·subst h4; have HE : Hid (formedB f = decide (N = 1)) := by show _ = _; rw [HFm.out]; rfl
    clear hW1 hbf; go_wp2_with fail
    go_ret
    exact ⟨congrArg (fun b => Ending.returned (Value.bool b)) (show ((N : Int) == 1) = formedB f by rw [HE.out]; exact n_eq1 _), (Below.refl _ _).alloc (Nat.le_refl _) _⟩
   have h4' : (o == 4) = false := by simpa using h4
   by_cases h5 : o = 5
   ·subst h5; have HE : Hid (formedB f = decide (2 <= N)) := by show _ = _; rw [HFm.out]; simp
    clear hW1 hbf; go_wp2_with fail
    go_ret
    exact ⟨congrArg (fun b => Ending.returned (Value.bool b)) (show (decide ((2 : Int) <= (N : Int))) = formedB f by rw [HE.out]; exact n_le2 _), (Below.refl _ _).alloc (Nat.le_refl _) _⟩
   have h5' : (o == 5) = false := by simpa using h5
   by_cases h6 : o = 6
   ·subst h6; have HE : Hid (formedB f = decide (2 <= N)) := by show _ = _; rw [HFm.out]; simp
    clear hW1 hbf; go_wp2_with fail
    go_ret
    exact ⟨congrArg (fun b => Ending.returned (Value.bool b)) (show (decide ((2 : Int) <= (N : Int))) = formedB f by rw [HE.out]; exact n_le2 _), (Below.refl _ _).alloc (Nat.le_refl _) _⟩
   have h6' : (o == 6) = false := by simpa using h6
   have HE : Hid (formedB f = false) := by show _ = _; rw [HFm.out, if_neg (by omega), if_neg h4]; exact decide_eq_false (by omega)
   clear hW1 hbf; go_wp2_with fail
   go_ret
   exact ⟨by rw [HE.out]; rfl, (Below.refl _ _).alloc (Nat.le_refl _) _⟩
end
end Go.Proofs.YtoeknmkephnekaaGreatDoor
namespace Go.Proofs.YtoeknmkephnekaaGreatDoor
open Go.RowKit Go.Cz Go.Cz.Lx Go.Cz.Fo
attribute [local go_sem] bs_size bs_extract bs_append bs_toList
attribute [local irreducible] cList cPlan
theorem short_name {n : Nat} {f : Fm} (h : short n f = true) : f.name.length <= n := by rw [short_kids, Bool.and_eq_true, decide_eq_true_eq] at h; exact h.2
theorem short_kid {n : Nat} {f k : Fm} (h : short n f = true) (hk : k ∈ f.kids) : short n k = true := by rw [short_kids, Bool.and_eq_true] at h; exact short_mem h.1 hk
theorem firsts_take {look : Fm -> Nat} : ∀ {ks : List Fm} {j : Nat} {k : Fm}, ks[j]? = some k -> firsts look (ks.take (j + 1)) = if firsts look (ks.take j) ≠ 0 then firsts look (ks.take j) else firstF look k
 | [], j, k, h => by simp at h
 | a :: r, 0, k, h => by
  simp at h; subst h
  simp [firsts]
  intro h; exact h.symm
 | a :: r, j + 1, k, h => by
  have := firsts_take (look := look) (ks := r) (j := j) (k := k) (by simpa using h); rw [List.take_succ_cons, List.take_succ_cons, firsts, firsts, this]; by_cases h1 : firstF look a = 0
  ·simp [h1]
  ·simp [h1]
theorem firsts_stop {look : Fm -> Nat} : ∀ {ks : List Fm} {j : Nat}, firsts look (ks.take j) ≠ 0 -> firsts look ks = firsts look (ks.take j)
 | [], j, h => by simp
 | a :: r, 0, h => by simp [firsts] at h
 | a :: r, j + 1, h => by
  rw [List.take_succ_cons, firsts] at h ⊢; rw [firsts]; by_cases h1 : firstF look a = 0
  ·rw [if_neg (by simp [h1])] at h ⊢; rw [if_neg (by simp [h1])]; exact firsts_stop h
  ·rw [if_pos h1, if_pos h1]
section
variable {p : Nat -> Prop}
set_option maxHeartbeats 2000000 in
theorem firstC_c (w0 : World) (look : Fm -> Nat) (lim : Nat) (bd : Nat) (HL : ∀ (q : Fm) (qv : Value) (W : World), IsFm p w0 q qv -> short lim q = true -> Below w0.heap.size w0 W -> Calls Tryz.prog 49 #[fval q qv, .pointer (some ⟨bd, 0, none⟩)] W fun e w' => e = .returned (.int .i64 (look q : Nat)) /\ Below W.heap.size W w')
  (f : Fm) : ∀ (w : World) (kv : Value), Below w0.heap.size w0 w -> IsFm p w0 f kv -> short lim f = true -> size f <= 900000 ->
  Calls Tryz.prog 48 #[fval f kv, .func (.func 49) #[] #[.pointer (some ⟨bd, 0, none⟩)]] w (fun e w' => e = .returned (.int .i64 (firstF look f : Nat)) /\ Below w.heap.size w w') := by
 have HLH := Lib.hid HL; clear HL; refine Fm.induct (P := fun f => ∀ (w : World) (kv : Value), Below w0.heap.size w0 w -> IsFm p w0 f kv -> short lim f = true -> size f <= 900000 ->
  Calls Tryz.prog 48 #[fval f kv, .func (.func 49) #[] #[.pointer (some ⟨bd, 0, none⟩)]] w (fun e w' => e = .returned (.int .i64 (firstF look f : Nat)) /\ Below w.heap.size w w')) ?_ f
 clear f; intro f ih w kv hw hf hs hz; have HI := Lib.hid ih; have HS := Lib.hid hs; have HZ := Lib.hid hz; have HW := Lib.hid hw; have hN9 := length_sizes f.kids; rw [size_kids] at hz; have HF0 := Lib.hid hf; obtain ⟨y, m, rfl⟩ := hf.form; obtain ⟨N, hN⟩ : ∃ N, N = f.kids.length := ⟨_, rfl⟩; have HN := Lib.hid hN; rw [<- hN] at hf ⊢; have HF := Lib.hid hf; clear hN hf; obtain ⟨W1, hW1⟩ : ∃ W1, W1 = w.alloc (fobj f (.slice y N m)) := ⟨_, rfl⟩; obtain ⟨bf, hbf⟩ : ∃ bf, bf = w.heap.size := ⟨_, rfl⟩; have HO : Hid (Owns w W1 [blk bf (fobj f (.slice y N m))]) := by
  rw [hW1, hbf]; exact Lib.hid ((Owns.start w).box _)
 have hN9 : N <= 900000 := by have := HN.out; omega
 clear ih hs hz hw; go_enter Tryz.func48, Tryz.ntmps48
 go_wp2_with fail
 rw [<- hW1, <- hbf]; clear hW1 hbf; refine (HLH.out f _ W1 HF.out HS.out (HW.out.trans (HO.out.base.mono HW.out.size))).mono ?_; rintro e W2 ⟨rfl, hb⟩; replace HO := Lib.hid (HO.out.below hb); clear hb; obtain ⟨E, hE⟩ : ∃ E, E = look f := ⟨_, rfl⟩; rw [<- hE]; have HE := Lib.hid hE; clear hE; obtain ⟨hbf, -, cb0, cb1, cb2, cb3, cb4⟩ := bx5 HO.out.blk; go_wp2_with fail
 clear cb0 cb1 cb2 cb3 cb4 hbf; have H0 : Hid ((if E ≠ 0 then E else firsts look (f.kids.take 0)) = E) := by show _ = _; split <;> simp_all [firsts]
 go_loopg [5, 14] N (fun gk e i wr => ∃ k c : Nat, gk = N - k /\ k <= N /\ i = .int .i64 (k : Int) /\ e = .int .i64 (c : Int) /\ Hid ((if E ≠ 0 then E else firsts look (f.kids.take k)) = c) /\ Hid (Owns w wr [blk bf (fobj f (.slice y N m))]))
 case atStart => exact ⟨0, E, rfl, Nat.zero_le _, rfl, rfl, H0, HO⟩
 case round =>
  rename_i J1 K1 hJ1 hK1; clear HO H0; obtain ⟨k, c, rfl, hk, rfl, rfl, HC, HO⟩ := hrel; have HWr := Lib.hid (HW.out.trans (HO.out.base.mono HW.out.size)); by_cases hlt : k < N
  ·by_cases hc : c = 0
   ·subst hc; obtain ⟨q, hq⟩ : ∃ q, f.kids[k]? = some q := ⟨_, List.getElem?_eq_getElem (by rw [<- HN.out]; exact hlt)⟩; obtain ⟨g, off, kv, rfl, hg, hkv, c0, c1, c2, c3, c4⟩ := HF.out.old HWr.out hq; obtain ⟨y2, m2, rfl⟩ := hkv.form; have HQ := Lib.hid hq; have HK := Lib.hid hkv; clear hq hkv; obtain ⟨N2, hN2⟩ : ∃ N2, N2 = q.kids.length := ⟨_, rfl⟩; rw [<- hN2] at c4 HK; clear hN2; have HLt := Lib.hid hlt; obtain ⟨W4, hW4⟩ : ∃ W4, W4 = wr.alloc (fobj q (.slice y2 N2 m2)) := ⟨_, rfl⟩; have HO4 : Hid (Owns w W4 [blk bf (fobj f (.slice (some ⟨g, off, none⟩) N m))]) := by
     rw [hW4]; exact Lib.hid (HO.out.alloc _)
    go_wp2_with fail
    rw [<- hW4]; clear hW4 c0 c1 c2 c3 c4 HO; go_at_call 48
    have hm := List.mem_of_getElem? HQ.out; refine (HI.out q hm W4 _ (HW.out.trans (HO4.out.base.mono HW.out.size)) HK.out (short_kid HS.out hm) (by have := HZ.out; rw [size_kids] at this; have := size_mem hm; omega)).mono ?_; rintro e W5 ⟨rfl, hb⟩; have HO5 := Lib.hid (HO4.out.below hb); obtain ⟨x, hx⟩ : ∃ x, x = firstF look q := ⟨_, rfl⟩; rw [<- hx]; have HC2 : Hid ((if E ≠ 0 then E else firsts look (f.kids.take (k + 1))) = x) := by
     show _ = _; have h := HC.out; rw [firsts_take HQ.out]; by_cases hE : E = 0
     ·subst hE; simp only [ne_eq, not_true_eq_false, if_false] at h ⊢; rw [h]
      simpa using hx.symm
     ·rw [if_pos hE] at h; exact absurd h hE
    clear hx hb HO4 HC hm; go_wp2_with fail
    go_roundg (N - (k + 1))
    case measure => omega
    case rel => exact ⟨k + 1, x, rfl, by omega, by go_num, rfl, HC2, HO5⟩
   ·have hc' : ((c : Int) != 0) = true := by simpa using hc
    have hc2 : ¬ (c : Int) = 0 := by omega
    obtain ⟨q, hq⟩ : ∃ q, f.kids[k]? = some q := ⟨_, List.getElem?_eq_getElem (by rw [<- HN.out]; exact hlt)⟩; obtain ⟨g, off, kv, rfl, hg, hkv, c0, c1, c2, c3, c4⟩ := HF.out.old HWr.out hq; obtain ⟨y2, m2, rfl⟩ := hkv.form; clear hkv; have HE2 : Hid (firstF look f = c) := by
     show _ = _; rw [firstF_eq, <- HE.out]; have h := HC.out; by_cases hE : E = 0
     ·subst hE; simp only [ne_eq, not_true_eq_false, if_false] at h ⊢; rw [firsts_stop (j := k) (by rw [h]; exact hc), h]
     ·rw [if_pos hE] at h ⊢; exact h
    have HO2 : Hid (Below w.heap.size w (wr.alloc (fobj q (.slice y2 q.kids.length m2)))) := Lib.hid (HO.out.alloc _).base; clear hq hJ1 hK1 hc HO HWr; go_wp2_with fail
    go_ret
    exact ⟨by rw [HE2.out]; rfl, HO2.out⟩
  ·obtain rfl : k = N := by omega
   have HE2 : Hid (firstF look f = c) := by
    show _ = _; rw [firstF_eq, <- HE.out]; have h := HC.out; rw [HN.out, List.take_length] at h; exact h
   clear hJ1 hK1 hlt; go_wp2_with fail
   go_ret
   exact ⟨by rw [HE2.out]; rfl, HO.out.base⟩
set_option maxHeartbeats 2000000 in
theorem firstT_c (w0 : World) (look : Fm -> Nat) (lim : Nat)  (HL : ∀ (q : Fm) (qv : Value) (W : World), IsFm p w0 q qv -> short lim q = true -> Below w0.heap.size w0 W -> Calls Tryz.prog 66 #[fval q qv] W fun e w' => e = .returned (.int .i64 (look q : Nat)) /\ Below W.heap.size W w')
  (f : Fm) : ∀ (w : World) (kv : Value), Below w0.heap.size w0 w -> IsFm p w0 f kv -> short lim f = true -> size f <= 900000 ->
  Calls Tryz.prog 48 #[fval f kv, .func (.func 66) #[] #[]] w (fun e w' => e = .returned (.int .i64 (firstF look f : Nat)) /\ Below w.heap.size w w') := by
 have HLH := Lib.hid HL; clear HL; refine Fm.induct (P := fun f => ∀ (w : World) (kv : Value), Below w0.heap.size w0 w -> IsFm p w0 f kv -> short lim f = true -> size f <= 900000 ->
  Calls Tryz.prog 48 #[fval f kv, .func (.func 66) #[] #[]] w (fun e w' => e = .returned (.int .i64 (firstF look f : Nat)) /\ Below w.heap.size w w')) ?_ f
 clear f; intro f ih w kv hw hf hs hz; have HI := Lib.hid ih; have HS := Lib.hid hs; have HZ := Lib.hid hz; have HW := Lib.hid hw; have hN9 := length_sizes f.kids; rw [size_kids] at hz; have HF0 := Lib.hid hf; obtain ⟨y, m, rfl⟩ := hf.form; obtain ⟨N, hN⟩ : ∃ N, N = f.kids.length := ⟨_, rfl⟩; have HN := Lib.hid hN; rw [<- hN] at hf ⊢; have HF := Lib.hid hf; clear hN hf; obtain ⟨W1, hW1⟩ : ∃ W1, W1 = w.alloc (fobj f (.slice y N m)) := ⟨_, rfl⟩; obtain ⟨bf, hbf⟩ : ∃ bf, bf = w.heap.size := ⟨_, rfl⟩; have HO : Hid (Owns w W1 [blk bf (fobj f (.slice y N m))]) := by
  rw [hW1, hbf]; exact Lib.hid ((Owns.start w).box _)
 have hN9 : N <= 900000 := by have := HN.out; omega
 clear ih hs hz hw; go_enter Tryz.func48, Tryz.ntmps48
 go_wp2_with fail
 rw [<- hW1, <- hbf]; clear hW1 hbf; refine (HLH.out f _ W1 HF.out HS.out (HW.out.trans (HO.out.base.mono HW.out.size))).mono ?_; rintro e W2 ⟨rfl, hb⟩; replace HO := Lib.hid (HO.out.below hb); clear hb; obtain ⟨E, hE⟩ : ∃ E, E = look f := ⟨_, rfl⟩; rw [<- hE]; have HE := Lib.hid hE; clear hE; obtain ⟨hbf, -, cb0, cb1, cb2, cb3, cb4⟩ := bx5 HO.out.blk; go_wp2_with fail
 clear cb0 cb1 cb2 cb3 cb4 hbf; have H0 : Hid ((if E ≠ 0 then E else firsts look (f.kids.take 0)) = E) := by show _ = _; split <;> simp_all [firsts]
 go_loopg [5, 14] N (fun gk e i wr => ∃ k c : Nat, gk = N - k /\ k <= N /\ i = .int .i64 (k : Int) /\ e = .int .i64 (c : Int) /\ Hid ((if E ≠ 0 then E else firsts look (f.kids.take k)) = c) /\ Hid (Owns w wr [blk bf (fobj f (.slice y N m))]))
 case atStart => exact ⟨0, E, rfl, Nat.zero_le _, rfl, rfl, H0, HO⟩
 case round =>
  rename_i J1 K1 hJ1 hK1; clear HO H0; obtain ⟨k, c, rfl, hk, rfl, rfl, HC, HO⟩ := hrel; have HWr := Lib.hid (HW.out.trans (HO.out.base.mono HW.out.size)); by_cases hlt : k < N
  ·by_cases hc : c = 0
   ·subst hc; obtain ⟨q, hq⟩ : ∃ q, f.kids[k]? = some q := ⟨_, List.getElem?_eq_getElem (by rw [<- HN.out]; exact hlt)⟩; obtain ⟨g, off, kv, rfl, hg, hkv, c0, c1, c2, c3, c4⟩ := HF.out.old HWr.out hq; obtain ⟨y2, m2, rfl⟩ := hkv.form; have HQ := Lib.hid hq; have HK := Lib.hid hkv; clear hq hkv; obtain ⟨N2, hN2⟩ : ∃ N2, N2 = q.kids.length := ⟨_, rfl⟩; rw [<- hN2] at c4 HK; clear hN2; have HLt := Lib.hid hlt; obtain ⟨W4, hW4⟩ : ∃ W4, W4 = wr.alloc (fobj q (.slice y2 N2 m2)) := ⟨_, rfl⟩; have HO4 : Hid (Owns w W4 [blk bf (fobj f (.slice (some ⟨g, off, none⟩) N m))]) := by
     rw [hW4]; exact Lib.hid (HO.out.alloc _)
    go_wp2_with fail
    rw [<- hW4]; clear hW4 c0 c1 c2 c3 c4 HO; go_at_call 48
    have hm := List.mem_of_getElem? HQ.out; refine (HI.out q hm W4 _ (HW.out.trans (HO4.out.base.mono HW.out.size)) HK.out (short_kid HS.out hm) (by have := HZ.out; rw [size_kids] at this; have := size_mem hm; omega)).mono ?_; rintro e W5 ⟨rfl, hb⟩; have HO5 := Lib.hid (HO4.out.below hb); obtain ⟨x, hx⟩ : ∃ x, x = firstF look q := ⟨_, rfl⟩; rw [<- hx]; have HC2 : Hid ((if E ≠ 0 then E else firsts look (f.kids.take (k + 1))) = x) := by
     show _ = _; have h := HC.out; rw [firsts_take HQ.out]; by_cases hE : E = 0
     ·subst hE; simp only [ne_eq, not_true_eq_false, if_false] at h ⊢; rw [h]
      simpa using hx.symm
     ·rw [if_pos hE] at h; exact absurd h hE
    clear hx hb HO4 HC hm; go_wp2_with fail
    go_roundg (N - (k + 1))
    case measure => omega
    case rel => exact ⟨k + 1, x, rfl, by omega, by go_num, rfl, HC2, HO5⟩
   ·have hc' : ((c : Int) != 0) = true := by simpa using hc
    have hc2 : ¬ (c : Int) = 0 := by omega
    obtain ⟨q, hq⟩ : ∃ q, f.kids[k]? = some q := ⟨_, List.getElem?_eq_getElem (by rw [<- HN.out]; exact hlt)⟩; obtain ⟨g, off, kv, rfl, hg, hkv, c0, c1, c2, c3, c4⟩ := HF.out.old HWr.out hq; obtain ⟨y2, m2, rfl⟩ := hkv.form; clear hkv; have HE2 : Hid (firstF look f = c) := by
     show _ = _; rw [firstF_eq, <- HE.out]; have h := HC.out; by_cases hE : E = 0
     ·subst hE; simp only [ne_eq, not_true_eq_false, if_false] at h ⊢; rw [firsts_stop (j := k) (by rw [h]; exact hc), h]
     ·rw [if_pos hE] at h ⊢; exact h
    have HO2 : Hid (Below w.heap.size w (wr.alloc (fobj q (.slice y2 q.kids.length m2)))) := Lib.hid (HO.out.alloc _).base; clear hq hJ1 hK1 hc HO HWr; go_wp2_with fail
    go_ret
    exact ⟨by rw [HE2.out]; rfl, HO2.out⟩
  ·obtain rfl : k = N := by omega
   have HE2 : Hid (firstF look f = c) := by
    show _ = _; rw [firstF_eq, <- HE.out]; have h := HC.out; rw [HN.out, List.take_length] at h; exact h
   clear hJ1 hK1 hlt; go_wp2_with fail
   go_ret
   exact ⟨by rw [HE2.out]; rfl, HO.out.base⟩
theorem Check1_c (w0 : World) (bd : Nat) (d : List Fact) (v : Value) (hd : IsD w0 d v) (hn : d.length <= 1000000) (hx : ∀ x ∈ d, x.name.length <= 140737488355328) (hb : bd < w0.heap.size) (hc : w0.cell? ⟨bd, 0, none⟩ = some v) (f : Fm) (kv : Value) (w : World) (hf : IsFm p w0 f kv) {lim : Nat} (hlim : lim <= 140737488355328) (hs : short lim f = true) (hw : Below w0.heap.size w0 w) :
  Calls Tryz.prog 49 #[fval f kv, .pointer (some ⟨bd, 0, none⟩)] w (fun e w' => e = .returned (.int .i64 (nodeE d f : Nat)) /\ Below w.heap.size w w') := by
 have HS := Lib.hid hs; have HLim := Lib.hid hlim; clear hlim; have HW := Lib.hid hw; have HD := Lib.hid hd; have HX := Lib.hid hx; have HDn := Lib.hid hn; have HB := Lib.hid hb; have HC := Lib.hid hc; clear hs hw hd hx hn hb hc; obtain ⟨y, m, rfl⟩ := hf.form; obtain ⟨N, hN⟩ : ∃ N, N = f.kids.length := ⟨_, rfl⟩; have HN := Lib.hid hN; rw [<- hN] at hf ⊢; have HF := Lib.hid hf; clear hN hf; obtain ⟨W1, hW1⟩ : ∃ W1, W1 = w.alloc (fobj f (.slice y N m)) := ⟨_, rfl⟩; obtain ⟨bf, hbf⟩ : ∃ bf, bf = w.heap.size := ⟨_, rfl⟩; have HO : Hid (Owns w W1 [blk bf (fobj f (.slice y N m))]) := by
  rw [hW1, hbf]; exact Lib.hid ((Owns.start w).box _)
 have HE : Hid (nodeE d f = if formedB f = false then 1 else if f.op ≠ 3 then 0 else if f.num < 0 ∨ 1000000 < f.num then 10 else if idxD f.name d < 0 then 7 else 0) := rfl; go_enter Tryz.func49, Tryz.ntmps49
 go_wp2_with fail
 rw [<- hW1, <- hbf]; clear hW1 hbf; go_at_call 50
 refine (formed_c f W1 _ (HF.out.later (HW.out.trans (HO.out.base.mono HW.out.size))) (Nat.le_trans (short_name HS.out) HLim.out)).mono ?_; rintro e W2 ⟨rfl, hb⟩; replace HO := Lib.hid (HO.out.below hb); clear hb; obtain ⟨F, hF⟩ : ∃ F, F = formedB f := ⟨_, rfl⟩; rw [<- hF] at HE ⊢; clear hF; cases F
 ·rw [if_pos rfl] at HE; go_wp2_with fail
  go_ret
  exact ⟨by rw [HE.out]; rfl, HO.out.base⟩
 rw [if_neg (by simp)] at HE; obtain ⟨hbf, -, cb0, cb1, cb2, cb3, cb4⟩ := bx5 HO.out.blk; by_cases h3 : f.op = 3
 ·have h3' : (f.op != 3) = false := by simpa using h3
  rw [if_neg (by simpa using h3)] at HE; by_cases hl : f.num < 0
  ·rw [if_pos (.inl hl)] at HE; go_wp2_with fail
   go_ret
   exact ⟨by rw [HE.out]; rfl, HO.out.base⟩
  by_cases hh : 1000000 < f.num
  ·rw [if_pos (.inr hh)] at HE; go_wp2_with fail
   go_ret
   exact ⟨by rw [HE.out]; rfl, HO.out.base⟩
  rw [if_neg (by omega)] at HE; obtain ⟨yd, md, hv⟩ := HD.out.form; subst hv; have HWd := Lib.hid (HW.out.trans (HO.out.base.mono HW.out.size)); have hbd : bd < W2.heap.size := Nat.lt_of_lt_of_le HB.out HWd.out.size; have cbd : W2.cell? ⟨bd, 0, none⟩ = some (.slice yd d.length md) := by rw [HWd.out.cell (p := ⟨bd, 0, none⟩) HB.out]; exact HC.out
  obtain ⟨M, hM⟩ : ∃ M, M = d.length := ⟨_, rfl⟩; rw [<- hM] at cbd HD; clear hM HC; go_wp2_with fail
  go_at_call 51
  refine (Index_c d f.name _ W2 (HD.out.later HWd.out) HX.out (Nat.le_trans (short_name HS.out) HLim.out) HDn.out).mono ?_; rintro e W3 ⟨rfl, hb⟩; replace HO := Lib.hid (HO.out.below hb); obtain ⟨u, hu⟩ : ∃ u, u = idxD f.name d := ⟨_, rfl⟩; rw [<- hu] at HE ⊢; clear hu hb cb0 cb1 cb2 cb3 cb4 hbf cbd hbd; by_cases hu : u < 0
  ·rw [if_pos hu] at HE; go_wp2_with fail
   go_ret
   exact ⟨by rw [HE.out]; rfl, HO.out.base⟩
  ·rw [if_neg hu] at HE; go_wp2_with fail
   go_ret
   exact ⟨by rw [HE.out]; rfl, HO.out.base⟩
 ·have h3' : (f.op != 3) = true := by simpa using h3
  rw [if_pos h3] at HE; go_wp2_with fail
  go_ret
  exact ⟨by rw [HE.out]; rfl, HO.out.base⟩
theorem Check_c (f : Fm) (w : World) (kv : Value) (d : List Fact) (v : Value) (hf : IsFm p w f kv) (hd : IsD w d v) (hn : d.length <= 1000000) (hx : ∀ x ∈ d, x.name.length <= 140737488355328) {lim : Nat} (hlim : lim <= 140737488355328) (hs : short lim f = true) (hz : size f <= 900000) :
  Calls Tryz.prog 19 #[fval f kv, .agg #[v]] w (fun e w' => e = .returned (.int .i64 (checkF d f : Nat)) /\ Below w.heap.size w w') := by
 have HS := Lib.hid hs; have HLim := Lib.hid hlim; clear hlim; have HD := Lib.hid hd; have HX := Lib.hid hx; have HDn := Lib.hid hn; have HZ := Lib.hid hz; obtain ⟨yd, md, hv⟩ := HD.out.form; subst hv; obtain ⟨M, hM⟩ : ∃ M, M = d.length := ⟨_, rfl⟩; rw [<- hM] at HD ⊢; clear hs hd hx hn hz hM; obtain ⟨y, m, rfl⟩ := hf.form; obtain ⟨N, hN⟩ : ∃ N, N = f.kids.length := ⟨_, rfl⟩; have HN := Lib.hid hN; rw [<- hN] at hf ⊢; have HF := Lib.hid hf; clear hN hf; obtain ⟨W1, hW1⟩ : ∃ W1, W1 = (w.alloc (fobj f (.slice y N m))).alloc (.cells #[.slice yd M md] 45) := ⟨_, rfl⟩; obtain ⟨bf, hbf⟩ : ∃ bf, bf = w.heap.size := ⟨_, rfl⟩; obtain ⟨bd, hbd⟩ : ∃ bd, bd = w.heap.size + 1 := ⟨_, rfl⟩; have HO : Hid (Owns w W1 [blk bd (.cells #[.slice yd M md] 45 (0, 0)), blk bf (fobj f (.slice y N m))]) := by
  rw [hW1, hbf, hbd]; have := ((Owns.start w).box (fobj f (.slice y N m))).box (.cells #[.slice yd M md] 45 (0, 0)); rw [World.size_alloc] at this; exact Lib.hid this
 have HE : Hid (checkF d f = if largeB f = true then 2 else firstF (nodeE d) f) := rfl; go_enter Tryz.func19, Tryz.ntmps19
 go_wp2_with fail
 rw [<- hbd, <- hW1]; clear hW1; go_at_call 47
 refine (large_c f W1 _ (HF.out.later HO.out.base) HZ.out).mono ?_; rintro e W2 ⟨rfl, hb⟩; replace HO := Lib.hid (HO.out.below hb); clear hb; obtain ⟨L, hL⟩ : ∃ L, L = largeB f := ⟨_, rfl⟩; rw [<- hL] at HE ⊢; clear hL; cases L
 ·rw [if_neg (by simp)] at HE; obtain ⟨bk, -⟩ := HO.out.pop.blk; have hbf' := lt_of_block bk; have cb0 := cell_of_heap bk (i := 0); have cb1 := cell_of_heap bk (i := 1); have cb2 := cell_of_heap bk (i := 2); have cb3 := cell_of_heap bk (i := 3); have cb4 := cell_of_heap bk (i := 4); simp only [List.getElem?_toArray, List.getElem?_cons_succ, List.getElem?_cons_zero] at cb0 cb1 cb2 cb3 cb4; clear bk; rw [<- hbf]; clear hbf; go_wp2_with fail
  clear cb0 cb1 cb2 cb3 cb4 hbf'; go_at_call 48
  obtain ⟨bk, -⟩ := HO.out.blk; have hlt := lt_of_block bk; have hcl : W2.cell? ⟨bd, 0, none⟩ = some (.slice yd M md) := by rw [cell_of_heap bk]; rfl
  have hd2 := HD.out.later HO.out.base; have hf2 := HF.out.later HO.out.base; have hl := firstC_c (p := p) W2 (nodeE d) lim bd; have hl2 := hl (fun q qv W hq hs hW => Check1_c W2 bd d _ hd2 HDn.out HX.out hlt hcl q qv W hq HLim.out hs hW); have hl3 := hl2 f W2 (.slice y N m) (Below.refl _ _) hf2 HS.out HZ.out
  try rw [<- hbd]
  refine hl3.mono ?_; rintro e W3 ⟨rfl, hb⟩; replace HO := Lib.hid (HO.out.below hb); clear hb bk hlt hcl hbd; go_wp2_with fail
  go_ret
  exact ⟨by rw [HE.out]; rfl, HO.out.base⟩
 ·rw [if_pos rfl] at HE; clear hbd hbf; go_wp2_with fail
  go_ret
  exact ⟨by rw [HE.out]; rfl, HO.out.base⟩
end
end Go.Proofs.YtoeknmkephnekaaGreatDoor
namespace Go.Proofs.YtoeknmkephnekaaGreatDoor
open Go.RowKit Go.Cz Go.Cz.Lx Go.Cz.Fo Go.Cz.Vd
open Go.Cz.Wn (datedB)
attribute [local go_sem] bs_size bs_extract bs_append bs_toList
attribute [local irreducible] cList cPlan
structure MeLen (m : Me) : Prop where
 id : m.id.length <= 140737488355328
 auth : m.auth.length <= 140737488355328
 target : m.target.length <= 140737488355328
set_option maxHeartbeats 4000000 in
theorem named_c (m : Me) (y : Option Addr) (n c : Nat) (w : World) (hl : MeLen m) : Calls Tryz.prog 26 #[mval m (.slice y n c)] w fun e w' => e = .returned (.bool (namedM m)) /\ Below w.heap.size w w' := by
 have HL := Lib.hid hl; clear hl; obtain ⟨bx, hbx⟩ : ∃ bx, bx = w.heap.size := ⟨_, rfl⟩; obtain ⟨W1, hW1⟩ : ∃ W1, W1 = w.alloc (mobj m (.slice y n c)) := ⟨_, rfl⟩; have HO : Hid (Owns w W1 [blk bx (mobj m (.slice y n c))]) := by
  rw [hW1, hbx]; exact Lib.hid ((Owns.start w).box _)
 go_enter Tryz.func26, Tryz.ntmps26
 go_wp2_with fail
 rw [<- hW1, <- hbx]; clear hW1 hbx
 (try clear hx0 c0 c1 c2 c3)
 obtain ⟨hx0, -, c0, c1, c2, c3⟩ := bx4 HO.out.blk; go_wp2_with fail
 go_at_call 69
 refine (identM_c m.id W1 HL.out.id).mono ?_; rintro e W2 ⟨rfl, hb⟩; replace HO := Lib.hid (HO.out.below hb); clear hb
 (try clear hx0 c0 c1 c2 c3)
 obtain ⟨hx0, -, c0, c1, c2, c3⟩ := bx4 HO.out.blk; obtain ⟨a, ha⟩ : ∃ q, q = nameB m.id := ⟨_, rfl⟩; rw [<- ha]; replace ha := Lib.hid ha; cases a
 ·have HE : Hid (namedM m = false) := by
   show _ = _; unfold namedM; rw [<- ha.out]; simp
  go_wp2_with fail
  all_goals (go_ret; exact ⟨by rw [HE.out]; rfl, HO.out.base⟩)
 go_wp2_with fail
 go_at_call 69
 refine (identM_c m.auth W2 HL.out.auth).mono ?_; rintro e W3 ⟨rfl, hb⟩; replace HO := Lib.hid (HO.out.below hb); clear hb
 (try clear hx0 c0 c1 c2 c3)
 obtain ⟨hx0, -, c0, c1, c2, c3⟩ := bx4 HO.out.blk; obtain ⟨b, hb⟩ : ∃ q, q = nameB m.auth := ⟨_, rfl⟩; rw [<- hb]; replace hb := Lib.hid hb; cases b
 ·have HE : Hid (namedM m = false) := by
   show _ = _; unfold namedM; rw [<- hb.out]; simp
  go_wp2_with fail
  all_goals (go_ret; exact ⟨by rw [HE.out]; rfl, HO.out.base⟩)
 by_cases k : m.kind = 1
 ·have k1 : (m.kind == 1) = true := by simpa using k
  have HE : Hid (namedM m = decide (m.target = [])) := by
   show _ = _; unfold namedM; rw [<- ha.out, <- hb.out, if_pos k]; rfl
  clear k; go_wp2_with fail
  go_ret
  exact ⟨congrArg (fun b => Ending.returned (Value.bool b)) (show List.isEmpty m.target = namedM m by rw [HE.out]; cases m.target <;> simp), HO.out.base⟩
 have k1 : (m.kind == 1) = false := by simpa using k
 clear k; by_cases k : m.kind = 2
 ·have k2 : (m.kind == 2) = true := by simpa using k
  have HK : Hid (namedM m = (nameB m.target && decide (m.target ≠ m.id))) := by
   show _ = _; unfold namedM; rw [<- ha.out, <- hb.out, k]; simp
  clear k; go_wp2_with fail
  go_at_call 69
  refine (identM_c m.target W3 HL.out.target).mono ?_; rintro e W4 ⟨rfl, hb⟩; replace HO := Lib.hid (HO.out.below hb); clear hb
  (try clear hx0 c0 c1 c2 c3)
  obtain ⟨hx0, -, c0, c1, c2, c3⟩ := bx4 HO.out.blk; obtain ⟨p, hp⟩ : ∃ q, q = nameB m.target := ⟨_, rfl⟩; rw [<- hp]; replace hp := Lib.hid hp; cases p
  ·have HE : Hid (namedM m = false) := by
    show _ = _; rw [HK.out, <- hp.out]; rfl
   go_wp2_with fail
   go_ret
   exact ⟨by rw [HE.out]; rfl, HO.out.base⟩
  go_wp2_with fail
  go_ret
  exact ⟨congrArg (fun b => Ending.returned (Value.bool b)) (show (!(m.target == m.id)) = namedM m by rw [HK.out, <- hp.out]; by_cases e : m.target = m.id <;> simp [e]), HO.out.base⟩
 have k2 : (m.kind == 2) = false := by simpa using k
 clear k; by_cases k : m.kind = 3
 ·have k3 : (m.kind == 3) = true := by simpa using k
  have HK : Hid (namedM m = (nameB m.target && decide (m.target ≠ m.auth))) := by
   show _ = _; unfold namedM; rw [<- ha.out, <- hb.out, k]; simp
  clear k; go_wp2_with fail
  go_at_call 69
  refine (identM_c m.target W3 HL.out.target).mono ?_; rintro e W4 ⟨rfl, hb⟩; replace HO := Lib.hid (HO.out.below hb); clear hb
  (try clear hx0 c0 c1 c2 c3)
  obtain ⟨hx0, -, c0, c1, c2, c3⟩ := bx4 HO.out.blk; obtain ⟨p, hp⟩ : ∃ q, q = nameB m.target := ⟨_, rfl⟩; rw [<- hp]; replace hp := Lib.hid hp; cases p
  ·have HE : Hid (namedM m = false) := by
    show _ = _; rw [HK.out, <- hp.out]; rfl
   go_wp2_with fail
   go_ret
   exact ⟨by rw [HE.out]; rfl, HO.out.base⟩
  go_wp2_with fail
  go_ret
  exact ⟨congrArg (fun b => Ending.returned (Value.bool b)) (show (!(m.target == m.auth)) = namedM m by rw [HK.out, <- hp.out]; by_cases e : m.target = m.auth <;> simp [e]), HO.out.base⟩
 have k3 : (m.kind == 3) = false := by simpa using k
 clear k; have HE : Hid (namedM m = false) := by
  show _ = _; unfold namedM; rw [if_neg (by simpa using k1), if_neg (by simpa using k2), if_neg (by simpa using k3)]; simp
 go_wp2_with fail
 go_ret
 exact ⟨by rw [HE.out]; rfl, HO.out.base⟩
set_option maxHeartbeats 4000000 in
theorem datedM_c (m : Me) (y : Option Addr) (n c : Nat) (w : World) : Calls Tryz.prog 27 #[mval m (.slice y n c)] w fun e w' => e = .returned (.bool (datedB m.kind m.fr m.un m.wi)) /\ Below w.heap.size w w' := by
 go_enter Tryz.func27, Tryz.ntmps27
 go_wp2_with fail
 all_goals go_ret
 all_goals refine ⟨congrArg (fun b => Ending.returned (Value.bool b)) ?_, (Below.refl _ _).alloc (Nat.le_refl _) _⟩
 all_goals rw [Bool.eq_iff_iff]
 all_goals simp only [datedB, Go.Cz.Wn.dayB, Bool.and_eq_true, Bool.or_eq_true, decide_eq_true_eq, beq_iff_eq, beq_eq_false_iff_ne, Bool.false_eq_true, false_iff, true_iff] at *
 all_goals omega
structure DoLen (d : List Fact) : Prop where
 len : d.length <= 1000000
 names : ∀ x ∈ d, x.name.length <= 140737488355328
structure CoLen (f : Fm) : Prop where
 names : short 140737488355328 f = true
 size : Go.Cz.Fo.size f <= 900000
set_option maxHeartbeats 4000000 in
theorem validM_c (d : List Fact) (vd : Value) (m : Me) (kv : Value) (w : World) (hd : IsD w d vd) (hf : IsFm (fun _ => True) w m.cond kv) (hD : DoLen d) (hM : MeLen m) (hC : CoLen m.cond) :
  Calls Tryz.prog 17 #[mval m kv, .agg #[vd]] w fun e w' => e = .returned (.int .i64 (validM d m : Nat)) /\ Below w.heap.size w w' := by
 have HD := Lib.hid hd; have HF := Lib.hid hf; have HDL := Lib.hid hD; have HML := Lib.hid hM; have HCL := Lib.hid hC; obtain ⟨y, c, rfl⟩ := hf.form; obtain ⟨n, hn⟩ : ∃ n, n = m.cond.kids.length := ⟨_, rfl⟩; rw [<- hn] at HF ⊢; clear hd hf hD hM hC hn; obtain ⟨bx, hbx⟩ : ∃ bx, bx = w.heap.size := ⟨_, rfl⟩; obtain ⟨by0, hby⟩ : ∃ by0, by0 = w.heap.size + 1 := ⟨_, rfl⟩; obtain ⟨W1, hW1⟩ : ∃ W1, W1 = (w.alloc (mobj m (.slice y n c))).alloc (.cells #[vd] 45) := ⟨_, rfl⟩; have HO : Hid (Owns w W1 [blk bx (mobj m (.slice y n c)), blk by0 (.cells #[vd] 45 (0, 0))]) := by
  have h := ((Owns.start w).box (mobj m (.slice y n c))).box (.cells #[vd] 45 (0, 0)); rw [World.size_alloc] at h; rw [hW1, hbx, hby]; exact Lib.hid h.swap
 go_enter Tryz.func17, Tryz.ntmps17
 go_wp2_with fail
 rw [<- hW1, <- hby, <- hbx]; clear hW1 hby hbx
 (try clear hx0 c0 c1 c2 c3 c4 c5 c6 c7 c8 c9 c10 c11)
 (try clear hy0 cd)
 obtain ⟨bk, -⟩ := HO.out.blk; obtain ⟨bd, -⟩ := HO.out.swap.blk; have hx0 := lt_of_block bk; have hy0 := lt_of_block bd; have cd : W1.cell? ⟨by0, 0, none⟩ = some vd := by rw [cell_of_heap bd]; rfl
 have c0 : W1.cell? ⟨bx, 0, none⟩ = some (.string (bs m.id)) := by rw [cell_of_heap bk]; rfl
 have c1 : W1.cell? ⟨bx, 1, none⟩ = some (.string (bs m.auth)) := by rw [cell_of_heap bk]; rfl
 have c2 : W1.cell? ⟨bx, 2, none⟩ = some (.int .i64 m.kind) := by rw [cell_of_heap bk]; rfl
 have c3 : W1.cell? ⟨bx, 3, none⟩ = some (.string (bs m.target)) := by rw [cell_of_heap bk]; rfl
 have c4 : W1.cell? ⟨bx, 4, none⟩ = some (.int .i64 m.cond.op) := by rw [cell_of_heap bk]; rfl
 have c5 : W1.cell? ⟨bx, 5, none⟩ = some (.string (bs m.cond.name)) := by rw [cell_of_heap bk]; rfl
 have c6 : W1.cell? ⟨bx, 6, none⟩ = some (.int .i64 m.cond.cmp) := by rw [cell_of_heap bk]; rfl
 have c7 : W1.cell? ⟨bx, 7, none⟩ = some (.int .i64 m.cond.num) := by rw [cell_of_heap bk]; rfl
 have c8 : W1.cell? ⟨bx, 8, none⟩ = some (.slice y n c) := by rw [cell_of_heap bk]; rfl
 have c9 : W1.cell? ⟨bx, 9, none⟩ = some (.int .i64 m.fr) := by rw [cell_of_heap bk]; rfl
 have c10 : W1.cell? ⟨bx, 10, none⟩ = some (.int .i64 m.un) := by rw [cell_of_heap bk]; rfl
 have c11 : W1.cell? ⟨bx, 11, none⟩ = some (.int .i64 m.wi) := by rw [cell_of_heap bk]; rfl
 clear bk bd; go_wp2_with fail
 go_at_call 18
 refine (factValid_c d vd W1 (HD.out.later HO.out.base) HDL.out.len HDL.out.names).mono ?_; rintro e W2 ⟨rfl, hb⟩; replace HO := Lib.hid (HO.out.below hb); clear hb
 (try clear hx0 c0 c1 c2 c3 c4 c5 c6 c7 c8 c9 c10 c11)
 (try clear hy0 cd)
 obtain ⟨bk, -⟩ := HO.out.blk; obtain ⟨bd, -⟩ := HO.out.swap.blk; have hx0 := lt_of_block bk; have hy0 := lt_of_block bd; have cd : W2.cell? ⟨by0, 0, none⟩ = some vd := by rw [cell_of_heap bd]; rfl
 have c0 : W2.cell? ⟨bx, 0, none⟩ = some (.string (bs m.id)) := by rw [cell_of_heap bk]; rfl
 have c1 : W2.cell? ⟨bx, 1, none⟩ = some (.string (bs m.auth)) := by rw [cell_of_heap bk]; rfl
 have c2 : W2.cell? ⟨bx, 2, none⟩ = some (.int .i64 m.kind) := by rw [cell_of_heap bk]; rfl
 have c3 : W2.cell? ⟨bx, 3, none⟩ = some (.string (bs m.target)) := by rw [cell_of_heap bk]; rfl
 have c4 : W2.cell? ⟨bx, 4, none⟩ = some (.int .i64 m.cond.op) := by rw [cell_of_heap bk]; rfl
 have c5 : W2.cell? ⟨bx, 5, none⟩ = some (.string (bs m.cond.name)) := by rw [cell_of_heap bk]; rfl
 have c6 : W2.cell? ⟨bx, 6, none⟩ = some (.int .i64 m.cond.cmp) := by rw [cell_of_heap bk]; rfl
 have c7 : W2.cell? ⟨bx, 7, none⟩ = some (.int .i64 m.cond.num) := by rw [cell_of_heap bk]; rfl
 have c8 : W2.cell? ⟨bx, 8, none⟩ = some (.slice y n c) := by rw [cell_of_heap bk]; rfl
 have c9 : W2.cell? ⟨bx, 9, none⟩ = some (.int .i64 m.fr) := by rw [cell_of_heap bk]; rfl
 have c10 : W2.cell? ⟨bx, 10, none⟩ = some (.int .i64 m.un) := by rw [cell_of_heap bk]; rfl
 have c11 : W2.cell? ⟨bx, 11, none⟩ = some (.int .i64 m.wi) := by rw [cell_of_heap bk]; rfl
 clear bk bd; obtain ⟨q, hq⟩ : ∃ q, q = validD d := ⟨_, rfl⟩; rw [<- hq]; have HQ := Lib.hid hq; clear hq; cases q
 ·have HE : Hid (validM d m = 1) := by
   show _ = _; unfold validM; rw [<- HQ.out]; simp
  go_wp2_with fail
  go_ret
  exact ⟨by rw [HE.out]; rfl, HO.out.base⟩
 go_wp2_with fail
 go_at_call 26
 refine (named_c m y n c W2 HML.out).mono ?_; rintro e W3 ⟨rfl, hb⟩; replace HO := Lib.hid (HO.out.below hb); clear hb
 (try clear hx0 c0 c1 c2 c3 c4 c5 c6 c7 c8 c9 c10 c11)
 (try clear hy0 cd)
 obtain ⟨bk, -⟩ := HO.out.blk; obtain ⟨bd, -⟩ := HO.out.swap.blk; have hx0 := lt_of_block bk; have hy0 := lt_of_block bd; have cd : W3.cell? ⟨by0, 0, none⟩ = some vd := by rw [cell_of_heap bd]; rfl
 have c0 : W3.cell? ⟨bx, 0, none⟩ = some (.string (bs m.id)) := by rw [cell_of_heap bk]; rfl
 have c1 : W3.cell? ⟨bx, 1, none⟩ = some (.string (bs m.auth)) := by rw [cell_of_heap bk]; rfl
 have c2 : W3.cell? ⟨bx, 2, none⟩ = some (.int .i64 m.kind) := by rw [cell_of_heap bk]; rfl
 have c3 : W3.cell? ⟨bx, 3, none⟩ = some (.string (bs m.target)) := by rw [cell_of_heap bk]; rfl
 have c4 : W3.cell? ⟨bx, 4, none⟩ = some (.int .i64 m.cond.op) := by rw [cell_of_heap bk]; rfl
 have c5 : W3.cell? ⟨bx, 5, none⟩ = some (.string (bs m.cond.name)) := by rw [cell_of_heap bk]; rfl
 have c6 : W3.cell? ⟨bx, 6, none⟩ = some (.int .i64 m.cond.cmp) := by rw [cell_of_heap bk]; rfl
 have c7 : W3.cell? ⟨bx, 7, none⟩ = some (.int .i64 m.cond.num) := by rw [cell_of_heap bk]; rfl
 have c8 : W3.cell? ⟨bx, 8, none⟩ = some (.slice y n c) := by rw [cell_of_heap bk]; rfl
 have c9 : W3.cell? ⟨bx, 9, none⟩ = some (.int .i64 m.fr) := by rw [cell_of_heap bk]; rfl
 have c10 : W3.cell? ⟨bx, 10, none⟩ = some (.int .i64 m.un) := by rw [cell_of_heap bk]; rfl
 have c11 : W3.cell? ⟨bx, 11, none⟩ = some (.int .i64 m.wi) := by rw [cell_of_heap bk]; rfl
 clear bk bd; obtain ⟨q, hq⟩ : ∃ q, q = namedM m := ⟨_, rfl⟩; rw [<- hq]; have HP := Lib.hid hq; clear hq; cases q
 ·have HE : Hid (validM d m = 1) := by
   show _ = _; unfold validM; rw [<- HQ.out, <- HP.out]; simp
  go_wp2_with fail
  go_ret
  exact ⟨by rw [HE.out]; rfl, HO.out.base⟩
 go_wp2_with fail
 go_at_call 27
 refine (datedM_c m y n c W3).mono ?_; rintro e W4 ⟨rfl, hb⟩; replace HO := Lib.hid (HO.out.below hb); clear hb
 (try clear hx0 c0 c1 c2 c3 c4 c5 c6 c7 c8 c9 c10 c11)
 (try clear hy0 cd)
 obtain ⟨bk, -⟩ := HO.out.blk; obtain ⟨bd, -⟩ := HO.out.swap.blk; have hx0 := lt_of_block bk; have hy0 := lt_of_block bd; have cd : W4.cell? ⟨by0, 0, none⟩ = some vd := by rw [cell_of_heap bd]; rfl
 have c0 : W4.cell? ⟨bx, 0, none⟩ = some (.string (bs m.id)) := by rw [cell_of_heap bk]; rfl
 have c1 : W4.cell? ⟨bx, 1, none⟩ = some (.string (bs m.auth)) := by rw [cell_of_heap bk]; rfl
 have c2 : W4.cell? ⟨bx, 2, none⟩ = some (.int .i64 m.kind) := by rw [cell_of_heap bk]; rfl
 have c3 : W4.cell? ⟨bx, 3, none⟩ = some (.string (bs m.target)) := by rw [cell_of_heap bk]; rfl
 have c4 : W4.cell? ⟨bx, 4, none⟩ = some (.int .i64 m.cond.op) := by rw [cell_of_heap bk]; rfl
 have c5 : W4.cell? ⟨bx, 5, none⟩ = some (.string (bs m.cond.name)) := by rw [cell_of_heap bk]; rfl
 have c6 : W4.cell? ⟨bx, 6, none⟩ = some (.int .i64 m.cond.cmp) := by rw [cell_of_heap bk]; rfl
 have c7 : W4.cell? ⟨bx, 7, none⟩ = some (.int .i64 m.cond.num) := by rw [cell_of_heap bk]; rfl
 have c8 : W4.cell? ⟨bx, 8, none⟩ = some (.slice y n c) := by rw [cell_of_heap bk]; rfl
 have c9 : W4.cell? ⟨bx, 9, none⟩ = some (.int .i64 m.fr) := by rw [cell_of_heap bk]; rfl
 have c10 : W4.cell? ⟨bx, 10, none⟩ = some (.int .i64 m.un) := by rw [cell_of_heap bk]; rfl
 have c11 : W4.cell? ⟨bx, 11, none⟩ = some (.int .i64 m.wi) := by rw [cell_of_heap bk]; rfl
 clear bk bd; obtain ⟨q, hq⟩ : ∃ q, q = datedB m.kind m.fr m.un m.wi := ⟨_, rfl⟩; rw [<- hq]; have HT := Lib.hid hq; clear hq; cases q
 ·have HE : Hid (validM d m = 10) := by
   show _ = _; unfold validM; rw [<- HQ.out, <- HP.out, <- HT.out]; simp
  go_wp2_with fail
  go_ret
  exact ⟨by rw [HE.out]; rfl, HO.out.base⟩
 go_wp2_with fail
 go_at_call 19
 refine (Check_c m.cond W4 (.slice y n c) d vd (HF.out.later HO.out.base) (HD.out.later HO.out.base) HDL.out.len HDL.out.names (Nat.le_refl _) HCL.out.names HCL.out.size).mono ?_; rintro e W5 ⟨rfl, hb⟩; replace HO := Lib.hid (HO.out.below hb); clear hb; have HE : Hid (validM d m = checkF d m.cond) := by
  show _ = _; unfold validM; rw [<- HQ.out, <- HP.out, <- HT.out]; simp
 go_wp2_with fail
 go_ret
 exact ⟨by rw [HE.out]; rfl, HO.out.base⟩
end Go.Proofs.YtoeknmkephnekaaGreatDoor
namespace Go.Proofs.YtoeknmkephnekaaGreatDoor
open Go.RowKit Go.Cz Go.Cz.Lx Go.Cz.Fo Go.Cz.Vd
def txs (l : List Bytes) : List Value := l.map fun s => .string (bs s)
theorem info_txt : (Tryz.prog.info? 9).map (fun i => (i.zero, i.size, i.bytes)) = some (some (.string ⟨#[]⟩), 1, 16) := by kernel_rfl
def txP (v : Value) (l : List Bytes) : Piece where
 lies w S := w.ownsRow 0 9 1 v l.length (txs l) /\ S = v.ownBlock.toList
 lt := by
  rintro w S ⟨h, rfl⟩ k hk; rcases h.2 with ⟨rfl, _⟩ | ⟨g, cap, cur, rfl, _, hg, _⟩
  ·simp [Value.ownBlock] at hk
  ·simp [Value.ownBlock] at hk
   subst hk; exact lt_of_block hg
 keep := by
  rintro w w' S T ⟨h, rfl⟩ hm hd; refine ⟨⟨h.1, ?_⟩, rfl⟩; rcases h.2 with h0 | ⟨g, cap, cur, rfl, h2, hg, h4⟩
  ·exact .inl h0
  ·exact .inr ⟨g, cap, cur, rfl, h2, hm.heap hg (hd g (by simp [Value.ownBlock])), h4⟩
end Go.Proofs.YtoeknmkephnekaaGreatDoor
namespace Go.Cz
open Go.RowKit Go.Cz.Lx Go.Cz.Fo Go.Cz.Vd Go.Proofs.YtoeknmkephnekaaGreatDoor
section
variable {w0 w w' : World} {ps : List Piece} {v v' : Value} {l l' : List Bytes}
theorem Owns.txNew (h : Owns w0 w ps) : Owns w0 w (txP (.slice none 0 0) [] :: ps) :=
 h.push (Q := txP (.slice none 0 0) []) (S := []) ⟨⟨by simp [txs], .inl ⟨rfl, rfl⟩⟩, rfl⟩ (Below.refl _ _) (by simp)
theorem Owns.txRow (h : Owns w0 w (txP v l :: ps)) : w.ownsRow 0 9 1 v l.length (txs l) := by
 obtain ⟨S, ⟨hr, -⟩, -⟩ := h.first; exact hr
theorem Owns.txGrew (h : Owns w0 w (txP v l :: ps)) (hr : w'.ownsRow 0 9 1 v' l'.length (txs l')) (hg : w.grownBy w' v.ownBlock) (hb : v'.ownBlock = v.ownBlock ∨ v'.ownBlock = some w.heap.size) : Owns w0 w' (txP v' l' :: ps) := by
 obtain ⟨S, ⟨h1, rfl⟩, -, hf⟩ := h.open; refine hf w' _ v'.ownBlock.toList ⟨hr, rfl⟩ ⟨hg.os, hg.tape, hg.output, hg.size, fun k hk hn => hg.block k hk fun e => hn (by rw [<- e]; simp)⟩ fun k hk => ?_; rcases hb with hb | hb
 ·exact .inl (by rw [<- hb]; exact hk)
 ·rw [hb] at hk; simp at hk
  exact .inr (by omega)
theorem Owns.txIs (h : Owns w0 w (txP v l :: ps)) : IsTxR w l v := by
 have hr := h.txRow; rcases hr.2 with ⟨hv, h0⟩ | ⟨g, cap, cur, hv, h2, hg, h4, h5, h6, h7⟩
 ·exact ⟨none, 0, by rw [hv, h0], .inl (List.length_eq_zero_iff.1 h0)⟩
 ·refine ⟨_, _, hv, .inr ⟨g, 0, rfl, lt_of_block hg, h4, fun j s hj => ?_⟩⟩; rw [Nat.zero_add, cell_of_heap hg]; have h8 : (txs l)[j]? = some (.string (bs s)) := by simp [txs, hj]
  rw [<- h7, List.getElem?_take] at h8
  split at h8
  ·simpa using h8
  ·cases h8
end
end Go.Cz
namespace Go.Proofs.YtoeknmkephnekaaGreatDoor
open Go.RowKit Go.Cz Go.Cz.Lx Go.Cz.Fo
def fmP (f : Fm) (v : Value) : Piece where
 lies w S := IsFm (· ∈ S) w f v /\ ∀ k ∈ S, k < w.heap.size
 lt h := h.2
 keep := by
  rintro w w' S T ⟨h1, h2⟩ hm hd; refine ⟨h1.keep fun g hg hl => hm.block g hl (hd g hg), fun k hk => Nat.lt_of_lt_of_le (h2 k hk) hm.size⟩
abbrev kidCells (L : List (Fm × Value)) : List Value := L.flatMap fun p => fcells p.1 p.2
def kidsP (L : List (Fm × Value)) (v : Value) : Piece where
 lies w S := ∃ S' : List Nat, w.ownsRow 0 24 5 v L.length (kidCells L) /\ S = v.ownBlock.toList ++ S' /\ (∀ k ∈ v.ownBlock.toList, k ∉ S') /\ (∀ k ∈ S', k < w.heap.size) /\ ∀ p ∈ L, IsFm (· ∈ S') w p.1 p.2
 lt := by
  rintro w S ⟨S', h, rfl, -, h3, -⟩ k hk; rcases List.mem_append.1 hk with hk | hk
  ·exact (h.lt k (by simpa [Option.mem_toList] using hk)).2
  ·exact h3 k hk
 keep := by
  rintro w w' S T ⟨S', h, rfl, h2, h3, h4⟩ hm hd; refine ⟨S', ⟨h.1, ?_⟩, rfl, h2, fun k hk => Nat.lt_of_lt_of_le (h3 k hk) hm.size, fun p hp => (h4 p hp).keep fun g hg hl => hm.block g hl (hd g (List.mem_append.2 (.inr hg)))⟩; rcases h.2 with h0 | ⟨g, cap, cur, rfl, h5, hg, h6⟩
  ·exact .inl h0
  ·exact .inr ⟨g, cap, cur, rfl, h5, hm.heap hg (hd g (by simp [Value.ownBlock])), h6⟩
theorem flat_kid : ∀ (L : List (Fm × Value)) (j i : Nat) (p : Fm × Value), L[j]? = some p -> i < 5 -> (kidCells L)[j * 5 + i]? = (fcells p.1 p.2)[i]?
 | [], j, i, p, h, _ => by simp at h
 | a :: r, 0, i, p, h, hk => by
  simp at h; subst h
  rw [kidCells, List.flatMap_cons, Nat.zero_mul, Nat.zero_add, List.getElem?_append_left (by simp [fcells]; exact hk)]
 | a :: r, j + 1, i, p, h, hk => by
  rw [kidCells, List.flatMap_cons, List.getElem?_append_right (by simp [fcells]; omega)]; have : (j + 1) * 5 + i - (fcells a.1 a.2).length = j * 5 + i := by simp [fcells]; omega
  rw [this]; exact flat_kid r j i p (by simpa using h) hk
theorem IsFm.head {f : Fm} {v : Value} {p : Nat -> Prop} {W : World} {a : Int} {s : Bytes} {c d : Int} (h : IsFm p W f v) : IsFm p W (.mk a s c d f.kids) v := by
 cases h with
 | leaf a s c d y m => exact .leaf _ _ _ _ y m
 | node a s c d ks g off m kv h1 h2 h3 h4 h5 => exact .node _ _ _ _ ks g off m kv h1 h2 h3 h4 h5
end Go.Proofs.YtoeknmkephnekaaGreatDoor
namespace Go.Cz
open Go.RowKit Go.Cz.Lx Go.Cz.Fo Go.Proofs.YtoeknmkephnekaaGreatDoor
section
variable {w0 w w' : World} {ps : List Piece} {v v' kv : Value} {f : Fm} {L : List (Fm × Value)}
theorem Owns.turn {P Q : Piece} (h : Owns w0 w (P :: ps)) (hq : ∀ S, P.lies w S -> Q.lies w S) : Owns w0 w (Q :: ps) := by
 obtain ⟨S, h1, -, hf⟩ := h.open; exact hf w Q S (hq S h1) (Mod.refl _ _) fun k hk => .inl hk
theorem Owns.join {P Q R : Piece} (h : Owns w0 w (P :: Q :: ps)) (hr : ∀ S T, P.lies w S -> Q.lies w T -> (∀ k ∈ S, k ∉ T) -> R.lies w (S ++ T)) : Owns w0 w (R :: ps) := by
 obtain ⟨h1, S, h2, h3, T, h4, h5, h6⟩ := h; refine ⟨h1, S ++ T, hr S T h2 h4 fun k hk hx => (h5 k hx).2 (by simp [hk]), fun k hk => ⟨?_, by simp⟩, h6.mono fun k hk => .inl ?_⟩
 ·rcases List.mem_append.1 hk with hk | hk
  ·exact (h3 k hk).1
  ·exact (h5 k hk).1
 ·simp only [List.append_nil, List.mem_append] at hk ⊢; exact hk.symm
theorem Owns.leaf (h : Owns w0 w ps) (a : Int) (s : Bytes) (c d : Int) (y : Option Addr) (m : Nat) : Owns w0 w (fmP (.mk a s c d []) (.slice y 0 m) :: ps) :=
 h.push (Q := fmP (.mk a s c d []) (.slice y 0 m)) (S := []) ⟨.leaf a s c d y m, by simp⟩ (Below.refl _ _) (by simp)
theorem Owns.fm (h : Owns w0 w (fmP f v :: ps)) : IsFm (fun g => w0.heap.size <= g) w f v := by
 obtain ⟨S, h1, h2⟩ := h.first; exact h1.1.mono fun g hg _ => h2 g hg
theorem Owns.kid (h : Owns w0 w (kidsP L v :: fmP f kv :: ps)) (hr : w'.ownsRow 0 24 5 v' (L.length + 1) (kidCells L ++ fcells f kv)) (hg : w.grownBy w' v.ownBlock) (hb : v'.ownBlock = v.ownBlock ∨ v'.ownBlock = some w.heap.size) : Owns w0 w' (kidsP (L ++ [(f, kv)]) v' :: ps) := by
 obtain ⟨h1, S, ⟨S', h2, rfl, h3, h4, h5⟩, h6, T, ⟨h7, h8⟩, h9, h10⟩ := h; have hm : Mod v.ownBlock.toList w w' := ⟨hg.os, hg.tape, hg.output, hg.size, fun k hk hn => hg.block k hk fun e => hn (by rw [<- e]; simp)⟩; have hT : ∀ k ∈ T, k ∉ v.ownBlock.toList := fun k hk hx => (h9 k hk).2 (by simp [hx]); have hS' : ∀ k ∈ S', k ∉ v.ownBlock.toList := fun k hk hx => h3 k hx hk; have hv' : ∀ k ∈ v'.ownBlock.toList, k ∈ v.ownBlock.toList ∨ k = w.heap.size := fun k hk => by
  rcases hb with hb | hb
  ·exact .inl (by rw [<- hb]; exact hk)
  ·rw [hb] at hk; simp at hk; exact .inr hk
 have hlies : (kidsP (L ++ [(f, kv)]) v').lies w' (v'.ownBlock.toList ++ (S' ++ T)) := by
  refine ⟨S' ++ T, by simpa [kidCells] using hr, rfl, fun k hk hx => ?_, fun k hk => ?_, fun p hp => ?_⟩
  ·rcases hv' k hk with hk | rfl
   ·rcases List.mem_append.1 hx with hx | hx
    ·exact h3 k hk hx
    ·exact hT k hx hk
   ·rcases List.mem_append.1 hx with hx | hx
    ·exact Nat.lt_irrefl _ (h4 _ hx)
    ·exact Nat.lt_irrefl _ (h8 _ hx)
  ·rcases List.mem_append.1 hk with hk | hk
   ·exact Nat.lt_of_lt_of_le (h4 k hk) hg.size
   ·exact Nat.lt_of_lt_of_le (h8 k hk) hg.size
  ·rcases List.mem_append.1 hp with hp | hp
   ·exact ((h5 p hp).keep fun g hx hl => hm.block g hl (hS' g hx)).mono fun g hx _ => List.mem_append.2 (.inl hx)
   ·obtain rfl : p = (f, kv) := by simpa using hp
    exact (h7.keep fun g hx hl => hm.block g hl (hT g hx)).mono fun g hx _ => List.mem_append.2 (.inr hx)
 have hbase := toBelow' hm h1 fun k hk => (h6 k (List.mem_append.2 (.inl hk))).1; refine ⟨hbase, _, hlies, fun k hk => ⟨?_, by simp⟩, ?_⟩
 ·rcases List.mem_append.1 hk with hk | hk
  ·rcases hv' k hk with hk | rfl
   ·exact (h6 k (List.mem_append.2 (.inl hk))).1
   ·exact h1.size
  ·rcases List.mem_append.1 hk with hk | hk
   ·exact (h6 k (List.mem_append.2 (.inr hk))).1
   ·exact (h9 k hk).1
 ·have h11 : Has w0 w ps (T ++ ((v.ownBlock.toList ++ S') ++ [w.heap.size])) := h10.mono fun k hk => by
   simp only [List.mem_append, List.append_nil, List.mem_singleton] at hk ⊢; rcases hk with h | (h | h) | h
   ·exact .inl (.inl h)
   ·exact .inl (.inr (.inl h))
   ·exact .inl (.inr (.inr h))
   ·exact .inr (by omega)
  refine (h11.keep hm fun k hk => .inl (by simp [hk])).mono fun k hk => .inl ?_; simp only [List.mem_append, List.append_nil, List.mem_singleton] at hk ⊢; rcases hk with h | h | h
  ·rcases hv' k h with h | h
   ·exact .inr (.inl (.inl h))
   ·exact .inr (.inr h)
  ·exact .inr (.inl (.inr h))
  ·exact .inl h
theorem Owns.kid1 (h : Owns w0 w (fmP f kv :: ps)) : Owns w0 (w.alloc (.cells (fcells f kv).toArray 24)) (kidsP [(f, kv)] (.slice (some ⟨w.heap.size, 0, none⟩) 1 1) :: ps) := by
 have h0 : Owns w0 w (kidsP [] (.slice none 0 0) :: fmP f kv :: ps) := h.push (Q := kidsP [] (.slice none 0 0)) (S := []) ⟨[], World.ownsRow_nil _ _ _ _, rfl, by simp, by simp, by simp⟩ (Below.refl _ _) (by simp); refine Owns.kid h0 ⟨by simp [fcells], .inr ⟨w.heap.size, 1, (fcells f kv).toArray, rfl, Nat.zero_le _, new_heap w _ _ rfl, Nat.le_refl _, by unfold maxLen; omega, by simp [fcells], by simp [fcells]⟩⟩ (World.grownBy_alloc _ _ _) (.inr rfl)
theorem Owns.krow (h : Owns w0 w (kidsP L v :: ps)) : w.ownsRow 0 24 5 v L.length (kidCells L) := by
 obtain ⟨S, ⟨S', hr, -⟩, -⟩ := h.first; exact hr
theorem Owns.kform (h : Owns w0 w (kidsP L v :: ps)) : ∃ y m, v = .slice y L.length m := by
 rcases h.krow.2 with ⟨h1, h2⟩ | ⟨g, c, cur, h1, -⟩
 ·exact ⟨none, 0, by rw [h1, h2]⟩
 ·exact ⟨_, c, h1⟩
theorem Owns.kget {j : Nat} {p : Fm × Value} (h : Owns w0 w (kidsP L v :: ps)) (hj : L[j]? = some p) : ∃ g m, v = .slice (some ⟨g, 0, none⟩) L.length m /\ L.length <= m /\ g < w.heap.size /\
  w.cell? ⟨g, j * 5, none⟩ = some (.int .i64 p.1.op) /\ w.cell? ⟨g, j * 5 + 1, none⟩ = some (.string (bs p.1.name)) /\ w.cell? ⟨g, j * 5 + 2, none⟩ = some (.int .i64 p.1.cmp) /\ w.cell? ⟨g, j * 5 + 3, none⟩ = some (.int .i64 p.1.num) /\ w.cell? ⟨g, j * 5 + 4, none⟩ = some p.2 := by
 have hlt := (List.getElem?_eq_some_iff.1 hj).1; rcases h.krow.2 with ⟨h1, h2⟩ | ⟨g, c, cur, h1, -, h3, h4, h5, h6, h7⟩
 ·omega
 ·have e : ∀ i x, (kidCells L)[i]? = some x -> w.cell? ⟨g, i, none⟩ = some x := fun i x hx => by
   rw [cell_of_heap h3]; rw [<- h7, List.getElem?_take] at hx
   split at hx
   ·simpa using hx
   ·cases hx
  refine ⟨g, c, h1, h4, lt_of_block h3, e _ _ ?_, e _ _ ?_, e _ _ ?_, e _ _ ?_, e _ _ ?_⟩
  ·exact (flat_kid L j 0 p hj (by omega)).trans rfl
  ·exact (flat_kid L j 1 p hj (by omega)).trans rfl
  ·exact (flat_kid L j 2 p hj (by omega)).trans rfl
  ·exact (flat_kid L j 3 p hj (by omega)).trans rfl
  ·exact (flat_kid L j 4 p hj (by omega)).trans rfl
theorem Owns.knode (h : Owns w0 w (kidsP L v :: ps)) (a : Int) (s : Bytes) (c d : Int) : Owns w0 w (fmP (.mk a s c d (L.map Prod.fst)) v :: ps) := by
 have hh := h; refine h.turn fun S hS => ?_; obtain ⟨S', hr, rfl, h2, h3, h4⟩ := hS; have hlt : ∀ k ∈ v.ownBlock.toList ++ S', k < w.heap.size := fun k hk => by
  rcases List.mem_append.1 hk with hk | hk
  ·exact (hr.lt k (by simpa [Option.mem_toList] using hk)).2
  ·exact h3 k hk
 refine ⟨?_, hlt⟩; rcases hr.2 with ⟨h5, h6⟩ | ⟨g, cap, cur, rfl, h5, hg, h6, h7, h8, h9⟩
 ·have : L = [] := List.length_eq_zero_iff.1 h6; subst this; rw [h5]; exact .leaf a s c d none 0
 ·have hks : (L.map Prod.fst).length = L.length := by simp
  rw [<- hks]; refine .node a s c d (L.map Prod.fst) g 0 cap (fun j => (L[j]?.map Prod.snd).getD (.bool false)) (by simpa using h6) (lt_of_block hg) (by simp [Value.ownBlock]) (fun j k hj => ?_) fun j k hj => ?_
  ·obtain ⟨p, hp, rfl⟩ : ∃ p, L[j]? = some p /\ p.1 = k := by
    rw [List.getElem?_map] at hj; cases hp : L[j]? with
    | none => rw [hp] at hj; simp at hj
    | some p => rw [hp] at hj; exact ⟨p, rfl, by simpa using hj⟩
   obtain ⟨g2, m2, e2, -, -, c0, c1, c2, c3, c4⟩ := hh.kget hp; have : g2 = g := by simp at e2; exact e2.1.symm
   subst this; simp only [Nat.zero_add]; exact ⟨c0, c1, c2, c3, by rw [c4, hp]; rfl⟩
  ·obtain ⟨p, hp, rfl⟩ : ∃ p, L[j]? = some p /\ p.1 = k := by
    rw [List.getElem?_map] at hj; cases hp : L[j]? with
    | none => rw [hp] at hj; simp at hj
    | some p => rw [hp] at hj; exact ⟨p, rfl, by simpa using hj⟩
   rw [hp]; exact (h4 p (List.mem_of_getElem? hp)).mono fun g hg _ => List.mem_append.2 (.inr hg)
theorem Owns.konly (h : Owns w0 w (kidsP [(f, kv)] v :: ps)) : Owns w0 w (fmP f kv :: ps) := by
 refine h.turn fun S hS => ?_; have hS2 := (kidsP [(f, kv)] v).lt hS; obtain ⟨S', hr, rfl, h2, h3, h4⟩ := hS; exact ⟨(h4 (f, kv) (by simp)).mono fun g hg _ => List.mem_append.2 (.inr hg), hS2⟩
end
end Go.Cz
namespace Go.Proofs.YtoeknmkephnekaaGreatDoor
open Go.RowKit Go.Cz Go.Cz.Lx Go.Cz.Fo
def TokL (W : World) (v : Value) (ts : List Tok) : Prop := ∃ y m, v = .slice y ts.length m /\ (ts = [] ∨ ∃ g off, y = some ⟨g, off, none⟩ /\ g < W.heap.size /\ ts.length <= m /\ ∀ (j : Nat) (t : Tok), ts[j]? = some t ->
  W.cell? ⟨g, off + j * 4, none⟩ = some (.int .i64 t.kind) /\ W.cell? ⟨g, off + j * 4 + 1, none⟩ = some (.int .i64 t.pos) /\ W.cell? ⟨g, off + j * 4 + 2, none⟩ = some (.int .i64 t.num) /\ W.cell? ⟨g, off + j * 4 + 3, none⟩ = some (.string (bs t.text)))
section
variable {W W' : World} {v : Value} {ts : List Tok} {t : Tok} {r : List Tok} {y : Option Addr} {n m j : Nat}
theorem TokL.of (h : IsToks W v ts) : TokL W v ts := by
 rcases h with ⟨rfl, rfl⟩ | ⟨g, c, rfl, h2, h3, h4⟩
 ·exact ⟨none, 0, rfl, .inl rfl⟩
 ·exact ⟨_, c, rfl, .inr ⟨g, 0, rfl, h3, h2, by simpa using h4⟩⟩
theorem TokL.form (h : TokL W v ts) : ∃ y m, v = .slice y ts.length m := by obtain ⟨y, m, h1, -⟩ := h; exact ⟨y, m, h1⟩
theorem TokL.nil (W : World) (y : Option Addr) (m : Nat) : TokL W (.slice y 0 m) [] := ⟨y, m, rfl, .inl rfl⟩
theorem TokL.later (h : TokL W v ts) (hb : Below W.heap.size W W') : TokL W' v ts := by
 obtain ⟨y, m, rfl, h⟩ := h; refine ⟨y, m, rfl, h.imp id ?_⟩; rintro ⟨g, off, rfl, hg, hm, hc⟩; refine ⟨g, off, rfl, Nat.lt_of_lt_of_le hg hb.size, hm, fun j t hj => ?_⟩; have e2 : ∀ i, W'.cell? ⟨g, i, none⟩ = W.cell? ⟨g, i, none⟩ := fun i => hb.cell (p := ⟨g, i, none⟩) hg; simp only [e2]; exact hc j t hj
theorem TokL.get (h : TokL W (.slice y n m) ts) (hb : Below W.heap.size W W') (hj : ts[j]? = some t) : ∃ g off, y = some ⟨g, off, none⟩ /\ n <= m /\ g < W'.heap.size /\
  W'.cell? ⟨g, off + j * 4, none⟩ = some (.int .i64 t.kind) /\ W'.cell? ⟨g, off + j * 4 + 1, none⟩ = some (.int .i64 t.pos) /\ W'.cell? ⟨g, off + j * 4 + 2, none⟩ = some (.int .i64 t.num) /\ W'.cell? ⟨g, off + j * 4 + 3, none⟩ = some (.string (bs t.text)) := by
 obtain ⟨y', m', e, h⟩ := h.later hb; simp only [Value.slice.injEq] at e; obtain ⟨rfl, rfl, rfl⟩ := e; rcases h with rfl | ⟨g, off, rfl, hg, hm, hc⟩
 ·simp at hj
 ·exact ⟨g, off, rfl, hm, hg, hc j t hj⟩
theorem TokL.tail {g off : Nat} (h : TokL W (.slice (some ⟨g, off, none⟩) n m) (t :: r)) : TokL W (.slice (some ⟨g, off + 4, none⟩) (n - 1) (m - 1)) r /\ (m = 1 -> TokL W (.slice (some ⟨g, off, none⟩) (n - 1) (m - 1)) r) := by
 obtain ⟨y', m', e, h⟩ := h; simp only [Value.slice.injEq] at e; obtain ⟨rfl, rfl, rfl⟩ := e; rcases h with h | ⟨g', off', e, hg, hm, hc⟩
 ·simp at h
 simp only [Option.some.injEq, Addr.mk.injEq, and_true] at e; obtain ⟨rfl, rfl⟩ := e; simp only [List.length_cons] at hm; refine ⟨⟨_, m - 1, by simp, .inr ⟨g, off + 4, rfl, hg, by omega, fun j t hj => ?_⟩⟩, fun h1 => ⟨some ⟨g, off, none⟩, m - 1, by simp, .inl ?_⟩⟩
 ·obtain ⟨c0, c1, c2, c3⟩ := hc (j + 1) t (by simpa using hj); have e : off + (j + 1) * 4 = off + 4 + j * 4 := by omega
  rw [e] at c0 c1 c2 c3; exact ⟨c0, c1, c2, c3⟩
 ·have : r.length = 0 := by omega
  exact List.length_eq_zero_iff.1 this
end
end Go.Proofs.YtoeknmkephnekaaGreatDoor
namespace Go.Proofs
open Go.Shelf Go.RowKit Go.Sort Go.Lib
def Tryz.lays156_ren : Go.Shelf.Ren := ⟨fun | 156 => 30 | 165 => 71 | 166 => 72 | 169 => 73 | 240 => 103 | 241 => 104 | 276 => 131 | 277 => 132 | n => n, fun | 31 => 58 | 9 => 9 | 3 => 3 | 4 => 4 | 0 => 0 | 20 => 20 | 72 => 101 | 76 => 105 | 70 => 98 | 37 => 99 | 75 => 104 | 127 => 131 | 164 => 157 | 5 => 5 | 80 => 107 | n => n, fun | n => n⟩
theorem Tryz.lays156 : Go.Proofs.Lays.n156 Tryz.prog Tryz.lays156_ren := {
 mixed := by kernel_rfl
 f156 := Tryz.func30.trans (congrArg some (by kernel_rfl))
 f165 := Tryz.func71.trans (congrArg some (by kernel_rfl))
 f166 := Tryz.func72.trans (congrArg some (by kernel_rfl))
 f169 := Tryz.func73.trans (congrArg some (by kernel_rfl))
 f240 := Tryz.func103.trans (congrArg some (by kernel_rfl))
 f241 := Tryz.func104.trans (congrArg some (by kernel_rfl))
 f276 := Tryz.func131.trans (congrArg some (by kernel_rfl))
 f277 := Tryz.func132.trans (congrArg some (by kernel_rfl))
 t0 := Tryz.underlying0
 a0 := Tryz.isAgg0
 z0 := Tryz.sizeOf0
 v0 := Tryz.zeroValue0
 t3 := Tryz.underlying3
 a3 := Tryz.isAgg3
 z3 := Tryz.sizeOf3
 v3 := Tryz.zeroValue3
 t4 := Tryz.underlying4
 a4 := Tryz.isAgg4
 z4 := Tryz.sizeOf4
 v4 := Tryz.zeroValue4
 t9 := Tryz.underlying9
 a9 := Tryz.isAgg9
 z9 := Tryz.sizeOf9
 v9 := Tryz.zeroValue9
 t20 := Tryz.underlying20
 a20 := Tryz.isAgg20
 z20 := Tryz.sizeOf20
 v20 := Tryz.zeroValue20
 t31 := Tryz.underlying58
 a31 := Tryz.isAgg58
 z31 := Tryz.sizeOf58
 v31 := Tryz.zeroValue58
 t37 := Tryz.underlying99
 a37 := Tryz.isAgg99
 z37 := Tryz.sizeOf99
 v37 := Tryz.zeroValue99
 t70 := Tryz.underlying98
 a70 := Tryz.isAgg98
 z70 := Tryz.sizeOf98
 v70 := Tryz.zeroValue98
 t72 := Tryz.underlying101
 a72 := Tryz.isAgg101
 z72 := Tryz.sizeOf101
 v72 := Tryz.zeroValue101
 t75 := Tryz.underlying104
 a75 := Tryz.isAgg104
 z75 := Tryz.sizeOf104
 v75 := Tryz.zeroValue104
 t76 := Tryz.underlying105
 a76 := Tryz.isAgg105
 z76 := Tryz.sizeOf105
 v76 := Tryz.zeroValue105
 t127 := Tryz.underlying131
 a127 := Tryz.isAgg131
 z127 := Tryz.sizeOf131
 v127 := Tryz.zeroValue131
 t164 := Tryz.underlying157
 a164 := Tryz.isAgg157
 z164 := Tryz.sizeOf157
 v164 := Tryz.zeroValue157 }
theorem Tryz.Builder_Extra_156 : Builder.Extra Tryz.prog Tryz.lays156_ren := {
 sizeBuilder := by kernel_rfl
 liesBuilder := by kernel_rfl
 t5 := Tryz.underlying5
 a5 := Tryz.isAgg5
 z5 := Tryz.sizeOf5
 v5 := Tryz.zeroValue5
 infoByte := by kernel_rfl
 cellsByte := by kernel_rfl
 sizeByte := by kernel_rfl
 neB5 := by decide }
theorem Tryz.strings_Join (bk o c : Nat) (xs : List ByteArray) (sep : ByteArray) (w : World) (hcells : ∀ (j : Nat) x, xs[j]? = some x -> w.cell? ⟨bk, o + j, none⟩ = some (.string x)) (hbk : bk < w.heap.size) (hN : xs.length <= 140737488355328) (hcap : xs.length <= c) (hlen : (Lib.join (xs.map (·.data.toList)) sep.data.toList).length <= 140737488355328) :
  Calls Tryz.prog 30 #[.slice (some ⟨bk, o, none⟩) xs.length c, .string sep] w fun e w' => e = .returned (.string ⟨(Lib.join (xs.map (·.data.toList)) sep.data.toList).toArray⟩) /\ Below w.heap.size w w' := Any.strings_Join Tryz.lays156 Tryz.Builder_Extra_156 bk o c xs sep w hcells hbk hN hcap hlen
def Tryz.laysM171_ren : Go.Shelf.Ren := ⟨fun | 171 => 29 | 243 => 70 | 246 => 102 | 283 => 127 | 284 => 128 | 285 => 129 | 286 => 130 | 129 => 149 | 317 => 148 | 318 => 150 | 319 => 151 | 320 => 152 | 337 => 159 | 338 => 160 | n => n, fun | 3 => 3 | 9 => 9 | 2 => 2 | 4 => 4 | 171 => 152 | 0 => 0 | 53 => 122 | 37 => 99 | 5 => 5 | 173 => 155 | 212 => 172 | 51 => 173 | 20 => 20 | 213 => 174 | 46 => 169 | 232 => 187 | 233 => 188 | n => n, fun | 17 => 0 | 18 => 4 | 19 => 5 | n => n⟩
theorem Tryz.laysM171 : Go.Proofs.LaysM.n171 Tryz.prog Tryz.laysM171_ren := {
 mixed := by kernel_rfl
 f129 := Tryz.func149.trans (congrArg some (by kernel_rfl))
 f171 := Tryz.func29.trans (congrArg some (by kernel_rfl))
 f243 := Tryz.func70.trans (congrArg some (by kernel_rfl))
 f246 := Tryz.func102.trans (congrArg some (by kernel_rfl))
 f283 := Tryz.func127.trans (congrArg some (by kernel_rfl))
 f284 := Tryz.func128.trans (congrArg some (by kernel_rfl))
 f285 := Tryz.func129.trans (congrArg some (by kernel_rfl))
 f286 := Tryz.func130.trans (congrArg some (by kernel_rfl))
 f317 := Tryz.func148.trans (congrArg some (by kernel_rfl))
 f318 := Tryz.func150.trans (congrArg some (by kernel_rfl))
 f319 := Tryz.func151.trans (congrArg some (by kernel_rfl))
 f320 := Tryz.func152.trans (congrArg some (by kernel_rfl))
 f337 := Tryz.func159.trans (congrArg some (by kernel_rfl))
 f338 := Tryz.func160.trans (congrArg some (by kernel_rfl))
 t0 := Tryz.underlying0
 a0 := Tryz.isAgg0
 z0 := Tryz.sizeOf0
 v0 := Tryz.zeroValue0
 t2 := Tryz.underlying2
 a2 := Tryz.isAgg2
 z2 := Tryz.sizeOf2
 v2 := Tryz.zeroValue2
 t3 := Tryz.underlying3
 a3 := Tryz.isAgg3
 z3 := Tryz.sizeOf3
 v3 := Tryz.zeroValue3
 t4 := Tryz.underlying4
 a4 := Tryz.isAgg4
 z4 := Tryz.sizeOf4
 v4 := Tryz.zeroValue4
 t5 := Tryz.underlying5
 a5 := Tryz.isAgg5
 z5 := Tryz.sizeOf5
 v5 := Tryz.zeroValue5
 t9 := Tryz.underlying9
 a9 := Tryz.isAgg9
 z9 := Tryz.sizeOf9
 v9 := Tryz.zeroValue9
 t20 := Tryz.underlying20
 a20 := Tryz.isAgg20
 z20 := Tryz.sizeOf20
 v20 := Tryz.zeroValue20
 t37 := Tryz.underlying99
 a37 := Tryz.isAgg99
 z37 := Tryz.sizeOf99
 v37 := Tryz.zeroValue99
 t46 := Tryz.underlying169
 a46 := Tryz.isAgg169
 z46 := Tryz.sizeOf169
 v46 := Tryz.zeroValue169
 t51 := Tryz.underlying173
 a51 := Tryz.isAgg173
 z51 := Tryz.sizeOf173
 v51 := Tryz.zeroValue173
 t53 := Tryz.underlying122
 a53 := Tryz.isAgg122
 z53 := Tryz.sizeOf122
 v53 := Tryz.zeroValue122
 t171 := Tryz.underlying152
 a171 := Tryz.isAgg152
 z171 := Tryz.sizeOf152
 v171 := Tryz.zeroValue152
 t173 := Tryz.underlying155
 a173 := Tryz.isAgg155
 z173 := Tryz.sizeOf155
 v173 := Tryz.zeroValue155
 t212 := Tryz.underlying172
 a212 := Tryz.isAgg172
 z212 := Tryz.sizeOf172
 v212 := Tryz.zeroValue172
 t213 := Tryz.underlying174
 a213 := Tryz.isAgg174
 z213 := Tryz.sizeOf174
 t232 := Tryz.underlying187
 a232 := Tryz.isAgg187
 z232 := Tryz.sizeOf187
 v232 := Tryz.zeroValue187
 t233 := Tryz.underlying188
 a233 := Tryz.isAgg188
 z233 := Tryz.sizeOf188
 v233 := Tryz.zeroValue188
 g17 := by kernel_rfl
 g18 := by kernel_rfl
 g19 := by kernel_rfl
 i0 := by kernel_rfl
 i2 := by kernel_rfl
 i3 := by kernel_rfl
 i4 := by kernel_rfl
 i5 := by kernel_rfl
 i9 := by kernel_rfl
 i20 := by kernel_rfl
 i37 := by kernel_rfl
 i46 := by kernel_rfl
 i51 := by kernel_rfl
 i53 := by kernel_rfl
 i171 := by kernel_rfl
 i173 := by kernel_rfl
 i212 := by kernel_rfl
 i232 := by kernel_rfl
 i233 := by kernel_rfl
 m17 := by kernel_rfl
 m18 := by kernel_rfl
 m19 := by kernel_rfl }
theorem Tryz.strconv_Itoa (n : Int) (h0 : -9223372036854775808 <= n) (h1 : n <= 9223372036854775807) (w : World) (htab : Lib.TabIs Tryz.prog w "internal/strconv.uint64pow10" .u64 Lib.pow10Tab) :
  Calls Tryz.prog 29 #[.int .i64 n] w fun e w' => e = .returned (.string ⟨(Lib.itoa n).toArray⟩) /\ ∃ k os, w' = grow (w.drewN k) os := Any.strconv_Itoa Tryz.laysM171 n h0 h1 w htab
end Go.Proofs
