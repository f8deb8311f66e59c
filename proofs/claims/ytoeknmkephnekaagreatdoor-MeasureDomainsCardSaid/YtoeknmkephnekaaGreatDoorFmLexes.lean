/-
  The tokens of a text that is written; plain Lean.
-/
import Derived.Test.YtoeknmkephnekaaGreatDoorFmToks
import Derived.Lib.ItoaLen
namespace Go.Cz.Lx
theorem atL_drop (l : List UInt8) (i j : Nat) : atL (l.drop i) j = atL l (i + j) := by unfold atL; rw [List.getElem?_drop]
/-- The token at an offset, by what comes from there on. -/
theorem nextL_at (l : List UInt8) (i : Nat) : nextL l i = match nextL (l.drop i) 0 with | .error e => .error e | .ok (t, k) => .ok (⟨t.kind, i, t.num, t.text⟩, k) := by
  unfold nextL
  have e0 : atL (l.drop i) 0 = atL l i := by rw [atL_drop]; rfl
  have e1 : ∀ j, atL (l.drop i) (0 + j) = atL l (i + j) := fun j => by rw [atL_drop, Nat.zero_add]
  have e2 : (l.drop i)[0 + 1]? = l[i + 1]? := by rw [List.getElem?_drop]
  have e3 : (l.drop i).drop (0 + 1) = l.drop (i + 1) := by rw [List.drop_drop]
  rw [e0, e1, e2, e3, List.drop_zero]
  by_cases h3 : atL l i = 3
  · rw [if_pos h3, if_pos h3]
    split <;> rfl
  rw [if_neg h3, if_neg h3]
  by_cases h4 : atL l i = 4
  · rw [if_pos h4, if_pos h4]
    split <;> rfl
  rw [if_neg h4, if_neg h4]
  by_cases h6 : atL l i = 6
  · rw [if_pos h6, if_pos h6]
    rcases idxQ (l.drop (i + 1)) with _ | n
    · rfl
    · simp only
      split
      · rfl
      · split <;> rfl
  rw [if_neg h6, if_neg h6]
  split
  · rfl
  · split <;> rfl
end Go.Cz.Lx
namespace Go.Cz.Fo
set_option linter.unusedVariables false
set_option linter.unusedSimpArgs false
open Go.Cz.Lx
/-- The tokens of a text, from its beginning on. -/
inductive Lexes : Bytes → List KTok → Prop
  | nil {l} : gapL false l = l.length → Lexes l []
  | cons {l t k ks} : gapL false l < l.length → nextL (l.drop (gapL false l)) 0 = .ok (t, k) → Lexes ((l.drop (gapL false l)).drop k) ks → Lexes l (strip t :: ks)
theorem Lexes.runs {x : Bytes} {ks : List KTok} (h : Lexes x ks) : ∀ (l : Bytes) (i f : Nat) (acc : List Tok), l.drop i = x → i ≤ l.length → l.length - i < f → acc.length + ks.length ≤ 5000 → ∃ ts, lexF l f (gapE l i) acc = .ok (acc ++ ts) ∧ ts.map strip = ks := by
  induction h with
  | @nil x hg =>
    intro l i f acc hx hi hf _
    refine ⟨[], ?_, rfl⟩
    have he : gapE l i = l.length := by
      unfold gapE
      rw [hx, hg, ← hx, List.length_drop]
      omega
    cases f with
    | zero => omega
    | succ f =>
      simp only [lexF]
      rw [he, if_neg (by omega), List.append_nil]
  | @cons x t k ks hg hn _ ih =>
    intro l i f acc hx hi hf hc
    have hlen : x.length = l.length - i := by rw [← hx, List.length_drop]
    have he : gapE l i = i + gapL false x := by unfold gapE; rw [hx]
    obtain ⟨g, hgg⟩ : ∃ g, g = gapL false x := ⟨_, rfl⟩
    rw [← hgg] at he hg hn ih
    cases f with
    | zero => omega
    | succ f =>
      have hd : l.drop (i + g) = x.drop g := by rw [← hx, List.drop_drop]
      have hn2 : nextL l (i + g) = .ok (⟨t.kind, i + g, t.num, t.text⟩, k) := by rw [nextL_at, hd, hn]
      obtain ⟨w1, w2⟩ := nextL_width hn2 (by omega)
      simp only [List.length_cons] at hc
      obtain ⟨ts, h1, h2⟩ := ih l (i + g + k) f (acc ++ [⟨t.kind, i + g, t.num, t.text⟩]) (by rw [← hd, List.drop_drop]) w2 (by omega) (by simp; omega)
      refine ⟨⟨t.kind, i + g, t.num, t.text⟩ :: ts, ?_, ?_⟩
      · simp only [lexF]
        rw [he, if_pos (by omega), hn2]
        simp only
        rw [if_neg (by omega), h1]
        simp
      · rw [List.map_cons, h2]; rfl
theorem Lexes.all {l : Bytes} {ks : List KTok} (h : Lexes l ks) (h1 : l.length ≤ 20000) (h2 : ks.length ≤ 5000) : ∃ ts, lexAll l = (ts, 0, 0) ∧ ts.map strip = ks := by
  obtain ⟨ts, h3, h4⟩ := h.runs l 0 (l.length + 1) [] (by simp) (by omega) (by omega) (by simpa using h2)
  refine ⟨ts, ?_, h4⟩
  unfold lexAll
  rw [if_neg (by omega), h3]
  rfl
/-- A word or a number ends here. -/
def Brk (l : Bytes) : Prop := ∀ c r, l = c :: r → wordB c = false
theorem gap_no {c : UInt8} {l : Bytes} (h1 : cls c ≠ 1) (h2 : cls c ≠ 2) : gapL false (c :: l) = 0 := by simp only [gapL]; rw [if_neg h1, if_neg h2]
theorem Lexes.head {c : UInt8} {r : Bytes} {t : Tok} {k : Nat} {ks : List KTok} (h1 : cls c ≠ 1) (h2 : cls c ≠ 2) (hn : nextL (c :: r) 0 = .ok (t, k)) (h : Lexes ((c :: r).drop k) ks) : Lexes (c :: r) (strip t :: ks) := by
  have hg := gap_no (l := r) h1 h2
  exact .cons (by rw [hg]; simp) (by rw [hg]; exact hn) (by rw [hg]; exact h)
theorem Lexes.space {l : Bytes} {ks : List KTok} (h : Lexes l ks) : Lexes (32 :: l) ks := by
  have hg : gapL false (32 :: l) = gapL false l + 1 := by simp only [gapL]; rw [if_pos (by decide)]
  cases h with
  | nil h => exact .nil (by rw [hg, h]; rfl)
  | cons h1 h2 h3 => exact .cons (by rw [hg, List.length_cons]; omega) (by rw [hg, List.drop_succ_cons]; exact h2) (by rw [hg, List.drop_succ_cons]; exact h3)
theorem while_brk {C : List Nat} (hC : ∀ c : UInt8, C.contains (cls c) = true → wordB c = true) : ∀ (s rest : Bytes), (∀ c ∈ s, C.contains (cls c) = true) → Brk rest → whileN C (s ++ rest) = s.length
  | [], rest, _, hb => by
    cases rest with
    | nil => rfl
    | cons c r =>
      show whileN C (c :: r) = 0
      unfold whileN
      rw [if_neg]
      intro h
      have := hC c h
      rw [hb c r rfl] at this
      cases this
  | c :: s, rest, hs, hb => by
    rw [List.cons_append]
    unfold whileN
    rw [if_pos (hs c (by simp)), while_brk hC s rest (fun d hd => hs d (by simp [hd])) hb]
    rfl
theorem Lexes.name {s rest : Bytes} {ks : List KTok} (hn : nameB s = true) (hb : Brk rest) (h : Lexes rest ks) : Lexes (s ++ rest) (kName s :: ks) := by
  unfold nameB at hn
  simp only [Bool.and_eq_true, decide_eq_true_eq, beq_iff_eq, List.all_eq_true] at hn
  obtain ⟨h1, h2, h3, h4⟩ := hn
  have hw := while_brk (C := [3, 4, 5]) (fun c hc => hc) s rest (fun c hc => h1 c hc) hb
  match s, h2 with
  | c :: s, _ =>
    have hc : cls c = 3 := h4
    have := Lexes.head (c := c) (r := s ++ rest) (t := ⟨1, 0, 0, c :: s⟩) (k := (c :: s).length) (ks := ks) (by rw [hc]; decide) (by rw [hc]; decide) (by
      unfold nextL
      have e : atL (c :: (s ++ rest)) 0 = 3 := hc
      have hw' : whileN [3, 4, 5] (c :: (s ++ rest)) = (c :: s).length := hw
      rw [if_pos e, List.drop_zero, hw', if_neg (by omega)]
      have e2 : (c :: (s ++ rest)).take (c :: s).length = c :: s := by
        have : c :: (s ++ rest) = (c :: s) ++ rest := rfl
        rw [this, List.take_append_of_le_length (Nat.le_refl _), List.take_length]
      rw [e2]) (by
      have : c :: (s ++ rest) = (c :: s) ++ rest := rfl
      rw [this, List.drop_append_of_le_length (Nat.le_refl _), List.drop_length]
      exact h)
    exact this
theorem dig_cls {c : UInt8} (h : 48 ≤ c.toNat ∧ c.toNat ≤ 57) : cls c = 4 := all_bytes (p := fun c => 48 ≤ c.toNat ∧ c.toNat ≤ 57 → cls c = 4) (by decide +kernel) c h
theorem dig_val {k : Nat} (h : k < 10) : (UInt8.ofNat (48 + k)).toNat - 48 = k ∧ 48 ≤ (UInt8.ofNat (48 + k)).toNat ∧ (UInt8.ofNat (48 + k)).toNat ≤ 57 := by
  have : ∀ k : Fin 10, (UInt8.ofNat (48 + k.1)).toNat - 48 = k.1 ∧ 48 ≤ (UInt8.ofNat (48 + k.1)).toNat ∧ (UInt8.ofNat (48 + k.1)).toNat ≤ 57 := by decide
  exact this ⟨k, h⟩
theorem numV_snoc (l : Bytes) (c : UInt8) : numV (l ++ [c]) = 10 * numV l + (c.toNat - 48) := by simp [numV]
theorem numV_dec : ∀ n : Nat, numV (Lib.decDigits n) = n := by
  intro n
  induction n using Nat.strongRecOn with
  | _ n ih =>
    rw [Lib.decDigits]
    by_cases h : n < 10
    · rw [dif_pos h]
      have := (dig_val h).1
      simp [numV] at this ⊢
      omega
    · rw [dif_neg h, numV_snoc, ih (n / 10) (by omega), (dig_val (Nat.mod_lt n (by decide))).1]
      omega
theorem dec_digit : ∀ (n : Nat), ∀ c ∈ Lib.decDigits n, 48 ≤ c.toNat ∧ c.toNat ≤ 57 := by
  intro n
  induction n using Nat.strongRecOn with
  | _ n ih =>
    intro c hc
    rw [Lib.decDigits] at hc
    by_cases h : n < 10
    · rw [dif_pos h] at hc
      have : c = UInt8.ofNat (48 + n) := by simpa using hc
      rw [this]
      exact (dig_val h).2
    · rw [dif_neg h] at hc
      rcases List.mem_append.1 hc with hc | hc
      · exact ih (n / 10) (by omega) c hc
      · have : c = UInt8.ofNat (48 + n % 10) := by simpa using hc
        rw [this]
        exact (dig_val (Nat.mod_lt n (by decide))).2
theorem dec_le : ∀ (k n : Nat), n < 10 ^ (k + 1) → (Lib.decDigits n).length ≤ k + 1
  | 0, n, h => by rw [Lib.decDigits, dif_pos (by simpa using h)]; simp
  | k + 1, n, h => by
    rw [Lib.decDigits]
    by_cases h10 : n < 10
    · rw [dif_pos h10]; simp
    · rw [dif_neg h10, List.length_append]
      have := dec_le k (n / 10) (by rw [Nat.pow_succ] at h; omega)
      simp; omega
theorem dec_pos (n : Nat) : 1 ≤ (Lib.decDigits n).length := by rw [Lib.decDigits_length]; exact Lib.nDigits_pos n
theorem cls_word4 {c : UInt8} (h : [4].contains (cls c) = true) : wordB c = true := by
  have : cls c = 4 := by simpa [eq_comm] using h
  unfold wordB
  rw [this]; rfl
theorem Lexes.num {n : Nat} {rest : Bytes} {ks : List KTok} (hn : n ≤ 1000000) (hb : Brk rest) (h : Lexes rest ks) : Lexes (Lib.decDigits n ++ rest) ((2, n, Lib.decDigits n) :: ks) := by
  have h1 := dec_digit n
  have h2 := dec_le 6 n (by rw [show 10 ^ (6 + 1) = 10000000 by decide]; omega)
  have h3 := dec_pos n
  have h4 := numV_dec n
  obtain ⟨s, hs⟩ : ∃ s, s = Lib.decDigits n := ⟨_, rfl⟩
  rw [← hs] at h1 h2 h3 h4 ⊢
  have hw := while_brk (C := [4]) (fun c => cls_word4) s rest (fun c hc => by rw [dig_cls (h1 c hc)]; rfl) hb
  match s, h3 with
  | c :: s, _ =>
    have hc : cls c = 4 := dig_cls (h1 c (by simp))
    have he : ∀ k, k = 3 ∨ k = 5 → atL (c :: (s ++ rest)) (0 + (c :: s).length) ≠ k := fun k hk e => by
      rw [Nat.zero_add, show c :: (s ++ rest) = (c :: s) ++ rest from rfl] at e
      unfold atL at e
      rw [List.getElem?_append_right (Nat.le_refl _), Nat.sub_self] at e
      cases rest with
      | nil => simp at e; omega
      | cons d r =>
        have := hb d r rfl
        simp at e
        unfold wordB at this
        rw [e] at this
        rcases hk with rfl | rfl <;> simp at this
    have := Lexes.head (c := c) (r := s ++ rest) (t := ⟨2, 0, n, c :: s⟩) (k := (c :: s).length) (ks := ks) (by rw [hc]; decide) (by rw [hc]; decide) (by
      unfold nextL
      have e : atL (c :: (s ++ rest)) 0 = 4 := hc
      have hw' : whileN [4] (c :: (s ++ rest)) = (c :: s).length := hw
      have e2 : (c :: (s ++ rest)).take (c :: s).length = c :: s := by
        have : c :: (s ++ rest) = (c :: s) ++ rest := rfl
        rw [this, List.take_append_of_le_length (Nat.le_refl _), List.take_length]
      rw [if_neg (by rw [e]; decide), if_pos e, List.drop_zero, hw', if_neg (by
        rintro (h | h | h)
        · omega
        · exact he 3 (.inl rfl) h
        · exact he 5 (.inr rfl) h), e2, h4]) (by
      have : c :: (s ++ rest) = (c :: s) ++ rest := rfl
      rw [this, List.drop_append_of_le_length (Nat.le_refl _), List.drop_length]
      exact h)
    exact this
theorem Lexes.one {c : UInt8} {rest : Bytes} {ks : List KTok} (hc : cls c = 9) (h : Lexes rest ks) : Lexes (c :: rest) (kSym [c] :: ks) := by
  have e : atL (c :: rest) 0 = 9 := hc
  refine Lexes.head (t := ⟨4, 0, 0, [c]⟩) (k := 1) (by rw [hc]; decide) (by rw [hc]; decide) ?_ h
  unfold nextL
  rw [if_neg (by rw [e]; decide), if_neg (by rw [e]; decide), if_neg (by rw [e]; decide), if_neg (by rw [e]; simp), if_pos (.inr e)]
  rfl
theorem Lexes.sym {m : Int} (h1 : 1 ≤ m) (h6 : m ≤ 6) {rest : Bytes} {ks : List KTok} (h : Lexes (32 :: rest) ks) : Lexes (symB m ++ 32 :: rest) (kSym (symB m) :: ks) := by
  have : m = 1 ∨ m = 2 ∨ m = 3 ∨ m = 4 ∨ m = 5 ∨ m = 6 := by omega
  rcases this with rfl | rfl | rfl | rfl | rfl | rfl
  · exact Lexes.one (c := 61) (by decide) h
  · exact Lexes.head (c := 33) (r := 61 :: 32 :: rest) (t := ⟨4, 0, 0, [33, 61]⟩) (k := 2) (by decide) (by decide) (by rfl) h
  · exact Lexes.head (c := 60) (r := 32 :: rest) (t := ⟨4, 0, 0, [60]⟩) (k := 1) (by decide) (by decide) (by rfl) h
  · exact Lexes.head (c := 60) (r := 61 :: 32 :: rest) (t := ⟨4, 0, 0, [60, 61]⟩) (k := 2) (by decide) (by decide) (by rfl) h
  · exact Lexes.head (c := 62) (r := 32 :: rest) (t := ⟨4, 0, 0, [62]⟩) (k := 1) (by decide) (by decide) (by rfl) h
  · exact Lexes.head (c := 62) (r := 61 :: 32 :: rest) (t := ⟨4, 0, 0, [62, 61]⟩) (k := 2) (by decide) (by decide) (by rfl) h
theorem brk_space (l : Bytes) : Brk (32 :: l) := fun c r e => by cases e; decide
theorem brk_close (l : Bytes) : Brk (41 :: l) := fun c r e => by cases e; decide
theorem brk_nil : Brk [] := fun c r e => by cases e
/-- The texts of some formulas are read as their tokens. -/
def Says (x : Bytes) (ts : List KTok) : Prop := ∀ rest ks, Brk rest → Lexes rest ks → Lexes (x ++ rest) (ts ++ ks)
theorem Says.par {x : Bytes} {ts : List KTok} (h : Says x ts) (b : Bool) : Says (parT b x) (parK b ts) := by
  cases b with
  | false => exact h
  | true =>
    intro rest ks hb hl
    have h1 := Lexes.one (c := 41) (by decide) hl
    have h2 := Lexes.one (c := 40) (by decide) (h _ _ (brk_close rest) h1)
    have e1 : parT true x ++ rest = 40 :: (x ++ 41 :: rest) := by simp [parT]
    have e2 : parK true ts ++ ks = kSym [40] :: (ts ++ kSym [41] :: ks) := by simp [parK]
    rw [e1, e2]
    exact h2
theorem says_join {w : Bytes} (hw : nameB w = true) : ∀ l : List (Bytes × List KTok), l ≠ [] → (∀ p ∈ l, Says p.1 p.2) → Says (joinB (32 :: (w ++ [32])) (l.map Prod.fst)) (joinK (kName w) (l.map Prod.snd))
  | [], h, _ => absurd rfl h
  | [p], _, h => h p (by simp)
  | p :: q :: r, _, h => by
    have ih := says_join hw (q :: r) (by simp) fun x hx => h x (by simp [hx])
    intro rest ks hb hl
    have h1 := (ih rest ks hb hl).space
    have h2 := (Lexes.name hw (brk_space _) h1).space
    have h3 := h p (by simp) _ _ (brk_space _) h2
    simp only [List.map_cons, joinB, joinK] at h3 ⊢
    simpa using h3
theorem Says.text (f : Fm) : Wr f → Says (textF Lib.itoa f) (toksF f) := by
  refine Fm.induct (P := fun f => Wr f → Says (textF Lib.itoa f) (toksF f)) ?_ f
  clear f
  intro f ih hw
  have hk : ∀ k ∈ f.kids, ∀ b, Says (parT b (textF Lib.itoa k)) (parK b (toksF k)) := fun k hk b => (ih k hk (hw.kid hk)).par b
  have kids : ∀ (op : Int) (w : Bytes), nameB w = true → f.kids ≠ [] → Says (joinB (32 :: (w ++ [32])) (textKids Lib.itoa op f.kids)) (joinK (kName w) (toksKids op f.kids)) := fun op w hn h0 => by
    have := says_join hn (f.kids.map fun k => (parT (parB op k.op) (textF Lib.itoa k), parK (parB op k.op) (toksF k))) (by simpa using h0) fun p hp => by
      obtain ⟨k, h1, rfl⟩ := List.mem_map.1 hp
      exact hk k h1 _
    rw [List.map_map, List.map_map] at this
    rw [textKids_eq, toksKids_eq]
    exact this
  rcases hw.forms with ⟨s, m, n, rfl, hm1, hm6, hs, hy, hn0, hn1⟩ | rfl | rfl | ⟨k, rfl⟩ | ⟨a, b, r, rfl⟩ | ⟨a, b, r, rfl⟩
  · intro rest ks hb hl
    obtain ⟨N, rfl⟩ : ∃ N : Nat, n = N := ⟨n.toNat, (Int.toNat_of_nonneg hn0).symm⟩
    have e : Lib.itoa (N : Int) = Lib.decDigits N := Lib.itoa_nonneg N
    have h1 := (Lexes.num (n := N) (by omega) hb hl).space
    have h2 := (Lexes.sym hm1 hm6 h1).space
    have h3 := Lexes.name hs (brk_space _) h2
    have e1 : textF Lib.itoa (.mk 3 s m N []) ++ rest = s ++ 32 :: (symB m ++ 32 :: (Lib.decDigits N ++ rest)) := by simp [textF, e]
    have e2 : toksF (.mk 3 s m N []) ++ ks = kName s :: kSym (symB m) :: (2, N, Lib.decDigits N) :: ks := by simp [toksF, kNum, e]
    rw [e1, e2]
    exact h3
  · intro rest ks hb hl
    have := Lexes.name (s := wTrue) (by decide) hb hl
    simpa [textF, toksF] using this
  · intro rest ks hb hl
    have := Lexes.name (s := wFalse) (by decide) hb hl
    simpa [textF, toksF] using this
  · intro rest ks hb hl
    have h1 := (hk k (by simp [Fm.kids]) (parB 4 k.op) rest ks hb hl).space
    have h2 := Lexes.name (s := wNot) (by decide) (brk_space _) h1
    have e1 : textF Lib.itoa (.mk 4 [] 0 0 [k]) ++ rest = wNot ++ 32 :: (parT (parB 4 k.op) (textF Lib.itoa k) ++ rest) := by simp [textF, textKids, joinB, wNot]
    have e2 : toksF (.mk 4 [] 0 0 [k]) ++ ks = kName wNot :: (parK (parB 4 k.op) (toksF k) ++ ks) := by simp [toksF, toksKids, joinK]
    rw [e1, e2]
    exact h2
  · have := kids 5 wAnd (by decide) (by simp [Fm.kids])
    have e1 : textF Lib.itoa (.mk 5 [] 0 0 (a :: b :: r)) = joinB (32 :: (wAnd ++ [32])) (textKids Lib.itoa 5 (a :: b :: r)) := by simp [textF, wAnd]
    have e2 : toksF (.mk 5 [] 0 0 (a :: b :: r)) = joinK (kName wAnd) (toksKids 5 (a :: b :: r)) := by simp [toksF]
    rw [e1, e2]
    exact this
  · have := kids 6 wOr (by decide) (by simp [Fm.kids])
    have e1 : textF Lib.itoa (.mk 6 [] 0 0 (a :: b :: r)) = joinB (32 :: (wOr ++ [32])) (textKids Lib.itoa 6 (a :: b :: r)) := by simp [textF, wOr]
    have e2 : toksF (.mk 6 [] 0 0 (a :: b :: r)) = joinK (kName wOr) (toksKids 6 (a :: b :: r)) := by simp [toksF]
    rw [e1, e2]
    exact this
/-! How long a text is, and how many tokens it has. -/
theorem name_le {s : Bytes} (h : nameB s = true) : s.length ≤ 24 := by
  unfold nameB at h
  simp only [Bool.and_eq_true, decide_eq_true_eq] at h
  exact h.2.2.1
theorem par_len (b : Bool) (s : Bytes) (t : List KTok) : (parT b s).length ≤ s.length + 2 ∧ (parK b t).length ≤ t.length + 2 := by cases b <;> simp [parT, parK]
theorem join_len {sep : Bytes} {k : KTok} (hs : sep.length ≤ 5) : ∀ l : List (Bytes × List KTok), (joinB sep (l.map Prod.fst)).length ≤ (l.map fun p => p.1.length + 5).sum ∧ (joinK k (l.map Prod.snd)).length ≤ (l.map fun p => p.2.length + 1).sum
  | [] => by simp [joinB, joinK]
  | [p] => by simp [joinB, joinK]
  | p :: q :: r => by
    have ih := join_len (sep := sep) (k := k) hs (q :: r)
    simp only [List.map_cons, joinB, joinK, List.length_append, List.length_cons, List.sum_cons] at ih ⊢
    omega
theorem text_len (f : Fm) : Wr f → (textF Lib.itoa f).length + 7 ≤ 60 * size f ∧ (toksF f).length + 3 ≤ 8 * size f := by
  refine Fm.induct (P := fun f => Wr f → (textF Lib.itoa f).length + 7 ≤ 60 * size f ∧ (toksF f).length + 3 ≤ 8 * size f) ?_ f
  clear f
  intro f ih hw
  have kids : ∀ (op : Int) (sep : Bytes) (k : KTok), sep.length ≤ 5 → (joinB sep (textKids Lib.itoa op f.kids)).length ≤ 60 * sizes f.kids ∧ (joinK k (toksKids op f.kids)).length ≤ 8 * sizes f.kids := fun op sep k hs => by
    have h1 := join_len (k := k) hs (f.kids.map fun q => (parT (parB op q.op) (textF Lib.itoa q), parK (parB op q.op) (toksF q)))
    rw [List.map_map, List.map_map, List.map_map, List.map_map] at h1
    rw [textKids_eq, toksKids_eq]
    have h2 : ∀ ks : List Fm, (∀ q ∈ ks, (textF Lib.itoa q).length + 7 ≤ 60 * size q ∧ (toksF q).length + 3 ≤ 8 * size q) →
        (ks.map fun q => (parT (parB op q.op) (textF Lib.itoa q)).length + 5).sum ≤ 60 * sizes ks ∧ (ks.map fun q => (parK (parB op q.op) (toksF q)).length + 1).sum ≤ 8 * sizes ks := by
      intro ks
      induction ks with
      | nil => intro _; simp [sizes]
      | cons a r ih2 =>
        intro h
        have h3 := ih2 fun q hq => h q (by simp [hq])
        have h4 := h a (by simp)
        have h5 := par_len (parB op a.op) (textF Lib.itoa a) (toksF a)
        simp only [List.map_cons, List.sum_cons, sizes]
        omega
    have h3 := h2 f.kids fun q hq => ih q hq (hw.kid hq)
    exact ⟨Nat.le_trans h1.1 h3.1, Nat.le_trans h1.2 h3.2⟩
  rcases hw.forms with ⟨s, m, n, rfl, hm1, hm6, hs, hy, hn0, hn1⟩ | rfl | rfl | ⟨k, rfl⟩ | ⟨a, b, r, rfl⟩ | ⟨a, b, r, rfl⟩
  · have h1 := name_le hs
    have h2 := Lib.itoa_length_le n (by omega) (by omega)
    have h3 : (symB m).length ≤ 2 := by unfold symB; (repeat' split) <;> decide
    have e1 : textF Lib.itoa (.mk 3 s m n []) = s ++ ([32] ++ (symB m ++ ([32] ++ Lib.itoa n))) := by simp [textF]
    have e2 : toksF (.mk 3 s m n []) = [kName s, kSym (symB m), kNum n] := by simp [toksF]
    rw [e1, e2]
    simp only [List.length_append, List.length_cons, List.length_nil, size, sizes]
    omega
  · simp [textF, toksF, wTrue, size, sizes]
  · simp [textF, toksF, wFalse, size, sizes]
  · have h1 := ih k (by simp [Fm.kids]) (hw.kid (by simp [Fm.kids]))
    have h2 := par_len (parB 4 k.op) (textF Lib.itoa k) (toksF k)
    have e1 : textF Lib.itoa (.mk 4 [] 0 0 [k]) = [110, 111, 116, 32] ++ parT (parB 4 k.op) (textF Lib.itoa k) := by simp [textF, textKids, joinB]
    have e2 : toksF (.mk 4 [] 0 0 [k]) = kName wNot :: parK (parB 4 k.op) (toksF k) := by simp [toksF, toksKids, joinK]
    rw [e1, e2]
    simp only [List.length_append, List.length_cons, List.length_nil, size, sizes]
    omega
  · have h1 := kids 5 [32, 97, 110, 100, 32] (kName wAnd) (by decide)
    have e1 : textF Lib.itoa (.mk 5 [] 0 0 (a :: b :: r)) = joinB [32, 97, 110, 100, 32] (textKids Lib.itoa 5 (a :: b :: r)) := by simp [textF]
    have e2 : toksF (.mk 5 [] 0 0 (a :: b :: r)) = joinK (kName wAnd) (toksKids 5 (a :: b :: r)) := by simp [toksF]
    simp only [Fm.kids] at h1
    rw [e1, e2, size]
    omega
  · have h1 := kids 6 [32, 111, 114, 32] (kName wOr) (by decide)
    have e1 : textF Lib.itoa (.mk 6 [] 0 0 (a :: b :: r)) = joinB [32, 111, 114, 32] (textKids Lib.itoa 6 (a :: b :: r)) := by simp [textF]
    have e2 : toksF (.mk 6 [] 0 0 (a :: b :: r)) = joinK (kName wOr) (toksKids 6 (a :: b :: r)) := by simp [toksF]
    simp only [Fm.kids] at h1
    rw [e1, e2, size]
    omega
/-- The text of a formula is read as the formula. -/
theorem text_back {f : Fm} (h : textE f = 0) : parseF (textF Lib.itoa f) = (f, 0, 0) := by
  have h' : largeB f = false ∧ Wr f := by
    unfold textE at h
    split at h
    · simp at h
    · rename_i h1
      simp only [not_or, Bool.not_eq_true, ne_eq, Decidable.not_not] at h1
      exact h1
  obtain ⟨hL, hw⟩ := h'
  have h1 := text_len f hw
  have h2 := (largeB_false.1 hL).1
  have h3 := Says.text f hw [] [] brk_nil (.nil rfl)
  rw [List.append_nil, List.append_nil] at h3
  obtain ⟨ts, h4, h5⟩ := h3.all (by omega) (by omega)
  exact parse_toks h4 h5 hw hL
theorem textF_inj {f g : Fm} (hf : textE f = 0) (hg : textE g = 0) : textF Lib.itoa f = textF Lib.itoa g ↔ f = g := by
  refine ⟨fun h => ?_, fun h => by rw [h]⟩
  have h1 := text_back hf
  rw [h, text_back hg] at h1
  exact (Prod.mk.inj h1).1.symm
theorem next_ok {l : Bytes} {i : Nat} {t : Tok} {k : Nat} (h : nextL l i = .ok (t, k)) (hk : t.kind = 1) : nameB t.text = true := by
  obtain ⟨h1, h2, h3⟩ := next_name h hk
  have hi : i < l.length := Decidable.byContradiction fun hx => by
    rw [atL_none (by omega)] at h1; cases h1
  have hw : 1 ≤ whileN [3, 4, 5] (l.drop i) := by
    rw [whileN_drop hi, if_pos]
    · omega
    · rw [atL_some hi] at h1
      rw [h1]; rfl
  have hle := whileN_le [3, 4, 5] (l.drop i)
  rw [h3]
  unfold nameB
  simp only [Bool.and_eq_true, decide_eq_true_eq, beq_iff_eq, List.all_eq_true, List.length_take]
  refine ⟨fun c hc => ?_, by omega, by omega, ?_⟩
  · exact whileN_mem hc
  · rw [List.drop_eq_getElem_cons hi]
    obtain ⟨m, hm⟩ : ∃ m, whileN [3, 4, 5] (l.drop i) = m + 1 := ⟨whileN [3, 4, 5] (l.drop i) - 1, by omega⟩
    rw [← List.drop_eq_getElem_cons hi, hm, List.drop_eq_getElem_cons hi, List.take_succ_cons]
    show cls l[i] = 3
    rw [← atL_some hi]; exact h1
theorem lexF_names : ∀ (f : Nat) (l : Bytes) (i : Nat) (acc ts : List Tok), NameOk acc → lexF l f i acc = .ok ts → NameOk ts
  | 0, l, i, acc, ts, ha, h => by simp only [lexF, Except.ok.injEq] at h; exact h ▸ ha
  | f + 1, l, i, acc, ts, ha, h => by
    simp only [lexF] at h
    split at h
    · split at h
      · cases h
      · rename_i t k hn
        split at h
        · cases h
        · refine lexF_names f l _ _ _ (fun u hu hk => ?_) h
          rcases List.mem_append.1 hu with hu | hu
          · exact ha u hu hk
          · obtain rfl : u = t := by simpa using hu
            exact next_ok hn hk
    · simp only [Except.ok.injEq] at h
      exact h ▸ ha
theorem lexAll_names (l : Bytes) : NameOk (lexAll l).1 := by
  unfold lexAll
  split
  · intro t ht; simp at ht
  · split
    · intro t ht; simp at ht
    · rename_i ts h
      exact lexF_names _ _ _ _ _ (fun t ht => by simp at ht) h
/-- What is read from a text can be written. -/
theorem parse_writes {l : Bytes} {f : Fm} {at' : Int} (h : parseF l = (f, 0, at')) : textE f = 0 := by
  unfold parseF at h
  split at h
  · rename_i h1
    simp only [Prod.mk.injEq] at h
    exact absurd h.2.1 h1
  · split at h
    · rename_i e he
      simp only [Prod.mk.injEq] at h
      have := either_err _ _ _ he
      omega
    · simp at h
    · rename_i g he
      obtain ⟨h1, -⟩ := either_wr _ _ _ _ (lexAll_names l) he
      split at h
      · simp at h
      · rename_i hL
        simp only [Prod.mk.injEq] at h
        obtain ⟨rfl, -, -⟩ := h
        unfold textE
        rw [if_neg]
        simp only [not_or]
        exact ⟨hL, by simp [h1]⟩
end Go.Cz.Fo
