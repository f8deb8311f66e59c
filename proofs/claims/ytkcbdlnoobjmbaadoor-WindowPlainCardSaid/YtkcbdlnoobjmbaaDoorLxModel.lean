/-
  What the lexer computes, in plain Lean: classes of bytes, gaps, tokens.
-/
import Derived.Test.YtkcbdlnoobjmbaaDoorMem
namespace Go.Cz.Lx
/-- The class of a byte: 1 blank, 2 '#', 3 letter, 4 digit, 5 '_', 6 quote, 7 '!', 8 angle, 9 symbol, 0 other. -/
def cls (c : UInt8) : Nat :=
  if (97 ≤ c ∧ c ≤ 122) ∨ (65 ≤ c ∧ c ≤ 90) then 3
  else if 48 ≤ c ∧ c ≤ 57 then 4
  else if c = 95 then 5
  else if c = 32 ∨ c = 9 ∨ c = 10 then 1
  else if c = 35 then 2
  else if c = 34 then 6
  else if c = 33 then 7
  else if c = 60 ∨ c = 62 then 8
  else if c ∈ [59, 44, 46, 58, 40, 41, 91, 93, 123, 125, 61, 43, 45] then 9
  else 0
theorem all_bytes {p : UInt8 → Prop} (h : ∀ n : Fin 256, p (UInt8.ofNat n.1)) (c : UInt8) : p c := by
  have := h ⟨c.toNat, c.toNat_lt⟩
  simpa using this
theorem cls_le (c : UInt8) : cls c ≤ 9 := all_bytes (p := fun c => cls c ≤ 9) (by decide +kernel) c
def atL (l : List UInt8) (i : Nat) : Nat := match l[i]? with | some c => cls c | none => 0
theorem atL_some {l : List UInt8} {i : Nat} (h : i < l.length) : atL l i = cls l[i] := by unfold atL; rw [List.getElem?_eq_getElem h]
theorem atL_none {l : List UInt8} {i : Nat} (h : l.length ≤ i) : atL l i = 0 := by unfold atL; rw [List.getElem?_eq_none h]
/-- How many bytes from here on have one of some classes. -/
def whileN (C : List Nat) : List UInt8 → Nat
  | [] => 0
  | c :: r => if C.contains (cls c) then whileN C r + 1 else 0
theorem whileN_le (C : List Nat) : ∀ l, whileN C l ≤ l.length
  | [] => Nat.le_refl _
  | c :: r => by
    have := whileN_le C r
    unfold whileN
    split
    · simp; omega
    · simp
theorem whileN_drop {C : List Nat} {l : List UInt8} {i : Nat} (h : i < l.length) : whileN C (l.drop i) = if C.contains (cls l[i]) then whileN C (l.drop (i + 1)) + 1 else 0 := by
  rw [List.drop_eq_getElem_cons h]; rfl
theorem whileN_end {C : List Nat} {l : List UInt8} {i : Nat} (h : l.length ≤ i) : whileN C (l.drop i) = 0 := by rw [List.drop_of_length_le h]; rfl
/-- How many bytes of gaps come first; b: within a comment. -/
def gapL : Bool → List UInt8 → Nat
  | _, [] => 0
  | true, c :: r => if c = 10 then gapL false r + 1 else gapL true r + 1
  | false, c :: r => if cls c = 1 then gapL false r + 1 else if cls c = 2 then gapL true r + 1 else 0
theorem gapL_le : ∀ (l : List UInt8) (b : Bool), gapL b l ≤ l.length
  | [], b => by cases b <;> simp [gapL]
  | c :: r, true => by
    have h1 := gapL_le r true
    have h2 := gapL_le r false
    simp only [gapL, List.length_cons]
    split <;> omega
  | c :: r, false => by
    have h1 := gapL_le r true
    have h2 := gapL_le r false
    simp only [gapL, List.length_cons]
    repeat' split
    all_goals omega
/-- The blanks that come first. -/
theorem gapL_while : ∀ l : List UInt8, gapL false l = whileN [1] l + gapL false (l.drop (whileN [1] l))
  | [] => rfl
  | c :: r => by
    by_cases h : cls c = 1
    · have hw : whileN [1] (c :: r) = whileN [1] r + 1 := by simp [whileN, h]
      rw [hw, List.drop_succ_cons]
      show (if cls c = 1 then gapL false r + 1 else _) = _
      rw [if_pos h, gapL_while r]
      omega
    · have hw : whileN [1] (c :: r) = 0 := by
        have : ¬ (1 = cls c) := fun h1 => h h1.symm
        simp [whileN, h]
      rw [hw]
      simp
/-- A comment ends before the next line feed, or with the text. -/
theorem gapL_comment : ∀ l : List UInt8, gapL true l = if Lib.indexByte l 10 < 0 then l.length else (Lib.indexByte l 10).toNat + gapL false (l.drop (Lib.indexByte l 10).toNat)
  | [] => rfl
  | c :: r => by
    by_cases h : c = 10
    · subst h
      have e : Lib.indexByte ((10 : UInt8) :: r) 10 = 0 := by simp [Lib.indexByte]
      rw [e]
      have h1 : cls 10 = 1 := by decide
      simp [gapL, h1]
    · have e : Lib.indexByte (c :: r) 10 = if Lib.indexByte r 10 < 0 then -1 else Lib.indexByte r 10 + 1 := by
        have hc : (c == 10) = false := by simp [h]
        have h2 := Lib.indexByte_ge r 10
        simp only [Lib.indexByte]
        split <;> simp_all <;> omega
      have ih := gapL_comment r
      simp only [gapL, if_neg h]
      rw [ih, e]
      split
      · simp
      · rename_i h1
        have h2 := Lib.indexByte_ge r 10
        rw [if_neg (by omega)]
        have h3 : (Lib.indexByte r 10 + 1).toNat = (Lib.indexByte r 10).toNat + 1 := by omega
        rw [h3, List.drop_succ_cons]
        omega
/-- The end of the gaps that begin at an offset. -/
def gapE (l : List UInt8) (i : Nat) : Nat := i + gapL false (l.drop i)
theorem gapE_le (l : List UInt8) (i : Nat) (h : i ≤ l.length) : gapE l i ≤ l.length := by
  have := gapL_le (l.drop i) false
  rw [List.length_drop] at this
  unfold gapE
  omega
/-- A token: kind, value, text. -/
structure Tok where
  kind : Nat
  pos : Nat
  num : Nat
  text : List UInt8
/-- The value of digits. -/
def numV (l : List UInt8) : Nat := l.foldl (fun a c => 10 * a + (c.toNat - 48)) 0
/-- Where the first quote or line feed stands. -/
def idxQ : List UInt8 → Option Nat
  | [] => none
  | c :: r => if c = 34 ∨ c = 10 then some 0 else (idxQ r).map (· + 1)
theorem idxQ_lt : ∀ {l : List UInt8} {n : Nat}, idxQ l = some n → n < l.length
  | [], n, h => by simp [idxQ] at h
  | c :: r, n, h => by
    unfold idxQ at h
    split at h
    · simp at h; simp; omega
    · rcases h1 : idxQ r with _ | m
      · rw [h1] at h; simp at h
      · rw [h1] at h
        have := idxQ_lt h1
        simp at h ⊢
        omega
/-- The token that begins at offset i: an error, or the token and its width. -/
def nextL (l : List UInt8) (i : Nat) : Except Nat (Tok × Nat) :=
  if atL l i = 3 then
    if 24 < whileN [3, 4, 5] (l.drop i) then .error 2 else .ok (⟨1, i, 0, (l.drop i).take (whileN [3, 4, 5] (l.drop i))⟩, whileN [3, 4, 5] (l.drop i))
  else if atL l i = 4 then
    if 13 < whileN [4] (l.drop i) ∨ atL l (i + whileN [4] (l.drop i)) = 3 ∨ atL l (i + whileN [4] (l.drop i)) = 5 then .error 4
    else .ok (⟨2, i, numV ((l.drop i).take (whileN [4] (l.drop i))), (l.drop i).take (whileN [4] (l.drop i))⟩, whileN [4] (l.drop i))
  else if atL l i = 6 then
    match idxQ (l.drop (i + 1)) with
    | none => .error 6
    | some n => if (l.drop (i + 1))[n]? = some 10 then .error 6 else if 400 < n then .error 2 else .ok (⟨3, i, 0, (l.drop (i + 1)).take n⟩, n + 2)
  else if (atL l i = 7 ∨ atL l i = 8) ∧ l[i + 1]? = some 61 then .ok (⟨4, i, 0, (l.drop i).take 2⟩, 2)
  else if atL l i = 8 ∨ atL l i = 9 then .ok (⟨4, i, 0, (l.drop i).take 1⟩, 1)
  else .error 3
/-- A token has a byte at least, and lies in the text. -/
theorem nextL_width {l : List UInt8} {i : Nat} {t : Tok} {k : Nat} (h : nextL l i = .ok (t, k)) (hi : i < l.length) : 1 ≤ k ∧ i + k ≤ l.length := by
  have hw (C : List Nat) (hC : C.contains (cls l[i]) = true) : 1 ≤ whileN C (l.drop i) ∧ i + whileN C (l.drop i) ≤ l.length := by
    have h1 := whileN_le C (l.drop i)
    rw [List.length_drop] at h1
    refine ⟨?_, by omega⟩
    rw [whileN_drop hi, if_pos hC]
    omega
  have ha := atL_some hi
  unfold nextL at h
  split at h
  · rename_i h0
    have := hw [3, 4, 5] (by rw [← ha, h0]; rfl)
    split at h
    · cases h
    · injection h with h; injection h with _ h; subst h; exact this
  split at h
  · rename_i h0
    have := hw [4] (by rw [← ha, h0]; rfl)
    split at h
    · cases h
    · injection h with h; injection h with _ h; subst h; exact this
  split at h
  · split at h
    · cases h
    · rename_i n hn
      have := idxQ_lt hn
      rw [List.length_drop] at this
      split at h
      · cases h
      split at h
      · cases h
      · injection h with h; injection h with _ h; subst h; omega
  split at h
  · rename_i h0
    have := (List.getElem?_eq_some_iff.1 h0.2).1
    injection h with h; injection h with _ h; subst h; omega
  split at h
  · injection h with h; injection h with _ h; subst h; omega
  · cases h
theorem nextL_err {l : List UInt8} {i e : Nat} (h : nextL l i = .error e) : e = 2 ∨ e = 3 ∨ e = 4 ∨ e = 6 := by
  unfold nextL at h
  repeat' split at h
  all_goals first | (injection h with h; omega) | cases h
/-- The tokens from offset i on, behind those that are there. -/
def lexF (l : List UInt8) : Nat → Nat → List Tok → Except (Nat × Nat) (List Tok)
  | 0, _, acc => .ok acc
  | f + 1, i, acc =>
    if i < l.length then
      match nextL l i with
      | .error e => .error (e, i)
      | .ok (t, k) => if acc.length = 5000 then .error (2, i) else lexF l f (gapE l (i + k)) (acc ++ [t])
    else .ok acc
/-- What 'Lex' answers: tokens, error, offset. -/
def lexAll (l : List UInt8) : List Tok × Nat × Int :=
  if 20000 < l.length then ([], 2, -1)
  else match lexF l (l.length + 1) (gapE l 0) [] with
    | .error (e, i) => ([], e, i)
    | .ok ts => (ts, 0, 0)
/-- The state of the loop: what is still to come gives the answer. -/
def LexI (l : List UInt8) (i : Nat) (acc : List Tok) : Prop := ∃ f, l.length - i < f ∧ lexF l (l.length + 1) (gapE l 0) [] = lexF l f i acc
theorem lexI_start (l : List UInt8) : LexI l (gapE l 0) [] := ⟨l.length + 1, by omega, rfl⟩
theorem lexI_end {l : List UInt8} {i : Nat} {acc : List Tok} (h : LexI l i acc) (hi : l.length ≤ i) (h2 : l.length ≤ 20000) : lexAll l = (acc, 0, 0) := by
  obtain ⟨f, hf, he⟩ := h
  unfold lexAll
  rw [if_neg (by omega), he]
  cases f with
  | zero => omega
  | succ f => simp only [lexF]; rw [if_neg (by omega)]
theorem lexI_err {l : List UInt8} {i e : Nat} {acc : List Tok} (h : LexI l i acc) (hi : i < l.length) (h2 : l.length ≤ 20000) (hn : nextL l i = .error e) : lexAll l = ([], e, (i : Int)) := by
  obtain ⟨f, hf, he⟩ := h
  unfold lexAll
  rw [if_neg (by omega), he]
  cases f with
  | zero => omega
  | succ f => simp only [lexF]; rw [if_pos hi, hn]
theorem lexI_full {l : List UInt8} {i k : Nat} {t : Tok} {acc : List Tok} (h : LexI l i acc) (hi : i < l.length) (h2 : l.length ≤ 20000) (hn : nextL l i = .ok (t, k)) (hf5 : acc.length = 5000) : lexAll l = ([], 2, (i : Int)) := by
  obtain ⟨f, hf, he⟩ := h
  unfold lexAll
  rw [if_neg (by omega), he]
  cases f with
  | zero => omega
  | succ f => simp only [lexF]; rw [if_pos hi, hn]; simp [hf5]
theorem lexI_next {l : List UInt8} {i k : Nat} {t : Tok} {acc : List Tok} (h : LexI l i acc) (hi : i < l.length) (hn : nextL l i = .ok (t, k)) (hf5 : acc.length ≠ 5000) : LexI l (gapE l (i + k)) (acc ++ [t]) := by
  obtain ⟨f, hf, he⟩ := h
  obtain ⟨w1, w2⟩ := nextL_width hn hi
  cases f with
  | zero => omega
  | succ f =>
    refine ⟨f, ?_, ?_⟩
    · have : i + k ≤ gapE l (i + k) := by unfold gapE; omega
      omega
    · rw [he]
      simp only [lexF]
      rw [if_pos hi, hn]
      simp [hf5]
end Go.Cz.Lx
