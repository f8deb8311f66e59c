/-
  What the lexer computes, in plain Lean: classes of bytes, gaps, tokens.
  The lexer's table of classes: a class for some bytes.
  The lexer's table of classes.
  The lexer's 'at', 'while', 'gap'.
  Plain laws of the lexer's gaps.
  The lexer's 'while', 'gap'.
  The lexer's 'next'.
  The lexer's scanner, built.
  The lexer's 'Lex'.
  strings.IndexAny at a quote and a line feed, at every text.
  Names, in plain Lean: a text is one name token exactly if it is a name.
-/
import Derived.Test.YtckocgkndbdhcaaGreatDoorBase
import Derived.Test.YtckocgkndbdhcaaGreatDoorProg
import Derived.Deep.LoopGhost
import Derived.Deep.DeepCutAuto
import Derived.IntWalk
import Derived.Laws.Rows
import Derived.Laws.Tables
import Derived.Lib.AtoiAll
import Derived.Test.YtckocgkndbdhcaaGreatDoorShelf
import Derived.Laws.RangeAny
import Derived.Laws.Runes
import Derived.WalkMore
namespace Go.Cz.Lx
/-- The class of a byte: 1 blank, 2 '#', 3 letter, 4 digit, 5 '_', 6 quote, 7 '!', 8 angle, 9 symbol, 0 other. -/
def cls (c : UInt8) : Nat :=
  if (97 ≤ c ∧ c ≤ 122) ∨ (65 ≤ c ∧ c ≤ 90) then 3
  else if 48 ≤ c ∧ c ≤ 57 then 4
  else if c = 95 then 5
  else if c = 32 ∨ c = 9 ∨ c = 10 then 1
  else if c = 35 then 2
  else if c = 34 then 6
  else if c = 33 then 7
  else if c = 60 ∨ c = 62 then 8
  else if c ∈ [59, 44, 46, 58, 40, 41, 91, 93, 123, 125, 61, 43, 45] then 9
  else 0
theorem all_bytes {p : UInt8 → Prop} (h : ∀ n : Fin 256, p (UInt8.ofNat n.1)) (c : UInt8) : p c := by
  have := h ⟨c.toNat, c.toNat_lt⟩
  simpa using this
theorem cls_le (c : UInt8) : cls c ≤ 9 := all_bytes (p := fun c => cls c ≤ 9) (by decide +kernel) c
def atL (l : List UInt8) (i : Nat) : Nat := match l[i]? with | some c => cls c | none => 0
theorem atL_some {l : List UInt8} {i : Nat} (h : i < l.length) : atL l i = cls l[i] := by unfold atL; rw [List.getElem?_eq_getElem h]
theorem atL_none {l : List UInt8} {i : Nat} (h : l.length ≤ i) : atL l i = 0 := by unfold atL; rw [List.getElem?_eq_none h]
/-- How many bytes from here on have one of some classes. -/
def whileN (C : List Nat) : List UInt8 → Nat
  | [] => 0
  | c :: r => if C.contains (cls c) then whileN C r + 1 else 0
theorem whileN_le (C : List Nat) : ∀ l, whileN C l ≤ l.length
  | [] => Nat.le_refl _
  | c :: r => by
    have := whileN_le C r
    unfold whileN
    split
    · simp; omega
    · simp
theorem whileN_drop {C : List Nat} {l : List UInt8} {i : Nat} (h : i < l.length) : whileN C (l.drop i) = if C.contains (cls l[i]) then whileN C (l.drop (i + 1)) + 1 else 0 := by
  rw [List.drop_eq_getElem_cons h]; rfl
theorem whileN_end {C : List Nat} {l : List UInt8} {i : Nat} (h : l.length ≤ i) : whileN C (l.drop i) = 0 := by rw [List.drop_of_length_le h]; rfl
/-- How many bytes of gaps come first; b: within a comment. -/
def gapL : Bool → List UInt8 → Nat
  | _, [] => 0
  | true, c :: r => if c = 10 then gapL false r + 1 else gapL true r + 1
  | false, c :: r => if cls c = 1 then gapL false r + 1 else if cls c = 2 then gapL true r + 1 else 0
theorem gapL_le : ∀ (l : List UInt8) (b : Bool), gapL b l ≤ l.length
  | [], b => by cases b <;> simp [gapL]
  | c :: r, true => by
    have h1 := gapL_le r true
    have h2 := gapL_le r false
    simp only [gapL, List.length_cons]
    split <;> omega
  | c :: r, false => by
    have h1 := gapL_le r true
    have h2 := gapL_le r false
    simp only [gapL, List.length_cons]
    repeat' split
    all_goals omega
/-- The blanks that come first. -/
theorem gapL_while : ∀ l : List UInt8, gapL false l = whileN [1] l + gapL false (l.drop (whileN [1] l))
  | [] => rfl
  | c :: r => by
    by_cases h : cls c = 1
    · have hw : whileN [1] (c :: r) = whileN [1] r + 1 := by simp [whileN, h]
      rw [hw, List.drop_succ_cons]
      show (if cls c = 1 then gapL false r + 1 else _) = _
      rw [if_pos h, gapL_while r]
      omega
    · have hw : whileN [1] (c :: r) = 0 := by
        have : ¬ (1 = cls c) := fun h1 => h h1.symm
        simp [whileN, h]
      rw [hw]
      simp
/-- A comment ends before the next line feed, or with the text. -/
theorem gapL_comment : ∀ l : List UInt8, gapL true l = if Lib.indexByte l 10 < 0 then l.length else (Lib.indexByte l 10).toNat + gapL false (l.drop (Lib.indexByte l 10).toNat)
  | [] => rfl
  | c :: r => by
    by_cases h : c = 10
    · subst h
      have e : Lib.indexByte ((10 : UInt8) :: r) 10 = 0 := by simp [Lib.indexByte]
      rw [e]
      have h1 : cls 10 = 1 := by decide
      simp [gapL, h1]
    · have e : Lib.indexByte (c :: r) 10 = if Lib.indexByte r 10 < 0 then -1 else Lib.indexByte r 10 + 1 := by
        have hc : (c == 10) = false := by simp [h]
        have h2 := Lib.indexByte_ge r 10
        simp only [Lib.indexByte]
        split <;> simp_all <;> omega
      have ih := gapL_comment r
      simp only [gapL, if_neg h]
      rw [ih, e]
      split
      · simp
      · rename_i h1
        have h2 := Lib.indexByte_ge r 10
        rw [if_neg (by omega)]
        have h3 : (Lib.indexByte r 10 + 1).toNat = (Lib.indexByte r 10).toNat + 1 := by omega
        rw [h3, List.drop_succ_cons]
        omega
/-- The end of the gaps that begin at an offset. -/
def gapE (l : List UInt8) (i : Nat) : Nat := i + gapL false (l.drop i)
theorem gapE_le (l : List UInt8) (i : Nat) (h : i ≤ l.length) : gapE l i ≤ l.length := by
  have := gapL_le (l.drop i) false
  rw [List.length_drop] at this
  unfold gapE
  omega
/-- A token: kind, value, text. -/
structure Tok where
  kind : Nat
  pos : Nat
  num : Nat
  text : List UInt8
/-- The value of digits. -/
def numV (l : List UInt8) : Nat := l.foldl (fun a c => 10 * a + (c.toNat - 48)) 0
/-- Where the first quote or line feed stands. -/
def idxQ : List UInt8 → Option Nat
  | [] => none
  | c :: r => if c = 34 ∨ c = 10 then some 0 else (idxQ r).map (· + 1)
theorem idxQ_lt : ∀ {l : List UInt8} {n : Nat}, idxQ l = some n → n < l.length
  | [], n, h => by simp [idxQ] at h
  | c :: r, n, h => by
    unfold idxQ at h
    split at h
    · simp at h; simp; omega
    · rcases h1 : idxQ r with _ | m
      · rw [h1] at h; simp at h
      · rw [h1] at h
        have := idxQ_lt h1
        simp at h ⊢
        omega
/-- The token that begins at offset i: an error, or the token and its width. -/
def nextL (l : List UInt8) (i : Nat) : Except Nat (Tok × Nat) :=
  if atL l i = 3 then
    if 24 < whileN [3, 4, 5] (l.drop i) then .error 2 else .ok (⟨1, i, 0, (l.drop i).take (whileN [3, 4, 5] (l.drop i))⟩, whileN [3, 4, 5] (l.drop i))
  else if atL l i = 4 then
    if 13 < whileN [4] (l.drop i) ∨ atL l (i + whileN [4] (l.drop i)) = 3 ∨ atL l (i + whileN [4] (l.drop i)) = 5 then .error 4
    else .ok (⟨2, i, numV ((l.drop i).take (whileN [4] (l.drop i))), (l.drop i).take (whileN [4] (l.drop i))⟩, whileN [4] (l.drop i))
  else if atL l i = 6 then
    match idxQ (l.drop (i + 1)) with
    | none => .error 6
    | some n => if (l.drop (i + 1))[n]? = some 10 then .error 6 else if 400 < n then .error 2 else .ok (⟨3, i, 0, (l.drop (i + 1)).take n⟩, n + 2)
  else if (atL l i = 7 ∨ atL l i = 8) ∧ l[i + 1]? = some 61 then .ok (⟨4, i, 0, (l.drop i).take 2⟩, 2)
  else if atL l i = 8 ∨ atL l i = 9 then .ok (⟨4, i, 0, (l.drop i).take 1⟩, 1)
  else .error 3
/-- A token has a byte at least, and lies in the text. -/
theorem nextL_width {l : List UInt8} {i : Nat} {t : Tok} {k : Nat} (h : nextL l i = .ok (t, k)) (hi : i < l.length) : 1 ≤ k ∧ i + k ≤ l.length := by
  have hw (C : List Nat) (hC : C.contains (cls l[i]) = true) : 1 ≤ whileN C (l.drop i) ∧ i + whileN C (l.drop i) ≤ l.length := by
    have h1 := whileN_le C (l.drop i)
    rw [List.length_drop] at h1
    refine ⟨?_, by omega⟩
    rw [whileN_drop hi, if_pos hC]
    omega
  have ha := atL_some hi
  unfold nextL at h
  split at h
  · rename_i h0
    have := hw [3, 4, 5] (by rw [← ha, h0]; rfl)
    split at h
    · cases h
    · injection h with h; injection h with _ h; subst h; exact this
  split at h
  · rename_i h0
    have := hw [4] (by rw [← ha, h0]; rfl)
    split at h
    · cases h
    · injection h with h; injection h with _ h; subst h; exact this
  split at h
  · split at h
    · cases h
    · rename_i n hn
      have := idxQ_lt hn
      rw [List.length_drop] at this
      split at h
      · cases h
      split at h
      · cases h
      · injection h with h; injection h with _ h; subst h; omega
  split at h
  · rename_i h0
    have := (List.getElem?_eq_some_iff.1 h0.2).1
    injection h with h; injection h with _ h; subst h; omega
  split at h
  · injection h with h; injection h with _ h; subst h; omega
  · cases h
theorem nextL_err {l : List UInt8} {i e : Nat} (h : nextL l i = .error e) : e = 2 ∨ e = 3 ∨ e = 4 ∨ e = 6 := by
  unfold nextL at h
  repeat' split at h
  all_goals first | (injection h with h; omega) | cases h
/-- The tokens from offset i on, behind those that are there. -/
def lexF (l : List UInt8) : Nat → Nat → List Tok → Except (Nat × Nat) (List Tok)
  | 0, _, acc => .ok acc
  | f + 1, i, acc =>
    if i < l.length then
      match nextL l i with
      | .error e => .error (e, i)
      | .ok (t, k) => if acc.length = 5000 then .error (2, i) else lexF l f (gapE l (i + k)) (acc ++ [t])
    else .ok acc
/-- What 'Lex' answers: tokens, error, offset. -/
def lexAll (l : List UInt8) : List Tok × Nat × Int :=
  if 20000 < l.length then ([], 2, -1)
  else match lexF l (l.length + 1) (gapE l 0) [] with
    | .error (e, i) => ([], e, i)
    | .ok ts => (ts, 0, 0)
/-- The state of the loop: what is still to come gives the answer. -/
def LexI (l : List UInt8) (i : Nat) (acc : List Tok) : Prop := ∃ f, l.length - i < f ∧ lexF l (l.length + 1) (gapE l 0) [] = lexF l f i acc
theorem lexI_start (l : List UInt8) : LexI l (gapE l 0) [] := ⟨l.length + 1, by omega, rfl⟩
theorem lexI_end {l : List UInt8} {i : Nat} {acc : List Tok} (h : LexI l i acc) (hi : l.length ≤ i) (h2 : l.length ≤ 20000) : lexAll l = (acc, 0, 0) := by
  obtain ⟨f, hf, he⟩ := h
  unfold lexAll
  rw [if_neg (by omega), he]
  cases f with
  | zero => omega
  | succ f => simp only [lexF]; rw [if_neg (by omega)]
theorem lexI_err {l : List UInt8} {i e : Nat} {acc : List Tok} (h : LexI l i acc) (hi : i < l.length) (h2 : l.length ≤ 20000) (hn : nextL l i = .error e) : lexAll l = ([], e, (i : Int)) := by
  obtain ⟨f, hf, he⟩ := h
  unfold lexAll
  rw [if_neg (by omega), he]
  cases f with
  | zero => omega
  | succ f => simp only [lexF]; rw [if_pos hi, hn]
theorem lexI_full {l : List UInt8} {i k : Nat} {t : Tok} {acc : List Tok} (h : LexI l i acc) (hi : i < l.length) (h2 : l.length ≤ 20000) (hn : nextL l i = .ok (t, k)) (hf5 : acc.length = 5000) : lexAll l = ([], 2, (i : Int)) := by
  obtain ⟨f, hf, he⟩ := h
  unfold lexAll
  rw [if_neg (by omega), he]
  cases f with
  | zero => omega
  | succ f => simp only [lexF]; rw [if_pos hi, hn]; simp [hf5]
theorem lexI_next {l : List UInt8} {i k : Nat} {t : Tok} {acc : List Tok} (h : LexI l i acc) (hi : i < l.length) (hn : nextL l i = .ok (t, k)) (hf5 : acc.length ≠ 5000) : LexI l (gapE l (i + k)) (acc ++ [t]) := by
  obtain ⟨f, hf, he⟩ := h
  obtain ⟨w1, w2⟩ := nextL_width hn hi
  cases f with
  | zero => omega
  | succ f =>
    refine ⟨f, ?_, ?_⟩
    · have : i + k ≤ gapE l (i + k) := by unfold gapE; omega
      omega
    · rw [he]
      simp only [lexF]
      rw [if_pos hi, hn]
      simp [hf5]
end Go.Cz.Lx
namespace Go.Proofs.YtckocgkndbdhcaaGreatDoor
open Go.RowKit Go.Cz Go.Cz.Lx
set_option linter.unusedSimpArgs false
set_option linter.unusedVariables false
attribute [local go_sem] bs_size bs_extract bs_append bs_toList
attribute [local irreducible] cList
/-- The table behind some bytes that have got a class. -/
def setTab (cs : Array Value) (k : Int) (l : List UInt8) : Array Value := l.foldl (fun a c => a.setIfInBounds c.toNat (.int .i64 k)) cs
theorem setTab_size (k : Int) : ∀ (l : List UInt8) (cs : Array Value), (setTab cs k l).size = cs.size
  | [], cs => rfl
  | c :: l, cs => by
    show (setTab (cs.setIfInBounds c.toNat (.int .i64 k)) k l).size = _
    rw [setTab_size k l]
    simp
theorem setTab_snoc (cs : Array Value) (k : Int) (l : List UInt8) (c : UInt8) : setTab cs k (l ++ [c]) = (setTab cs k l).setIfInBounds c.toNat (.int .i64 k) := by simp [setTab]
/-- A table of 256 cells in block g. -/
def TabAt (w : World) (g : Nat) (cs : Array Value) : Prop := w.heap[g]? = some (.cells cs 151 (0, 0)) ∧ cs.size = 256
set_option maxHeartbeats 2000000 in
theorem set_c (g : Nat) (cs : Array Value) (l : List UInt8) (k : Int) (w : World) (hl : l.length ≤ 1000) (hg : TabAt w g cs) :
    Calls Tryz.prog 92 #[.string (bs l), .int .i64 k, .pointer (some ⟨g, 0, none⟩)] w fun e w' => e = .returned (.tuple #[]) ∧ TabAt w' g (setTab cs k l) ∧ Mod [g] w w' := by
  obtain ⟨u, hu⟩ : ∃ u, u = bs l := ⟨_, rfl⟩
  rw [← hu]
  have hsz : u.size = l.length := by rw [hu, bs_size]
  have hs0 : u.size ≤ 1000 := by omega
  have HG := Lib.hid hg
  have HU := Lib.hid (And.intro hu hsz)
  clear hg hu hsz hl
  go_enter Tryz.func92, Tryz.ntmps92
  go_wp2_with fail
  go_loopg [5] u.size (fun gk i wr => ∃ j : Nat, gk = u.size - j ∧ j ≤ u.size ∧ i = .int .i64 (j : Int) ∧ Hid (TabAt wr g (setTab cs k (l.take j)) ∧ Mod [g] w wr))
  case atStart => exact ⟨0, rfl, Nat.zero_le _, rfl, HG.out, Mod.refl _ _⟩
  case round =>
    rename_i J1 K1 hJ1 hK1
    clear HG
    obtain ⟨j, rfl, hj, rfl, hw⟩ := hrel
    by_cases hlt : j < u.size
    · obtain ⟨b, hb⟩ : ∃ b, u[j].toNat = b := ⟨_, rfl⟩
      have hb2 : b < 256 := by rw [← hb]; exact UInt8.toNat_lt _
      have hz := lt_of_block hw.out.1.1
      obtain ⟨v0, c0⟩ : ∃ v0, wr.cell? ⟨g, b, none⟩ = some v0 := ⟨_, by rw [cell_of_heap hw.out.1.1]; exact Array.getElem?_eq_getElem (by rw [hw.out.1.2]; exact hb2)⟩
      have f0 : wr.frozen? ⟨g, b, none⟩ = false := free_of_heap hw.out.1.1
      have HN : Hid (TabAt (wr.setCell ⟨g, b, none⟩ (.int .i64 k)) g (setTab cs k (l.take (j + 1))) ∧ Mod [g] w (wr.setCell ⟨g, b, none⟩ (.int .i64 k))) := by
        obtain ⟨h1, h2⟩ := HU.out
        subst h1
        have hjl : j < l.length := by omega
        replace hb : l[j].toNat = b := hb
        refine ⟨⟨?_, ?_⟩, hw.out.2.setCell (.inl (by simp)) _⟩
        · rw [List.take_succ_eq_append_getElem hjl, setTab_snoc, hb]
          exact setCell_heap hw.out.1.1 _
        · rw [setTab_size]; rw [← setTab_size k (l.take j)]; exact hw.out.1.2
      clear hw
      go_wp2_with fail
      go_roundg (u.size - (j + 1))
      case measure => omega
      case rel => exact ⟨j + 1, rfl, by omega, by go_num, HN⟩
    · obtain rfl : j = u.size := by omega
      clear hJ1 hK1
      have He : Hid (TabAt wr g (setTab cs k l) ∧ Mod [g] w wr) := by
        have h2 := hw.out
        rw [List.take_of_length_le (by have := HU.out.2; omega)] at h2
        exact h2
      clear hw
      go_wp2_with fail
      go_end0
      exact ⟨rfl, He.out⟩
/-- The table: the class of each byte. -/
def clsTab : Array Value := ((List.range 256).map fun c => Value.int .i64 (cls (UInt8.ofNat c) : Int)).toArray
theorem clsTab_size : clsTab.size = 256 := by simp [clsTab]
theorem clsTab_at {c : Nat} (h : c < 256) : clsTab[c]? = some (.int .i64 (cls (UInt8.ofNat c) : Int)) := by simp [clsTab, h]
theorem tab_eq : setTab (setTab (setTab (setTab (setTab (setTab (setTab (setTab (setTab (Tryz.zeroCells151) 3 [97, 98, 99, 100, 101, 102, 103, 104, 105, 106, 107, 108, 109, 110, 111, 112, 113, 114, 115, 116, 117, 118, 119, 120, 121, 122, 65, 66, 67, 68, 69, 70, 71, 72, 73, 74, 75, 76, 77, 78, 79, 80, 81, 82, 83, 84, 85, 86, 87, 88, 89, 90]) 4 [48, 49, 50, 51, 52, 53, 54, 55, 56, 57]) 5 [95]) 1 [32, 9, 10]) 2 [35]) 6 [34]) 7 [33]) 8 [60, 62]) 9 [59, 44, 46, 58, 40, 41, 91, 93, 123, 125, 61, 43, 45] = clsTab := by kernel_rfl
theorem zero_size : (Tryz.zeroCells151).size = 256 := by kernel_rfl
theorem clsTab_one : clsTab.all (·.oneCell') = true := by kernel_rfl
end Go.Proofs.YtckocgkndbdhcaaGreatDoor
namespace Go.Proofs.YtckocgkndbdhcaaGreatDoor
open Go.RowKit Go.Cz Go.Cz.Lx
set_option linter.unusedSimpArgs false
set_option linter.unusedVariables false
attribute [local go_sem] bs_size bs_extract bs_append bs_toList
attribute [local irreducible] cList
theorem storeCells_row {P : Program} (w : World) (g : Nat) (t : TypeId) (old cells : Array Value) (hg : w.heap[g]? = some (.cells old t (0, 0))) (ho : old.size = cells.size) (h1 : cells.all (·.oneCell') = true) :
    (storeCells ⟨g, 0, none⟩ cells.toList).run P w = .ok () (w.setRow g cells) := by
  have := run_storeCells_from (P := P) g t cells.toList 0 old w hg (by simp; omega) (fun v hv => (Array.all_eq_true_iff_forall_mem.1 h1) v (by simpa using hv))
  rw [this]
  simp [ho]
/-- A step of the table's making. -/
theorem TabNext {w W W' : World} {g h : Nat} {cs cs' : Array Value} (H : TabAt W g cs ∧ Mod [h, g] w W ∧ ∃ cs, TabAt W h cs) (hne : h ≠ g) (ht : TabAt W' g cs') (hm : Mod [g] W W') : Hid (TabAt W' g cs' ∧ Mod [h, g] w W' ∧ ∃ cs, TabAt W' h cs) := by
  obtain ⟨h1, h2, cs0, h3, h4⟩ := H
  exact ⟨ht, h2.then hm (by simp), cs0, hm.heap h3 (by simpa using hne), h4⟩
set_option maxRecDepth 100000 in
set_option maxHeartbeats 2000000 in
theorem classes_c (w : World) : Calls Tryz.prog 81 #[] w fun e w' => e = .returned (.agg clsTab) ∧ Below w.heap.size w w' := by
  have hi1 : (Tryz.prog.info? 151).map (·.size) = some 256 := by kernel_rfl
  go_enter Tryz.func81, Tryz.ntmps81
  go_wp2_with fail
  obtain ⟨W, hW⟩ : ∃ W, W = (w.alloc (.cells Tryz.zeroCells151 151)).alloc (.cells Tryz.zeroCells151 151) := ⟨_, rfl⟩
  have HT : Hid (TabAt W (w.heap.size + 1) Tryz.zeroCells151 ∧ Mod [w.heap.size, w.heap.size + 1] w W ∧ ∃ cs, TabAt W w.heap.size cs) := by
    refine ⟨⟨?_, zero_size⟩, ?_, Tryz.zeroCells151, ?_, zero_size⟩
    · rw [hW]; exact new_heap _ _ _ (by simp)
    · rw [hW]; exact ((Mod.refl _ _).alloc _).alloc _
    · rw [hW, Below.heap_alloc _ _ _ (by simp)]; exact new_heap _ _ _ rfl
  rw [← hW]
  clear hW
  go_at_call 92
  refine (set_c (w.heap.size + 1) _ [97, 98, 99, 100, 101, 102, 103, 104, 105, 106, 107, 108, 109, 110, 111, 112, 113, 114, 115, 116, 117, 118, 119, 120, 121, 122, 65, 66, 67, 68, 69, 70, 71, 72, 73, 74, 75, 76, 77, 78, 79, 80, 81, 82, 83, 84, 85, 86, 87, 88, 89, 90] 3 _ (by decide) HT.out.1).mono ?_
  rintro e W0 ⟨rfl, ht, hm⟩
  replace HT := TabNext HT.out (by omega) ht hm
  clear ht hm
  go_wp2_with fail
  go_at_call 92
  refine (set_c (w.heap.size + 1) _ [48, 49, 50, 51, 52, 53, 54, 55, 56, 57] 4 _ (by decide) HT.out.1).mono ?_
  rintro e W1 ⟨rfl, ht, hm⟩
  replace HT := TabNext HT.out (by omega) ht hm
  clear ht hm
  go_wp2_with fail
  go_at_call 92
  refine (set_c (w.heap.size + 1) _ [95] 5 _ (by decide) HT.out.1).mono ?_
  rintro e W2 ⟨rfl, ht, hm⟩
  replace HT := TabNext HT.out (by omega) ht hm
  clear ht hm
  go_wp2_with fail
  go_at_call 92
  refine (set_c (w.heap.size + 1) _ [32, 9, 10] 1 _ (by decide) HT.out.1).mono ?_
  rintro e W3 ⟨rfl, ht, hm⟩
  replace HT := TabNext HT.out (by omega) ht hm
  clear ht hm
  go_wp2_with fail
  go_at_call 92
  refine (set_c (w.heap.size + 1) _ [35] 2 _ (by decide) HT.out.1).mono ?_
  rintro e W4 ⟨rfl, ht, hm⟩
  replace HT := TabNext HT.out (by omega) ht hm
  clear ht hm
  go_wp2_with fail
  go_at_call 92
  refine (set_c (w.heap.size + 1) _ [34] 6 _ (by decide) HT.out.1).mono ?_
  rintro e W5 ⟨rfl, ht, hm⟩
  replace HT := TabNext HT.out (by omega) ht hm
  clear ht hm
  go_wp2_with fail
  go_at_call 92
  refine (set_c (w.heap.size + 1) _ [33] 7 _ (by decide) HT.out.1).mono ?_
  rintro e W6 ⟨rfl, ht, hm⟩
  replace HT := TabNext HT.out (by omega) ht hm
  clear ht hm
  go_wp2_with fail
  go_at_call 92
  refine (set_c (w.heap.size + 1) _ [60, 62] 8 _ (by decide) HT.out.1).mono ?_
  rintro e W7 ⟨rfl, ht, hm⟩
  replace HT := TabNext HT.out (by omega) ht hm
  clear ht hm
  go_wp2_with fail
  go_at_call 92
  refine (set_c (w.heap.size + 1) _ [59, 44, 46, 58, 40, 41, 91, 93, 123, 125, 61, 43, 45] 9 _ (by decide) HT.out.1).mono ?_
  rintro e W8 ⟨rfl, ht, hm⟩
  replace HT := TabNext HT.out (by omega) ht hm
  clear ht hm
  rw [tab_eq] at HT
  obtain ⟨cs0, hc0⟩ := HT.out.2.2
  go_wp2_with fail
  refine wp_load_row 151 (.tmp 1) rfl (w.heap.size + 1) rfl 151 clsTab (0, 0) _ HT.out.1.1 Tryz.underlying151 rfl (by rw [clsTab_size]; exact hi1) ?_
  go_wp2_with fail
  have hst := storeCells_row (P := Tryz.prog) W8 w.heap.size 151 cs0 clsTab hc0.1 (by rw [clsTab_size]; exact hc0.2) clsTab_one
  rw [hst]
  clear hst
  simp only [Result.andThen_ok]
  go_wp2_with fail
  refine bodyPost_ret (v := .agg clsTab) ?_ ?_ ⟨rfl, ?_⟩
  · exact results_cell_row (fn := Tryz.f81) (p := 0) (ty := 151) (by rfl) _ _ w.heap.size 151 clsTab (0, 0) _ (by rfl) (setRow_heap _ _ _ _ _ _ hc0.1) Tryz.underlying151 rfl (by rw [clsTab_size]; exact hi1)
  · rfl
  have hm := HT.out.2.1
  have hm2 : Mod [w.heap.size, w.heap.size + 1] w (W8.setRow w.heap.size clsTab) := hm.then (S' := [w.heap.size]) ⟨rfl, rfl, rfl, by simp, fun k _ hk => setRow_other _ _ _ _ (by simpa using hk)⟩ (by simp)
  exact ⟨hm2.os, hm2.tape, hm2.output, hm2.size, fun k hk => hm2.block k hk (by simp; omega)⟩
end Go.Proofs.YtckocgkndbdhcaaGreatDoor

namespace Go.Proofs.YtckocgkndbdhcaaGreatDoor
open Go.RowKit Go.Cz Go.Cz.Lx
set_option linter.unusedSimpArgs false
set_option linter.unusedVariables false
attribute [local go_sem] bs_size bs_extract bs_append bs_toList
attribute [local irreducible] cList
/-- A scanner in memory: its text, and the class of each byte. -/
structure IsScan (w : World) (b : Nat) (u : ByteArray) : Prop where
  lt : b < w.heap.size
  text : w.cell? ⟨b, 0, none⟩ = some (.string u)
  tab : ∀ c : Nat, c < 256 → w.cell? ⟨b, 1 + c, none⟩ = some (.int .i64 (cls (UInt8.ofNat c) : Int))
theorem IsScan.below {w w' : World} {b : Nat} {u : ByteArray} (h : IsScan w b u) (hb : Below w.heap.size w w') : IsScan w' b u :=
  ⟨Nat.lt_of_lt_of_le h.lt hb.size, (hb.cell (p := ⟨b, 0, none⟩) h.lt).trans h.text, fun c hc => (hb.cell (p := ⟨b, 1 + c, none⟩) h.lt).trans (h.tab c hc)⟩
theorem atL_bs {l : List UInt8} {i : Nat} (h : i < (bs l).size) : atL l i = cls (bs l)[i] := by
  rw [atL_some (by simpa [bs_size] using h)]
  rfl
set_option maxHeartbeats 2000000 in
theorem at_c (b : Nat) (l : List UInt8) (i : Nat) (w : World) (hl : l.length ≤ 20000) (hi : i ≤ 40000) (hs : IsScan w b (bs l)) :
    Calls Tryz.prog 94 #[.pointer (some ⟨b, 0, none⟩), .int .i64 (i : Int)] w fun e w' => e = .returned (.int .i64 (atL l i : Int)) ∧ Below w.heap.size w w' := by
  have hz := hs.lt
  have c0 := hs.text
  by_cases h : i < l.length
  · have HA : Hid (∃ h : i < (bs l).size, atL l i = cls (bs l)[i]) := ⟨by rw [bs_size]; exact h, atL_bs (by rw [bs_size]; exact h)⟩
    have HT := Lib.hid hs.tab
    have hsz : (bs l).size ≤ 20000 := by rw [bs_size]; exact hl
    clear hs h hl
    generalize bs l = u at *
    obtain ⟨k, hk⟩ := HA.out
    have Hk := Lib.hid hk
    clear hk HA
    obtain ⟨c, hc⟩ : ∃ c, u[i].toNat = c := ⟨_, rfl⟩
    have hc2 : c < 256 := by rw [← hc]; exact UInt8.toNat_lt _
    have c1 := HT.out c hc2
    have Hc : Hid (u[i] = UInt8.ofNat c) := by show _ = _; rw [← hc]; simp
    rw [← Hc.out, ← Hk.out] at c1
    clear HT
    go_enter Tryz.func94, Tryz.ntmps94
    go_wp2_with fail
    refine wp_region_can [] (List.range 12) (by kernel_rfl) (by kernel_rfl) ?_
    iterate 12 (refine cl_do rfl rfl rfl rfl (fun _ _ => ?_); go_wp2_with fail)
    refine cl_nil ?_
    go_wp2_with fail
    go_ret
    exact ⟨rfl, (Below.refl _ _).drew⟩
  · have HA : Hid (atL l i = 0) := atL_none (by omega)
    have h2 : (bs l).size ≤ i := by rw [bs_size]; omega
    have hsz : (bs l).size ≤ 20000 := by rw [bs_size]; exact hl
    clear hs h hl
    generalize bs l = u at *
    go_enter Tryz.func94, Tryz.ntmps94
    go_wp2_with fail
    go_ret
    exact ⟨by rw [HA.out]; rfl, Below.refl _ _⟩
end Go.Proofs.YtckocgkndbdhcaaGreatDoor
namespace Go.Cz.Lx
theorem drop_add (l : List UInt8) (i k : Nat) : (l.drop i).drop k = l.drop (i + k) := by rw [List.drop_drop]
theorem whileN_rest (C : List Nat) : ∀ l : List UInt8, whileN C (l.drop (whileN C l)) = 0
  | [] => rfl
  | c :: r => by
    by_cases h : C.contains (cls c) = true
    · have hw : whileN C (c :: r) = whileN C r + 1 := by unfold whileN; rw [if_pos h]; cases r <;> rfl
      rw [hw, List.drop_succ_cons]
      exact whileN_rest C r
    · have hw : whileN C (c :: r) = 0 := by unfold whileN; rw [if_neg h]
      rw [hw]
      exact hw
theorem gap_start (l : List UInt8) (i : Nat) : gapE l i = gapE l (i + whileN [1] (l.drop i)) ∧ whileN [1] (l.drop (i + whileN [1] (l.drop i))) = 0 := by
  refine ⟨?_, ?_⟩
  · unfold gapE
    rw [gapL_while (l.drop i), drop_add]
    omega
  · rw [← drop_add]; exact whileN_rest _ _
theorem gap_exit {l : List UInt8} {j : Nat} (hw : whileN [1] (l.drop j) = 0) (h : atL l j ≠ 2) : gapE l j = j := by
  unfold gapE
  by_cases hj : j < l.length
  · rw [whileN_drop hj] at hw
    rw [atL_some hj] at h
    have h1 : ¬ cls l[j] = 1 := fun e => by
      rw [e] at hw
      simp at hw
    rw [List.drop_eq_getElem_cons hj]
    show j + (if cls l[j] = 1 then _ else _) = _
    rw [if_neg h1, if_neg h]
    rfl
  · rw [List.drop_of_length_le (by omega)]; rfl
theorem cls_hash {c : UInt8} (h : cls c = 2) : c = 35 := all_bytes (p := fun c => cls c = 2 → c = 35) (by decide +kernel) c h
theorem gap_hash {l : List UInt8} {j : Nat} (h : atL l j = 2) : j < l.length ∧ gapL false (l.drop j) = gapL true (l.drop j) ∧ Lib.indexByte (l.drop j) 10 ≠ 0 := by
  by_cases hj : j < l.length
  · rw [atL_some hj] at h
    refine ⟨hj, ?_, ?_⟩
    · rw [List.drop_eq_getElem_cons hj]
      have h1 : l[j] = 35 := cls_hash h
      rw [h1]
      rfl
    · rw [List.drop_eq_getElem_cons hj, cls_hash h]
      have h2 := Lib.indexByte_ge (l.drop (j + 1)) 10
      unfold Lib.indexByte
      rw [if_neg (by decide)]
      split
      · omega
      · rename_i h3
        simp at h3
        omega
  · rw [atL_none (by omega)] at h; cases h
theorem gap_none {l : List UInt8} {j : Nat} (h : atL l j = 2) (hn : Lib.indexByte (l.drop j) 10 < 0) : gapE l j = l.length := by
  obtain ⟨h1, h2, -⟩ := gap_hash h
  unfold gapE
  rw [h2, gapL_comment, if_pos hn, List.length_drop]
  omega
theorem gap_some {l : List UInt8} {j n : Nat} (h : atL l j = 2) (hn : Lib.indexByte (l.drop j) 10 = n) : gapE l j = gapE l (j + n) ∧ 1 ≤ n ∧ j + n ≤ l.length := by
  obtain ⟨h1, h2, h3⟩ := gap_hash h
  have h4 : Lib.indexByte (l.drop j) 10 < (l.drop j).length := by
    have : ∀ (l : List UInt8) (c : UInt8), Lib.indexByte l c < l.length := by
      intro l c
      induction l with
      | nil => simp [Lib.indexByte]
      | cons b l ih =>
        have h2 := Lib.indexByte_ge l c
        unfold Lib.indexByte
        split
        · simp
          try omega
        · split
          · simp
            try omega
          · simp
            try omega
    exact this _ _
  rw [List.length_drop] at h4
  refine ⟨?_, by omega, by omega⟩
  unfold gapE
  rw [h2, gapL_comment, if_neg (by omega), hn, Int.toNat_natCast, drop_add]
  omega
end Go.Cz.Lx
namespace Go.Cz.Lx
theorem cls_digit {c : UInt8} (h : cls c = 4) : 48 ≤ c.toNat ∧ c.toNat ≤ 57 := all_bytes (p := fun c => cls c = 4 → 48 ≤ c.toNat ∧ c.toNat ≤ 57) (by decide +kernel) c h
theorem whileN_mem {C : List Nat} : ∀ {l : List UInt8} {c : UInt8}, c ∈ l.take (whileN C l) → C.contains (cls c) = true
  | [], c, h => by simp at h
  | d :: r, c, h => by
    unfold whileN at h
    split at h
    · rename_i hd
      rw [List.take_succ_cons] at h
      rcases List.mem_cons.1 h with rfl | h
      · exact hd
      · exact whileN_mem h
    · simp at h
/-- A number of at most 13 digits is read. -/
theorem parse_num : ∀ (l : List UInt8) (acc : Nat), (∀ c ∈ l, 48 ≤ c.toNat ∧ c.toNat ≤ 57) → l.length ≤ 13 → (acc + 1) * 10 ^ l.length ≤ 10 ^ 13 → Lib.parseUint10 acc l = .ok (l.foldl (fun a c => 10 * a + (c.toNat - 48)) acc)
  | [], acc, _, _, _ => rfl
  | c :: r, acc, h, hl, hb => by
    have hc := h c (by simp)
    have hl' : r.length ≤ 13 := by simp at hl; omega
    rw [List.length_cons, Nat.pow_succ] at hb
    have hp : 1 ≤ 10 ^ r.length := Nat.one_le_pow _ _ (by decide)
    have e13 : (10 : Nat) ^ 13 = 10000000000000 := by decide
    have hacc : (acc + 1) * 10 ≤ 10 ^ 13 := by
      refine Nat.le_trans ?_ hb
      rw [show (acc + 1) * (10 ^ r.length * 10) = (acc + 1) * 10 * 10 ^ r.length by rw [Nat.mul_assoc, Nat.mul_comm 10]]
      exact Nat.le_mul_of_pos_right _ hp
    have hb2 : (acc * 10 + (c.toNat - 48) + 1) * 10 ^ r.length ≤ 10 ^ 13 := by
      refine Nat.le_trans ?_ hb
      rw [show (acc + 1) * (10 ^ r.length * 10) = ((acc + 1) * 10) * 10 ^ r.length by rw [Nat.mul_assoc, Nat.mul_comm 10]]
      exact Nat.mul_le_mul_right _ (by omega)
    simp only [Lib.parseUint10]
    rw [if_pos hc, if_neg (by omega), if_neg (by omega), parse_num r _ (fun x hx => h x (by simp [hx])) hl' hb2, List.foldl_cons, Nat.mul_comm 10 acc]
theorem atoi_num {l : List UInt8} (h : ∀ c ∈ l, 48 ≤ c.toNat ∧ c.toNat ≤ 57) (h1 : 1 ≤ l.length) (h2 : l.length ≤ 13) : Lib.atoiAll l = .ok (numV l : Int) ∧ numV l < 10000000000000 := by
  have hp := parse_num l 0 h h2 (by rw [Nat.zero_add, Nat.one_mul]; exact Nat.pow_le_pow_right (by decide) h2)
  have hb : numV l + 1 ≤ 10 ^ l.length := by
    have : ∀ (l : List UInt8) (acc : Nat), (∀ c ∈ l, 48 ≤ c.toNat ∧ c.toNat ≤ 57) → l.foldl (fun a c => 10 * a + (c.toNat - 48)) acc + 1 ≤ (acc + 1) * 10 ^ l.length := by
      intro l
      induction l with
      | nil => intro acc _; simp
      | cons c r ih =>
        intro acc hc
        have h3 := ih (10 * acc + (c.toNat - 48)) (fun x hx => hc x (by simp [hx]))
        have h4 := hc c (by simp)
        rw [List.foldl_cons, List.length_cons, Nat.pow_succ]
        refine Nat.le_trans h3 ?_
        rw [show (acc + 1) * (10 ^ r.length * 10) = ((acc + 1) * 10) * 10 ^ r.length by rw [Nat.mul_assoc, Nat.mul_comm 10]]
        exact Nat.mul_le_mul_right _ (by omega)
    have h5 := this l 0 h
    rw [Nat.zero_add, Nat.one_mul] at h5
    exact h5
  have hb2 : (10 : Nat) ^ l.length ≤ 10 ^ 13 := Nat.pow_le_pow_right (by decide) h2
  have e13 : (10 : Nat) ^ 13 = 10000000000000 := by decide
  refine ⟨?_, by omega⟩
  rcases l with _ | ⟨c, r⟩
  · simp at h1
  · have hc := h c (by simp)
    have e3 : Lib.parseMag (c :: r) = .ok (numV (c :: r)) := by unfold Lib.parseMag; rw [if_neg (by simp)]; exact hp
    have e0 : ¬ c.toNat = 43 := by omega
    have e1 : ¬ c.toNat = 45 := by omega
    have e4 : ¬ 9223372036854775808 ≤ numV (c :: r) := by omega
    unfold Lib.atoiAll
    simp [e0, e1, e3, e4]
end Go.Cz.Lx
namespace Go.Proofs.YtckocgkndbdhcaaGreatDoor
open Go.RowKit Go.Cz Go.Cz.Lx
set_option linter.unusedSimpArgs false
set_option linter.unusedVariables false
attribute [local go_sem] bs_size bs_extract bs_append bs_toList
attribute [local irreducible] cList
/-- Classes in a row. -/
def IsCls (w : World) (g : Nat) (C : List Nat) : Prop := g < w.heap.size ∧ ∀ (j : Nat) (x : Nat), C[j]? = some x → w.cell? ⟨g, j, none⟩ = some (.int .i64 (x : Int))
theorem IsCls.below {w w' : World} {g : Nat} {C : List Nat} (h : IsCls w g C) (hb : Below w.heap.size w w') : IsCls w' g C :=
  ⟨Nat.lt_of_lt_of_le h.1 hb.size, fun j x hx => (hb.cell (p := ⟨g, j, none⟩) h.1).trans (h.2 j x hx)⟩
theorem contains_c (g c : Nat) (C : List Nat) (x : Nat) (w : World) (hC : C.length ≤ 10) (h : IsCls w g C) :
    Calls Tryz.prog 100 #[.slice (some ⟨g, 0, none⟩) C.length c, .int .i64 (x : Int)] w fun e w' => e = .returned (.bool (C.contains x)) ∧ w' = w := by
  refine (Tryz.slices_Contains_int g 0 C.length c (C.map fun (k : Nat) => (k : Int)) (x : Int) w (by simp) (by omega) (fun j hj => ?_)).mono ?_
  · have hj' : j < C.length := by simpa using hj
    rw [Nat.zero_add, h.2 j C[j] (List.getElem?_eq_getElem hj'), List.getD_eq_getElem?_getD, List.getElem?_map, List.getElem?_eq_getElem hj']
    rfl
  · rintro e w' ⟨rfl, hw⟩
    refine ⟨?_, hw⟩
    congr 2
    rw [List.take_of_length_le (by simp), Bool.eq_iff_iff]
    simp only [List.contains_eq_mem, decide_eq_true_eq, List.mem_map]
    constructor
    · rintro ⟨a, h1, h2⟩
      obtain rfl : a = x := by omega
      exact h1
    · exact fun h1 => ⟨x, h1, rfl⟩
/-- What a walk of the lexer carries. -/
structure LxE (w W : World) (b : Nat) (l : List UInt8) : Prop where
  below : Below w.heap.size w W
  scan : IsScan W b (bs l)
theorem LxE.next {w W W' : World} {b : Nat} {l : List UInt8} (h : LxE w W b l) (hb : Below W.heap.size W W') : Hid (LxE w W' b l) :=
  ⟨h.below.trans (hb.mono h.below.size), h.scan.below hb⟩
set_option maxHeartbeats 2000000 in
theorem while_c (b g c : Nat) (C : List Nat) (l : List UInt8) (i : Nat) (w : World) (hl : l.length ≤ 20000) (hi : i ≤ l.length) (hC : C.length ≤ 10) (hs : IsScan w b (bs l)) (hg : IsCls w g C) :
    Calls Tryz.prog 93 #[.pointer (some ⟨b, 0, none⟩), .int .i64 (i : Int), .slice (some ⟨g, 0, none⟩) C.length c] w fun e w' => e = .returned (.int .i64 ((i + whileN C (l.drop i) : Nat) : Int)) ∧ Below w.heap.size w w' := by
  have HE : Hid (LxE w w b l) := ⟨Below.refl _ _, hs⟩
  have HG : Hid (IsCls w g C ∧ C.length ≤ 10) := ⟨hg, hC⟩
  have HL := Lib.hid hl
  clear hs hg hC
  go_enter Tryz.func93, Tryz.ntmps93
  go_wp2_with fail
  go_loopg [1] (l.length - i) (fun gk t wr => ∃ k : Nat, gk = l.length - k ∧ k ≤ l.length ∧ t = .int .i64 (k : Int) ∧ Hid (i + whileN C (l.drop i) = k + whileN C (l.drop k)) ∧ Hid (LxE w wr b l))
  case atStart => exact ⟨i, rfl, hi, rfl, rfl, HE⟩
  case round =>
    rename_i J1 K1 hJ1 hK1
    clear HE
    obtain ⟨k, rfl, hk, rfl, hv, hw⟩ := hrel
    have hz := hw.out.scan.lt
    have c0 := hw.out.scan.text
    by_cases hlt : k < l.length
    · have Hn := Lib.hid (whileN_drop (C := C) hlt)
      have Ha := Lib.hid (atL_some hlt)
      go_wp2_with fail
      go_at_call 94
      refine (at_c b l k wr HL.out (by omega) hw.out.scan).mono ?_
      rintro e W2 ⟨rfl, hb⟩
      have HG2 := Lib.hid (HG.out.1.below (hw.out.below.trans (hb.mono hw.out.below.size)))
      have HE := hw.out.next hb
      clear hb
      go_wp2_with fail
      go_at_call 100
      refine (contains_c g c C (atL l k) W2 HG.out.2 HG2.out).mono ?_
      rintro e W3 ⟨rfl, hb⟩
      obtain rfl : W3 = W2 := hb
      cases hc : C.contains (atL l k)
      · have He : Hid (i + whileN C (l.drop i) = k) := by
          show _ = _
          rw [hv.out, Hn.out, ← Ha.out, hc]
          rfl
        clear hc hv Hn Ha
        go_wp2_with fail
        go_ret
        exact ⟨by rw [He.out]; rfl, HE.out.below⟩
      · have He : Hid (i + whileN C (l.drop i) = k + 1 + whileN C (l.drop (k + 1))) := by
          show _ = _
          rw [hv.out, Hn.out, ← Ha.out, hc, if_pos rfl]
          omega
        clear hc hv Hn Ha
        go_wp2_with fail
        go_roundg (l.length - (k + 1))
        case measure => omega
        case rel => exact ⟨k + 1, rfl, by omega, by go_num, He, HE⟩
    · have He : Hid (i + whileN C (l.drop i) = k) := by
        show _ = _
        rw [hv.out, whileN_end (by omega)]
        rfl
      clear hJ1 hK1 hv
      go_wp2_with fail
      go_ret
      exact ⟨by rw [He.out]; rfl, hw.out.below⟩
theorem tk_drop (l : List UInt8) (k : Nat) : (l.drop k).take (l.length - k) = l.drop k := by rw [← List.length_drop, List.take_length]
theorem indexByte_c (l : List UInt8) (c : UInt8) (w : World) : Calls Tryz.prog 86 #[.string (bs l), .int .u8 c.toNat] w fun e w' => e = .returned (.int .i64 (Lib.indexByte l c)) ∧ w' = w := by
  have := Tryz.strings_IndexByte (bs l) (c.toNat : Int) w
  rw [show (bs l).data.toList = l from bs_data l, show ((c.toNat : Int)).toNat.toUInt8 = c by simp] at this
  exact this
/-- A row of classes that is built for a call. -/
theorem IsCls.new (w : World) (C : List Nat) : IsCls (w.alloc (.cells (C.map fun (k : Nat) => Value.int .i64 (k : Int)).toArray 3)) w.heap.size C :=
  ⟨by simp, fun j x hx => by
    rw [cell_of_heap (new_heap w _ _ rfl)]
    simp [hx]⟩
set_option maxHeartbeats 2000000 in
theorem gap_c (b : Nat) (l : List UInt8) (i : Nat) (w : World) (hl : l.length ≤ 20000) (hi : i ≤ l.length) (hs : IsScan w b (bs l)) :
    Calls Tryz.prog 82 #[.pointer (some ⟨b, 0, none⟩), .int .i64 (i : Int)] w fun e w' => e = .returned (.int .i64 (gapE l i : Int)) ∧ Below w.heap.size w w' := by
  have HE : Hid (LxE w w b l) := ⟨Below.refl _ _, hs⟩
  have HL := Lib.hid hl
  clear hs
  obtain ⟨j0, hj0⟩ : ∃ j0, j0 = i + whileN [1] (l.drop i) := ⟨_, rfl⟩
  have H0 := gap_start l i
  have hj0l : j0 ≤ l.length := by
    have := whileN_le [1] (l.drop i)
    rw [List.length_drop] at this
    omega
  rw [← hj0] at H0
  have Hj := Lib.hid hj0.symm
  have HS : Hid (gapE l i = gapE l j0 ∧ whileN [1] (l.drop j0) = 0) := H0
  clear H0 hj0
  go_enter Tryz.func82, Tryz.ntmps82
  go_wp2_with fail
  have HC := IsCls.new w [1]
  have hbb : Below (w).heap.size w ((w).alloc (.cells #[.int .i64 1] 3)) := (Below.refl _ _).alloc (Nat.le_refl _) _
  replace HE := HE.out.next hbb
  clear hbb
  have HC2 : Hid (IsCls ((w).alloc (.cells #[.int .i64 1] 3)) (w).heap.size [1]) := HC
  clear HC
  go_at_call 93
  refine (while_c b (w).heap.size 1 [1] l i _ HL.out (by omega) (by decide) HE.out.scan HC2.out).mono ?_
  rintro e W1 ⟨rfl, hb⟩
  clear HC2
  replace HE := HE.out.next hb
  clear hb
  rw [Hj.out]
  go_wp2_with fail
  go_loopg [1] (l.length - j0) (fun gk t wr => ∃ k : Nat, gk = l.length - k ∧ k ≤ l.length ∧ t = .int .i64 (k : Int) ∧ Hid (gapE l i = gapE l k ∧ whileN [1] (l.drop k) = 0) ∧ Hid (LxE w wr b l))
  case atStart => exact ⟨j0, rfl, hj0l, rfl, HS, HE⟩
  case round =>
    rename_i J1 K1 hJ1 hK1
    clear HE
    obtain ⟨k, rfl, hk, rfl, hv, hw⟩ := hrel
    clear HS Hj hj0l
    go_wp2_with fail
    go_at_call 94
    refine (at_c b l k wr HL.out (by omega) hw.out.scan).mono ?_
    rintro e W2 ⟨rfl, hb⟩
    have HE := hw.out.next hb
    clear hb hw
    have hz := HE.out.scan.lt
    have c0 := HE.out.scan.text
    obtain ⟨A, hA⟩ : ∃ A, A = atL l k := ⟨_, rfl⟩
    rw [← hA]
    have HA := Lib.hid hA.symm
    clear hA
    by_cases hA : A = 2
    · subst hA
      have Hq := Lib.hid (gap_none HA.out)
      have Hs := Lib.hid fun n => gap_some (n := n) HA.out
      go_wp2_with fail
      rw [tk_drop]
      go_at_call 86
      refine (indexByte_c (l.drop k) 10 W2).mono ?_
      rintro e W3 ⟨rfl, hb⟩
      obtain rfl : W3 = W2 := hb
      obtain ⟨q, hq⟩ : ∃ q, q = Lib.indexByte (l.drop k) 10 := ⟨_, rfl⟩
      rw [← hq] at Hq Hs ⊢
      clear hq
      by_cases hq0 : q < 0
      · have He : Hid (gapE l i = l.length) := hv.out.1.trans (Hq.out hq0)
        clear hv HA Hq Hs
        go_wp2_with fail
        go_ret
        exact ⟨by rw [He.out]; rfl, HE.out.below⟩
      · obtain ⟨N, rfl⟩ : ∃ N : Nat, q = N := ⟨q.toNat, by omega⟩
        obtain ⟨s1, s2, s3⟩ := Hs.out N rfl
        obtain ⟨j, hj⟩ : ∃ j, j = k + N + whileN [1] (l.drop (k + N)) := ⟨_, rfl⟩
        have H0 := gap_start l (k + N)
        have hjl : j ≤ l.length := by
          have := whileN_le [1] (l.drop (k + N))
          rw [List.length_drop] at this
          omega
        have hkj : k < j := by omega
        rw [← hj] at H0
        have Hj := Lib.hid hj.symm
        have HS : Hid (gapE l i = gapE l j ∧ whileN [1] (l.drop j) = 0) := ⟨hv.out.1.trans (s1.trans H0.1), H0.2⟩
        clear H0 hj hv HA Hq Hs s1 hq0 c0 hz
        go_wp2_with fail
        rw [show (k : Int) + (N : Int) = ((k + N : Nat) : Int) from rfl]
        have HC := IsCls.new W3 [1]
        have hbb : Below (W3).heap.size W3 ((W3).alloc (.cells #[.int .i64 1] 3)) := (Below.refl _ _).alloc (Nat.le_refl _) _
        replace HE := HE.out.next hbb
        clear hbb
        have HC2 : Hid (IsCls ((W3).alloc (.cells #[.int .i64 1] 3)) (W3).heap.size [1]) := HC
        clear HC
        go_at_call 93
        refine (while_c b (W3).heap.size 1 [1] l (k + N) _ HL.out (by omega) (by decide) HE.out.scan HC2.out).mono ?_
        rintro e W4 ⟨rfl, hb⟩
        clear HC2
        replace HE := HE.out.next hb
        clear hb
        rw [Hj.out]
        go_wp2_with fail
        go_roundg (l.length - j)
        case measure => omega
        case rel => exact ⟨j, rfl, hjl, rfl, HS, HE⟩
    · have hA2 : ((A : Int) == 2) = false := by simp; omega
      have He : Hid (gapE l i = k) := hv.out.1.trans (gap_exit hv.out.2 (by rw [HA.out]; exact hA))
      clear hv HA hA hJ1 hK1
      go_wp2_with fail
      go_ret
      exact ⟨by rw [He.out]; rfl, HE.out.below⟩
end Go.Proofs.YtckocgkndbdhcaaGreatDoor
namespace Go.Proofs.YtckocgkndbdhcaaGreatDoor
open Go.RowKit Go.Cz Go.Cz.Lx
set_option linter.unusedSimpArgs false
set_option linter.unusedVariables false
attribute [local go_sem] bs_size bs_extract bs_append bs_toList
attribute [local irreducible] cList
def tokV (t : Tok) : Value := .agg #[.int .i64 t.kind, .int .i64 t.pos, .int .i64 t.num, .string (bs t.text)]
def nextV (i : Nat) : Except Nat (Tok × Nat) → Value
  | .ok (t, k) => .tuple #[tokV t, .int .i64 ((i + k : Nat) : Int), .int .i64 0]
  | .error e => .tuple #[.agg #[.int .i64 0, .int .i64 0, .int .i64 0, .string ⟨#[]⟩], .int .i64 0, .int .i64 (e : Int)]
/-- What is to be shown of strings.IndexAny at a quote and a line feed. -/
def IdxAny : Prop := ∀ (l : List UInt8) (w : World), l.length ≤ 20000 → Calls Tryz.prog 96 #[.string (bs l), .string ⟨#[34, 10]⟩] w fun e w' =>
    e = .returned (.int .i64 (match idxQ l with | some n => (n : Int) | none => -1)) ∧ Below w.heap.size w w'
theorem cls_quote {c : UInt8} (h : cls c = 6) : c = 34 := all_bytes (p := fun c => cls c = 6 → c = 34) (by decide +kernel) c h
theorem quote_mem {l : List UInt8} {i : Nat} (hi : i < l.length) (h : atL l i = 6) : 34 ∈ l := by
  rw [atL_some hi] at h
  rw [← cls_quote h]
  exact List.getElem_mem hi
/-- What the walk of 'next' carries. -/
structure NxE (w W : World) (b : Nat) (l : List UInt8) (g : Nat) : Prop where
  below : Below w.heap.size w W
  scan : IsScan W b (bs l)
  own : w.heap.size ≤ g
  box : Bk W g #[.int .i64 0, .int .i64 0, .int .i64 0, .string ⟨#[]⟩] 138
theorem NxE.next {w W W' : World} {b g : Nat} {l : List UInt8} (h : NxE w W b l g) (hb : Below W.heap.size W W') : Hid (NxE w W' b l g) :=
  ⟨h.below.trans (hb.mono h.below.size), h.scan.below hb, h.own, h.box.below hb⟩
theorem NxE.cells {w W : World} {b g : Nat} {l : List UInt8} (h : NxE w W b l g) : b < W.heap.size ∧ W.cell? ⟨b, 0, none⟩ = some (.string (bs l)) ∧ g < W.heap.size ∧ W.cell? ⟨g, 0, none⟩ = some (.int .i64 0) ∧ W.cell? ⟨g, 1, none⟩ = some (.int .i64 0) ∧ W.cell? ⟨g, 2, none⟩ = some (.int .i64 0) ∧ W.cell? ⟨g, 3, none⟩ = some (.string ⟨#[]⟩) ∧
    W.frozen? ⟨g, 0, none⟩ = false ∧ W.frozen? ⟨g, 1, none⟩ = false ∧ W.frozen? ⟨g, 2, none⟩ = false ∧ W.frozen? ⟨g, 3, none⟩ = false :=
  ⟨h.scan.lt, h.scan.text, h.box.lt, by rw [h.box.cell]; rfl, by rw [h.box.cell]; rfl, by rw [h.box.cell]; rfl, by rw [h.box.cell]; rfl, h.box.free 0, h.box.free 1, h.box.free 2, h.box.free 3⟩
theorem NxE.store {w W : World} {b g : Nat} {l : List UInt8} (h : NxE w W b l g) (v0 v1 v2 v3 : Value) :
    Bk ((((W.setCell ⟨g, 0, none⟩ v0).setCell ⟨g, 1, none⟩ v1).setCell ⟨g, 2, none⟩ v2).setCell ⟨g, 3, none⟩ v3) g #[v0, v1, v2, v3] 138 ∧
    Below w.heap.size w ((((W.setCell ⟨g, 0, none⟩ v0).setCell ⟨g, 1, none⟩ v1).setCell ⟨g, 2, none⟩ v2).setCell ⟨g, 3, none⟩ v3) :=
  ⟨(((h.box.set 0 v0).set 1 v1).set 2 v2).set 3 v3, (((h.below.setCell (p := ⟨g, 0, none⟩) h.own _).setCell (p := ⟨g, 1, none⟩) h.own _).setCell (p := ⟨g, 2, none⟩) h.own _).setCell (p := ⟨g, 3, none⟩) h.own _⟩
theorem hasPrefix_one (l : List UInt8) (i : Nat) : Lib.hasPrefix (l.drop (i + 1)) [61] = decide (l[i + 1]? = some 61) := by
  unfold Lib.hasPrefix
  by_cases h : i + 1 < l.length
  · rw [List.drop_eq_getElem_cons h, List.getElem?_eq_getElem h]
    simp only [List.isPrefixOf, Bool.and_true, Option.some.injEq]
    rw [Bool.eq_iff_iff, beq_iff_eq, decide_eq_true_iff]
    exact eq_comm
  · rw [List.drop_of_length_le (by omega), List.getElem?_eq_none (by omega)]
    rfl
theorem HasPrefix_c (l : List UInt8) (i : Nat) (w : World) : Calls Tryz.prog 42 #[.string (bs (l.drop (i + 1))), .string ⟨#[61]⟩] w fun e w' => e = .returned (.bool (decide (l[i + 1]? = some 61))) ∧ w' = w := by
  have := Tryz.strings_HasPrefix (bs (l.drop (i + 1))) ⟨#[61]⟩ w
  rw [show (bs (l.drop (i + 1))).data.toList = l.drop (i + 1) from bs_data _, show ((⟨#[61]⟩ : ByteArray)).data.toList = [61] from rfl, hasPrefix_one] at this
  exact this
theorem Atoi_num (l : List UInt8) (w : World) (h : ∀ c ∈ l, 48 ≤ c.toNat ∧ c.toNat ≤ 57) (h1 : 1 ≤ l.length) (h2 : l.length ≤ 13) : Calls Tryz.prog 95 #[.string (bs l)] w fun e w' => e = .returned (.tuple #[.int .i64 (numV l : Int), .nilIface]) ∧ Below w.heap.size w w' := by
  refine (Tryz.strconv_Atoi_ok (bs l) (by rw [bs_size]; omega) _ (atoi_num h h1 h2).1 w).mono ?_
  rintro e w' ⟨rfl, rfl | ⟨t, rfl⟩⟩
  · exact ⟨rfl, Below.refl _ _⟩
  · exact ⟨rfl, Lib.bytesWorld_below _ _ _⟩
theorem Next_res {W : World} {tmps : Array Value} {g : Nat} {v0 v1 v2 v3 : Value} (h4 : tmps.getD 4 undef = .pointer (some ⟨g, 0, none⟩)) (hb : Bk W g #[v0, v1, v2, v3] 138) :
    (results Tryz.f83 tmps).run Tryz.prog W = .ok (.tuple #[.agg #[v0, v1, v2, v3], tmps.getD 5 undef, tmps.getD 6 undef]) W := by
  have c0 : W.cell? ⟨g, 0, none⟩ = some v0 := by rw [hb.cell]; rfl
  have c1 : W.cell? ⟨g, 1, none⟩ = some v1 := by rw [hb.cell]; rfl
  have c2 : W.cell? ⟨g, 2, none⟩ = some v2 := by rw [hb.cell]; rfl
  have c3 : W.cell? ⟨g, 3, none⟩ = some v3 := by rw [hb.cell]; rfl
  have h4' : tmps[4]?.getD undef = .pointer (some ⟨g, 0, none⟩) := by simpa using h4
  simp [results, Tryz.results83, go_sem, h4', c0, c1, c2, c3]
theorem tk_drop' (l : List UInt8) (i : Nat) : (l.drop (i + 1)).take (l.length - (i + 1)) = l.drop (i + 1) := tk_drop l (i + 1)
set_option maxRecDepth 5000 in
set_option maxHeartbeats 4000000 in
theorem next_c (b : Nat) (l : List UInt8) (HI : 34 ∈ l → IdxAny) (i : Nat) (w : World) (hl : l.length ≤ 20000) (hi : i < l.length) (hs : IsScan w b (bs l)) :
    Calls Tryz.prog 83 #[.pointer (some ⟨b, 0, none⟩), .int .i64 (i : Int)] w fun e w' => e = .returned (nextV i (nextL l i)) ∧ Below w.heap.size w w' := by
  obtain ⟨g, hg⟩ : ∃ g, g = w.heap.size := ⟨_, rfl⟩
  have HE : Hid (NxE w (w.alloc (.cells #[.int .i64 0, .int .i64 0, .int .i64 0, .string ⟨#[]⟩] 138)) b l g) := by
    have hb : Below w.heap.size w (w.alloc (.cells #[.int .i64 0, .int .i64 0, .int .i64 0, .string ⟨#[]⟩] 138)) := (Below.refl _ _).alloc (Nat.le_refl _) _
    exact ⟨hb, hs.below hb, by omega, by rw [hg]; exact Bk.new _ _ _⟩
  have HL := Lib.hid hl
  have HI2 := Lib.hid HI
  clear hs HI
  go_enter Tryz.func83, Tryz.ntmps83
  go_wp2_with fail
  rw [← hg] at *
  clear hg
  obtain ⟨W1, hW1⟩ : ∃ W1, W1 = w.alloc (.cells #[.int .i64 0, .int .i64 0, .int .i64 0, .string ⟨#[]⟩] 138) := ⟨_, rfl⟩
  rw [← hW1] at HE ⊢
  clear hW1
  go_at_call 94
  refine (at_c b l i W1 HL.out (by omega) HE.out.scan).mono ?_
  rintro e W2 ⟨rfl, hb⟩
  replace HE := HE.out.next hb
  clear hb
  obtain ⟨z1, c0, z2, d0, d1, d2, d3, f0, f1, f2, f3⟩ := HE.out.cells
  obtain ⟨A, hA⟩ : ∃ A, A = atL l i := ⟨_, rfl⟩
  rw [← hA]
  have hA9 : A ≤ 9 := by rw [hA, atL_some hi]; exact cls_le _
  have HA := Lib.hid hA.symm
  clear hA
  by_cases h3 : A = 3
  · subst h3
    go_wp2_with fail
    clear z1 c0 z2 d0 d1 d2 d3 f0 f1 f2 f3
    have HC := IsCls.new W2 [3, 4, 5]
    have hbb : Below W2.heap.size W2 (W2.alloc (.cells #[.int .i64 3, .int .i64 4, .int .i64 5] 3)) := (Below.refl _ _).alloc (Nat.le_refl _) _
    replace HE := HE.out.next hbb
    clear hbb
    have HC2 : Hid (IsCls (W2.alloc (.cells #[.int .i64 3, .int .i64 4, .int .i64 5] 3)) W2.heap.size [3, 4, 5]) := HC
    clear HC
    go_at_call 93
    refine (while_c b W2.heap.size 3 [3, 4, 5] l i _ HL.out (by omega) (by decide) HE.out.scan HC2.out).mono ?_
    rintro e W3 ⟨rfl, hb⟩
    clear HC2
    replace HE := HE.out.next hb
    clear hb
    obtain ⟨K, hK⟩ : ∃ K, K = whileN [3, 4, 5] (l.drop i) := ⟨_, rfl⟩
    have hw := whileN_le [3, 4, 5] (l.drop i)
    rw [← hK]
    rw [← hK, List.length_drop] at hw
    have hw1 : 1 ≤ K := by
      rw [hK, whileN_drop hi, ← atL_some hi, HA.out]
      simp
    have hw2 : i + K ≤ l.length := by omega
    have HK := Lib.hid hK.symm
    clear hw hK
    obtain ⟨z1, c0, z2, d0, d1, d2, d3, f0, f1, f2, f3⟩ := HE.out.cells
    by_cases h24 : 24 < K
    · have He : Hid (nextL l i = .error 2) := by
        show _ = _
        unfold nextL
        rw [HA.out, HK.out]
        simp [h24]
      clear HA HK
      go_wp2_with fail
      refine bodyPost_ret (Next_res rfl (HE.out.store _ _ _ _).1) (by rfl) ⟨?_, (HE.out.store _ _ _ _).2⟩
      rw [He.out]
      rfl
    · have He : Hid (nextL l i = .ok (⟨1, i, 0, (l.drop i).take K⟩, K)) := by
        show _ = _
        unfold nextL
        rw [HA.out, HK.out]
        simp [h24]
      clear HA HK
      go_wp2_with fail
      refine bodyPost_ret (Next_res rfl (HE.out.store _ _ _ _).1) (by rfl) ⟨?_, (HE.out.store _ _ _ _).2⟩
      rw [He.out]
      rfl
  by_cases h4 : A = 4
  · subst h4
    go_wp2_with fail
    clear z1 c0 z2 d0 d1 d2 d3 f0 f1 f2 f3
    have HC := IsCls.new W2 [4]
    have hbb : Below W2.heap.size W2 (W2.alloc (.cells #[.int .i64 4] 3)) := (Below.refl _ _).alloc (Nat.le_refl _) _
    replace HE := HE.out.next hbb
    clear hbb
    have HC2 : Hid (IsCls (W2.alloc (.cells #[.int .i64 4] 3)) W2.heap.size [4]) := HC
    clear HC
    go_at_call 93
    refine (while_c b W2.heap.size 1 [4] l i _ HL.out (by omega) (by decide) HE.out.scan HC2.out).mono ?_
    rintro e W3 ⟨rfl, hb⟩
    clear HC2
    replace HE := HE.out.next hb
    clear hb
    obtain ⟨K, hK⟩ : ∃ K, K = whileN [4] (l.drop i) := ⟨_, rfl⟩
    have hw := whileN_le [4] (l.drop i)
    rw [← hK]
    rw [← hK, List.length_drop] at hw
    have hw1 : 1 ≤ K := by
      rw [hK, whileN_drop hi, ← atL_some hi, HA.out]
      simp
    have hw2 : i + K ≤ l.length := by omega
    have HK := Lib.hid hK.symm
    clear hw hK
    obtain ⟨z1, c0, z2, d0, d1, d2, d3, f0, f1, f2, f3⟩ := HE.out.cells
    go_wp2_with fail
    rw [show (i : Int) + (K : Int) = ((i + K : Nat) : Int) from rfl]
    clear z1 c0 z2 d0 d1 d2 d3 f0 f1 f2 f3
    go_at_call 94
    refine (at_c b l (i + K) W3 HL.out (by omega) HE.out.scan).mono ?_
    rintro e W4 ⟨rfl, hb⟩
    replace HE := HE.out.next hb
    clear hb
    obtain ⟨z1, c0, z2, d0, d1, d2, d3, f0, f1, f2, f3⟩ := HE.out.cells
    obtain ⟨B, hB⟩ : ∃ B, B = atL l (i + K) := ⟨_, rfl⟩
    rw [← hB]
    have HB := Lib.hid hB.symm
    clear hB
    by_cases h13 : 13 < K
    · have He : Hid (nextL l i = .error 4) := by
        show _ = _
        unfold nextL
        rw [HA.out, HK.out, HB.out]
        simp [h13]
      clear HA HK HB
      go_wp2_with fail
      refine bodyPost_ret (Next_res rfl (HE.out.store _ _ _ _).1) (by rfl) ⟨?_, (HE.out.store _ _ _ _).2⟩
      rw [He.out]
      rfl
    by_cases hB3 : B = 3
    · have He : Hid (nextL l i = .error 4) := by
        show _ = _
        unfold nextL
        rw [HA.out, HK.out, HB.out]
        simp [hB3]
      have q3 : ((B : Int) == 3) = true := by simp; omega
      clear HA HK HB hB3
      go_wp2_with fail
      refine bodyPost_ret (Next_res rfl (HE.out.store _ _ _ _).1) (by rfl) ⟨?_, (HE.out.store _ _ _ _).2⟩
      rw [He.out]
      rfl
    by_cases hB5 : B = 5
    · have He : Hid (nextL l i = .error 4) := by
        show _ = _
        unfold nextL
        rw [HA.out, HK.out, HB.out]
        simp [hB5]
      have q3 : ((B : Int) == 3) = false := by simp; omega
      have q5 : ((B : Int) == 5) = true := by simp; omega
      clear HA HK HB hB3 hB5
      go_wp2_with fail
      refine bodyPost_ret (Next_res rfl (HE.out.store _ _ _ _).1) (by rfl) ⟨?_, (HE.out.store _ _ _ _).2⟩
      rw [He.out]
      rfl
    have q3 : ((B : Int) == 3) = false := by simp; omega
    have q5 : ((B : Int) == 5) = false := by simp; omega
    have He : Hid (nextL l i = .ok (⟨2, i, numV ((l.drop i).take K), (l.drop i).take K⟩, K)) := by
      show _ = _
      unfold nextL
      rw [HA.out, HK.out, HB.out]
      simp [h13, hB3, hB5]
    have hlen : ((l.drop i).take K).length = K := by rw [List.length_take, List.length_drop]; omega
    have hdig : ∀ c ∈ (l.drop i).take K, 48 ≤ c.toNat ∧ c.toNat ≤ 57 := fun c hc => by
      rw [← HK.out] at hc
      have := whileN_mem hc
      exact cls_digit (by simpa using this)
    have HAt := Lib.hid fun w => Atoi_num ((l.drop i).take K) w hdig (by omega) (by omega)
    have HN : Hid (numV ((l.drop i).take K) < 10000000000000) := (atoi_num hdig (by omega) (by omega)).2
    clear HA HK HB hB3 hB5 hlen hdig
    go_wp2_with fail
    clear z1 c0 z2 d0 d1 d2 d3 f0 f1 f2 f3
    go_at_call 95
    refine (HAt.out W4).mono ?_
    rintro e W5 ⟨rfl, hb⟩
    replace HE := HE.out.next hb
    clear hb HAt
    obtain ⟨z1, c0, z2, d0, d1, d2, d3, f0, f1, f2, f3⟩ := HE.out.cells
    go_wp2_with fail
    refine bodyPost_ret (Next_res rfl (HE.out.store _ _ _ _).1) (by rfl) ⟨?_, (HE.out.store _ _ _ _).2⟩
    rw [He.out]
    rfl
  by_cases h6 : A = 6
  · subst h6
    have Hn : Hid (nextL l i = match idxQ (l.drop (i + 1)) with | none => .error 6 | some n => if (l.drop (i + 1))[n]? = some 10 then .error 6 else if 400 < n then .error 2 else .ok (⟨3, i, 0, (l.drop (i + 1)).take n⟩, n + 2)) := by
      show _ = _
      unfold nextL
      rw [HA.out]
      rfl
    have HI3 := Lib.hid (HI2.out (quote_mem hi HA.out))
    clear HA
    have hlt : (l.drop (i + 1)).length ≤ 20000 := by rw [List.length_drop]; omega
    have Hlt := Lib.hid hlt
    clear hlt
    go_wp2_with fail
    rw [tk_drop']
    clear z1 c0 z2 d0 d1 d2 d3 f0 f1 f2 f3
    go_at_call 96
    refine (HI3.out _ W2 Hlt.out).mono ?_
    rintro e W3 ⟨rfl, hb⟩
    replace HE := HE.out.next hb
    clear hb
    obtain ⟨z1, c0, z2, d0, d1, d2, d3, f0, f1, f2, f3⟩ := HE.out.cells
    rcases hq : idxQ (l.drop (i + 1)) with _ | n
    · have He : Hid (nextL l i = .error 6) := by
        have := Hn.out
        rw [hq] at this
        exact this
      clear Hn hq
      dsimp only
      go_wp2_with fail
      refine bodyPost_ret (Next_res rfl (HE.out.store _ _ _ _).1) (by rfl) ⟨?_, (HE.out.store _ _ _ _).2⟩
      rw [He.out]
      rfl
    · have hnl := idxQ_lt hq
      obtain ⟨r, hr⟩ : ∃ r, r = l.drop (i + 1) := ⟨_, rfl⟩
      have Hn2 := Hn.out
      rw [hq] at Hn2
      dsimp only at Hn2
      rw [← hr] at Hn2 hnl Hlt ⊢
      have Hr := Lib.hid hr
      clear Hn hq hr
      obtain ⟨u, hu⟩ : ∃ u, u = bs r := ⟨_, rfl⟩
      have kl : n < u.size := by rw [hu, bs_size]; exact hnl
      have hus : u.size ≤ 20000 := by rw [hu, bs_size]; exact Hlt.out
      obtain ⟨c, hc⟩ : ∃ c, u[n].toNat = c := ⟨_, rfl⟩
      have hrn : r[n]? = some (UInt8.ofNat c) := by
        subst hu
        rw [List.getElem?_eq_getElem hnl, ← hc]
        congr 1
        show r[n] = UInt8.ofNat (r[n].toNat)
        simp
      rw [← hu]
      have Hu := Lib.hid hu
      clear hu
      dsimp only
      by_cases hc10 : c = 10
      · have He : Hid (nextL l i = .error 6) := by
          show _ = _
          rw [Hn2, hrn, hc10]
          rfl
        have q10 : ((c : Int) == 10) = true := by simp; omega
        clear Hn2 hrn hc10
        go_wp2_with fail
        refine bodyPost_ret (Next_res rfl (HE.out.store _ _ _ _).1) (by rfl) ⟨?_, (HE.out.store _ _ _ _).2⟩
        rw [He.out]
        rfl
      have q10 : ((c : Int) == 10) = false := by simp; omega
      have hc256 : c < 256 := by rw [← hc]; exact UInt8.toNat_lt _
      have hne : ¬ (some (UInt8.ofNat c) = some (10 : UInt8)) := fun h => by
        injection h with h
        have := congrArg UInt8.toNat h
        simp at this
        omega
      rw [hrn, if_neg hne] at Hn2
      by_cases h400 : 400 < n
      · rw [if_pos h400] at Hn2
        have He := Lib.hid Hn2
        clear Hn2 hrn hc10 hne
        go_wp2_with fail
        refine bodyPost_ret (Next_res rfl (HE.out.store _ _ _ _).1) (by rfl) ⟨?_, (HE.out.store _ _ _ _).2⟩
        rw [He.out]
        rfl
      · rw [if_neg h400] at Hn2
        have He := Lib.hid Hn2
        have Hx : Hid (u.extract 0 n = bs (r.take n)) := by show _ = _; rw [Hu.out, bs_extract]; rfl
        clear Hn2 hrn hc10 hne
        go_wp2_with fail
        rw [Hx.out]
        refine bodyPost_ret (Next_res rfl (HE.out.store _ _ _ _).1) (by rfl) ⟨?_, (HE.out.store _ _ _ _).2⟩
        rw [He.out]
        rfl
  by_cases h7 : A = 7
  · subst h7
    go_wp2_with fail
    rw [tk_drop']
    go_at_call 42
    refine (HasPrefix_c l i W2).mono ?_
    rintro e W3 ⟨rfl, hb⟩
    obtain rfl : W3 = W2 := hb
    by_cases h61 : l[i + 1]? = some 61
    · rw [decide_eq_true h61]
      have hi1 := (List.getElem?_eq_some_iff.1 h61).1
      have He : Hid (nextL l i = .ok (⟨4, i, 0, (l.drop i).take 2⟩, 2)) := by
        show _ = _
        unfold nextL
        rw [HA.out]
        simp [h61]
      clear HA h61
      go_wp2_with fail
      refine bodyPost_ret (Next_res rfl (HE.out.store _ _ _ _).1) (by rfl) ⟨?_, (HE.out.store _ _ _ _).2⟩
      rw [He.out]
      rfl
    · rw [decide_eq_false h61]
      have He : Hid (nextL l i = .error 3) := by
        show _ = _
        unfold nextL
        rw [HA.out]
        simp [h61]
      clear HA h61
      go_wp2_with fail
      refine bodyPost_ret (Next_res rfl (HE.out.store _ _ _ _).1) (by rfl) ⟨?_, (HE.out.store _ _ _ _).2⟩
      rw [He.out]
      rfl
  by_cases h8 : A = 8
  · subst h8
    go_wp2_with fail
    rw [tk_drop']
    go_at_call 42
    refine (HasPrefix_c l i W2).mono ?_
    rintro e W3 ⟨rfl, hb⟩
    obtain rfl : W3 = W2 := hb
    by_cases h61 : l[i + 1]? = some 61
    · rw [decide_eq_true h61]
      have hi1 := (List.getElem?_eq_some_iff.1 h61).1
      have He : Hid (nextL l i = .ok (⟨4, i, 0, (l.drop i).take 2⟩, 2)) := by
        show _ = _
        unfold nextL
        rw [HA.out]
        simp [h61]
      clear HA h61
      go_wp2_with fail
      refine bodyPost_ret (Next_res rfl (HE.out.store _ _ _ _).1) (by rfl) ⟨?_, (HE.out.store _ _ _ _).2⟩
      rw [He.out]
      rfl
    · rw [decide_eq_false h61]
      have He : Hid (nextL l i = .ok (⟨4, i, 0, (l.drop i).take 1⟩, 1)) := by
        show _ = _
        unfold nextL
        rw [HA.out]
        simp [h61]
      clear HA h61
      go_wp2_with fail
      refine bodyPost_ret (Next_res rfl (HE.out.store _ _ _ _).1) (by rfl) ⟨?_, (HE.out.store _ _ _ _).2⟩
      rw [He.out]
      rfl
  by_cases h9 : A = 9
  · subst h9
    have He : Hid (nextL l i = .ok (⟨4, i, 0, (l.drop i).take 1⟩, 1)) := by
      show _ = _
      unfold nextL
      rw [HA.out]
      simp
    clear HA
    go_wp2_with fail
    refine bodyPost_ret (Next_res rfl (HE.out.store _ _ _ _).1) (by rfl) ⟨?_, (HE.out.store _ _ _ _).2⟩
    rw [He.out]
    rfl
  have He : Hid (nextL l i = .error 3) := by
    show _ = _
    unfold nextL
    rw [HA.out]
    simp [h3, h4, h6, h7, h8, h9]
  have q3 : ((A : Int) == 3) = false := by simp; omega
  have q4 : ((A : Int) == 4) = false := by simp; omega
  have q6 : ((A : Int) == 6) = false := by simp; omega
  have q7 : ((A : Int) == 7) = false := by simp; omega
  have q8 : ((A : Int) == 8) = false := by simp; omega
  have q9 : ((A : Int) == 9) = false := by simp; omega
  clear h3 h4 h6 h7 h8 h9 HA hA9
  go_wp2_with fail
  refine bodyPost_ret (Next_res rfl (HE.out.store _ _ _ _).1) (by rfl) ⟨?_, (HE.out.store _ _ _ _).2⟩
  rw [He.out]
  rfl
end Go.Proofs.YtckocgkndbdhcaaGreatDoor
namespace Go.Proofs.YtckocgkndbdhcaaGreatDoor
open Go.RowKit Go.Cz Go.Cz.Lx
set_option linter.unusedSimpArgs false
set_option linter.unusedVariables false
set_option maxRecDepth 100000 in
theorem built_scan (u : ByteArray) : Tryz.prog.built 154 [(0, .string u), (1, .agg clsTab)] = some (#[.string u] ++ clsTab) := by kernel_rfl
theorem wpList_build_to {P : Program} {ops : Array Oper} {rest : List Oper} {o : Oper} {a : Act} {w : World} {Q : Exit → Act → World → Prop} (hg : o.guard = none) (t : TypeId) (parts : Array (Nat × Operand)) (ho : o.op = .build t parts) (cells : Array Value)
    (ps : List (Nat × Value)) (hp : (parts.map fun (i, x) => (i, a.eval x)).toList = ps) (hc : P.built t ps = some cells) (h : wpList P ops Q rest (a.put o.dst (.agg cells)) w) : wpList P ops Q (o :: rest) a w :=
  wpList_build hg t parts ho (by rw [hp, hc]; rfl) (by rw [hp, hc]; exact h)
theorem zero_scan : (Tryz.zeroCells154).size = 257 := by kernel_rfl
theorem info_scan : (Tryz.prog.info? 154).map (·.size) = some 257 := by kernel_rfl
/-- The scanner's cells. -/
def ScanCells (u : ByteArray) (cs : Array Value) : Prop := cs.size = 257 ∧ cs.all (·.oneCell') = true ∧ cs[0]? = some (.string u) ∧ ∀ c : Nat, c < 256 → cs[1 + c]? = some (.int .i64 (cls (UInt8.ofNat c) : Int))
theorem scanCells (u : ByteArray) : ScanCells u (#[.string u] ++ clsTab) := by
  refine ⟨by rw [Array.size_append, clsTab_size]; rfl, ?_, by rw [Array.getElem?_append_left (by simp)]; rfl, fun c hc => ?_⟩
  · rw [Array.all_append, clsTab_one]; simp [Value.oneCell']
  · rw [Array.getElem?_append_right (by simp)]
    have := clsTab_at hc
    simpa using this
theorem scan_of_cells {W : World} {b : Nat} {u : ByteArray} {cs : Array Value} {t : TypeId} (h : W.heap[b]? = some (.cells cs t (0, 0))) (hc : ScanCells u cs) : IsScan W b u :=
  ⟨lt_of_block h, by rw [cell_of_heap h]; exact hc.2.2.1, fun c h2 => by rw [cell_of_heap h]; exact hc.2.2.2 c h2⟩
end Go.Proofs.YtckocgkndbdhcaaGreatDoor
namespace Go.Proofs.YtckocgkndbdhcaaGreatDoor
open Go.RowKit Go.Cz Go.Cz.Lx
set_option linter.unusedSimpArgs false
set_option linter.unusedVariables false
attribute [local go_sem] bs_size bs_extract bs_append bs_toList
attribute [local irreducible] cList
def tcells (t : Tok) : List Value := [.int .i64 t.kind, .int .i64 t.pos, .int .i64 t.num, .string (bs t.text)]
/-- Tokens in a row. -/
def IsToks (W : World) (v : Value) (ts : List Tok) : Prop := (ts = [] ∧ v = .slice none 0 0) ∨ ∃ g c, v = .slice (some ⟨g, 0, none⟩) ts.length c ∧ ts.length ≤ c ∧ g < W.heap.size ∧ ∀ (j : Nat) (t : Tok), ts[j]? = some t →
    W.cell? ⟨g, j * 4, none⟩ = some (.int .i64 t.kind) ∧ W.cell? ⟨g, j * 4 + 1, none⟩ = some (.int .i64 t.pos) ∧ W.cell? ⟨g, j * 4 + 2, none⟩ = some (.int .i64 t.num) ∧ W.cell? ⟨g, j * 4 + 3, none⟩ = some (.string (bs t.text))
theorem flat_tcells : ∀ (ts : List Tok) (j k : Nat) (t : Tok), ts[j]? = some t → k < 4 → (ts.flatMap tcells)[j * 4 + k]? = (tcells t)[k]?
  | [], j, k, t, h, _ => by simp at h
  | a :: r, 0, k, t, h, hk => by
    simp at h; subst h
    rw [List.flatMap_cons, Nat.zero_mul, Nat.zero_add, List.getElem?_append_left (by simp [tcells]; exact hk)]
  | a :: r, j + 1, k, t, h, hk => by
    rw [List.flatMap_cons, List.getElem?_append_right (by simp [tcells]; omega)]
    have : (j + 1) * 4 + k - (tcells a).length = j * 4 + k := by simp [tcells]; omega
    rw [this]
    exact flat_tcells r j k t (by simpa using h) hk
theorem toks_of_row {V W : World} {v : Value} {ts : List Tok} (h : ORow 138 4 V W v ts.length (ts.flatMap tcells)) : IsToks W v ts := by
  rcases h.at with ⟨h1, h2⟩ | ⟨g, c, h1, h2, h3, h4, h5⟩
  · exact .inl ⟨List.length_eq_zero_iff.1 h2, h1⟩
  · refine .inr ⟨g, c, h1, h2, h4, fun j t ht => ⟨h5 _ _ ?_, h5 _ _ ?_, h5 _ _ ?_, h5 _ _ ?_⟩⟩
    · exact (flat_tcells ts j 0 t ht (by omega)).trans rfl
    · exact (flat_tcells ts j 1 t ht (by omega)).trans rfl
    · exact (flat_tcells ts j 2 t ht (by omega)).trans rfl
    · exact (flat_tcells ts j 3 t ht (by omega)).trans rfl
theorem info_tok : (Tryz.prog.info? 138).map (fun i => (i.zero, i.size, i.bytes)) = some (some (.agg #[.int .i64 0, .int .i64 0, .int .i64 0, .string ⟨#[]⟩]), 4, 40) := by kernel_rfl
def LexPost (w : World) (l : List UInt8) (e : Ending) (w' : World) : Prop := ∃ v, e = .returned (.tuple #[v, .int .i64 (lexAll l).2.1, .int .i64 (lexAll l).2.2]) ∧ IsToks w' v (lexAll l).1 ∧ Below w.heap.size w w'
theorem TokStep {V W4 w2 : World} {v v' : Value} {acc : List Tok} {t : Tok} {o1 o2 : Obj} (h : ORow 138 4 V W4 v acc.length (acc.flatMap tcells)) (hrow : w2.ownsRow 0 138 4 v' (acc.length + 1) (acc.flatMap tcells ++ tcells t))
    (hgrow : ((W4.alloc o1).alloc o2).grownBy w2 v.ownBlock) (hblk : v'.ownBlock = v.ownBlock ∨ v'.ownBlock = some ((W4.alloc o1).alloc o2).heap.size) : ORow 138 4 V w2 v' (acc ++ [t]).length ((acc ++ [t]).flatMap tcells) := by
  have hb : Below W4.heap.size W4 ((W4.alloc o1).alloc o2) := ((Below.refl _ _).alloc (Nat.le_refl _) _).alloc (by simp) _
  have := (h.keep hb).step hrow hgrow hblk
  simpa using this
set_option maxRecDepth 100000 in
set_option maxHeartbeats 400000 in
theorem Lex_c (l : List UInt8) (HI : 34 ∈ l → IdxAny) (w : World) (hl : l.length ≤ 140737488355328) : Calls Tryz.prog 67 #[.string (bs l)] w (LexPost w l) := by
  by_cases h2 : 20000 < l.length
  · have He : Hid (lexAll l = ([], 2, -1)) := if_pos h2
    go_enter Tryz.func67, Tryz.ntmps67
    go_wp2_with fail
    refine bodyPost_ret (results_tmp3 rfl _ _ _) (by rfl) ⟨.slice none 0 0, ?_, ?_, Below.refl _ _⟩
    · rw [He.out]; rfl
    · rw [He.out]; exact .inl ⟨rfl, rfl⟩
  have hl2 : l.length ≤ 20000 := by omega
  have HL := Lib.hid hl2
  have HI2 := Lib.hid HI
  clear HI
  go_enter Tryz.func67, Tryz.ntmps67
  go_wp2_with fail
  go_at_call 81
  refine (classes_c w).mono ?_
  rintro e W1 ⟨rfl, hb⟩
  have Hb := Lib.hid hb
  clear hb
  obtain ⟨ct, hct⟩ : ∃ ct, ct = clsTab := ⟨_, rfl⟩
  obtain ⟨cs, hcs, hbt⟩ : ∃ cs, ScanCells (bs l) cs ∧ Tryz.prog.built 154 [(0, .string (bs l)), (1, .agg ct)] = some cs := ⟨_, scanCells (bs l), by rw [hct]; exact built_scan (bs l)⟩
  rw [← hct]
  have Hcs := Lib.hid hcs
  have Hbt := Lib.hid hbt
  clear hct hcs hbt
  rename_i hnext
  refine hnext _ _ ?_
  refine wpList_build_to rfl 154 #[(0, .tmp 14), (1, .tmp 15)] (by rfl) cs _ (by simp [Act.eval]; rfl) (by exact Hbt.out) ?_
  have hc1 : cs.size = 257 := Hcs.out.1
  go_wp2_with fail
  rw [storeCells_row (P := Tryz.prog) _ W1.heap.size 154 _ cs (new_heap W1 _ _ rfl) (by rw [hc1]; exact zero_scan) Hcs.out.2.1]
  simp only [Result.andThen_ok]
  go_wp2_with fail
  obtain ⟨b, hb⟩ : ∃ b, b = W1.heap.size := ⟨_, rfl⟩
  obtain ⟨W2, hW2⟩ : ∃ W2, W2 = (W1.alloc (.cells Tryz.zeroCells154 154)).setRow W1.heap.size cs := ⟨_, rfl⟩
  have HE : Hid (LxE w W2 b l ∧ w.heap.size ≤ b) := by
    have h1 : (W1.alloc (.cells Tryz.zeroCells154 154)).heap[W1.heap.size]? = some (.cells Tryz.zeroCells154 154 (0, 0)) := new_heap W1 _ _ rfl
    have hbb := Hb.out
    have hm : Mod [W1.heap.size] W1 W2 := by
      rw [hW2]
      exact ((Mod.refl [W1.heap.size] W1).alloc _).trans ⟨rfl, rfl, rfl, by simp, fun k _ hk => setRow_other _ _ _ _ (by simpa using hk)⟩
    refine ⟨⟨hbb.trans ⟨hm.os, hm.tape, hm.output, hm.size, fun k hk => hm.block k (Nat.lt_of_lt_of_le hk hbb.size) (by simp; have := hbb.size; omega)⟩, ?_⟩, by rw [hb]; exact hbb.size⟩
    rw [hb, hW2]
    exact scan_of_cells (setRow_heap _ _ _ _ _ _ h1) Hcs.out
  rw [← hW2, ← hb]
  clear hb hW2 hc1 Hbt Hcs Hb
  go_at_call 82
  refine (gap_c b l 0 W2 HL.out (by omega) HE.out.1.scan).mono ?_
  rintro e W3 ⟨rfl, hb⟩
  have HE2 : Hid (LxE w W2 b l) := HE.out.1
  have HB3 := Lib.hid hb
  clear hb HE
  have hg0 := gapE_le l 0 (by omega)
  have H0 := Lib.hid (lexI_start l)
  go_wp2_with fail
  go_loopg [6, 7] (l.length - gapE l 0) (fun gk v i wr => ∃ (k : Nat) (acc : List Tok), gk = l.length - k ∧ k ≤ l.length ∧ i = .int .i64 (k : Int) ∧ acc.length ≤ 5000 ∧ Hid (LexI l k acc) ∧ Hid (ORow 138 4 W2 wr v acc.length (acc.flatMap tcells)))
  case atStart => exact ⟨gapE l 0, [], rfl, hg0, rfl, by simp, H0, ORow.nil HB3.out⟩
  case round =>
    rename_i J1 K1 hJ1 hK1
    clear HB3 H0 hnext hg0
    obtain ⟨k, acc, rfl, hk, rfl, h5, hL, hR⟩ := hrel
    have hw := HE2.out.next hR.out.below
    obtain ⟨sa, sc, rfl⟩ := hR.out.form
    by_cases hlt : k < l.length
    · go_wp2_with fail
      go_at_call 83
      refine (next_c b l HI2.out k wr HL.out hlt hw.out.scan).mono ?_
      rintro e W4 ⟨rfl, hb⟩
      have HE := hw.out.next hb
      have HR := Lib.hid (hR.out.keep hb)
      clear hb hw hR
      rcases hn : nextL l k with e | ⟨t, m⟩
      · have he0 : ((e : Int) == 0) = false := by have := nextL_err hn; simp; omega
        have he1 : ((e : Int) != 0) = true := by have := nextL_err hn; simp; omega
        have He := Lib.hid (lexI_err hL.out hlt HL.out hn)
        clear hn hL
        simp only [nextV]
        go_wp2_with fail
        refine bodyPost_ret (results_tmp3 rfl _ _ _) (by rfl) ⟨.slice none 0 0, ?_, ?_, ?_⟩
        · rw [He.out]; rfl
        · rw [He.out]; exact .inl ⟨rfl, rfl⟩
        · exact HE.out.below.trans (Below.mono ((Below.refl _ _).alloc (Nat.le_refl _) _) HE.out.below.size)
      · obtain ⟨n1, n2⟩ := nextL_width hn hlt
        simp only [nextV, tokV]
        by_cases hf : acc.length = 5000
        · have hf1 : ((acc.length : Int) == 5000) = true := by simp; omega
          have He := Lib.hid (lexI_full hL.out hlt HL.out hn hf)
          clear hn hL hf h5
          go_wp2_with fail
          refine bodyPost_ret (results_tmp3 rfl _ _ _) (by rfl) ⟨.slice none 0 0, ?_, ?_, ?_⟩
          · rw [He.out]; rfl
          · rw [He.out]; exact .inl ⟨rfl, rfl⟩
          · exact HE.out.below.trans (Below.mono ((Below.refl _ _).alloc (Nat.le_refl _) _) HE.out.below.size)
        · have hf1 : ((acc.length : Int) == 5000) = false := by simp; omega
          have HN := Lib.hid (lexI_next hL.out hlt hn hf)
          have hlen : acc.length ≤ 4999 := by omega
          clear hn hL hf h5
          go_wp2_with (refine wpList_plain rfl fun K hK => wp_append (.tmp 41) (.tmp 43) 134 (by rfl) 138 _ 4 40 Tryz.underlying134 info_tok (by rfl) (by omega) _ acc.length _ (by rfl) ((HR.out.row.alloc _).alloc _) (W4.heap.size + 1) 1 1 (tcells t) (by rfl) (by rfl) 138 (by exact new_heap (W4.alloc _) _ _ (by simp)) (by simp [tcells, Value.oneCell']) (by omega) (by omega) ?_; intro v' w2 hrow hgrow hblk; have HR2 := Lib.hid (TokStep HR.out hrow hgrow hblk); clear hrow hgrow hblk)
          rw [show (k : Int) + (m : Int) = ((k + m : Nat) : Int) from rfl]
          have HE4 := HE2.out.next HR2.out.below
          go_at_call 82
          refine (gap_c b l (k + m) w2 HL.out n2 HE4.out.scan).mono ?_
          rintro e W5 ⟨rfl, hb⟩
          have HR5 := Lib.hid (HR2.out.keep hb)
          clear hb HR2 HE4
          have hge := gapE_le l (k + m) n2
          have hgk : k < gapE l (k + m) := by unfold gapE; omega
          go_wp2_with fail
          go_roundg (l.length - gapE l (k + m))
          case measure => omega
          case rel => exact ⟨gapE l (k + m), acc ++ [t], rfl, hge, rfl, by simp; omega, HN, HR5⟩
    · have He := Lib.hid (lexI_end hL.out (by omega) HL.out)
      clear hL hJ1 hK1
      go_wp2_with fail
      refine bodyPost_ret (results_tmp3 rfl _ _ _) (by rfl) ⟨.slice sa acc.length sc, ?_, ?_, hw.out.below⟩
      · rw [He.out]; rfl
      · rw [He.out]; exact toks_of_row hR.out
end Go.Proofs.YtckocgkndbdhcaaGreatDoor
namespace Go.Cz.Lx
theorem idxQ_any : ∀ l : List UInt8, (match idxQ l with | some n => (n : Int) | none => -1) = Lib.indexAny l [34, 10]
  | [] => rfl
  | c :: r => by
    have ih := idxQ_any r
    have hc : ([34, 10] : List UInt8).contains c = decide (c = 34 ∨ c = 10) := by
      rw [Bool.eq_iff_iff]; simp
    unfold idxQ Lib.indexAny
    rw [hc, ← ih]
    by_cases h : c = 34 ∨ c = 10
    · simp [h]
    · simp only [h, if_false, decide_false]
      cases idxQ r with
      | none => rfl
      | some n =>
        show ((n + 1 : Nat) : Int) = if ((n : Int) == -1) = true then -1 else (n : Int) + 1
        rw [if_neg (by simp)]
        rfl
theorem get_at (s : ByteArray) (i : Nat) (h : i < s.size) : s.get! i = s[i]'h := by
  simp [ByteArray.get!, getElem!_pos, h]
  rfl
/-- A rune that is not ASCII: all its bytes are in the text, and from 128 on. -/
theorem decode_bytes (s : ByteArray) (pos : Nat) (h : pos < s.size) (ha : 128 ≤ (s[pos]'h).toNat) :
    pos + (Utf8.decode s pos).2 ≤ s.size ∧ ∀ j, pos ≤ j → j < pos + (Utf8.decode s pos).2 → ∀ hj : j < s.size, 128 ≤ (s[j]'hj).toNat := by
  have hc : ∀ k, (decide (pos + k < s.size) && ((s.get! (pos + k)).toNat / 64 == 2)) = true → ∃ hj : pos + k < s.size, 128 ≤ (s[pos + k]'hj).toNat := by
    intro k hk
    simp only [Bool.and_eq_true, decide_eq_true_eq, beq_iff_eq] at hk
    refine ⟨hk.1, ?_⟩
    have := hk.2
    rw [get_at s _ hk.1] at this
    omega
  have one : pos + 1 ≤ s.size ∧ ∀ j, pos ≤ j → j < pos + 1 → ∀ hj : j < s.size, 128 ≤ (s[j]'hj).toNat := ⟨by omega, fun j h1 h2 hj => (by
    have e : j = pos := by omega
    subst e
    exact ha)⟩
  have hn : ¬ (s[pos]'h).toNat < 128 := by omega
  simp only [Utf8.decode, Nat.add_zero, get_at s pos h, hn, if_false]
  split
  · rename_i h1
    obtain ⟨q1, a1⟩ := hc 1 (by simp only [Bool.and_eq_true] at h1; exact Bool.and_eq_true_iff.2 h1.2)
    split
    · exact ⟨by show pos + 2 ≤ _; omega, fun j h2 h3 hj => by
        rcases (by have : j < pos + 2 := h3; omega : j = pos ∨ j = pos + 1) with rfl | rfl
        · exact ha
        · exact a1⟩
    · exact one
  split
  · rename_i h1
    simp only [Bool.and_eq_true] at h1
    obtain ⟨q1, a1⟩ := hc 1 (Bool.and_eq_true_iff.2 h1.1.2)
    obtain ⟨q2, a2⟩ := hc 2 (Bool.and_eq_true_iff.2 h1.2)
    split
    · exact ⟨by show pos + 3 ≤ _; omega, fun j h2 h3 hj => by
        rcases (by have : j < pos + 3 := h3; omega : j = pos ∨ j = pos + 1 ∨ j = pos + 2) with rfl | rfl | rfl
        · exact ha
        · exact a1
        · exact a2⟩
    · exact one
  split
  · rename_i h1
    simp only [Bool.and_eq_true] at h1
    obtain ⟨q1, a1⟩ := hc 1 (Bool.and_eq_true_iff.2 h1.1.1.2)
    obtain ⟨q2, a2⟩ := hc 2 (Bool.and_eq_true_iff.2 h1.1.2)
    obtain ⟨q3, a3⟩ := hc 3 (Bool.and_eq_true_iff.2 h1.2)
    split
    · exact ⟨by show pos + 4 ≤ _; omega, fun j h2 h3 hj => by
        rcases (by have : j < pos + 4 := h3; omega : j = pos ∨ j = pos + 1 ∨ j = pos + 2 ∨ j = pos + 3) with rfl | rfl | rfl | rfl
        · exact ha
        · exact a1
        · exact a2
        · exact a3⟩
    · exact one
  · exact one
end Go.Cz.Lx
namespace Go.Proofs.YtckocgkndbdhcaaGreatDoor
open Go.RowKit Go.Cz Go.Cz.Lx
set_option linter.unusedSimpArgs false
set_option linter.unusedVariables false
set_option maxHeartbeats 2000000 in
theorem ValidRune_c (r : Int) (w : World) : Calls Tryz.prog 87 #[.int .i32 r] w fun e w' => e = .returned (.bool (validRune r)) ∧ w' = w := by
  obtain ⟨q, hq⟩ : ∃ q, q = validRune r := ⟨_, rfl⟩
  rw [← hq]
  unfold validRune at hq
  go_enter Tryz.func87, Tryz.ntmps87
  by_cases h1 : 0 ≤ r ∧ r < 55296
  · obtain rfl : q = true := by rw [hq]; exact decide_eq_true (Or.inl h1)
    clear hq
    obtain ⟨h1, h2⟩ := h1
    go_wp2_with fail
    go_ret
    exact ⟨rfl, rfl⟩
  by_cases h2 : 57343 < r ∧ r ≤ 1114111
  · obtain rfl : q = true := by rw [hq]; exact decide_eq_true (Or.inr h2)
    clear hq
    obtain ⟨h2, h3⟩ := h2
    have h4 : ¬ r < 55296 := by omega
    clear h1
    go_wp2_with fail
    go_ret
    exact ⟨rfl, rfl⟩
  obtain rfl : q = false := by rw [hq]; exact decide_eq_false (by omega)
  clear hq
  by_cases h3 : 0 ≤ r
  · have h4 : ¬ r < 55296 := by omega
    by_cases h5 : 57343 < r
    · have h6 : ¬ r ≤ 1114111 := by omega
      clear h1 h2
      go_wp2_with fail
      go_ret
      exact ⟨rfl, rfl⟩
    · clear h1 h2
      go_wp2_with fail
      go_ret
      exact ⟨rfl, rfl⟩
  · have h5 : ¬ 57343 < r := by omega
    clear h1 h2
    go_wp2_with fail
    go_ret
    exact ⟨rfl, rfl⟩
theorem inBlock_ret (id : Nat) (Q : Exit → Act → World → Prop) (a : Act) (w : World) : Exit.inBlock id Q Exit.ret a w = Q Exit.ret a w := rfl
theorem then_ret (K : Act → World → Prop) (Q : Exit → Act → World → Prop) (a : Act) (w : World) : Exit.then K Q Exit.ret a w = Q Exit.ret a w := rfl
/-- An iterator over a text goes on. -/
def World.iterTo (w : World) (k : Nat) (o : Obj) : World := { w with heap := w.heap.setIfInBounds k o }
theorem iterTo_heap {w : World} {k : Nat} {o o' : Obj} (h : w.heap[k]? = some o') : (World.iterTo w k o).heap[k]? = some o := by
  have := lt_of_block h
  simp [World.iterTo, this]
theorem Below.iterTo {B : Nat} {a w : World} (h : Below B a w) {k : Nat} (hk : B ≤ k) (o : Obj) : Below B a (World.iterTo w k o) :=
  h.trans ⟨rfl, rfl, rfl, by simp [World.iterTo], fun j hj => by simp only [World.iterTo]; rw [Array.getElem?_setIfInBounds, if_neg (by omega)]⟩
theorem next_at (w : World) (k : Nat) (s : ByteArray) (pos : Nat) (ty : TypeId) (hk : w.heap[k]? = some (.stringIter s pos)) (h : pos < s.size) :
    (Instr.next (.pointer (some ⟨k, 0, none⟩)) true ty).run Tryz.prog w = .ok (.tuple #[.bool true, .int .i64 pos, .int .i32 (Utf8.decode s pos).1]) (World.iterTo w k (.stringIter s (pos + (Utf8.decode s pos).2))) := by
  simp only [Instr.next, getObj, setObj, Sem.run_bind, Sem.run, hk, Result.andThen, h, if_true]
  simp [goInt, World.iterTo]
theorem next_over (w : World) (k : Nat) (s : ByteArray) (pos : Nat) (ty : TypeId) (hk : w.heap[k]? = some (.stringIter s pos)) (h : ¬ pos < s.size) :
    (Instr.next (.pointer (some ⟨k, 0, none⟩)) true ty).run Tryz.prog w = .ok (.tuple #[.bool false]) w := by
  simp [Instr.next, getObj, Sem.run, hk, h]
theorem indexByte_none (u : ByteArray) (c : UInt8) (w : World) (h : u.data.toList = []) : Calls Tryz.prog 86 #[.string u, .int .u8 c.toNat] w fun e w' => e = .returned (.int .i64 (-1)) ∧ w' = w := by
  have := Tryz.strings_IndexByte u (c.toNat : Int) w
  rw [h] at this
  exact this
set_option maxRecDepth 10000 in
set_option maxHeartbeats 4000000 in
/-- No rune from 128 on is a quote or a line feed. -/
theorem IndexRune_high (ch : ByteArray) (hch : ch = ⟨#[34, 10]⟩) (r : Int) (w : World) (h0 : 128 ≤ r) (h1 : r ≤ 2147483647) : Calls Tryz.prog 72 #[.string ch, .int .i32 r] w fun e w' => e = .returned (.int .i64 (-1)) ∧ Below w.heap.size w w' := by
  have hsz : ch.size = 2 := by rw [hch]; rfl
  have h10 : ∀ h : 1 < ch.size, (ch[1]'h).toNat = 10 := by subst hch; intro h; rfl
  have hlow : ∀ (i : Nat) (h : i < ch.size), (ch[i]'h).toNat < 128 := by
    subst hch
    intro i h
    have h2 : i < 2 := h
    rcases i with _ | _ | i
    · show (34 : UInt8).toNat < 128
      decide
    · show (10 : UInt8).toNat < 128
      decide
    · omega
  have hnil : ∀ b, (ch.extract 2 b).data.toList = [] := by
    intro b
    subst hch
    rw [show (⟨#[34, 10]⟩ : ByteArray) = bs [34, 10] from rfl, bs_extract]
    simp [bs]
  have HC : Hid ((∀ h : 1 < ch.size, (ch[1]'h).toNat = 10) ∧ (∀ (i : Nat) (h : i < ch.size), (ch[i]'h).toNat < 128) ∧ (∀ b, (ch.extract 2 b).data.toList = [])) := ⟨h10, hlow, hnil⟩
  clear h10 hlow hnil hch
  have hr0 : ¬ r < 128 := by omega
  by_cases hE : r = 65533
  · subst hE
    go_enter Tryz.func72, Tryz.ntmps72
    go_wp2_with fail
    go_loopg [5, 6] (2 : Nat) (fun g _ _ wx => ∃ i : Nat, i + g = 2 ∧ wx = w.iter ch i)
    case atStart => exact ⟨0, by omega, rfl⟩
    case round =>
      obtain ⟨i, hig, rfl⟩ := hrel
      cases gk with
      | zero =>
        obtain rfl : i = 2 := by omega
        have hnx := fun ty => run_next_end (P := Tryz.prog) w ch 2 ty (by omega)
        go_wp2_with fail
        go_ret
        exact ⟨rfl, (Below.refl _ _).alloc (Nat.le_refl _) _⟩
      | succ g =>
        have hi : i < ch.size := by omega
        have hx128 := HC.out.2.1 i hi
        have hnx := fun ty => run_next_ascii (P := Tryz.prog) w ch i ty hi hx128
        obtain ⟨x, hx⟩ : ∃ x : Int, x = ((ch[i]'hi).toNat : Int) := ⟨_, rfl⟩
        have hxE : (x == 65533) = false := by simp; omega
        rw [← hx] at hnx
        clear hx hx128
        go_wp2_with fail
        go_roundg g
        case measure => omega
        case rel => exact ⟨i + 1, by omega, rfl⟩
  · have hE1 : (r == 65533) = false := by simpa using hE
    cases hv : validRune r
    · go_enter Tryz.func72, Tryz.ntmps72
      go_wp2_with fail
      go_at_call 87
      refine (ValidRune_c r w).mono ?_
      rintro e w' ⟨rfl, rfl⟩
      rw [hv]
      go_wp2_with fail
      go_ret
      exact ⟨rfl, Below.refl _ _⟩
    · obtain ⟨q1, q2, q3⟩ := encode_facts r (by rw [validRune_eq]; exact hv) h0
      obtain ⟨v, hvv⟩ : ∃ v, v = Utf8.encode r := ⟨_, rfl⟩
      rw [← hvv] at q1 q2 q3
      have Hvv := Lib.hid hvv.symm
      clear hvv
      go_enter Tryz.func72, Tryz.ntmps72
      go_wp2_with fail
      go_at_call 87
      refine (ValidRune_c r w).mono ?_
      rintro e w' ⟨rfl, rfl⟩
      rw [hv]
      go_wp2_with fail
      go_step3
      go_wp2_with fail
      rw [Hvv.out]
      by_cases h2 : v.size = 2
      · obtain ⟨c, hc⟩ : ∃ c : UInt8, ∀ h : 1 < v.size, v[1]'h = c := ⟨v[1]'(by omega), fun _ => rfl⟩
        have hc128 : 128 ≤ c.toNat := by
          have h3 := q3 (by omega)
          have e : v[v.size - 1]'(by omega) = v[1]'(by omega) := by congr 1; omega
          rw [e, hc] at h3
          exact h3
        have hx : ∀ h : 1 < ch.size, ((ch[1]'h).toNat : Int) = 10 := fun h => by rw [HC.out.1 h]; rfl
        have hne2 : ((10 : Int) != (c.toNat : Int)) = true := by simp; omega
        have k1 : 1 < ch.size := by omega
        have k2 : 1 < v.size := by omega
        have hx1 := hx k1
        have hc1 := hc k2
        clear q1 q2 q3 hx hc
        go_wp2_with fail
        have hw8 : wrap64 ((v.size : Int) - 1) = 1 := by rw [h2]; decide +kernel
        rw [hw8]
        go_loopg [9] (0 : Nat) (fun gk i wx => gk = 0 ∧ i = .int .i64 1 ∧ wx = w')
        case atStart => exact ⟨rfl, rfl, rfl⟩
        case round =>
          obtain ⟨rfl, rfl, rfl⟩ := hrel
          clear hw8
          have hnil := HC.out.2.2 2
          go_wp2_with fail
          go_step3
          go_wp2_with fail
          refine wp_region_can [] (List.range 7) (by kernel_rfl) (by kernel_rfl) ?_
          iterate 7 (refine cl_do rfl rfl rfl rfl (fun _ _ => ?_); go_wp2_with fail)
          refine cl_nil ?_
          go_wp2_with fail
          refine wp_region_can [7] (List.range 9) (by kernel_rfl) (by kernel_rfl) ?_
          iterate 7 (refine cl_do rfl rfl rfl rfl (fun _ _ => ?_); go_wp2_with fail)
          refine cl_call (i := 7) rfl rfl rfl (fun K hK => ?_)
          go_wp2_with fail
          go_at_call 86
          refine (indexByte_none _ c _ rfl).mono ?_
          rintro e w2 ⟨rfl, rfl⟩
          go_wp2_with fail
          refine And.intro (Below.refl _ _) ?_
          refine cl_do rfl rfl rfl rfl (fun _ _ => ?_)
          go_wp2_with fail
          refine cl_nil ?_
          go_wp2_with fail
          repeat (first | rw [Exit.noGoto_ret] | rw [inBlock_ret] | rw [then_ret])
          go_ret
          exact ⟨rfl, (Below.refl _ _).drew.drew⟩
      · have hw8 : ∃ i : Nat, 2 ≤ i ∧ wrap64 ((v.size : Int) - 1) = (i : Int) := by
          rcases (by omega : v.size = 3 ∨ v.size = 4) with h | h
          · exact ⟨2, by omega, by rw [h]; decide +kernel⟩
          · exact ⟨3, by omega, by rw [h]; decide +kernel⟩
        obtain ⟨i8, hi8, hw8⟩ := hw8
        clear q1 q2 q3
        go_wp2_with fail
        rw [hw8]
        go_loopg [9] (0 : Nat) (fun gk i wx => gk = 0 ∧ i = .int .i64 (i8 : Int) ∧ wx = w')
        case atStart => exact ⟨rfl, rfl, rfl⟩
        case round =>
          obtain ⟨rfl, rfl, rfl⟩ := hrel
          clear hw8
          go_wp2_with fail
          repeat (first | rw [Exit.noGoto_ret] | rw [inBlock_ret] | rw [then_ret])
          go_ret
          exact ⟨rfl, Below.refl _ _⟩
theorem shouldUse_c (n : Int) (w : World) : Calls Tryz.prog 103 #[.int .i64 n] w fun e w' => e = .returned (.bool (decide (8 < n))) ∧ w' = w := by
  go_enter Tryz.func103, Tryz.ntmps103
  go_wp2_with fail
  go_ret
  exact ⟨rfl, rfl⟩
def NoQ (s : ByteArray) (i : Nat) : Prop := Lib.NoAny s.data.toList [34, 10] i
set_option maxRecDepth 10000 in
set_option maxHeartbeats 4000000 in
theorem IndexAny_short (s : ByteArray) (ch : ByteArray) (hch : ch = ⟨#[34, 10]⟩) (w : World) (h8 : s.size ≤ 8) : Calls Tryz.prog 96 #[.string s, .string ch] w fun e w' => e = .returned (.int .i64 (Lib.indexAny s.data.toList [34, 10])) ∧ Below w.heap.size w w' := by
  have hemp : ch.toList.isEmpty = false := by rw [hch, show (⟨#[34, 10]⟩ : ByteArray) = bs [34, 10] from rfl, bs_toList]; rfl
  have hsz : ch.size = 2 := by rw [hch]; rfl
  have hd : ch.data.toList = [34, 10] := by rw [hch]
  have h8z : decide ((8 : Int) < (s.size : Int)) = false := decide_eq_false (by omega)
  have HC := Lib.hid hch
  have Hd := Lib.hid hd
  have H8 := Lib.hid h8z
  clear hch hd h8z
  go_enter Tryz.func96, Tryz.ntmps96
  go_wp2_with fail
  go_at_call 103
  refine (shouldUse_c _ w).mono ?_
  rintro e w1 ⟨rfl, hw⟩
  subst hw
  rw [H8.out]
  go_wp2_with fail
  obtain ⟨k, hk⟩ : ∃ k, k = w1.heap.size := ⟨_, rfl⟩
  have HI : Hid ((w1.iter s 0).heap[k]? = some (.stringIter s 0) ∧ Below w1.heap.size w1 (w1.iter s 0) ∧ w1.heap.size ≤ k) := by
    rw [hk]; exact ⟨World.iter_heap _ _ _, (Below.refl _ _).alloc (Nat.le_refl _) _, Nat.le_refl _⟩
  obtain ⟨w2, hw2⟩ : ∃ w2, w2 = w1.iter s 0 := ⟨_, rfl⟩
  rw [← hw2] at HI ⊢
  rw [← hk]
  clear hk hw2
  go_loopg [9, 10] s.size (fun g _ _ wx => ∃ i : Nat, i + g = s.size ∧ Hid (wx.heap[k]? = some (.stringIter s i) ∧ Below w1.heap.size w1 wx ∧ w1.heap.size ≤ k) ∧ Hid (NoQ s i))
  case atStart => exact ⟨0, by omega, HI, Lib.NoAny.zero _ _⟩
  case round =>
    clear HI
    obtain ⟨i, hig, hI, hno⟩ := hrel
    cases gk with
    | zero =>
      obtain rfl : i = s.size := by omega
      have hnx := fun ty => next_over wr k s s.size ty hI.out.1 (by omega)
      have He : Hid (Lib.indexAny s.data.toList [34, 10] = -1) := Lib.indexAny_none (by rw [← Lib.size_eq]; exact hno.out)
      go_wp2_with fail
      go_ret
      exact ⟨by rw [He.out]; rfl, hI.out.2.1⟩
    | succ g =>
      have hi : i < s.size := by omega
      obtain ⟨x, hx⟩ : ∃ x : UInt8, s[i]'hi = x := ⟨_, rfl⟩
      have hxl : s.data.toList[i]? = some x := by rw [← hx]; exact Lib.data_getElem? s i hi
      have hnx := fun ty => next_at wr k s i ty hI.out.1 hi
      by_cases hx128 : x.toNat < 128
      · rw [decode_ascii s i hi (by rw [hx]; exact hx128), hx] at hnx
        have HI2 : Hid ((World.iterTo wr k (.stringIter s (i + 1))).heap[k]? = some (.stringIter s (i + 1)) ∧ Below w1.heap.size w1 (World.iterTo wr k (.stringIter s (i + 1))) ∧ w1.heap.size ≤ k) := ⟨iterTo_heap hI.out.1, Below.iterTo hI.out.2.1 hI.out.2.2 _, hI.out.2.2⟩
        obtain ⟨w3, hw3⟩ : ∃ w3, w3 = World.iterTo wr k (.stringIter s (i + 1)) := ⟨_, rfl⟩
        rw [← hw3] at HI2 hnx
        have Hx : Hid (s.data.toList[i]? = some x) := hxl
        have hcon := Lib.contains_iff_indexByte [34, 10] x
        have hback : ((x.toNat : Int)).toNat.toUInt8 = x := by simp
        have hdec : ((x.toNat, 1) : Nat × Nat).1 = x.toNat := rfl
        clear hxl hx hw3
        cases hin : ([34, 10] : List UInt8).contains x
        · rw [hin] at hcon
          have hlt : ¬ ((0 : Int) ≤ Lib.indexByte [34, 10] x) := of_decide_eq_false hcon.symm
          have HN : Hid (NoQ s (i + 1)) := hno.out.succ Hx.out hin
          clear hcon hno hin
          go_wp2_with fail
          go_at_call 72
          refine (Tryz.strings_IndexRune_ascii ch (x.toNat : Int) w3 (by omega) (by omega)).mono ?_
          rintro e w4 ⟨rfl, hw⟩
          obtain rfl : w4 = w3 := hw
          rw [hback, Hd.out]
          go_wp2_with fail
          go_roundg g
          case measure => omega
          case rel => exact ⟨i + 1, by omega, HI2, HN⟩
        · rw [hin] at hcon
          have hlt : (0 : Int) ≤ Lib.indexByte [34, 10] x := of_decide_eq_true hcon.symm
          have He : Hid (Lib.indexAny s.data.toList [34, 10] = i) := Lib.indexAny_hit hno.out Hx.out hin
          clear hcon hno hin
          go_wp2_with fail
          go_at_call 72
          refine (Tryz.strings_IndexRune_ascii ch (x.toNat : Int) w3 (by omega) (by omega)).mono ?_
          rintro e w4 ⟨rfl, hw⟩
          obtain rfl : w4 = w3 := hw
          rw [hback, Hd.out]
          go_wp2_with fail
          go_ret
          exact ⟨by rw [He.out]; rfl, HI2.out.2.1⟩
      · obtain ⟨d1, d2⟩ := decode_high s i hi (by rw [hx]; omega)
        have d3 := decode_le s i
        obtain ⟨d4, d5⟩ := decode_bytes s i hi (by rw [hx]; omega)
        obtain ⟨r, hr⟩ : ∃ r, r = (Utf8.decode s i).1 := ⟨_, rfl⟩
        obtain ⟨m, hm⟩ : ∃ m, m = (Utf8.decode s i).2 := ⟨_, rfl⟩
        rw [← hr] at d1 d3 hnx
        rw [← hm] at d2 d4 d5 hnx
        have HI2 : Hid ((World.iterTo wr k (.stringIter s (i + m))).heap[k]? = some (.stringIter s (i + m)) ∧ Below w1.heap.size w1 (World.iterTo wr k (.stringIter s (i + m))) ∧ w1.heap.size ≤ k) := ⟨iterTo_heap hI.out.1, Below.iterTo hI.out.2.1 hI.out.2.2 _, hI.out.2.2⟩
        have HN : Hid (NoQ s (i + m)) := Lib.hid fun j b hj hb => by
          by_cases hji : j < i
          · exact hno.out j b hji hb
          · have hjs : j < s.size := by omega
            have h5 := d5 j (by omega) hj hjs
            rw [Lib.data_getElem? s j hjs] at hb
            obtain rfl := Option.some.inj hb
            have n1 : s[j] ≠ 34 := fun h => by rw [h] at h5; revert h5; decide
            have n2 : s[j] ≠ 10 := fun h => by rw [h] at h5; revert h5; decide
            simp [n1, n2]
        obtain ⟨w3, hw3⟩ : ∃ w3, w3 = World.iterTo wr k (.stringIter s (i + m)) := ⟨_, rfl⟩
        rw [← hw3] at HI2 hnx
        clear hxl hx hw3 hx128 d5 hno hr hm
        go_wp2_with fail
        go_at_call 72
        refine (IndexRune_high ch HC.out (r : Int) w3 (by omega) (by omega)).mono ?_
        rintro e w4 ⟨rfl, hb⟩
        have HI4 : Hid (w4.heap[k]? = some (.stringIter s (i + m)) ∧ Below w1.heap.size w1 w4 ∧ w1.heap.size ≤ k) := ⟨(hb.block k (lt_of_block HI2.out.1)).trans HI2.out.1, HI2.out.2.1.trans (hb.mono HI2.out.2.1.size), HI2.out.2.2⟩
        clear hb HI2
        go_wp2_with fail
        go_roundg (s.size - (i + m))
        case measure => omega
        case rel => exact ⟨i + m, by omega, HI4, HN⟩
theorem idxAny : IdxAny := by
  intro l w hl
  suffices h : Calls Tryz.prog 96 #[.string (bs l), .string ⟨#[34, 10]⟩] w fun e w' => e = .returned (.int .i64 (Lib.indexAny l [34, 10])) ∧ Below w.heap.size w w' from
    h.mono fun e w' ⟨h1, h2⟩ => ⟨by rw [h1]; congr 2; exact (idxQ_any l).symm, h2⟩
  by_cases h8 : 8 < l.length
  · refine (Tryz.strings_IndexAny_long (zero_of_info (by kernel_rfl : (Tryz.prog.info? 94).map (fun i => (i.zero, i.size)) = some (some (.agg (Array.replicate 256 (.bool false))), 256))).1 (bs l) ⟨#[34, 10]⟩ w (by decide) (by rw [bs_size]; exact h8) (by rw [bs_size]; omega) (by decide) ?_).mono ?_
    · intro j b hb
      rcases j with _ | _ | j
      · have : b = 34 := by simpa using hb.symm
        subst this; decide
      · have : b = 10 := by simpa using hb.symm
        subst this; decide
      · simp at hb
    · rintro e w' ⟨rfl, rfl⟩
      exact ⟨rfl, ((Below.refl _ _).alloc (Nat.le_refl _) _).alloc (by simp) _⟩
  · exact IndexAny_short (bs l) _ rfl w (by rw [bs_size]; omega)
end Go.Proofs.YtckocgkndbdhcaaGreatDoor
namespace Go.Cz.Lx
/-- Whether a text is one name and nothing else. -/
def identB (l : List UInt8) : Bool := (lexAll l).2.1 == 0 && (match (lexAll l).1 with | [t] => t.kind == 1 && t.text == l | _ => false)
def wordB (c : UInt8) : Bool := [3, 4, 5].contains (cls c)
/-- Whether a text is a name. -/
def nameB (l : List UInt8) : Bool := l.all wordB && (decide (0 < l.length) && (decide (l.length ≤ 24) && atL l 0 == 3))
theorem whileN_all : ∀ l : List UInt8, l.all wordB = decide (whileN [3, 4, 5] l = l.length)
  | [] => rfl
  | c :: r => by
    have ih := whileN_all r
    have hle := whileN_le [3, 4, 5] r
    rw [Bool.eq_iff_iff, decide_eq_true_eq, List.all_cons, ih, Bool.and_eq_true, decide_eq_true_eq]
    have hw : whileN [3, 4, 5] (c :: r) = if [3, 4, 5].contains (cls c) then whileN [3, 4, 5] r + 1 else 0 := rfl
    rw [hw, List.length_cons]
    unfold wordB
    by_cases h : [3, 4, 5].contains (cls c) = true
    · rw [if_pos h]
      constructor
      · rintro ⟨-, h2⟩; omega
      · intro h2; exact ⟨h, by omega⟩
    · rw [if_neg h]
      constructor
      · rintro ⟨h1, -⟩; exact absurd h1 h
      · intro h2; omega
theorem lexF_pre : ∀ (f : Nat) (l : List UInt8) (i : Nat) (acc ts : List Tok), lexF l f i acc = .ok ts → ∃ s, ts = acc ++ s
  | 0, l, i, acc, ts, h => by simp only [lexF] at h; injection h with h; exact ⟨[], by simp [h]⟩
  | f + 1, l, i, acc, ts, h => by
    simp only [lexF] at h
    split at h
    · rcases hn : nextL l i with e | ⟨t, k⟩
      · rw [hn] at h; cases h
      · rw [hn] at h
        simp only at h
        split at h
        · cases h
        · obtain ⟨s, hs⟩ := lexF_pre f l _ _ _ h
          exact ⟨t :: s, by rw [hs]; simp⟩
    · injection h with h; exact ⟨[], by simp [h]⟩
theorem next_name {l : List UInt8} {i k : Nat} {t : Tok} (h : nextL l i = .ok (t, k)) (hk : t.kind = 1) : atL l i = 3 ∧ whileN [3, 4, 5] (l.drop i) ≤ 24 ∧ t.text = (l.drop i).take (whileN [3, 4, 5] (l.drop i)) := by
  unfold nextL at h
  split at h
  · rename_i h0
    split at h
    · cases h
    · rename_i h1
      injection h with h; injection h with h2 h3; subst h2; exact ⟨h0, by omega, rfl⟩
  split at h
  · split at h
    · cases h
    · injection h with h; injection h with h2 h3; subst h2; cases hk
  split at h
  · split at h
    · cases h
    · split at h
      · cases h
      split at h
      · cases h
      · injection h with h; injection h with h2 h3; subst h2; cases hk
  split at h
  · injection h with h; injection h with h2 h3; subst h2; cases hk
  split at h
  · injection h with h; injection h with h2 h3; subst h2; cases hk
  · cases h
theorem identB_name (l : List UInt8) : identB l = nameB l := by
  rw [Bool.eq_iff_iff]
  constructor
  · intro h
    unfold identB lexAll at h
    by_cases hl : 20000 < l.length
    · rw [if_pos hl] at h; simp at h
    rw [if_neg hl] at h
    rcases hF : lexF l (l.length + 1) (gapE l 0) [] with ⟨e, i⟩ | ts
    · rw [hF] at h
      rw [Bool.and_eq_true] at h
      simp at h
    · rw [hF] at h
      simp only [beq_self_eq_true, Bool.true_and] at h
      rcases ts with _ | ⟨t, _ | ⟨t2, r⟩⟩
      · simp at h
      · simp only [Bool.and_eq_true, beq_iff_eq] at h
        obtain ⟨hk, ht⟩ := h
        simp only [lexF] at hF
        split at hF
        · rename_i hi
          rcases hn : nextL l (gapE l 0) with e | ⟨t0, k⟩
          · rw [hn] at hF; cases hF
          · rw [hn] at hF
            simp only [List.length_nil] at hF
            rw [if_neg (by decide)] at hF
            obtain ⟨s, hs⟩ := lexF_pre _ _ _ _ _ hF
            simp at hs
            obtain ⟨rfl, -⟩ := hs
            obtain ⟨h1, h2, h3⟩ := next_name hn hk
            have hlen := congrArg List.length (ht.symm.trans h3)
            rw [List.length_take, List.length_drop] at hlen
            have h0 : gapE l 0 = 0 := by omega
            rw [h0] at h1 h2 h3 hlen
            rw [List.drop_zero] at h2 hlen
            have hw := whileN_le [3, 4, 5] l
            have hwl : whileN [3, 4, 5] l = l.length := by omega
            unfold nameB
            rw [whileN_all, decide_eq_true hwl, decide_eq_true (by omega : 0 < l.length), decide_eq_true (by omega : l.length ≤ 24), h1]
            rfl
        · cases hF
      · simp at h
  · intro h
    unfold nameB at h
    simp only [Bool.and_eq_true, decide_eq_true_eq, beq_iff_eq] at h
    obtain ⟨h1, h2, h3, h4⟩ := h
    rw [whileN_all, decide_eq_true_eq] at h1
    have hg : gapE l 0 = 0 := by
      unfold gapE
      rw [List.drop_zero]
      rcases l with _ | ⟨c, r⟩
      · rfl
      · have hc : cls c = 3 := by simpa [atL] using h4
        simp [gapL, hc]
    have hn : nextL l 0 = .ok (⟨1, 0, 0, l⟩, l.length) := by
      unfold nextL
      rw [if_pos h4, List.drop_zero, h1, if_neg (by omega), List.take_length]
    have hge : gapE l (0 + l.length) = l.length := by
      unfold gapE
      rw [List.drop_of_length_le (by omega)]
      simp [gapL]
    have hF : lexF l (l.length + 1) (gapE l 0) [] = .ok [⟨1, 0, 0, l⟩] := by
      rw [hg]
      simp only [lexF]
      rw [if_pos h2, hn]
      simp only [List.length_nil]
      rw [if_neg (by decide), hge]
      rcases hll : l.length with _ | f
      · omega
      · simp only [lexF]
        rw [if_neg (by omega)]
        rfl
    unfold identB lexAll
    rw [if_neg (by omega), hF]
    simp
end Go.Cz.Lx
