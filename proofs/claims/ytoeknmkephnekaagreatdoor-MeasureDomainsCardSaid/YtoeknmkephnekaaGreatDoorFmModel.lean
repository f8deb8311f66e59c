/-
  Formulas, facts and cases, in plain Lean.
-/
import Derived.Test.YtoeknmkephnekaaGreatDoorLxA
namespace Go.Cz.Fo
set_option linter.unusedVariables false
open Go.Cz.Lx
abbrev Bytes := List UInt8
/-- A formula: operator, fact, comparison, number, kids. -/
inductive Fm where
  | mk (op : Int) (name : Bytes) (cmp num : Int) (kids : List Fm)
namespace Fm
def op : Fm → Int | .mk a _ _ _ _ => a
def name : Fm → Bytes | .mk _ a _ _ _ => a
def cmp : Fm → Int | .mk _ _ a _ _ => a
def num : Fm → Int | .mk _ _ _ a _ => a
def kids : Fm → List Fm | .mk _ _ _ _ a => a
mutual
theorem ind {P : Fm → Prop} (h : ∀ op name cmp num (ks : List Fm), (∀ k ∈ ks, P k) → P (.mk op name cmp num ks)) : ∀ f, P f
  | .mk op name cmp num ks => h op name cmp num ks (inds h ks)
theorem inds {P : Fm → Prop} (h : ∀ op name cmp num (ks : List Fm), (∀ k ∈ ks, P k) → P (.mk op name cmp num ks)) : ∀ ks : List Fm, ∀ k ∈ ks, P k
  | [] => fun k hk => by cases hk
  | a :: r => fun k hk => (List.mem_cons.1 hk).elim (fun e => e ▸ ind h a) (inds h r k)
end
theorem induct {P : Fm → Prop} (h : ∀ f : Fm, (∀ k ∈ f.kids, P k) → P f) : ∀ f, P f := ind fun a b c d ks => h (.mk a b c d ks)
end Fm
mutual
/-- How many nodes. -/
def size : Fm → Nat | .mk _ _ _ _ ks => sizes ks + 1
def sizes : List Fm → Nat | [] => 0 | k :: r => size k + sizes r
end
mutual
/-- How deep. -/
def depth : Fm → Nat | .mk _ _ _ _ ks => depths ks + 1
def depths : List Fm → Nat | [] => 0 | k :: r => max (depth k) (depths r)
end
theorem size_kids : ∀ f : Fm, size f = sizes f.kids + 1 | .mk _ _ _ _ ks => by rw [size]; rfl
theorem depth_kids : ∀ f : Fm, depth f = depths f.kids + 1 | .mk _ _ _ _ ks => by rw [depth]; rfl
theorem size_pos : ∀ f, 1 ≤ size f | .mk _ _ _ _ ks => by rw [size]; omega
theorem depth_pos : ∀ f, 1 ≤ depth f | .mk _ _ _ _ ks => by rw [depth]; omega
theorem size_mem {k : Fm} : ∀ {ks : List Fm}, k ∈ ks → size k ≤ sizes ks
  | a :: r, h => by
    rw [sizes]
    rcases List.mem_cons.1 h with rfl | h
    · omega
    · have := size_mem h; omega
theorem depth_mem {k : Fm} : ∀ {ks : List Fm}, k ∈ ks → depth k ≤ depths ks
  | a :: r, h => by
    rw [depths]
    rcases List.mem_cons.1 h with rfl | h
    · omega
    · have := depth_mem h; omega
mutual
theorem depth_size : ∀ f, depth f ≤ size f | .mk _ _ _ _ ks => by rw [depth, size]; have := depths_sizes ks; omega
theorem depths_sizes : ∀ ks, depths ks ≤ sizes ks | [] => Nat.le_refl _ | k :: r => by rw [depths, sizes]; have := depth_size k; have := depths_sizes r; omega
end
theorem length_sizes : ∀ ks : List Fm, ks.length ≤ sizes ks | [] => Nat.le_refl _ | k :: r => by rw [sizes, List.length_cons]; have := size_pos k; have := length_sizes r; omega
mutual
/-- All names are short. -/
def short (n : Nat) : Fm → Bool | .mk _ s _ _ ks => shorts n ks && decide (s.length ≤ n)
def shorts (n : Nat) : List Fm → Bool | [] => true | k :: r => short n k && shorts n r
end
theorem short_mem {n : Nat} {k : Fm} : ∀ {ks : List Fm}, shorts n ks = true → k ∈ ks → short n k = true
  | a :: r, h, hk => by
    rw [shorts, Bool.and_eq_true] at h
    rcases List.mem_cons.1 hk with rfl | hk
    · exact h.1
    · exact short_mem h.2 hk
def wOr : Bytes := [111, 114]
def wAnd : Bytes := [97, 110, 100]
def wNot : Bytes := [110, 111, 116]
def wTrue : Bytes := [116, 114, 117, 101]
def wFalse : Bytes := [102, 97, 108, 115, 101]
/-- A key word. -/
def keyB (s : Bytes) : Bool := s == wOr || (s == wAnd || (s == wNot || (s == wTrue || s == wFalse)))
/-- A node is well-formed. -/
def formedB (f : Fm) : Bool :=
  if f.op = 3 then decide (f.kids.length = 0) && (decide (1 ≤ f.cmp) && (decide (f.cmp ≤ 6) && (nameB f.name && !keyB f.name)))
  else if f.name ≠ [] ∨ f.cmp ≠ 0 ∨ f.num ≠ 0 then false
  else if f.op = 1 ∨ f.op = 2 then decide (f.kids.length = 0)
  else if f.op = 4 then decide (f.kids.length = 1)
  else decide ((f.op = 5 ∨ f.op = 6) ∧ 2 ≤ f.kids.length)
def largeB (f : Fm) : Bool := decide (200 < size f) || decide (20 < depth f)
mutual
/-- The first error of the nodes. -/
def firstF (look : Fm → Nat) : Fm → Nat | .mk a b c d ks => if look (.mk a b c d ks) ≠ 0 then look (.mk a b c d ks) else firsts look ks
def firsts (look : Fm → Nat) : List Fm → Nat | [] => 0 | k :: r => if firstF look k ≠ 0 then firstF look k else firsts look r
end
/-- A fact: name, kind, least and greatest value. -/
structure Fact where
  name : Bytes
  kind : Int
  lo : Int
  hi : Int
/-- The index of a fact, or -1. -/
def idxD (s : Bytes) : List Fact → Int
  | [] => -1
  | f :: r => if f.name = s then 0 else if idxD s r < 0 then -1 else idxD s r + 1
def factB (f : Fact) : Bool := decide (f.kind = 1 ∧ f.lo = 0 ∧ f.hi = 1) || decide (f.kind = 2 ∧ 0 ≤ f.lo ∧ f.lo ≤ f.hi ∧ f.hi ≤ 1000000)
def validL : List Bytes → List Fact → Bool
  | _, [] => true
  | seen, f :: r => factB f && (nameB f.name && (!seen.contains f.name && validL (f.name :: seen) r))
/-- A domain is valid. -/
def validD (d : List Fact) : Bool := validL [] d && decide (d.length ≤ 60)
def within : List Fact → List Int → Bool
  | f :: r, x :: c => decide (f.lo ≤ x) && (decide (x ≤ f.hi) && within r c)
  | _, _ => true
/-- A case has values of all facts. -/
def fitsB (d : List Fact) (c : List Int) : Bool := validD d && (decide (c.length = d.length) && within d c)
/-- What is wrong with a node. -/
def nodeE (d : List Fact) (f : Fm) : Nat :=
  if formedB f = false then 1 else if f.op ≠ 3 then 0 else if f.num < 0 ∨ 1000000 < f.num then 10 else if idxD f.name d < 0 then 7 else 0
def checkF (d : List Fact) (f : Fm) : Nat := if largeB f = true then 2 else firstF (nodeE d) f
def cmpB (x m n : Int) : Bool :=
  if m = 1 then x == n else if m = 2 then x != n else if m = 3 then decide (x < n) else if m = 4 then decide (x ≤ n) else if m = 5 then decide (n < x) else decide (n ≤ x)
mutual
/-- A formula holds. -/
def valueF (d : List Fact) (c : List Int) : Fm → Bool
  | .mk op name m n ks =>
    if op = 3 then cmpB (c.getD (idxD name d).toNat 0) m n
    else if op = 4 then !valueAll d c ks
    else if op = 5 then valueAll d c ks
    else if op = 6 then valueAny d c ks
    else decide (op = 1)
def valueAll (d : List Fact) (c : List Int) : List Fm → Bool | [] => true | k :: r => valueF d c k && valueAll d c r
def valueAny (d : List Fact) (c : List Int) : List Fm → Bool | [] => false | k :: r => valueF d c k || valueAny d c r
end
def holdsF (d : List Fact) (c : List Int) (f : Fm) : Bool := fitsB d c && (decide (checkF d f = 0) && valueF d c f)
mutual
/-- Two formulas are equal. -/
def sameF : Fm → Fm → Bool | .mk a b c d ks, .mk a' b' c' d' ks' => decide (a = a') && (decide (b = b') && (decide (c = c') && (decide (d = d') && sames ks ks')))
def sames : List Fm → List Fm → Bool | [], [] => true | k :: r, k' :: r' => sameF k k' && sames r r' | _, _ => false
end
mutual
theorem sameF_iff : ∀ {f g : Fm}, sameF f g = true ↔ f = g
  | .mk a b c d ks, .mk a' b' c' d' ks' => by
    rw [sameF, Bool.and_eq_true, Bool.and_eq_true, Bool.and_eq_true, Bool.and_eq_true, decide_eq_true_eq, decide_eq_true_eq, decide_eq_true_eq, decide_eq_true_eq, sames_iff, Fm.mk.injEq]
theorem sames_iff : ∀ {l m : List Fm}, sames l m = true ↔ l = m
  | [], [] => by simp [sames]
  | k :: r, k' :: r' => by rw [sames, Bool.and_eq_true, sameF_iff, sames_iff, List.cons.injEq]
  | [], _ :: _ => by simp [sames]
  | _ :: _, [] => by simp [sames]
end
/-- Texts with something between them. -/
def joinB (sep : Bytes) : List Bytes → Bytes | [] => [] | [a] => a | a :: b :: r => a ++ (sep ++ joinB sep (b :: r))
def symB (m : Int) : Bytes := if m = 1 then [61] else if m = 2 then [33, 61] else if m = 3 then [60] else if m = 4 then [60, 61] else if m = 5 then [62] else if m = 6 then [62, 61] else []
/-- Whether a kid is written in parentheses. -/
def parB (op kop : Int) : Bool := decide (kop = 6) || (decide (kop = 5) && decide (op ≠ 6))
def parT (b : Bool) (s : Bytes) : Bytes := if b = true then [40] ++ (s ++ [41]) else s
mutual
/-- The text of a formula that can be written. -/
def textF (dec : Int → Bytes) : Fm → Bytes
  | .mk op name m n ks =>
    if op = 1 then wTrue else if op = 2 then wFalse
    else if op = 3 then name ++ ([32] ++ (symB m ++ ([32] ++ dec n)))
    else if op = 4 then [110, 111, 116, 32] ++ joinB [] ((textKids dec op ks).take 1)
    else if op = 5 then joinB [32, 97, 110, 100, 32] (textKids dec op ks)
    else joinB [32, 111, 114, 32] (textKids dec op ks)
def textKids (dec : Int → Bytes) (op : Int) : List Fm → List Bytes | [] => [] | k :: r => parT (parB op k.op) (textF dec k) :: textKids dec op r
end
/-- What stops a node from being written. -/
def badE (f : Fm) : Nat := if formedB f = false ∨ (f.op = 3 ∧ (f.num < 0 ∨ 1000000 < f.num)) then 1 else 0
def textE (f : Fm) : Nat := if largeB f = true ∨ firstF badE f ≠ 0 then 1 else 0
def zeroF : Fm := .mk 0 [] 0 0 []
/-- The index of a symbol of comparisons; 0 if there is none. -/
def symI (s : Bytes) : Nat := if s = [61] then 1 else if s = [33, 61] then 2 else if s = [60] then 3 else if s = [60, 61] then 4 else if s = [62] then 5 else if s = [62, 61] then 6 else 0
/-- An error at an offset, or a formula and the tokens behind it. -/
abbrev Res := Except (Nat × Int) (Fm × List Tok)
/-- A list's further parts: a word, a part, and so on. -/
def moreF (word : Bytes) (part : List Tok → Res) : Nat → List Tok → Except (Nat × Int) (List Fm × List Tok)
  | 0, ts => .ok ([], ts)
  | n + 1, ts => match ts with
    | [] => .ok ([], [])
    | t :: r => if t.kind = 1 ∧ t.text = word then
        match part r with
        | .error e => .error e
        | .ok (k, r2) => match moreF word part n r2 with
          | .error e => .error e
          | .ok (ks, r3) => .ok (k :: ks, r3)
      else .ok ([], t :: r)
def partsF (op : Int) (word : Bytes) (part : List Tok → Res) (ts : List Tok) : Res :=
  match part ts with
  | .error e => .error e
  | .ok (k, r) => match moreF word part (r.length + 1) r with
    | .error e => .error e
    | .ok (ks, r2) => .ok (if ks.isEmpty then k else .mk op [] 0 0 (k :: ks), r2)
/-- A comparison of a fact. -/
def testF (fin : Int) (name : Bytes) : List Tok → Res
  | [] => .error (6, fin)
  | c :: r => if c.kind ≠ 4 ∨ symI c.text = 0 then .error (5, c.pos) else
    match r with
    | [] => .error (6, fin)
    | m :: r2 => if m.kind ≠ 2 then .error (5, m.pos) else if 1000000 < m.num then .error (10, m.pos) else .ok (.mk 3 name (symI c.text) m.num [], r2)
def oneF (fin : Int) : Nat → List Tok → Res
  | 0, _ => .error (6, fin)
  | _ + 1, [] => .error (6, fin)
  | n + 1, t :: r =>
    if t.kind = 1 ∧ t.text = wNot then
      match oneF fin n r with
      | .error e => .error e
      | .ok (f, r2) => .ok (.mk 4 [] 0 0 [f], r2)
    else if t.kind = 1 ∧ t.text = wTrue then .ok (.mk 1 [] 0 0 [], r)
    else if t.kind = 1 ∧ t.text = wFalse then .ok (.mk 2 [] 0 0 [], r)
    else if t.kind = 4 ∧ t.text = [40] then
      match partsF 6 wOr (partsF 5 wAnd (oneF fin n)) r with
      | .error e => .error e
      | .ok (f, []) => .error (6, fin)
      | .ok (f, u :: r2) => if u.kind = 4 ∧ u.text = [41] then .ok (f, r2) else .error (5, u.pos)
    else if t.kind ≠ 1 ∨ t.text = [] ∨ keyB t.text = true then .error (5, t.pos)
    else testF fin t.text r
def allF (fin : Int) (n : Nat) (ts : List Tok) : Res := partsF 5 wAnd (oneF fin n) ts
def eitherF (fin : Int) (n : Nat) (ts : List Tok) : Res := partsF 6 wOr (partsF 5 wAnd (oneF fin n)) ts
/-- What 'Parse' answers. -/
def parseF (l : Bytes) : Fm × Nat × Int :=
  if (lexAll l).2.1 ≠ 0 then (zeroF, (lexAll l).2.1, (lexAll l).2.2)
  else match eitherF l.length ((lexAll l).1.length + 1) (lexAll l).1 with
    | .error e => (zeroF, e.1, e.2)
    | .ok (f, t :: r) => (zeroF, 5, t.pos)
    | .ok (f, []) => if largeB f = true then (zeroF, 2, -1) else (f, 0, 0)
end Go.Cz.Fo
