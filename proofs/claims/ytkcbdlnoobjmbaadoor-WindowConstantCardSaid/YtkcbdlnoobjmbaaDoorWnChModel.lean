/-
  What 'Changes' computes, in plain Lean; measures, texts and zones in rows.
-/
import Derived.Test.YtkcbdlnoobjmbaaDoorWnBegins
import Derived.Test.YtkcbdlnoobjmbaaDoorWnIdent
import Derived.Test.YtkcbdlnoobjmbaaDoorWnSpan
import Derived.Lib.SlicesS
namespace Go.Cz.Wn
open Go.Cz.Ck Go.Cz.Lx
/-- The days of a measure. -/
def daysF (m : Ms) : List Int := [m.fr, m.fr + m.wi] ++ if 0 ≤ m.un then [m.un] else []
def authsOk (au : List ByteArray) (zs : List (List Shift)) (i : Nat) : Bool :=
  identB (au.getD i ByteArray.empty).data.toList && (validB (zs.getD i []) && !Lib.containsS (au.take i) (au.getD i ByteArray.empty))
def chg (au : List ByteArray) (zs : List (List Shift)) : List Ms → List Int → List Int × Int
  | [], xs => (xs, 0)
  | m :: r, xs => if Lib.idxOfS au m.auth < 0 then chg au zs r xs else
    if datedB m.kind m.fr m.un m.wi then chg au zs r (beginsF (zs.getD (Lib.idxOfS au m.auth).toNat []) (daysF m) xs) else ([], 1)
def changesF (ms : List Ms) (au : List ByteArray) (zs : List (List Shift)) : List Int × Int :=
  if 200 < ms.length ∨ 6 < au.length then ([], 2)
  else if au.length ≠ zs.length then ([], 1)
  else if (List.range au.length).all (authsOk au zs) then chg au zs ms [0] else ([], 1)
theorem changes_bad {ms : List Ms} {au : List ByteArray} {zs : List (List Shift)} {i : Nat} (h1 : ms.length ≤ 200) (h2 : au.length ≤ 6) (h3 : au.length = zs.length) (hi : i < au.length) (hb : authsOk au zs i = false) : changesF ms au zs = ([], 1) := by
  unfold changesF
  rw [if_neg (by omega), if_neg (by omega), if_neg]
  simp only [List.all_eq_true, List.mem_range]
  intro h
  rw [h i hi] at hb
  cases hb
theorem changes_good {ms : List Ms} {au : List ByteArray} {zs : List (List Shift)} (h1 : ms.length ≤ 200) (h2 : au.length ≤ 6) (h3 : au.length = zs.length) (hg : ∀ i < au.length, authsOk au zs i = true) : changesF ms au zs = chg au zs ms [0] := by
  unfold changesF
  rw [if_neg (by omega), if_neg (by omega), if_pos]
  simp only [List.all_eq_true, List.mem_range]
  exact hg
theorem idxFromS_lt (x : ByteArray) : ∀ (au : List ByteArray) (i : Nat), Lib.idxFromS au x i = -1 ∨ ((i : Int) ≤ Lib.idxFromS au x i ∧ Lib.idxFromS au x i < ((i + au.length : Nat) : Int))
  | [], i => .inl rfl
  | a :: r, i => by
    unfold Lib.idxFromS
    split
    · right
      simp only [List.length_cons]
      omega
    · rcases idxFromS_lt x r (i + 1) with h | ⟨h1, h2⟩
      · exact .inl h
      · right
        simp only [List.length_cons]
        omega
theorem idxOfS_lt (au : List ByteArray) (x : ByteArray) : -1 ≤ Lib.idxOfS au x ∧ Lib.idxOfS au x < au.length := by
  have := idxFromS_lt x au 0
  unfold Lib.idxOfS
  omega
end Go.Cz.Wn
namespace Go.Proofs.YtkcbdlnoobjmbaaDoor
open Go.RowKit Go.Cz Go.Cz.Ck Go.Cz.Wn
set_option linter.unusedSimpArgs false
set_option linter.unusedVariables false
/-- Texts in a row. -/
def IsStrs (w : World) (x : Option Addr) (n : Nat) (au : List ByteArray) : Prop := au.length = n ∧ (n = 0 ∨ ∃ g off, x = some ⟨g, off, none⟩ ∧ g < w.heap.size ∧ ∀ j, j < au.length → w.cell? ⟨g, off + j, none⟩ = some (.string (au.getD j ByteArray.empty)))
theorem IsStrs.below {w w' : World} {x : Option Addr} {n : Nat} {au : List ByteArray} (h : IsStrs w x n au) (hb : Below w.heap.size w w') : IsStrs w' x n au := by
  obtain ⟨h1, h2⟩ := h
  refine ⟨h1, ?_⟩
  rcases h2 with h2 | ⟨g, off, h3, h4, h5⟩
  · exact .inl h2
  · exact .inr ⟨g, off, h3, Nat.lt_of_lt_of_le h4 hb.size, fun j hj => (hb.cell (p := ⟨g, off + j, none⟩) h4).trans (h5 j hj)⟩
/-- A zone in a row: its slice, its shifts. -/
structure Zn where
  x : Option Addr
  n : Nat
  c : Nat
  l : List Shift
def IsZones (w : World) (x : Option Addr) (n : Nat) (zs : List Zn) : Prop := zs.length = n ∧ (n = 0 ∨ ∃ g off, x = some ⟨g, off, none⟩ ∧ g < w.heap.size ∧ ∀ (j : Nat) (z : Zn), zs[j]? = some z → w.cell? ⟨g, off + j, none⟩ = some (.slice z.x z.n z.c) ∧ IsShifts w z.x z.n z.l)
theorem IsZones.below {w w' : World} {x : Option Addr} {n : Nat} {zs : List Zn} (h : IsZones w x n zs) (hb : Below w.heap.size w w') : IsZones w' x n zs := by
  obtain ⟨h1, h2⟩ := h
  refine ⟨h1, ?_⟩
  rcases h2 with h2 | ⟨g, off, h3, h4, h5⟩
  · exact .inl h2
  · exact .inr ⟨g, off, h3, Nat.lt_of_lt_of_le h4 hb.size, fun j z hz => ⟨(hb.cell (p := ⟨g, off + j, none⟩) h4).trans (h5 j z hz).1, (h5 j z hz).2.below hb⟩⟩
/-- Measures in a row. -/
def IsMs (w : World) (x : Option Addr) (n : Nat) (ms : List Ms) : Prop := ms.length = n ∧ (n = 0 ∨ ∃ g off, x = some ⟨g, off, none⟩ ∧ g < w.heap.size ∧ ∀ (j : Nat) (m : Ms), ms[j]? = some m → ∀ (k : Nat) (u : Value), m.v[k]? = some u → w.cell? ⟨g, off + j * 12 + k, none⟩ = some u)
theorem IsMs.below {w w' : World} {x : Option Addr} {n : Nat} {ms : List Ms} (h : IsMs w x n ms) (hb : Below w.heap.size w w') : IsMs w' x n ms := by
  obtain ⟨h1, h2⟩ := h
  refine ⟨h1, ?_⟩
  rcases h2 with h2 | ⟨g, off, h3, h4, h5⟩
  · exact .inl h2
  · exact .inr ⟨g, off, h3, Nat.lt_of_lt_of_le h4 hb.size, fun j m hm k u hu => (hb.cell (p := ⟨g, off + j * 12 + k, none⟩) h4).trans (h5 j m hm k u hu)⟩
/-- Integers in a row. -/
def IsInts (W : World) (v : Value) (xs : List Int) : Prop := (v = .slice none 0 0 ∧ xs = []) ∨ ∃ g c, v = .slice (some ⟨g, 0, none⟩) xs.length c ∧ g < W.heap.size ∧ ∀ (j : Nat) (x : Int), xs[j]? = some x → W.cell? ⟨g, j, none⟩ = some (.int .i64 x)
theorem ints_of_SL {V W : World} {bo : Nat} {v : Value} {xs : List Int} (h : SL V W bo v xs) : IsInts W v xs := by
  rcases h with h | ⟨g, c, cur, h1, h2, h3, h4, h5, h6, h7, h8, h9⟩
  · exact .inl h
  · exact .inr ⟨g, c, h1, h4.lt, fun j x hx => by rw [h4.cell]; exact h9 j x hx⟩
def ChPost (w : World) (r : List Int × Int) (e : Ending) (w' : World) : Prop := ∃ v, e = .returned (.tuple #[v, .int .i64 r.2]) ∧ IsInts w' v r.1 ∧ Below w.heap.size w w'
end Go.Proofs.YtkcbdlnoobjmbaaDoor
