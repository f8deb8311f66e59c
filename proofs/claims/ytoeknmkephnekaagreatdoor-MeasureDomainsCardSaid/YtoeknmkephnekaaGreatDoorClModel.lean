/-
  What the clock's functions compute, in plain Lean: zones, local times, instants.
-/
import Derived.Test.YtoeknmkephnekaaGreatDoorBase
namespace Go.Cz.Ck
/-- A shift: from when on, and the offset. -/
abbrev Shift := Int × Int
def maxI : Int := 144001439
def instB (t : Int) : Bool := decide (0 ≤ t) && decide (t ≤ 144001439)
theorem instB_true {t : Int} : instB t = true ↔ 0 ≤ t ∧ t ≤ 144001439 := by simp [instB]
theorem instB_false {t : Int} : instB t = false ↔ t < 0 ∨ 144001439 < t := by
  cases h : instB t with
  | true => have := instB_true.1 h; simp; omega
  | false => simp; have : ¬ (0 ≤ t ∧ t ≤ 144001439) := fun h' => by rw [instB_true.2 h'] at h; cases h
             omega
def shiftOk (i : Nat) (last : Int) (s : Shift) : Bool :=
  (decide (0 < i) || s.1 == 0) && (decide (last < s.1) && (instB s.1 && (decide (-840 ≤ s.2) && decide (s.2 ≤ 840))))
def vgo (i : Nat) (last : Int) : List Shift → Bool
  | [] => true
  | s :: r => shiftOk i last s && vgo (i + 1) s.1 r
def validB (l : List Shift) : Bool := vgo 0 (-1) l && (decide (0 < l.length) && decide (l.length ≤ 20))
theorem vgo_drop {l : List Shift} {j : Nat} {s : Shift} (h : l[j]? = some s) (last : Int) : vgo j last (l.drop j) = (shiftOk j last s && vgo (j + 1) s.1 (l.drop (j + 1))) := by
  obtain ⟨hj, he⟩ := List.getElem?_eq_some_iff.1 h
  rw [List.drop_eq_getElem_cons hj, he]
  rfl
/-- The last instant that shift number j concerns. -/
def endAt (l : List Shift) (j : Nat) : Int := match l[j + 1]? with | some s => s.1 - 1 | none => 144001439
/-- The shifts with the last instants that they concern. -/
def spans : List Shift → List (Shift × Int)
  | [] => []
  | [s] => [(s, 144001439)]
  | s :: s' :: r => (s, s'.1 - 1) :: spans (s' :: r)
theorem length_spans : ∀ l : List Shift, (spans l).length = l.length
  | [] => rfl
  | [_] => rfl
  | _ :: s' :: r => by simp [spans, length_spans (s' :: r)]
theorem spans_get : ∀ (l : List Shift) (j : Nat) (s : Shift), l[j]? = some s → (spans l)[j]? = some (s, endAt l j)
  | [], j, s, h => by simp at h
  | [a], 0, s, h => by simp at h; subst h; rfl
  | [a], j + 1, s, h => by simp at h
  | a :: b :: r, 0, s, h => by simp at h; subst h; rfl
  | a :: b :: r, j + 1, s, h => by
    have := spans_get (b :: r) j s (by simpa using h)
    simpa [spans, endAt] using this
/-- The offset at an instant. -/
def off (l : List Shift) (t : Int) : Int := match (spans l).find? (fun p => decide (t ≤ p.2)) with | some p => p.1.2 | none => 0
def localF (l : List Shift) (t : Int) : Int × Int × Int := if validB l && instB t then ((t + off l t) / 1440, (t + off l t) % 1440, 0) else (0, 0, 1)
def hit (loc : Int) (p : Shift × Int) : Bool := decide (max p.1.1 (loc - p.1.2) ≤ p.2)
def instF (l : List Shift) (day minute : Int) : Int × Int :=
  if validB l && (decide (0 ≤ minute) && decide (minute < 1440)) then
    if 100001 < day then (0, 10) else
    match (spans l).find? (hit (max day (-2) * 1440 + minute)) with
    | some p => (max p.1.1 (max day (-2) * 1440 + minute - p.1.2), 0)
    | none => (0, 10)
  else (0, 1)
/-- What a valid zone's shifts are. -/
theorem vgo_all : ∀ (l : List Shift) (i : Nat) (last : Int), vgo i last l = true → ∀ s ∈ l, 0 ≤ s.1 ∧ s.1 ≤ 144001439 ∧ -840 ≤ s.2 ∧ s.2 ≤ 840 ∧ last < s.1
  | [], _, _, _, s, hs => by simp at hs
  | a :: r, i, last, h, s, hs => by
    simp only [vgo, shiftOk, Bool.and_eq_true, decide_eq_true_eq, instB_true] at h
    rcases List.mem_cons.1 hs with rfl | hs
    · omega
    · have := vgo_all r _ _ h.2 s hs
      omega
theorem valid_all {l : List Shift} (h : validB l = true) : ∀ s ∈ l, 0 ≤ s.1 ∧ s.1 ≤ 144001439 ∧ -840 ≤ s.2 ∧ s.2 ≤ 840 := fun s hs => by
  simp only [validB, Bool.and_eq_true] at h
  have := vgo_all l 0 (-1) h.1 s hs
  omega
theorem valid_len {l : List Shift} (h : validB l = true) : 0 < l.length ∧ l.length ≤ 20 := by
  simp only [validB, Bool.and_eq_true, decide_eq_true_eq] at h
  exact h.2
end Go.Cz.Ck
namespace Go.Cz.Ck
theorem spans_fst : ∀ (l : List Shift) (p : Shift × Int), p ∈ spans l → p.1 ∈ l
  | [], p, h => by simp [spans] at h
  | [a], p, h => by simp [spans] at h; subst h; simp
  | a :: b :: r, p, h => by
    rcases List.mem_cons.1 (show p ∈ (a, b.1 - 1) :: spans (b :: r) from h) with rfl | h
    · simp
    · exact List.mem_cons_of_mem _ (spans_fst (b :: r) p h)
theorem spans_last : ∀ (l : List Shift), l ≠ [] → ∃ p ∈ spans l, p.2 = 144001439
  | [], h => absurd rfl h
  | [a], _ => ⟨(a, 144001439), by simp [spans], rfl⟩
  | a :: b :: r, _ => by
    obtain ⟨p, h1, h2⟩ := spans_last (b :: r) (by simp)
    exact ⟨p, List.mem_cons_of_mem _ h1, h2⟩
/-- The first one in a list that fits. -/
theorem find_prefix {α : Type} {f : α → Bool} {ini : List α} {x : α} {l : List α} (h : (ini ++ [x]) <+: l) (hi : ∀ y ∈ ini, f y = false) (hx : f x = true) : l.find? f = some x := by
  obtain ⟨r, rfl⟩ := h
  rw [List.append_assoc, List.find?_append, List.find?_eq_none.2 (fun y hy => by simp [hi y hy])]
  simp [hx]
theorem find_none {α : Type} {f : α → Bool} {l : List α} (hi : ∀ y ∈ l, f y = false) : l.find? f = none := List.find?_eq_none.2 fun y hy => by simp [hi y hy]
theorem prefix_mem {α : Type} {ini : List α} {x : α} {l : List α} (h : (ini ++ [x]) <+: l) : x ∈ l := h.subset (by simp)
theorem off_hit {l : List Shift} {t : Int} {ini : List (Shift × Int)} {p : Shift × Int} (h : (ini ++ [p]) <+: spans l) (hi : ∀ y ∈ ini, y.2 < t) (hp : t ≤ p.2) : off l t = p.1.2 := by
  have e : (spans l).find? (fun p => decide (t ≤ p.2)) = some p := find_prefix h (fun y hy => decide_eq_false (by have := hi y hy; omega)) (decide_eq_true hp)
  unfold off
  rw [e]
end Go.Cz.Ck
namespace Go.Cz.Ck
theorem tdiv_small {o : Int} (h1 : -1440 < o) (h2 : o < 0) : o.tdiv 1440 = 0 ∧ o.tmod 1440 = o := by
  have e1 : o.tdiv 1440 = 0 := by
    have h3 : (-o).tdiv 1440 = 0 := by rw [Int.tdiv_eq_ediv_of_nonneg (by omega)]; omega
    rw [Int.neg_tdiv] at h3
    omega
  refine ⟨e1, ?_⟩
  have := Int.mul_tdiv_add_tmod o 1440
  rw [e1] at this
  omega
end Go.Cz.Ck
