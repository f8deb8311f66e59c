/-
  The plain law of two instants that follow each other.
-/
import Derived.Test.YtkcbdlnoobjmbaaDoorClLaws
namespace Go.Cz.Ck
theorem vgo_tail {i : Nat} {last : Int} {s : Shift} {r : List Shift} (h : vgo i last (s :: r) = true) : vgo (i + 1) s.1 r = true := by
  simp only [vgo, Bool.and_eq_true] at h
  exact h.2
theorem vgo_step : ∀ (l : List Shift) (i : Nat) (last : Int), vgo i last l = true → ∀ (j : Nat) (s s' : Shift), l[j]? = some s → l[j + 1]? = some s' → s.1 < s'.1
  | [], _, _, _, j, s, s', h1, _ => by simp at h1
  | a :: r, i, last, h, 0, s, s', h1, h2 => by
    simp at h1; subst h1
    have := vgo_all r _ _ (vgo_tail h) s' (List.mem_of_getElem? (by simpa using h2))
    exact this.2.2.2.2
  | a :: r, i, last, h, j + 1, s, s', h1, h2 => vgo_step r _ _ (vgo_tail h) j s s' (by simpa using h1) (by simpa using h2)
theorem offS_at {t : Int} : ∀ (l : List Shift) (i : Nat) (last : Int), vgo i last l = true → ∀ (j : Nat) (s : Shift), l[j]? = some s → s.1 ≤ t → t ≤ endAt l j → offS (spans l) t = s.2
  | [], _, _, _, j, s, h1, _, _ => by simp at h1
  | [a], _, _, h, 0, s, h1, h2, h3 => by
    simp at h1; subst h1
    have h4 : t ≤ 144001439 := h3
    simp [spans, offS, h4]
  | [a], _, _, h, j + 1, s, h1, _, _ => by simp at h1
  | a :: b :: r, i, last, h, 0, s, h1, h2, h3 => by
    simp at h1; subst h1
    have h4 : t ≤ b.1 - 1 := h3
    exact offS_here (p := (a, b.1 - 1)) h4
  | a :: b :: r, i, last, h, j + 1, s, h1, h2, h3 => by
    have h1' : (b :: r)[j]? = some s := by simpa using h1
    have hb : b.1 ≤ s.1 := by
      rcases List.mem_cons.1 (List.mem_of_getElem? h1') with rfl | hm
      · exact Int.le_refl _
      · have := vgo_all r _ _ (vgo_tail (vgo_tail h)) s hm
        omega
    have e : offS (spans (a :: b :: r)) t = offS (spans (b :: r)) t := offS_next (p := (a, b.1 - 1)) (by show b.1 - 1 < t; omega)
    rw [e]
    exact offS_at (b :: r) _ _ (vgo_tail h) j s h1' h2 h3
theorem offS_same {t : Int} (ht : t + 1 ≤ 144001439) : ∀ (l : List Shift), (∀ (j : Nat) (s : Shift), l[j + 1]? = some s → s.1 ≠ t + 1) → offS (spans l) (t + 1) = offS (spans l) t
  | [], _ => rfl
  | [a], _ => by
    have h2 : t ≤ 144001439 := by omega
    simp [spans, offS, ht, h2]
  | a :: b :: r, h => by
    have hb : b.1 ≠ t + 1 := h 0 b rfl
    by_cases h1 : t + 1 ≤ b.1 - 1
    · have e1 : offS (spans (a :: b :: r)) (t + 1) = a.2 := offS_here (p := (a, b.1 - 1)) h1
      have e2 : offS (spans (a :: b :: r)) t = a.2 := offS_here (p := (a, b.1 - 1)) (by show t ≤ b.1 - 1; omega)
      rw [e1, e2]
    · have e1 : offS (spans (a :: b :: r)) (t + 1) = offS (spans (b :: r)) (t + 1) := offS_next (p := (a, b.1 - 1)) (by show b.1 - 1 < t + 1; omega)
      have e2 : offS (spans (a :: b :: r)) t = offS (spans (b :: r)) t := offS_next (p := (a, b.1 - 1)) (by show b.1 - 1 < t; omega)
      rw [e1, e2]
      exact offS_same ht (b :: r) fun j s hj => h (j + 1) s (by simpa using hj)
theorem end_ge {l : List Shift} {i : Nat} {last : Int} (h : vgo i last l = true) {j : Nat} {s : Shift} (hj : l[j]? = some s) : s.1 ≤ endAt l j := by
  unfold endAt
  cases hs : l[j + 1]? with
  | none => exact (vgo_all l _ _ h s (List.mem_of_getElem? hj)).2.1
  | some s' => have := vgo_step l _ _ h j s s' hj hs; show s.1 ≤ s'.1 - 1; omega
theorem valid_vgo {l : List Shift} (h : validB l = true) : vgo 0 (-1) l = true := by
  simp only [validB, Bool.and_eq_true] at h
  exact h.1
/-- A shift behind the first begins behind the first instant. -/
theorem later_pos {l : List Shift} (h : validB l = true) {j : Nat} {s : Shift} (h0 : 0 < j) (hj : l[j]? = some s) : 0 < s.1 ∧ s.1 ≤ 144001439 := by
  obtain ⟨k, rfl⟩ : ∃ k, j = k + 1 := ⟨j - 1, by omega⟩
  have hl := (List.getElem?_eq_some_iff.1 hj).1
  have h1 := vgo_step l _ _ (valid_vgo h) k _ s (List.getElem?_eq_getElem (by omega)) hj
  have h2 := valid_all h _ (List.mem_of_getElem? hj)
  have h3 := valid_all h _ (List.getElem_mem (show k < l.length by omega))
  omega
theorem goes_law {l : List Shift} (h : validB l = true) {t : Int} (h1 : 0 ≤ t) (h2 : t + 1 ≤ 144001439) : ∃ a b c d D, localF l t = (a, b, 0) ∧ localF l (t + 1) = (c, d, 0) ∧ 0 ≤ b ∧ b < 1440 ∧ 0 ≤ d ∧ d < 1440 ∧ -1 ≤ a ∧ a ≤ 100001 ∧ -1 ≤ c ∧ c ≤ 100001 ∧ -1680 ≤ D ∧ D ≤ 1680 ∧ 1440 * c + d = 1440 * a + b + 1 + D ∧
    (∀ (j : Nat) (s s' : Shift), l[j]? = some s → l[j + 1]? = some s' → s'.1 = t + 1 → s'.2 - s.2 = D) ∧ ((∀ (j : Nat) (s : Shift), l[j + 1]? = some s → s.1 ≠ t + 1) → D = 0) := by
  have o1 := off_range h t
  have o2 := off_range h (t + 1)
  refine ⟨_, _, _, _, off l (t + 1) - off l t, local_law h h1 (by omega), local_law h (by omega) h2, by omega, by omega, by omega, by omega, by omega, by omega, by omega, by omega, by omega, by omega, by omega, ?_, ?_⟩
  · intro j s s' g1 g2 g3
    have e1 : off l (t + 1) = s'.2 := offS_at l _ _ (valid_vgo h) (j + 1) s' g2 (by omega) (by rw [← g3]; exact end_ge (valid_vgo h) g2)
    have e2 : off l t = s.2 := offS_at l _ _ (valid_vgo h) j s g1 (by have := vgo_step l _ _ (valid_vgo h) j s s' g1 g2; omega) (by unfold endAt; rw [g2]; show t ≤ s'.1 - 1; omega)
    rw [e1, e2]
  · intro hn
    have : off l (t + 1) = off l t := offS_same h2 l hn
    omega
end Go.Cz.Ck
