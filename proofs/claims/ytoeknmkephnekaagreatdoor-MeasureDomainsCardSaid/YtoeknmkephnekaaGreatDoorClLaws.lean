/-
  The plain laws of zones, local times and instants.
-/
import Derived.Test.YtoeknmkephnekaaGreatDoorClModel
namespace Go.Cz.Ck
/-- Spans that follow each other from an instant to the last one. -/
def Chain : Int → List (Shift × Int) → Prop
  | a, [] => a = 144001440
  | a, p :: r => p.1.1 = a ∧ a ≤ p.2 ∧ p.2 ≤ 144001439 ∧ -840 ≤ p.1.2 ∧ p.1.2 ≤ 840 ∧ Chain (p.2 + 1) r
theorem chain_of : ∀ (l : List Shift) (i : Nat) (last : Int) (s : Shift), vgo i last (s :: l) = true → Chain s.1 (spans (s :: l))
  | [], i, last, s, h => by
    have := vgo_all _ _ _ h s (by simp)
    simp [spans, Chain]
    omega
  | b :: r, i, last, s, h => by
    have h1 := vgo_all _ _ _ h s (by simp)
    have h2 : vgo (i + 1) s.1 (b :: r) = true := by
      simp only [vgo, Bool.and_eq_true] at h ⊢
      exact h.2
    have h3 := vgo_all _ _ _ h2 b (by simp)
    have h4 := chain_of r _ _ b h2
    refine ⟨rfl, ?_, ?_, h1.2.2.1, h1.2.2.2.1, ?_⟩
    · show s.1 ≤ b.1 - 1; omega
    · show b.1 - 1 ≤ 144001439; omega
    · have e : (b.1 - 1 + 1 : Int) = b.1 := by omega
      show Chain (b.1 - 1 + 1) _
      rw [e]; exact h4
theorem valid_chain {l : List Shift} (h : validB l = true) : Chain 0 (spans l) := by
  obtain ⟨h1, h2⟩ := valid_len h
  rcases l with _ | ⟨s, r⟩
  · simp at h1
  · simp only [validB, Bool.and_eq_true] at h
    have h3 := chain_of r 0 (-1) s h.1
    have h4 : s.1 = 0 := by
      have := h.1
      simp only [vgo, shiftOk, Bool.and_eq_true] at this
      simpa using this.1.1
    rwa [h4] at h3
/-- The offset at an instant, of a list of spans. -/
def offS (S : List (Shift × Int)) (t : Int) : Int := match S.find? (fun p => decide (t ≤ p.2)) with | some p => p.1.2 | none => 0
theorem offS_here {p : Shift × Int} {r : List (Shift × Int)} {t : Int} (h : t ≤ p.2) : offS (p :: r) t = p.1.2 := by simp [offS, h]
theorem offS_next {p : Shift × Int} {r : List (Shift × Int)} {t : Int} (h : p.2 < t) : offS (p :: r) t = offS r t := by
  have : ¬ t ≤ p.2 := by omega
  simp [offS, this]
theorem chain_le : ∀ (S : List (Shift × Int)) (a : Int), Chain a S → a ≤ 144001440
  | [], a, h => by have : a = 144001440 := h; omega
  | p :: r, a, h => by obtain ⟨h1, h2, h3, -⟩ := h; omega
theorem offS_range : ∀ (S : List (Shift × Int)) (a : Int), Chain a S → ∀ t, -840 ≤ offS S t ∧ offS S t ≤ 840
  | [], a, h, t => by simp [offS]
  | p :: r, a, h, t => by
    obtain ⟨h1, h2, h3, h4, h5, h6⟩ := h
    by_cases ht : t ≤ p.2
    · rw [offS_here ht]; exact ⟨h4, h5⟩
    · rw [offS_next (by omega)]; exact offS_range r _ h6 t
theorem chain_inst : ∀ (S : List (Shift × Int)) (a : Int), Chain a S → ∀ loc : Int,
    (∃ p, S.find? (hit loc) = some p ∧ a ≤ max p.1.1 (loc - p.1.2) ∧ max p.1.1 (loc - p.1.2) ≤ 144001439 ∧ loc ≤ max p.1.1 (loc - p.1.2) + offS S (max p.1.1 (loc - p.1.2)) ∧ ∀ t, a ≤ t → t < max p.1.1 (loc - p.1.2) → t + offS S t < loc) ∨
    (S.find? (hit loc) = none ∧ ∀ t, a ≤ t → t ≤ 144001439 → t + offS S t < loc)
  | [], a, h, loc => by
    refine .inr ⟨rfl, fun t h1 h2 => ?_⟩
    have : a = 144001440 := h
    omega
  | p :: r, a, h, loc => by
    obtain ⟨h1, h2, h3, h4, h5, h6⟩ := h
    by_cases hp : max p.1.1 (loc - p.1.2) ≤ p.2
    · refine .inl ⟨p, by simp [hit, hp], by omega, by omega, ?_, fun t g1 g2 => ?_⟩
      · rw [offS_here hp]; omega
      · rw [offS_here (by omega)]; omega
    · have hf : (p :: r).find? (hit loc) = r.find? (hit loc) := by simp [hit, hp]
      have hl : ∀ t, a ≤ t → t ≤ p.2 → t + offS (p :: r) t < loc := fun t g1 g2 => by rw [offS_here g2]; omega
      rw [hf]
      rcases chain_inst r _ h6 loc with ⟨q, e1, e2, e3, e4, e5⟩ | ⟨e1, e2⟩
      · refine .inl ⟨q, e1, by omega, e3, ?_, fun t g1 g2 => ?_⟩
        · rw [offS_next (by omega)]; exact e4
        · by_cases ht : t ≤ p.2
          · exact hl t g1 ht
          · rw [offS_next (by omega)]; exact e5 t (by omega) g2
      · refine .inr ⟨e1, fun t g1 g2 => ?_⟩
        by_cases ht : t ≤ p.2
        · exact hl t g1 ht
        · rw [offS_next (by omega)]; exact e2 t (by omega) g2
theorem off_range {l : List Shift} (h : validB l = true) (t : Int) : -840 ≤ off l t ∧ off l t ≤ 840 := offS_range _ _ (valid_chain h) t
/-- What Local answers. -/
theorem local_law {l : List Shift} (h : validB l = true) {t : Int} (h1 : 0 ≤ t) (h2 : t ≤ 144001439) : localF l t = ((t + off l t) / 1440, (t + off l t) % 1440, 0) := by
  unfold localF
  rw [h, instB_true.2 ⟨h1, h2⟩]
  rfl
/-- What Instant answers. -/
theorem inst_law {l : List Shift} (h : validB l = true) {d m : Int} (h1 : 0 ≤ m) (h2 : m < 1440) :
    ((instF l d m).2 = 0 ∧ 0 ≤ (instF l d m).1 ∧ (instF l d m).1 ≤ 144001439 ∧ d * 1440 + m ≤ (instF l d m).1 + off l (instF l d m).1 ∧ ∀ t, 0 ≤ t → t < (instF l d m).1 → t + off l t < d * 1440 + m) ∨
    ((instF l d m).2 = 10 ∧ (instF l d m).1 = 0 ∧ ∀ t, 0 ≤ t → t ≤ 144001439 → t + off l t < d * 1440 + m) := by
  have hu : instF l d m = ((if 100001 < d then (0, 10) else match (spans l).find? (hit (max d (-2) * 1440 + m)) with | some p => (max p.1.1 (max d (-2) * 1440 + m - p.1.2), 0) | none => (0, 10)) : Int × Int) := by
    unfold instF
    rw [h, if_pos (by simp; omega)]
    rfl
  rw [hu]
  by_cases hd : 100001 < d
  · rw [if_pos hd]
    refine .inr ⟨rfl, rfl, fun t g1 g2 => ?_⟩
    have := off_range h t
    omega
  · rw [if_neg hd]
    rcases chain_inst _ _ (valid_chain h) (max d (-2) * 1440 + m) with ⟨p, e1, e2, e3, e4, e5⟩ | ⟨e1, e2⟩
    · rw [e1]
      have e4' : max d (-2) * 1440 + m ≤ max p.1.1 (max d (-2) * 1440 + m - p.1.2) + off l (max p.1.1 (max d (-2) * 1440 + m - p.1.2)) := e4
      refine .inl ⟨rfl, e2, e3, ?_, fun t g1 g2 => ?_⟩
      · show d * 1440 + m ≤ max p.1.1 (max d (-2) * 1440 + m - p.1.2) + off l (max p.1.1 (max d (-2) * 1440 + m - p.1.2))
        omega
      · have h3 : t + off l t < max d (-2) * 1440 + m := e5 t g1 g2
        have h4 := off_range h t
        omega
    · rw [e1]
      refine .inr ⟨rfl, rfl, fun t g1 g2 => ?_⟩
      have h3 : t + off l t < max d (-2) * 1440 + m := e2 t g1 g2
      have h4 := off_range h t
      omega
/-- Offsets that never become less. -/
def Rising : List Shift → Prop
  | a :: b :: r => a.2 ≤ b.2 ∧ Rising (b :: r)
  | _ => True
theorem offS_rising : ∀ (l : List Shift) (i : Nat) (last : Int) (s : Shift), vgo i last (s :: l) = true → Rising (s :: l) → (∀ t, t ≤ 144001439 → s.2 ≤ offS (spans (s :: l)) t) ∧ ∀ t u, t ≤ u → u ≤ 144001439 → offS (spans (s :: l)) t ≤ offS (spans (s :: l)) u
  | [], i, last, s, h, hr => by
    refine ⟨fun t h1 => ?_, fun t u h1 h2 => ?_⟩
    · simp [offS, spans, h1]
    · have : t ≤ 144001439 := by omega
      simp [offS, spans, h2, this]
  | b :: r, i, last, s, h, hr => by
    have h2 : vgo (i + 1) s.1 (b :: r) = true := by
      simp only [vgo, Bool.and_eq_true] at h ⊢
      exact h.2
    obtain ⟨k1, k2⟩ := offS_rising r _ _ b h2 hr.2
    have hs : spans (s :: b :: r) = (s, b.1 - 1) :: spans (b :: r) := rfl
    have first : ∀ t, t ≤ 144001439 → s.2 ≤ offS (spans (s :: b :: r)) t := fun t ht => by
      rw [hs]
      by_cases hb : t ≤ b.1 - 1
      · rw [offS_here hb]; exact Int.le_refl _
      · rw [offS_next (by show b.1 - 1 < t; omega)]; have := k1 t ht; have := hr.1; omega
    refine ⟨first, fun t u h1 h3 => ?_⟩
    by_cases hb : t ≤ b.1 - 1
    · have := first u h3
      rw [hs, offS_here (p := (s, b.1 - 1)) hb, ← hs]; exact this
    · rw [hs, offS_next (p := (s, b.1 - 1)) (by show b.1 - 1 < t; omega), offS_next (p := (s, b.1 - 1)) (by show b.1 - 1 < u; omega)]; exact k2 t u h1 h3
theorem off_rising {l : List Shift} (h : validB l = true) (hr : Rising l) {t u : Int} (h1 : t ≤ u) (h2 : u ≤ 144001439) : off l t ≤ off l u := by
  rcases l with _ | ⟨s, r⟩
  · simp [validB] at h
  · simp only [validB, Bool.and_eq_true] at h
    exact (offS_rising r 0 (-1) s h.1 hr).2 t u h1 h2
/-- A zone whose offsets are all greater by k. -/
def east (k : Int) (l : List Shift) : List Shift := l.map fun s => (s.1, s.2 + k)
theorem spans_east (k : Int) : ∀ l : List Shift, spans (east k l) = (spans l).map fun p => ((p.1.1, p.1.2 + k), p.2)
  | [] => rfl
  | [_] => rfl
  | s :: b :: r => by
    have := spans_east k (b :: r)
    simp only [east, List.map_cons] at this ⊢
    simp [spans, this]
theorem offS_east (k : Int) : ∀ (S : List (Shift × Int)) (a t : Int), Chain a S → t ≤ 144001439 → a ≤ t → offS (S.map fun p => ((p.1.1, p.1.2 + k), p.2)) t = offS S t + k
  | [], a, t, h, h1, h2 => by have : a = 144001440 := h; omega
  | p :: r, a, t, h, h1, h2 => by
    obtain ⟨g1, g2, g3, g4, g5, g6⟩ := h
    rw [List.map_cons]
    by_cases ht : t ≤ p.2
    · rw [offS_here (by exact ht), offS_here ht]
    · rw [offS_next (by show p.2 < t; omega), offS_next (by omega)]
      exact offS_east k r _ t g6 h1 (by omega)
theorem off_east {l : List Shift} (h : validB l = true) {k t : Int} (h1 : 0 ≤ t) (h2 : t ≤ 144001439) : off (east k l) t = off l t + k := by
  show offS (spans (east k l)) t = offS (spans l) t + k
  rw [spans_east]
  exact offS_east k _ 0 t (valid_chain h) h2 h1
end Go.Cz.Ck
namespace Go.Cz.Ck
theorem rising_of : ∀ l : List Shift, (∀ (j : Nat) (a b : Shift), l[j]? = some a → l[j + 1]? = some b → a.2 ≤ b.2) → Rising l
  | [], _ => trivial
  | [_], _ => trivial
  | a :: b :: r, h => ⟨h 0 a b rfl rfl, rising_of (b :: r) fun j x y h1 h2 => h (j + 1) x y (by simpa using h1) (by simpa using h2)⟩
/-- Instant for the local time of an instant. -/
theorem back_law {l : List Shift} (h : validB l = true) {t : Int} (h1 : 0 ≤ t) (h2 : t ≤ 144001439) : ∃ a b u, localF l t = (a, b, 0) ∧ instF l a b = (u, 0) ∧ u ≤ t ∧ (Rising l → u = t) := by
  refine ⟨_, _, (instF l ((t + off l t) / 1440) ((t + off l t) % 1440)).1, local_law h h1 h2, ?_⟩
  have k1 := inst_law h (d := (t + off l t) / 1440) (m := (t + off l t) % 1440) (by omega) (by omega)
  rcases hI : instF l ((t + off l t) / 1440) ((t + off l t) % 1440) with ⟨u, e⟩
  rw [hI] at k1
  simp only at k1 ⊢
  have hd : (t + off l t) / 1440 * 1440 + (t + off l t) % 1440 = t + off l t := by omega
  rw [hd] at k1
  rcases k1 with ⟨rfl, g1, g2, g3, g4⟩ | ⟨rfl, g1, g4⟩
  · have hu : u ≤ t := by
      rcases Int.lt_or_le t u with hb | hb
      · have := g4 t h1 hb; omega
      · exact hb
    refine ⟨rfl, hu, fun hr => ?_⟩
    have := off_rising h hr hu h2
    omega
  · have := g4 t h1 h2
    omega
end Go.Cz.Ck
