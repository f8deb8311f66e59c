/-
  What the reference clock computes, in plain Lean, and that it is what the clock computes.
-/
import Derived.Test.YtkcbdlnoobjmbaaDoorClGoes
namespace Go.Cz.Ck
/-- The reference's offset: the last shift that has begun. -/
def roff (t : Int) : List Shift → Int → Int
  | [], o => o
  | s :: r, o => roff t r (if s.1 ≤ t then s.2 else o)
theorem roff_skip {t : Int} : ∀ (r : List Shift) (o : Int), (∀ s ∈ r, t < s.1) → roff t r o = o
  | [], _, _ => rfl
  | s :: r, o, h => by
    have h1 := h s (by simp)
    have h2 : ¬ s.1 ≤ t := by omega
    simp only [roff, if_neg h2]
    exact roff_skip r o fun s hs => h s (List.mem_cons_of_mem _ hs)
theorem roff_offS {t : Int} (ht : t ≤ 144001439) : ∀ (r : List Shift) (i : Nat) (last : Int) (s : Shift), vgo i last (s :: r) = true → s.1 ≤ t → roff t r s.2 = offS (spans (s :: r)) t
  | [], i, last, s, h, hs => by simp [roff, spans, offS, ht]
  | b :: r, i, last, s, h, hs => by
    have h2 := vgo_tail h
    by_cases hb : b.1 ≤ t
    · have e : offS (spans (s :: b :: r)) t = offS (spans (b :: r)) t := offS_next (p := (s, b.1 - 1)) (by show b.1 - 1 < t; omega)
      rw [e, ← roff_offS ht r _ _ b h2 hb]
      simp only [roff, if_pos hb]
    · have e : offS (spans (s :: b :: r)) t = s.2 := offS_here (p := (s, b.1 - 1)) (by show t ≤ b.1 - 1; omega)
      rw [e]
      refine roff_skip _ _ fun y hy => ?_
      rcases List.mem_cons.1 hy with rfl | hy
      · omega
      · have := vgo_all r _ _ (vgo_tail h2) y hy
        omega
/-- The two offsets are one. -/
theorem roff_off {l : List Shift} (h : validB l = true) {t : Int} (h1 : 0 ≤ t) (h2 : t ≤ 144001439) : roff t l 0 = off l t := by
  obtain ⟨n1, -⟩ := valid_len h
  have hv := valid_vgo h
  rcases l with _ | ⟨s, r⟩
  · simp at n1
  · have h0 : s.1 = 0 := by
      have := hv
      simp only [vgo, shiftOk, Bool.and_eq_true] at this
      simpa using this.1.1
    have := roff_offS h2 r _ _ s hv (by omega)
    show roff t r (if s.1 ≤ t then s.2 else 0) = _
    rw [if_pos (by omega)]
    exact this
end Go.Cz.Ck
