/-
  What the disk's laws compare, in plain Lean: no program in sight.
-/
import Derived.Test.YtdfjcidiolbbhaaLwModel
namespace Go.Cz.Dk

/-- On, and not armed. -/
def Calm (m : Dm) : Prop := m.off = false ∧ m.al = none
theorem calm_start (m : Dm) : Calm (start m) := ⟨rfl, rfl⟩
theorem write_calm {m : Dm} (h : Calm m) (s : Int) (t : Bytes) : write m s t = if valid m s && t.length == 64 then ({ m with q := m.q ++ [(s.toNat, t)] }, 0) else (m, 1) := by
  obtain ⟨h1, h2⟩ := h
  simp [write, h1, count, h2]
theorem calm_write {m : Dm} (h : Calm m) (s : Int) (t : Bytes) : Calm (write m s t).1 := by
  rw [write_calm h]
  split <;> exact h
theorem sync_calm {m : Dm} (h : Calm m) : sync m = ({ m with st := settle m.st m.q, q := [] }, 0) := by
  obtain ⟨h1, h2⟩ := h
  simp [sync, h1, count, h2]
theorem calm_sync {m : Dm} (h : Calm m) : Calm (sync m).1 := by
  rw [sync_calm h]
  exact h
theorem st_write {m : Dm} (h : Calm m) (s : Int) (t : Bytes) : (write m s t).1.st = m.st := by
  rw [write_calm h]
  split <;> rfl
theorem clamp_zero (n : Nat) : clamp 0 n = 0 := by unfold clamp; omega
theorem fail_zero {m : Dm} (h : m.off = false) : (fail m 0 0).st = m.st := by
  simp only [fail, h, clamp_zero]
  cases hq : m.q[0]? <;> simp [settle, setS]
  exact List.modify_id _ _
theorem conts_none {m : Dm} (h : m.q = []) : conts m = m.st := by
  apply List.ext_getElem?
  intro j
  by_cases hj : j < m.st.length
  · rw [conts_get hj]
    simp [look, h, hj]
  · rw [List.getElem?_eq_none (by rw [length_conts]; omega), List.getElem?_eq_none (by omega)]
/-- A disk after operations. -/
theorem after_runs {n : Nat} {l : List AAct} (hl : l.length ≤ 60) (hf : ∀ a ∈ l, a.after ≤ 9223372036854775807) : (runs (fresh n) l).ok ∧ (runs (fresh n) l).st.length = n ∧ (runs (fresh n) l).q.length ≤ 60 :=
  ⟨ok_runs l _ (ok_fresh n) hf, by rw [length_runs]; simp [fresh], by have := q_runs l (fresh n); simp [fresh] at this ⊢; omega⟩
theorem clamp_of_le {n : Int} {k : Nat} (h : (k : Int) ≤ n) : clamp n k = k := by unfold clamp; omega
theorem fail_all {m : Dm} (h : m.off = false) (w b : Int) (hw : (m.q.length : Int) ≤ w) : fail m w b = { st := settle m.st m.q, q := [], off := true, al := none } := by
  simp [fail, h, clamp_of_le hw]
theorem fail_off {m : Dm} (h : m.off = true) (w b : Int) : fail m w b = m := by simp [fail, h]
theorem look_write {m : Dm} {s : Nat} {t : Bytes} (j : Nat) : look { m with q := m.q ++ [(s, t)] } j = if s = j then t else look m j := by
  unfold look
  simp only [List.reverse_append, List.reverse_cons, List.reverse_nil, List.nil_append, List.singleton_append, List.find?_cons]
  by_cases h : s = j
  · simp [h]
  · have h' : (s == j) = false := by simpa using h
    simp [h, h']
theorem conts_write {m : Dm} {s : Nat} {t : Bytes} : conts { m with q := m.q ++ [(s, t)] } = (conts m).set s t := by
  apply List.ext_getElem?
  intro j
  by_cases hj : j < m.st.length
  · rw [conts_get (m := { m with q := m.q ++ [(s, t)] }) hj, look_write, List.getElem?_set]
    by_cases h : s = j
    · subst h; simp [length_conts, hj]
    · simp [h, conts_get hj]
  · rw [List.getElem?_eq_none (by rw [length_conts]; show m.st.length ≤ j; omega), List.getElem?_eq_none (by rw [List.length_set, length_conts]; omega)]
end Go.Cz.Dk
