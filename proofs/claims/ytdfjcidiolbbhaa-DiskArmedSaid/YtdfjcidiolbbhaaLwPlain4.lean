/-
  An armed disk beside one that is not armed, in plain Lean.
-/
import Derived.Test.YtdfjcidiolbbhaaLwPlain3
namespace Go.Cz.Dk
set_option linter.unusedSimpArgs false

/-- The disk B, armed. -/
def armed (B : Dm) (k x y : Int) : Dm := { B with al := if 0 ≤ k then some (k, x, y) else none }
theorem arm_calm {m : Dm} (h : Calm m) (k x y : Int) : arm m k x y = armed m k x y := by simp [arm, h.1, armed]
theorem fail_armed (B : Dm) (k x y u v : Int) (h : Calm B) : fail (armed B k x y) u v = fail B u v := by simp [fail, armed, h.1]
theorem start_armed (B : Dm) (k x y : Int) : start (armed B k x y) = start B := by simp [start, armed]
theorem count_armed {B : Dm} (h : Calm B) (k x y : Int) : count (armed B k x y) = if k = 0 then (fail B x y, 26) else (armed B (if 0 < k then k - 1 else k) x y, 0) := by
  by_cases h0 : k = 0
  · subst h0
    have : count (armed B 0 x y) = (fail (armed B 0 x y) x y, 26) := by simp [count, armed]
    rw [this, fail_armed _ _ _ _ _ _ h, if_pos rfl]
  · rw [if_neg h0]
    by_cases h1 : 0 < k
    · have h2 : 0 ≤ k := by omega
      have h3 : 0 ≤ k - 1 := by omega
      simp [count, armed, h1, h2, h3]
      omega
    · have h2 : ¬ 0 ≤ k := by omega
      have h4 : B.al = none := h.2
      simp [count, armed, h1, h2]
theorem write_armed {B : Dm} (h : Calm B) (k x y : Int) (s : Int) (t : Bytes) : write (armed B k x y) s t =
    if (write B s t).2 = 0 then (if k = 0 then (fail (write B s t).1 x y, 26) else (armed (write B s t).1 (if 0 < k then k - 1 else k) x y, 0)) else (armed B k x y, 1) := by
  rw [write_calm h]
  by_cases hv : (valid B s && t.length == 64) = true
  · rw [if_pos hv]
    have : write (armed B k x y) s t = count (armed { B with q := B.q ++ [(s.toNat, t)] } k x y) := by
      have hv' : (valid (armed B k x y) s && t.length == 64) = true := hv
      simp only [write]
      rw [show (armed B k x y).off = false from h.1, hv']
      simp [armed, h.1]
    rw [this, count_armed (B := { B with q := B.q ++ [(s.toNat, t)] }) h]
    simp
  · rw [if_neg hv]
    have hv' : (valid (armed B k x y) s && t.length == 64) = false := by
      have e : valid (armed B k x y) s = valid B s := rfl
      rw [e]; simpa using hv
    simp only [write]
    rw [show (armed B k x y).off = false from h.1, hv']
    simp
theorem sync_armed {B : Dm} (h : Calm B) (k x y : Int) : sync (armed B k x y) = if k = 0 then (fail B x y, 26) else (armed (sync B).1 (if 0 < k then k - 1 else k) x y, 0) := by
  have h1 : (armed B k x y).off = false := h.1
  simp only [sync]
  rw [h1, count_armed h]
  by_cases h0 : k = 0
  · simp [h0]
  · simp only [h0, if_false, Bool.false_eq_true, bne_self_eq_false]
    have h2 : B.off = false := h.1
    have h3 : count B = (B, 0) := by simp [count, h.2]
    rw [h2, h3]
    simp [armed]
theorem sync_calm2 {m : Dm} (h : Calm m) : (sync m).2 = 0 := by rw [sync_calm h]
theorem write_code {m : Dm} (h : Calm m) (s : Int) (t : Bytes) : (write m s t).2 = 0 ∨ ((write m s t).2 = 1 ∧ (write m s t).1 = m) := by
  rw [write_calm h]
  split
  · exact .inl rfl
  · exact .inr ⟨rfl, rfl⟩
theorem start_fail_armed (B : Dm) : start (start B) = start B := rfl
end Go.Cz.Dk
