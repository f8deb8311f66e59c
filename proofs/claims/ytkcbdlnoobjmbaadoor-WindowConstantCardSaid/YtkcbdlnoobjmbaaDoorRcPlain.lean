/-
  The reference clock's 'Local' and 'Instant', in plain Lean, and that they are the clock's.
-/
import Derived.Test.YtkcbdlnoobjmbaaDoorRcModel
namespace Go.Cz.Ck
/-- The reference adds a day so that the number stays positive. -/
theorem day_more (x : Int) : (x + 1440) / 1440 - 1 = x / 1440 ∧ (x + 1440) % 1440 = x % 1440 := by omega
theorem rlocal {l : List Shift} (h : validB l = true) {t : Int} (h1 : 0 ≤ t) (h2 : t ≤ 144001439) : localF l t = ((t + roff t l 0 + 1440) / 1440 - 1, (t + roff t l 0 + 1440) % 1440, 0) := by
  rw [local_law h h1 h2, roff_off h h1 h2]
  obtain ⟨e1, e2⟩ := day_more (t + off l t)
  rw [e1, e2]
/-- The reference's search for the first span. -/
def rins (want : Int) : List (Shift × Int) → Int × Int
  | [] => (0, 10)
  | p :: r => if max p.1.1 (want - p.1.2) ≤ p.2 then (max p.1.1 (want - p.1.2), 0) else rins want r
theorem rins_find (want : Int) : ∀ S : List (Shift × Int), rins want S = match S.find? (hit want) with | some p => (max p.1.1 (want - p.1.2), 0) | none => (0, 10)
  | [] => rfl
  | p :: r => by
    by_cases hp : max p.1.1 (want - p.1.2) ≤ p.2
    · simp only [rins, if_pos hp]
      have h : hit want p = true := decide_eq_true hp
      simp [h]
    · simp only [rins, if_neg hp]
      have h : hit want p = false := decide_eq_false hp
      rw [List.find?_cons, h]
      exact rins_find want r
end Go.Cz.Ck
namespace Go.Cz.Ck
/-- What the reference's 'Instant' computes. -/
def rinstF (l : List Shift) (day minute : Int) : Int × Int :=
  if validB l && (decide (0 ≤ minute) && decide (minute < 1440)) then
    if 100001 < day then (0, 10) else if day < -1 then (0, 0) else rins (day * 1440 + minute) (spans l)
  else (0, 1)
theorem rinst_eq (l : List Shift) (day minute : Int) : rinstF l day minute = instF l day minute := by
  unfold rinstF
  by_cases hv : (validB l && (decide (0 ≤ minute) && decide (minute < 1440))) = true
  · rw [if_pos hv]
    have hu : instF l day minute = ((if 100001 < day then (0, 10) else match (spans l).find? (hit (max day (-2) * 1440 + minute)) with | some p => (max p.1.1 (max day (-2) * 1440 + minute - p.1.2), 0) | none => (0, 10)) : Int × Int) := by
      unfold instF
      rw [if_pos hv]
      rfl
    simp only [Bool.and_eq_true, decide_eq_true_eq] at hv
    obtain ⟨h, m1, m2⟩ := hv
    rw [hu]
    by_cases h1 : 100001 < day
    · rw [if_pos h1, if_pos h1]
    · rw [if_neg h1, if_neg h1]
      by_cases h2 : day < -1
      · rw [if_pos h2]
        have hd : max day (-2) = -2 := by omega
        rw [hd]
        have hc := valid_chain h
        rcases hS : spans l with _ | ⟨p, r⟩
        · rw [hS] at hc
          have : (0 : Int) = 144001440 := hc
          omega
        · rw [hS] at hc
          obtain ⟨g1, g2, g3, g4, g5, -⟩ := hc
          have hh : hit (-2 * 1440 + minute) p = true := decide_eq_true (by omega)
          rw [List.find?_cons, hh]
          have this : (0 : Int) = max p.1.1 (-2 * 1440 + minute - p.1.2) := by omega
          exact congrArg (fun z : Int => (z, (0 : Int))) this
      · rw [if_neg h2, rins_find]
        have hd : max day (-2) = day := by omega
        rw [hd]
  · rw [if_neg hv]
    unfold instF
    rw [if_neg hv]
end Go.Cz.Ck
