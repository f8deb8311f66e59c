/-
  The four steps of 'Append': plain laws.
-/
import Derived.Test.YtjcjpekndeoonaaGreatDoorJnOpL
namespace Go.Cz.Jn
set_option linter.unusedSimpArgs false
set_option linter.unusedVariables false
def placeB (c : Nat) : Nat → Nat | 0 => 2 + c | 1 => 2 + c | 2 => 1 | _ => 0
def fullB (c : Nat) (ps : List Bytes) : List Bytes := (List.range ps.length).map fun i => sectorB (2 + c + i) (ps.getD i [])
def rowsB (c : Nat) (ps : List Bytes) : Nat → List Bytes | 0 => ps.map fun _ => zeroB | 1 => fullB c ps | 2 => [headB 1 (c + ps.length)] | _ => [headB 0 (c + ps.length)]
theorem steps_law (m : Dk.Dm) (c : Nat) (ps : List Bytes) : ∃ (D : Nat → Dk.Dm) (E : Nat → Int), D 0 = m ∧ (∀ k, k < 4 → writesB (D k) (placeB c k) (rowsB c ps k) = (D (k + 1), E k)) ∧
    (∀ k, k < 4 → (∀ j, j < k → E j = 0) → E k ≠ 0 ∨ k = 3 → stepsB m c ps = (D (k + 1), E k)) := by
  obtain ⟨a, ha⟩ : ∃ a, a = writesB m (2 + c) (ps.map fun _ => zeroB) := ⟨_, rfl⟩
  obtain ⟨b, hb⟩ : ∃ b, b = writesB a.1 (2 + c) (fullB c ps) := ⟨_, rfl⟩
  obtain ⟨d, hd⟩ : ∃ d, d = writesB b.1 1 [headB 1 (c + ps.length)] := ⟨_, rfl⟩
  obtain ⟨f, hf⟩ : ∃ f, f = writesB d.1 0 [headB 0 (c + ps.length)] := ⟨_, rfl⟩
  have hst : stepsB m c ps = if a.2 != 0 then a else if b.2 != 0 then b else if d.2 != 0 then d else f := by
    subst hf hd hb ha
    rfl
  refine ⟨fun k => match k with | 0 => m | 1 => a.1 | 2 => b.1 | 3 => d.1 | _ => f.1, fun k => match k with | 0 => a.2 | 1 => b.2 | 2 => d.2 | _ => f.2, rfl, ?_, ?_⟩
  · intro k hk
    rcases (by omega : k = 0 ∨ k = 1 ∨ k = 2 ∨ k = 3) with rfl | rfl | rfl | rfl
    · exact ha.symm
    · exact hb.symm
    · exact hd.symm
    · exact hf.symm
  · intro k hk hj he
    rw [hst]
    rcases (by omega : k = 0 ∨ k = 1 ∨ k = 2 ∨ k = 3) with rfl | rfl | rfl | rfl
    · rw [if_pos (by simpa using he)]
      rfl
    · have h0 : a.2 = 0 := hj 0 (by omega)
      rw [if_neg (by simp [h0]), if_pos (by simpa using he)]
      rfl
    · have h0 : a.2 = 0 := hj 0 (by omega)
      have h1 : b.2 = 0 := hj 1 (by omega)
      rw [if_neg (by simp [h0]), if_neg (by simp [h1]), if_pos (by simpa using he)]
      rfl
    · have h0 : a.2 = 0 := hj 0 (by omega)
      have h1 : b.2 = 0 := hj 1 (by omega)
      have h2 : d.2 = 0 := hj 2 (by omega)
      rw [if_neg (by simp [h0]), if_neg (by simp [h1]), if_neg (by simp [h2])]
      rfl
theorem piecesB_le (t : Bytes) : (piecesB t).length ≤ t.length := by
  have key : ∀ ps : List Bytes, (∀ p ∈ ps, 1 ≤ p.length) → ps.length ≤ ps.flatten.length := by
    intro ps
    induction ps with
    | nil => intro _; simp
    | cons p ps ih =>
      intro h
      have h1 := h p (by simp)
      have h2 := ih fun q hq => h q (by simp [hq])
      rw [List.flatten_cons, List.length_append, List.length_cons]
      omega
  have := key (piecesB t) fun p hp => (piecesB_mem hp).1
  rwa [piecesB_flat] at this
theorem fullB_len (c : Nat) (ps : List Bytes) : (fullB c ps).length = ps.length := by simp [fullB]
/-- The first k of the sectors that are written. -/
def fullTo (c : Nat) (ps : List Bytes) (k : Nat) : List Bytes := (List.range k).map fun i => sectorB (2 + c + i) (ps.getD i [])
theorem fullTo_all (c : Nat) (ps : List Bytes) : fullTo c ps ps.length = fullB c ps := rfl
theorem fullTo_succ {c : Nat} {ps : List Bytes} {k : Nat} {s : Bytes} (h : ps[k]? = some s) : fullTo c ps (k + 1) = fullTo c ps k ++ [sectorB (2 + c + k) s] := by
  unfold fullTo
  rw [List.range_succ, List.map_append]
  simp [List.getD_eq_getElem?_getD, h]
theorem fullTo_len (c : Nat) (ps : List Bytes) (k : Nat) : (fullTo c ps k).length = k := by simp [fullTo]
theorem zeros_all (ps : List Bytes) : List.replicate ps.length zeroB = ps.map fun _ => zeroB := (List.map_const' ..).symm
theorem rowsB_len (c : Nat) (ps : List Bytes) (k : Nat) : (rowsB c ps k).length ≤ ps.length + 1 := by
  unfold rowsB
  split
  · simp
  · rw [fullB_len]; omega
  · simp
  · simp
end Go.Cz.Jn
