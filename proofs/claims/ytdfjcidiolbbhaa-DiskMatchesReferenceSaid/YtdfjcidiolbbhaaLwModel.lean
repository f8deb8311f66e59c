/-
  What the helpers of the disk's laws compute, in plain Lean.
-/
import Derived.Test.YtdfjcidiolbbhaaDkModel
namespace Go.Cz.Dk

/-- An operation of a law. -/
structure AAct where
  kind : Int
  sector : Int
  bytes : Int
  text : Bytes
  odd : Bool
  after : Int
def rep (t : Bytes) (k : Nat) : Bytes := (List.replicate k t).flatten
def AAct.txt (a : AAct) : Bytes := if a.odd || a.text == [] then a.text else (rep a.text 64).take 64
theorem length_rep (t : Bytes) (k : Nat) : (rep t k).length = k * t.length := by simp [rep]
theorem rep_succ (t : Bytes) (k : Nat) : rep t (k + 1) = rep t k ++ t := by simp [rep, List.replicate_succ']
theorem rep_take {t : Bytes} {k : Nat} (h : 64 ≤ k * t.length) (hk : k ≤ 64) : (rep t k).take 64 = (rep t 64).take 64 := by
  have e : rep t 64 = rep t k ++ rep t (64 - k) := by
    unfold rep
    rw [← List.flatten_append, List.replicate_append_replicate, show k + (64 - k) = 64 by omega]
  rw [e, List.take_append_of_le_length (by rw [length_rep]; exact h)]
/-- What an operation leaves, and what it answers. -/
def act (m : Dm) (a : AAct) : Dm × Bytes × Int :=
  if a.kind = 0 then ((write m a.sector a.txt).1, [], (write m a.sector a.txt).2)
  else if a.kind = 1 then (m, (read m a.sector).1, (read m a.sector).2)
  else if a.kind = 2 then ((sync m).1, [], (sync m).2)
  else if a.kind = 3 then (fail m a.sector a.bytes, [], 0)
  else if a.kind = 4 then (start m, [], 0)
  else if a.kind = 5 then (arm m a.after a.sector a.bytes, [], 0)
  else if a.kind = 6 then (rot m a.sector a.bytes a.after, [], 0)
  else if a.kind = 7 then (m, raw m, 0)
  else (m, [], 0)
def runs (m : Dm) (l : List AAct) : Dm := l.foldl (fun m a => (act m a).1) m
theorem runs_take_succ (m : Dm) (l : List AAct) {i : Nat} {x : AAct} (h : l[i]? = some x) : runs m (l.take (i + 1)) = (act (runs m (l.take i)) x).1 := by
  obtain ⟨hi, he⟩ := List.getElem?_eq_some_iff.1 h
  rw [List.take_succ_eq_append_getElem hi, he]
  simp [runs]

theorem q_fail (m : Dm) (w b : Int) : (fail m w b).q.length ≤ m.q.length := by unfold fail; split <;> simp
theorem q_count (m : Dm) : (count m).1.q.length ≤ m.q.length := by
  unfold count
  split
  · exact Nat.le_refl _
  · split
    · exact Nat.le_refl _
    · exact q_fail _ _ _
theorem q_write (m : Dm) (s : Int) (t : Bytes) : (write m s t).1.q.length ≤ m.q.length + 1 := by
  unfold write
  split
  · dsimp only; omega
  · split
    · have := q_count { m with q := m.q ++ [(s.toNat, t)] }
      simpa using this
    · dsimp only; omega
theorem q_sync (m : Dm) : (sync m).1.q.length ≤ m.q.length := by
  unfold sync
  split
  · exact Nat.le_refl _
  · split
    · exact q_count m
    · simp
theorem q_arm (m : Dm) (a w b : Int) : (arm m a w b).q.length ≤ m.q.length := by unfold arm; split <;> exact Nat.le_refl _
theorem q_rot (m : Dm) (s a k : Int) : (rot m s a k).q.length ≤ m.q.length := by unfold rot; split <;> exact Nat.le_refl _
theorem q_act (m : Dm) (a : AAct) : (act m a).1.q.length ≤ m.q.length + 1 := by
  unfold act
  repeat' split
  · exact q_write _ _ _
  · exact Nat.le_succ _
  · exact Nat.le_succ_of_le (q_sync m)
  · exact Nat.le_succ_of_le (q_fail _ _ _)
  · exact Nat.le_succ _
  · exact Nat.le_succ_of_le (q_arm _ _ _ _)
  · exact Nat.le_succ_of_le (q_rot _ _ _ _)
  · exact Nat.le_succ _
  · exact Nat.le_succ _
theorem q_runs (l : List AAct) : ∀ m : Dm, (runs m l).q.length ≤ m.q.length + l.length := by
  induction l with
  | nil => intro m; exact Nat.le_refl _
  | cons a l ih =>
    intro m
    have h1 := ih (act m a).1
    have h2 := q_act m a
    simp only [runs, List.foldl_cons, List.length_cons] at h1 ⊢
    omega
theorem length_act (m : Dm) (a : AAct) : (act m a).1.st.length = m.st.length := by
  unfold act
  repeat' split
  · exact length_write _ _ _
  · rfl
  · exact length_sync m
  · exact length_fail _ _ _
  · rfl
  · exact length_arm _ _ _ _
  · exact length_rot _ _ _ _
  · rfl
  · rfl
theorem length_runs (l : List AAct) : ∀ m : Dm, (runs m l).st.length = m.st.length := by
  induction l with
  | nil => intro m; rfl
  | cons a l ih => intro m; simp only [runs, List.foldl_cons] at ih ⊢; rw [ih, length_act]
theorem ok_act {m : Dm} (h : m.ok) (a : AAct) (ha : a.after ≤ 9223372036854775807) : (act m a).1.ok := by
  unfold act
  repeat' split
  · exact ok_write h _ _
  · exact h
  · exact ok_sync h
  · exact ok_fail h _ _
  · exact ok_start h
  · exact ok_arm h _ _ _ ha
  · exact ok_rot h _ _ _
  · exact h
  · exact h
theorem ok_runs (l : List AAct) : ∀ m : Dm, m.ok → (∀ a ∈ l, a.after ≤ 9223372036854775807) → (runs m l).ok := by
  induction l with
  | nil => intro m h _; exact h
  | cons a l ih => intro m h ha; simp only [runs, List.foldl_cons] at ih ⊢; exact ih _ (ok_act h a (ha a (by simp))) fun x hx => ha x (by simp [hx])
/-- What is read from all sectors. -/
def conts (m : Dm) : List Bytes := (List.range m.st.length).map (look m)
theorem length_conts (m : Dm) : (conts m).length = m.st.length := by simp [conts]
theorem conts_get {m : Dm} {j : Nat} (h : j < m.st.length) : (conts m)[j]? = some (look m j) := by simp [conts, h]
theorem look_length {m : Dm} (h : m.ok) {j : Nat} (hj : j < m.st.length) : (look m j).length = 64 := by
  unfold look
  split
  · rename_i p hp
    exact (h.2.1 p (by have := List.mem_of_find?_eq_some hp; simpa using this)).2
  · rw [List.getD_eq_getElem?_getD, List.getElem?_eq_getElem hj, Option.getD_some]
    exact h.1 _ (List.getElem_mem _)
end Go.Cz.Dk
