/-
  Writes after a Sync, and what a failure leaves of them, in plain Lean.
-/
import Derived.Test.YtdfjcidiolbbhaaLwPlain
namespace Go.Cz.Dk

def writes (m : Dm) (l : List AAct) : Dm := l.foldl (fun m a => (write m a.sector a.txt).1) m
theorem writes_take_succ (m : Dm) (l : List AAct) {i : Nat} {x : AAct} (h : l[i]? = some x) : writes m (l.take (i + 1)) = (write (writes m (l.take i)) x.sector x.txt).1 := by
  obtain ⟨hi, he⟩ := List.getElem?_eq_some_iff.1 h
  rw [List.take_succ_eq_append_getElem hi, he]
  simp [writes]
/-- The writes that succeed on a disk of n sectors. -/
def good (n : Nat) (a : AAct) : Bool := decide (0 ≤ a.sector) && decide (a.sector < n) && a.txt.length == 64
def pend (a : AAct) : Nat × Bytes := (a.sector.toNat, a.txt)
theorem write_good {m : Dm} (h : Calm m) (a : AAct) : write m a.sector a.txt = if good m.st.length a then ({ m with q := m.q ++ [pend a] }, 0) else (m, 1) := write_calm h _ _
theorem writes_eq {m : Dm} (h : Calm m) (l : List AAct) : writes m l = { m with q := m.q ++ (l.filter (good m.st.length)).map pend } := by
  unfold writes
  induction l generalizing m with
  | nil => simp
  | cons a l ih =>
    rw [List.foldl_cons, write_good h]
    by_cases hg : good m.st.length a = true
    · rw [if_pos hg, ih (m := { m with q := m.q ++ [pend a] }) h, List.filter_cons_of_pos hg]
      simp
    · rw [if_neg hg, ih (m := m) h, List.filter_cons_of_neg hg]
theorem calm_writes {m : Dm} (h : Calm m) (l : List AAct) : Calm (writes m l) := by rw [writes_eq h]; exact h
/-- Which sectors have a pending write. -/
def flags (m : Dm) : List Bool := (List.range m.st.length).map fun i => m.q.any (fun p => p.1 == i)
theorem length_flags (m : Dm) : (flags m).length = m.st.length := by simp [flags]
theorem flags_get {m : Dm} {i : Nat} (h : i < m.st.length) : (flags m)[i]? = some (m.q.any (fun p => p.1 == i)) := by simp [flags, h]
theorem flags_none {m : Dm} (h : m.q = []) : flags m = List.replicate m.st.length false := by
  apply List.ext_getElem?
  intro i
  by_cases hi : i < m.st.length
  · rw [flags_get hi, h]; simp [hi]
  · rw [List.getElem?_eq_none (by rw [length_flags]; omega), List.getElem?_eq_none (by simp; omega)]
theorem flags_write {m : Dm} {s : Nat} {t : Bytes} : flags { m with q := m.q ++ [(s, t)] } = (flags m).set s true := by
  apply List.ext_getElem?
  intro i
  by_cases hi : i < m.st.length
  · rw [flags_get (m := { m with q := m.q ++ [(s, t)] }) hi, List.getElem?_set]
    by_cases h : s = i
    · subst h; simp [length_flags, hi]
    · have h' : (s == i) = false := by simpa using h
      simp [h, h', flags_get hi]
  · rw [List.getElem?_eq_none (by rw [length_flags]; show m.st.length ≤ i; omega), List.getElem?_eq_none (by rw [List.length_set, length_flags]; omega)]
theorem setS_other {st : List Bytes} {s i : Nat} (t : Bytes) (h : s ≠ i) : (setS st s t)[i]? = st[i]? := by
  unfold setS
  rw [List.getElem?_modify]
  simp [h]
theorem settle_other (q : List (Nat × Bytes)) : ∀ {st : List Bytes} {i : Nat}, (∀ p ∈ q, p.1 ≠ i) → (settle st q)[i]? = st[i]? := by
  unfold settle
  induction q with
  | nil => intro st i _; rfl
  | cons p q ih => intro st i h; rw [List.foldl_cons, ih (fun p' hp' => h p' (by simp [hp'])), setS_other _ (h p (by simp))]
theorem fail_other {m : Dm} {i : Nat} (x y : Int) (h : ∀ p ∈ m.q, p.1 ≠ i) : (fail m x y).st[i]? = m.st[i]? := by
  unfold fail
  split
  · rfl
  · dsimp only
    split
    · rename_i p hp
      rw [setS_other _ (h p (List.mem_of_getElem? hp)), settle_other _ fun p' hp' => h p' (List.mem_of_mem_take hp')]
    · rw [settle_other _ fun p' hp' => h p' (List.mem_of_mem_take hp')]
theorem fail_q {m : Dm} (h : m.off = false) (x y : Int) : (fail m x y).q = [] := by unfold fail; simp [h]
end Go.Cz.Dk
