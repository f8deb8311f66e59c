/-
  What a failure leaves of writes, and what is read with pending writes, in plain Lean.
-/
import Derived.Test.YtdfjcidiolbbhaaLwPlain3
namespace Go.Cz.Dk
set_option linter.unusedSimpArgs false
set_option linter.unusedVariables false

theorem setS_get {st : List Bytes} {i : Nat} {t : Bytes} (h : ∀ s ∈ st, s.length = 64) (ht : t.length = 64) (hi : i < st.length) : (setS st i t)[i]? = some t := by
  unfold setS
  rw [List.getElem?_modify]
  have hl := h st[i] (List.getElem_mem _)
  simp [hi, List.drop_of_length_le (by omega : st[i].length ≤ t.length)]
theorem look_cons {st : List Bytes} {p : Nat × Bytes} {q : List (Nat × Bytes)} {off : Bool} {al : Option (Int × Int × Int)} (h : ∀ s ∈ st, s.length = 64) (hp : p.1 < st.length) (hl : p.2.length = 64) (j : Nat) :
    look ⟨st, p :: q, off, al⟩ j = look ⟨setS st p.1 p.2, q, off, al⟩ j := by
  unfold look
  simp only [List.reverse_cons, List.find?_append]
  cases hf : q.reverse.find? (fun p => p.1 == j) with
  | some x => rfl
  | none =>
    simp only [Option.none_or, List.find?_cons, List.find?_nil]
    by_cases hj : p.1 = j
    · subst hj
      simp [setS_get h hl hp]
    · have hj' : (p.1 == j) = false := by simpa using hj
      simp [hj', setS_other _ hj]
theorem conts_cons {st : List Bytes} {p : Nat × Bytes} {q : List (Nat × Bytes)} {off : Bool} {al : Option (Int × Int × Int)} (h : ∀ s ∈ st, s.length = 64) (hp : p.1 < st.length) (hl : p.2.length = 64) :
    conts ⟨st, p :: q, off, al⟩ = conts ⟨setS st p.1 p.2, q, off, al⟩ := by
  unfold conts
  simp only [length_setS]
  congr 1
  funext j
  exact look_cons h hp hl j
theorem conts_settle (off : Bool) (al : Option (Int × Int × Int)) (q : List (Nat × Bytes)) : ∀ st : List Bytes, (∀ s ∈ st, s.length = 64) → (∀ p ∈ q, p.1 < st.length ∧ p.2.length = 64) → conts ⟨st, q, off, al⟩ = settle st q := by
  induction q with
  | nil => intro st _ _; exact conts_none rfl
  | cons p q ih =>
    intro st h hq
    obtain ⟨h1, h2⟩ := hq p (by simp)
    rw [conts_cons h h1 h2, ih _ (setS_all h (by omega)) fun p' hp' => by rw [length_setS]; exact hq p' (by simp [hp'])]
    rfl
theorem good_pend {n : Nat} {a : AAct} (h : good n a = true) : (pend a).1 < n ∧ (pend a).2.length = 64 := by
  simp only [good, Bool.and_eq_true, decide_eq_true_eq, beq_iff_eq] at h
  exact ⟨by simp only [pend]; omega, h.2⟩
theorem clamp_nat (k n : Nat) : clamp (k : Int) n = min k n := by unfold clamp; omega
theorem setS_set {X : List Bytes} {s b : Nat} {t u : Bytes} (hu : X[s]? = some u) (ht : t.length = 64) (hb : b ≤ 64) : setS X s (t.take b) = X.set s (t.take b ++ u.drop b) := by
  unfold setS
  have hl : (t.take b).length = b := by simp; omega
  rw [hl]
  apply List.ext_getElem?
  intro i
  rw [List.getElem?_modify, List.getElem?_set]
  by_cases hi : s = i
  · subst hi
    obtain ⟨hs, rfl⟩ := List.getElem?_eq_some_iff.1 hu
    simp [hs]
  · simp [hi]
/-- The writes that succeed, and what a failure after k of them, with b bytes of the next one, leaves. -/
theorem fail_torn {m : Dm} (hm : m.ok) (hc : Calm m) (hq : m.q = []) (S : List AAct) (hS : ∀ a ∈ S, good m.st.length a = true) (k b : Nat) (hb : b ≤ 64) :
    (fail { m with q := S.map pend } k b).st = match S[k]? with
      | none => conts { m with q := (S.take k).map pend }
      | some a => setS (conts { m with q := (S.take k).map pend }) a.sector.toNat (a.txt.take b) := by
  have hst : conts { m with q := (S.take k).map pend } = settle m.st ((S.take k).map pend) :=
    conts_settle _ _ _ _ hm.1 fun p hp => by
      obtain ⟨a, ha, rfl⟩ := List.mem_map.1 hp
      exact good_pend (hS a (List.mem_of_mem_take ha))
  have hof : (fail { m with q := S.map pend } k b).st = match (S.map pend)[clamp (k : Int) (S.map pend).length]? with
      | some p => setS (settle m.st ((S.map pend).take (clamp (k : Int) (S.map pend).length))) p.1 (p.2.take (clamp (b : Int) 64))
      | none => settle m.st ((S.map pend).take (clamp (k : Int) (S.map pend).length)) := by
    simp only [fail, hc.1, Bool.false_eq_true, if_false]
    generalize (S.map pend)[clamp (k : Int) (S.map pend).length]? = o
    cases o <;> rfl
  rw [hof, clamp_nat, clamp_nat, hst, List.length_map, Nat.min_eq_left hb, ← List.map_take]
  by_cases hk : k < S.length
  · rw [Nat.min_eq_left (by omega), List.getElem?_map, List.getElem?_eq_getElem hk]
    rfl
  · rw [Nat.min_eq_right (by omega), List.getElem?_eq_none (by simp), List.getElem?_eq_none (by omega), List.take_of_length_le (Nat.le_refl _), List.take_of_length_le (by omega : S.length ≤ k)]
/-- The writes among the first j operations that succeed. -/
def done (n : Nat) (l : List AAct) (j : Nat) : List AAct := (l.take j).filter (good n)
theorem done_zero (n : Nat) (l : List AAct) : done n l 0 = [] := rfl
theorem done_yes {n : Nat} {l : List AAct} {j : Nat} {a : AAct} (h : l[j]? = some a) (hg : good n a = true) : done n l (j + 1) = done n l j ++ [a] := by
  obtain ⟨hi, he⟩ := List.getElem?_eq_some_iff.1 h
  unfold done
  rw [List.take_succ_eq_append_getElem hi, he, List.filter_append]
  simp [hg]
theorem done_no {n : Nat} {l : List AAct} {j : Nat} {a : AAct} (h : l[j]? = some a) (hg : ¬ good n a = true) : done n l (j + 1) = done n l j := by
  obtain ⟨hi, he⟩ := List.getElem?_eq_some_iff.1 h
  unfold done
  rw [List.take_succ_eq_append_getElem hi, he, List.filter_append]
  simp [hg]
theorem done_take {n : Nat} {l : List AAct} {j k : Nat} (h : (done n l j).length = k) : (l.filter (good n)).take k = done n l j := by
  have e : l.filter (good n) = done n l j ++ (l.drop j).filter (good n) := by
    unfold done
    rw [← List.filter_append, List.take_append_drop]
  rw [e, ← h, List.take_left']
  rfl
theorem done_all {n : Nat} {l : List AAct} {j k : Nat} (hj : l.length ≤ j) (h : (done n l j).length ≤ k) : (l.filter (good n)).take k = done n l j := by
  have e : done n l j = l.filter (good n) := by unfold done; rw [List.take_of_length_le hj]
  rw [e] at h ⊢
  exact List.take_of_length_le h
theorem done_len (n : Nat) (l : List AAct) (j : Nat) : (done n l j).length ≤ l.length := by
  unfold done
  have h1 := List.length_filter_le (good n) (l.take j)
  have h2 := List.length_take_le' j l
  omega
end Go.Cz.Dk
