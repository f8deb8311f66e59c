/-
  Plain laws of the lexer's gaps.
-/
import Derived.Test.YtkcbdlnoobjmbaaDoorLxModel
import Derived.Lib.AtoiAll
namespace Go.Cz.Lx
theorem drop_add (l : List UInt8) (i k : Nat) : (l.drop i).drop k = l.drop (i + k) := by rw [List.drop_drop]
theorem whileN_rest (C : List Nat) : ∀ l : List UInt8, whileN C (l.drop (whileN C l)) = 0
  | [] => rfl
  | c :: r => by
    by_cases h : C.contains (cls c) = true
    · have hw : whileN C (c :: r) = whileN C r + 1 := by unfold whileN; rw [if_pos h]; cases r <;> rfl
      rw [hw, List.drop_succ_cons]
      exact whileN_rest C r
    · have hw : whileN C (c :: r) = 0 := by unfold whileN; rw [if_neg h]
      rw [hw]
      exact hw
theorem gap_start (l : List UInt8) (i : Nat) : gapE l i = gapE l (i + whileN [1] (l.drop i)) ∧ whileN [1] (l.drop (i + whileN [1] (l.drop i))) = 0 := by
  refine ⟨?_, ?_⟩
  · unfold gapE
    rw [gapL_while (l.drop i), drop_add]
    omega
  · rw [← drop_add]; exact whileN_rest _ _
theorem gap_exit {l : List UInt8} {j : Nat} (hw : whileN [1] (l.drop j) = 0) (h : atL l j ≠ 2) : gapE l j = j := by
  unfold gapE
  by_cases hj : j < l.length
  · rw [whileN_drop hj] at hw
    rw [atL_some hj] at h
    have h1 : ¬ cls l[j] = 1 := fun e => by
      rw [e] at hw
      simp at hw
    rw [List.drop_eq_getElem_cons hj]
    show j + (if cls l[j] = 1 then _ else _) = _
    rw [if_neg h1, if_neg h]
    rfl
  · rw [List.drop_of_length_le (by omega)]; rfl
theorem cls_hash {c : UInt8} (h : cls c = 2) : c = 35 := all_bytes (p := fun c => cls c = 2 → c = 35) (by decide +kernel) c h
theorem gap_hash {l : List UInt8} {j : Nat} (h : atL l j = 2) : j < l.length ∧ gapL false (l.drop j) = gapL true (l.drop j) ∧ Lib.indexByte (l.drop j) 10 ≠ 0 := by
  by_cases hj : j < l.length
  · rw [atL_some hj] at h
    refine ⟨hj, ?_, ?_⟩
    · rw [List.drop_eq_getElem_cons hj]
      have h1 : l[j] = 35 := cls_hash h
      rw [h1]
      rfl
    · rw [List.drop_eq_getElem_cons hj, cls_hash h]
      have h2 := Lib.indexByte_ge (l.drop (j + 1)) 10
      unfold Lib.indexByte
      rw [if_neg (by decide)]
      split
      · omega
      · rename_i h3
        simp at h3
        omega
  · rw [atL_none (by omega)] at h; cases h
theorem gap_none {l : List UInt8} {j : Nat} (h : atL l j = 2) (hn : Lib.indexByte (l.drop j) 10 < 0) : gapE l j = l.length := by
  obtain ⟨h1, h2, -⟩ := gap_hash h
  unfold gapE
  rw [h2, gapL_comment, if_pos hn, List.length_drop]
  omega
theorem gap_some {l : List UInt8} {j n : Nat} (h : atL l j = 2) (hn : Lib.indexByte (l.drop j) 10 = n) : gapE l j = gapE l (j + n) ∧ 1 ≤ n ∧ j + n ≤ l.length := by
  obtain ⟨h1, h2, h3⟩ := gap_hash h
  have h4 : Lib.indexByte (l.drop j) 10 < (l.drop j).length := by
    have : ∀ (l : List UInt8) (c : UInt8), Lib.indexByte l c < l.length := by
      intro l c
      induction l with
      | nil => simp [Lib.indexByte]
      | cons b l ih =>
        have h2 := Lib.indexByte_ge l c
        unfold Lib.indexByte
        split
        · simp
          try omega
        · split
          · simp
            try omega
          · simp
            try omega
    exact this _ _
  rw [List.length_drop] at h4
  refine ⟨?_, by omega, by omega⟩
  unfold gapE
  rw [h2, gapL_comment, if_neg (by omega), hn, Int.toNat_natCast, drop_add]
  omega
end Go.Cz.Lx
namespace Go.Cz.Lx
theorem cls_digit {c : UInt8} (h : cls c = 4) : 48 ≤ c.toNat ∧ c.toNat ≤ 57 := all_bytes (p := fun c => cls c = 4 → 48 ≤ c.toNat ∧ c.toNat ≤ 57) (by decide +kernel) c h
theorem whileN_mem {C : List Nat} : ∀ {l : List UInt8} {c : UInt8}, c ∈ l.take (whileN C l) → C.contains (cls c) = true
  | [], c, h => by simp at h
  | d :: r, c, h => by
    unfold whileN at h
    split at h
    · rename_i hd
      rw [List.take_succ_cons] at h
      rcases List.mem_cons.1 h with rfl | h
      · exact hd
      · exact whileN_mem h
    · simp at h
/-- A number of at most 13 digits is read. -/
theorem parse_num : ∀ (l : List UInt8) (acc : Nat), (∀ c ∈ l, 48 ≤ c.toNat ∧ c.toNat ≤ 57) → l.length ≤ 13 → (acc + 1) * 10 ^ l.length ≤ 10 ^ 13 → Lib.parseUint10 acc l = .ok (l.foldl (fun a c => 10 * a + (c.toNat - 48)) acc)
  | [], acc, _, _, _ => rfl
  | c :: r, acc, h, hl, hb => by
    have hc := h c (by simp)
    have hl' : r.length ≤ 13 := by simp at hl; omega
    rw [List.length_cons, Nat.pow_succ] at hb
    have hp : 1 ≤ 10 ^ r.length := Nat.one_le_pow _ _ (by decide)
    have e13 : (10 : Nat) ^ 13 = 10000000000000 := by decide
    have hacc : (acc + 1) * 10 ≤ 10 ^ 13 := by
      refine Nat.le_trans ?_ hb
      rw [show (acc + 1) * (10 ^ r.length * 10) = (acc + 1) * 10 * 10 ^ r.length by rw [Nat.mul_assoc, Nat.mul_comm 10]]
      exact Nat.le_mul_of_pos_right _ hp
    have hb2 : (acc * 10 + (c.toNat - 48) + 1) * 10 ^ r.length ≤ 10 ^ 13 := by
      refine Nat.le_trans ?_ hb
      rw [show (acc + 1) * (10 ^ r.length * 10) = ((acc + 1) * 10) * 10 ^ r.length by rw [Nat.mul_assoc, Nat.mul_comm 10]]
      exact Nat.mul_le_mul_right _ (by omega)
    simp only [Lib.parseUint10]
    rw [if_pos hc, if_neg (by omega), if_neg (by omega), parse_num r _ (fun x hx => h x (by simp [hx])) hl' hb2, List.foldl_cons, Nat.mul_comm 10 acc]
theorem atoi_num {l : List UInt8} (h : ∀ c ∈ l, 48 ≤ c.toNat ∧ c.toNat ≤ 57) (h1 : 1 ≤ l.length) (h2 : l.length ≤ 13) : Lib.atoiAll l = .ok (numV l : Int) ∧ numV l < 10000000000000 := by
  have hp := parse_num l 0 h h2 (by rw [Nat.zero_add, Nat.one_mul]; exact Nat.pow_le_pow_right (by decide) h2)
  have hb : numV l + 1 ≤ 10 ^ l.length := by
    have : ∀ (l : List UInt8) (acc : Nat), (∀ c ∈ l, 48 ≤ c.toNat ∧ c.toNat ≤ 57) → l.foldl (fun a c => 10 * a + (c.toNat - 48)) acc + 1 ≤ (acc + 1) * 10 ^ l.length := by
      intro l
      induction l with
      | nil => intro acc _; simp
      | cons c r ih =>
        intro acc hc
        have h3 := ih (10 * acc + (c.toNat - 48)) (fun x hx => hc x (by simp [hx]))
        have h4 := hc c (by simp)
        rw [List.foldl_cons, List.length_cons, Nat.pow_succ]
        refine Nat.le_trans h3 ?_
        rw [show (acc + 1) * (10 ^ r.length * 10) = ((acc + 1) * 10) * 10 ^ r.length by rw [Nat.mul_assoc, Nat.mul_comm 10]]
        exact Nat.mul_le_mul_right _ (by omega)
    have h5 := this l 0 h
    rw [Nat.zero_add, Nat.one_mul] at h5
    exact h5
  have hb2 : (10 : Nat) ^ l.length ≤ 10 ^ 13 := Nat.pow_le_pow_right (by decide) h2
  have e13 : (10 : Nat) ^ 13 = 10000000000000 := by decide
  refine ⟨?_, by omega⟩
  rcases l with _ | ⟨c, r⟩
  · simp at h1
  · have hc := h c (by simp)
    have e3 : Lib.parseMag (c :: r) = .ok (numV (c :: r)) := by unfold Lib.parseMag; rw [if_neg (by simp)]; exact hp
    have e0 : ¬ c.toNat = 43 := by omega
    have e1 : ¬ c.toNat = 45 := by omega
    have e4 : ¬ 9223372036854775808 ≤ numV (c :: r) := by omega
    unfold Lib.atoiAll
    simp [e0, e1, e3, e4]
end Go.Cz.Lx
