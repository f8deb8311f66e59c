/-
  What 'Rot' does, in plain Lean.
-/
import Derived.Test.YtdfjcidiolbbhaaLwPlain
namespace Go.Cz.Dk
/-- What Rot does to a disk without pending writes. -/
theorem rot_rot (m : Dm) (s a k : Int) : rot (rot m s a k) s a k = m := by
  by_cases hr : rotOk m s a k = true
  · have hr2 : rotOk (rot m s a k) s a k = true := by
      simp only [rotOk, valid, length_rot] at hr ⊢
      exact hr
    have hun : ∀ x : Dm, rotOk x s a k = true → rot x s a k = { x with st := x.st.modify s.toNat fun t => t.modify a.toNat fun b => b ^^^ UInt8.ofNat k.toNat } := fun x hx => by unfold rot; rw [if_pos hx]
    rw [hun _ hr2]
    have : (rot m s a k).st.modify s.toNat (fun t => t.modify a.toNat fun b => b ^^^ UInt8.ofNat k.toNat) = m.st := by
      unfold rot
      rw [if_pos hr]
      apply List.ext_getElem
      · simp
      · intro i h1 h2
        simp only [List.getElem_modify]
        split
        · apply List.ext_getElem
          · simp
          · intro j h3 h4
            simp only [List.getElem_modify]
            split
            · rw [UInt8.xor_assoc, UInt8.xor_self, UInt8.xor_zero]
            · rfl
        · rfl
    rw [this]
    unfold rot
    rw [if_pos hr]
  · have hr' : rotOk m s a k = false := by simpa using hr
    have : rot m s a k = m := by unfold rot; rw [hr']; rfl
    rw [this, this]
theorem q_rot_eq (m : Dm) (s a k : Int) : (rot m s a k).q = m.q ∧ (rot m s a k).off = m.off := by unfold rot; split <;> exact ⟨rfl, rfl⟩
/-- The bits that differ. -/
def bitsAt (ok : Bool) (s a k : Int) (i j : Nat) : Nat := if ok = true ∧ s = (i : Int) ∧ a = (j : Int) then k.toNat else 0
theorem rot_bits {m : Dm} (h : m.ok) (s a k : Int) {i j : Nat} (hi : i < m.st.length) (hj : j < 64) : ∃ x y : UInt8, (m.st.getD i [])[j]? = some x ∧ ((rot m s a k).st.getD i [])[j]? = some y ∧ (x ^^^ y).toNat = bitsAt (rotOk m s a k) s a k i j := by
  have hl := h.1 (m.st[i]) (List.getElem_mem _)
  have e1 : m.st.getD i [] = m.st[i] := by rw [List.getD_eq_getElem?_getD, List.getElem?_eq_getElem hi]; rfl
  have e2 : (rot m s a k).st.getD i [] = (rot m s a k).st[i]'(by rw [length_rot]; exact hi) := by rw [List.getD_eq_getElem?_getD, List.getElem?_eq_getElem (by rw [length_rot]; exact hi)]; rfl
  rw [e1, e2]
  refine ⟨m.st[i][j], ((rot m s a k).st[i]'(by rw [length_rot]; exact hi))[j]'(by rw [(ok_rot h s a k).1 _ (List.getElem_mem _)]; exact hj), List.getElem?_eq_getElem (by omega), List.getElem?_eq_getElem _, ?_⟩
  unfold bitsAt
  by_cases hr : rotOk m s a k = true
  · have hr0 := hr
    simp only [rotOk, valid, Bool.and_eq_true, decide_eq_true_eq] at hr
    simp only [rot, hr0, if_true, List.getElem_modify]
    by_cases hs : s = (i : Int)
    · subst hs
      simp only [Int.toNat_natCast, if_true, true_and]
      by_cases ha : a = (j : Int)
      · subst ha
        simp only [Int.toNat_natCast, if_true, List.getElem_modify]
        rw [← UInt8.xor_assoc, UInt8.xor_self, UInt8.zero_xor]
        simp; omega
      · have : a.toNat ≠ j := by omega
        simp [this, ha]
    · have : s.toNat ≠ i := by omega
      simp [this, hs]
  · have hr' : rotOk m s a k = false := by simpa using hr
    simp [rot, hr']
end Go.Cz.Dk
