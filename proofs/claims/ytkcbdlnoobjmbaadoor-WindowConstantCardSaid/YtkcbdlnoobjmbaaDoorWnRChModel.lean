/-
  What the reference's 'Changes' computes, in plain Lean: the same.
-/
import Derived.Test.YtkcbdlnoobjmbaaDoorWnChModel
import Derived.Test.YtkcbdlnoobjmbaaDoorLxA
namespace Go.Cz.Wn
open Go.Cz.Ck Go.Cz.Lx
theorem sorted_ext : ∀ {a b : List Int}, a.Pairwise (· < ·) → b.Pairwise (· < ·) → (∀ x, x ∈ a ↔ x ∈ b) → a = b
  | [], [], _, _, _ => rfl
  | [], b :: r, _, _, h => by have := (h b).2 (by simp); simp at this
  | a :: r, [], _, _, h => by have := (h a).1 (by simp); simp at this
  | a :: r, b :: s, ha, hb, h => by
    obtain ⟨ha1, ha2⟩ := List.pairwise_cons.1 ha
    obtain ⟨hb1, hb2⟩ := List.pairwise_cons.1 hb
    have e : a = b := by
      rcases List.mem_cons.1 ((h a).1 (by simp)) with e | h1
      · exact e
      · rcases List.mem_cons.1 ((h b).2 (by simp)) with e | h2
        · exact e.symm
        · have := ha1 b h2; have := hb1 a h1; omega
    subst e
    rw [sorted_ext ha2 hb2 fun x => ⟨fun hx => ?_, fun hx => ?_⟩]
    · rcases List.mem_cons.1 ((h x).1 (by simp [hx])) with e | h1
      · have := ha1 x hx; omega
      · exact h1
    · rcases List.mem_cons.1 ((h x).2 (by simp [hx])) with e | h1
      · have := hb1 x hx; omega
      · exact h1
/-- The reference's 'put'. -/
def rputF (t : Int) (xs : List Int) : List Int := if t < 0 then xs else insF t xs
theorem rputF_mem {t y : Int} {xs : List Int} : y ∈ rputF t xs ↔ y ∈ xs ∨ (0 ≤ t ∧ y = t) := by
  unfold rputF
  split
  · constructor
    · exact .inl
    · rintro (h | ⟨h, -⟩)
      · exact h
      · omega
  · rw [insF_mem]
    constructor
    · rintro (h | h)
      · exact .inr ⟨by omega, h⟩
      · exact .inl h
    · rintro (h | ⟨-, h⟩)
      · exact .inr h
      · exact .inl h
theorem rputF_sorted {t : Int} {xs : List Int} (h : xs.Pairwise (· < ·)) : (rputF t xs).Pairwise (· < ·) := by
  unfold rputF
  split
  · exact h
  · exact insF_sorted h
theorem rputF_len (t : Int) (xs : List Int) : (rputF t xs).length ≤ xs.length + 1 := by
  unfold rputF
  split
  · omega
  · exact insF_len _ _
theorem beginsF_mem {l : List Shift} (hv : validB l = true) {y : Int} : ∀ {ds xs : List Int}, y ∈ beginsF l ds xs ↔ y ∈ xs ∨ ∃ d ∈ ds, 0 ≤ beginF l d ∧ y = beginF l d
  | [], xs => by simp [beginsF]
  | d :: ds, xs => by
    show y ∈ beginsF l ds (if (instF l d 0).2 = 0 then insF (instF l d 0).1 xs else xs) ↔ _
    rw [beginsF_mem hv (ds := ds)]
    have hb : (y ∈ if (instF l d 0).2 = 0 then insF (instF l d 0).1 xs else xs) ↔ y ∈ xs ∨ (0 ≤ beginF l d ∧ y = beginF l d) := by
      unfold beginF
      rcases inst_ok hv d with ⟨h1, h2, h3⟩ | ⟨h1, h2⟩
      · rw [if_pos h1, if_pos h1, insF_mem]
        constructor
        · rintro (h | h)
          · exact .inr ⟨h2, h⟩
          · exact .inl h
        · rintro (h | ⟨-, h⟩)
          · exact .inr h
          · exact .inl h
      · rw [if_neg (by omega), if_neg (by omega)]
        constructor
        · exact .inl
        · rintro (h | ⟨h, -⟩)
          · exact h
          · omega
    rw [hb]
    simp only [List.mem_cons, exists_eq_or_imp]
    constructor
    · rintro ((h | h) | h)
      · exact .inl h
      · exact .inr (.inl h)
      · exact .inr (.inr h)
    · rintro (h | h | h)
      · exact .inl (.inl h)
      · exact .inl (.inr h)
      · exact .inr h
/-- What the reference does for a measure. -/
def rstep1 (l : List Shift) (fr : Int) (xs : List Int) : List Int := rputF (beginF l fr) xs
def rstep2 (l : List Shift) (fr un : Int) (xs : List Int) : List Int := if 0 ≤ un then rputF (beginF l un) (rstep1 l fr xs) else rstep1 l fr xs
def rstep (l : List Shift) (m : Ms) (xs : List Int) : List Int := if 0 < m.wi then rputF (beginF l (m.fr + m.wi)) (rstep2 l m.fr m.un xs) else rstep2 l m.fr m.un xs
theorem rstep_eq {l : List Shift} {m : Ms} {xs : List Int} (hv : validB l = true) (hd : datedB m.kind m.fr m.un m.wi = true) (hs : xs.Pairwise (· < ·)) : rstep l m xs = beginsF l (daysF m) xs := by
  obtain ⟨-, -, hw, -⟩ := dated_in hd
  have s1 : (rstep1 l m.fr xs).Pairwise (· < ·) := rputF_sorted hs
  have s2 : (rstep2 l m.fr m.un xs).Pairwise (· < ·) := by
    unfold rstep2
    split
    · exact rputF_sorted s1
    · exact s1
  have s3 : (rstep l m xs).Pairwise (· < ·) := by
    unfold rstep
    split
    · exact rputF_sorted s2
    · exact s2
  refine sorted_ext s3 (beginsF_sorted l _ _ hs) fun y => ?_
  rw [beginsF_mem hv]
  have h2 : y ∈ rstep2 l m.fr m.un xs ↔ y ∈ xs ∨ (0 ≤ beginF l m.fr ∧ y = beginF l m.fr) ∨ (0 ≤ m.un ∧ 0 ≤ beginF l m.un ∧ y = beginF l m.un) := by
    unfold rstep2 rstep1
    by_cases hu : 0 ≤ m.un
    · rw [if_pos hu, rputF_mem, rputF_mem, or_assoc]; simp [hu]
    · rw [if_neg hu, rputF_mem]; simp [hu]
  have h3 : y ∈ rstep l m xs ↔ y ∈ xs ∨ (0 ≤ beginF l m.fr ∧ y = beginF l m.fr) ∨ (0 ≤ m.un ∧ 0 ≤ beginF l m.un ∧ y = beginF l m.un) ∨ (0 ≤ beginF l (m.fr + m.wi) ∧ y = beginF l (m.fr + m.wi)) := by
    unfold rstep
    by_cases hu : 0 < m.wi
    · rw [if_pos hu, rputF_mem, h2, or_assoc, or_assoc]
    · have h0 : m.fr + m.wi = m.fr := by omega
      rw [if_neg hu, h2, h0]
      constructor
      · rintro (h | h | h)
        · exact .inl h
        · exact .inr (.inl h)
        · exact .inr (.inr (.inl h))
      · rintro (h | h | h | h)
        · exact .inl h
        · exact .inr (.inl h)
        · exact .inr (.inr h)
        · exact .inr (.inl h)
  rw [h3]
  have h4 : ∀ p : Int → Prop, (∃ d ∈ daysF m, p d) ↔ p m.fr ∨ p (m.fr + m.wi) ∨ (0 ≤ m.un ∧ p m.un) := by
    intro p
    unfold daysF
    by_cases hu : 0 ≤ m.un
    · rw [if_pos hu]; simp [hu]
    · rw [if_neg hu]; simp [hu]
  rw [h4 fun d => 0 ≤ beginF l d ∧ y = beginF l d]
  constructor
  · rintro (h | h | h | h)
    · exact .inl h
    · exact .inr (.inl h)
    · exact .inr (.inr (.inr h))
    · exact .inr (.inr (.inl h))
  · rintro (h | h | h | h)
    · exact .inl h
    · exact .inr (.inl h)
    · exact .inr (.inr (.inr h))
    · exact .inr (.inr (.inl h))
/-- Where the reference's 'put' stops. -/
theorem put_stop {xs : List Int} {t : Int} {i : Nat} (hs : xs.Pairwise (· < ·)) (h1 : ∀ j, j < i → ∀ y, xs[j]? = some y → y < t) (h2 : ∀ y, xs[i]? = some y → t < y) (hi : i ≤ xs.length) : insF t xs = xs.take i ++ t :: xs.drop i := by
  have a1 : ∀ y ∈ xs.take i, y < t := fun y hy => by
    obtain ⟨j, hj, rfl⟩ := List.mem_iff_getElem.1 hy
    have hj2 : j < i := by rw [List.length_take] at hj; omega
    refine h1 j hj2 _ ?_
    rw [List.getElem_take]
    exact List.getElem?_eq_getElem _
  have a2 : ∀ y ∈ xs.drop i, t < y := fun y hy => by
    have hp : (xs.drop i).Pairwise (· < ·) := hs.drop
    rcases hd : xs.drop i with _ | ⟨z, r⟩
    · rw [hd] at hy; simp at hy
    · have hz : xs[i]? = some z := by
        have := congrArg (·[0]?) hd
        simpa using this
      have := h2 z hz
      rw [hd] at hy hp
      rcases List.mem_cons.1 hy with rfl | hy
      · exact this
      · have := (List.pairwise_cons.1 hp).1 y hy; omega
  have e : xs.take i ++ xs.drop i = xs := List.take_append_drop _ _
  have hn : t ∉ xs := by
    rw [← e, List.mem_append]
    rintro (h | h)
    · have := a1 t h; omega
    · have := a2 t h; omega
  have hc : xs.countP (· < t) = i := by
    conv => lhs; rw [← e]
    rw [List.countP_append, List.countP_eq_length.2 (fun y hy => by simpa using a1 y hy), List.countP_eq_zero.2 (fun y hy => by have := a2 y hy; simp; omega), List.length_take]
    omega
  unfold insF
  rw [if_neg (by simpa using hn), hc]
theorem idxFromS_get (x : ByteArray) : ∀ (zs : List ByteArray) (i k : Nat), Lib.idxFromS zs x i = ((i + k : Nat) : Int) → zs.getD k ByteArray.empty = x
  | [], i, k, h => by simp [Lib.idxFromS] at h; omega
  | z :: zs, i, k, h => by
    unfold Lib.idxFromS at h
    by_cases hz : z = x
    · rw [if_pos hz] at h
      have : k = 0 := by omega
      subst this
      simpa using hz
    · rw [if_neg hz] at h
      rcases k with _ | k
      · exfalso
        rcases idxFromS_lt x zs (i + 1) with h1 | ⟨h1, -⟩
        · omega
        · omega
      · have := idxFromS_get x zs (i + 1) k (by rw [h]; congr 1; omega)
        simpa using this
/-- Authorities that are told apart. -/
theorem idx_is {au : List ByteArray} {x : ByteArray} {k : Nat} (hk : k < au.length) (hd : ∀ i, i < au.length → Lib.containsS (au.take i) (au.getD i ByteArray.empty) = false) : (au.getD k ByteArray.empty = x) ↔ Lib.idxOfS au x = k := by
  constructor
  · intro h
    have hn : ∀ j, j < k → au.getD j ByteArray.empty ≠ x := fun j hj he => by
      have h1 := hd k hk
      have h2 : Lib.containsS (au.take k) (au.getD k ByteArray.empty) = true := by
        rw [Lib.containsS_iff, h, ← he, ← Lib.getD_takeS au k j hj, List.getD_eq_getElem?_getD, List.getElem?_eq_getElem (by rw [List.length_take]; omega)]
        exact List.getElem_mem _
      rw [h1] at h2
      cases h2
    have := Lib.idxOfS_hit au au.length k x hk (Nat.le_refl _) h hn
    rwa [List.take_length] at this
  · intro h
    have := idxFromS_get x au 0 k (by unfold Lib.idxOfS at h; rw [h]; simp)
    exact this
end Go.Cz.Wn
