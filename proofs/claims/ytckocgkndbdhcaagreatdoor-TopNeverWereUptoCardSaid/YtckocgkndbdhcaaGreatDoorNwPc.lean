/-
  Pieces of memory that a call owns: rows, and pieces put together.
-/
import Derived.Test.YtckocgkndbdhcaaGreatDoorLxA
namespace Go.Cz
open Go.RowKit
section
variable {w0 w : World} {ps : List Piece} {P Q R : Piece}
theorem Owns.merge (h : Owns w0 w (P :: Q :: ps)) (hr : ∀ S T, P.lies w S → Q.lies w T → (∀ k ∈ T, k ∉ S) → R.lies w (S ++ T)) : Owns w0 w (R :: ps) := by
  obtain ⟨h1, S, h2, h3, T, h4, h5, h6⟩ := h
  refine ⟨h1, S ++ T, hr S T h2 h4 fun k hk hx => (h5 k hk).2 (by simpa using hx), fun k hk => ⟨?_, by simp⟩, h6.mono fun k hk => ?_⟩
  · rcases List.mem_append.1 hk with hk | hk
    · exact (h3 k hk).1
    · exact (h5 k hk).1
  · simp only [List.append_nil, List.mem_append] at hk ⊢
    exact .inl hk.symm
theorem Owns.open2 (h : Owns w0 w (R :: ps)) : ∃ S, R.lies w S ∧ ∀ P Q S1 S2, P.lies w S1 → Q.lies w S2 → (∀ k ∈ S1, k ∈ S) → (∀ k ∈ S2, k ∈ S) → (∀ k ∈ S2, k ∉ S1) → Owns w0 w (P :: Q :: ps) := by
  obtain ⟨h1, S, h2, h3, h6⟩ := h
  refine ⟨S, h2, fun P Q S1 S2 a b c d e => ⟨h1, S1, a, fun k hk => ⟨(h3 k (c k hk)).1, by simp⟩, S2, b, fun k hk => ⟨(h3 k (d k hk)).1, by simpa using e k hk⟩, h6.mono fun k hk => ?_⟩⟩
  simp only [List.append_nil, List.mem_append] at hk ⊢
  rcases hk with hk | hk
  · exact .inl (d k hk)
  · exact .inl (c k hk)
end
/-- The piece at a place. -/
def pick : List Piece → Nat → Piece
  | [], _ => blk 0 (.cells #[] 0 (0, 0))
  | p :: _, 0 => p
  | _ :: ps, n + 1 => pick ps n
theorem pick_take : ∀ (k : Nat) (ps : List Piece), k ≤ ps.length → (List.range k).map (pick ps) = ps.take k
  | 0, _, _ => by simp
  | k + 1, [], h => by simp at h
  | k + 1, p :: ps, h => by
    rw [List.range_succ_eq_map, List.map_cons, List.map_map, List.take_succ_cons]
    exact congrArg (p :: ·) (pick_take k ps (by simpa using h))
/-- The first pieces in another order. -/
theorem Owns.re {w0 w : World} {ps : List Piece} (h : Owns w0 w ps) (σ : List Nat) (hσ : σ.isPerm (List.range σ.length) = true := by decide) (hk : σ.length ≤ ps.length := by first | (simp only [List.length_cons, List.length_nil]; omega) | (simp [pick]; omega) | simp [pick]) : Owns w0 w (σ.map (pick ps) ++ ps.drop σ.length) := by
  refine h.perm ?_
  have h1 : (σ.map (pick ps)).Perm (ps.take σ.length) := by
    rw [← pick_take _ _ hk]
    exact (List.isPerm_iff.1 hσ).map _
  have h2 := (h1.append_right (ps.drop σ.length)).symm
  rw [List.take_append_drop] at h2
  exact h2
/-- A row of the call's own. -/
def rowP (e : TypeId) (size : Nat) (v : Value) (n : Nat) (xs : List Value) : Piece where
  lies w S := w.ownsRow 0 e size v n xs ∧ S = v.ownBlock.toList
  lt := by
    rintro w S ⟨h, rfl⟩ k hk
    rcases h.2 with ⟨rfl, _⟩ | ⟨g, cap, cur, rfl, _, hg, _⟩
    · simp [Value.ownBlock] at hk
    · simp [Value.ownBlock] at hk
      subst hk
      exact lt_of_block hg
  keep := by
    rintro w w' S T ⟨h, rfl⟩ hm hd
    refine ⟨⟨h.1, ?_⟩, rfl⟩
    rcases h.2 with h0 | ⟨g, cap, cur, rfl, h2, hg, h4⟩
    · exact .inl h0
    · exact .inr ⟨g, cap, cur, rfl, h2, hm.heap hg (hd g (by simp [Value.ownBlock])), h4⟩
section
variable {w0 w w' : World} {ps : List Piece} {e : TypeId} {size n n' : Nat} {v v' : Value} {xs xs' : List Value}
theorem Owns.row (h : Owns w0 w (rowP e size v n xs :: ps)) : w.ownsRow 0 e size v n xs := by
  obtain ⟨S, ⟨hr, -⟩, -⟩ := h.first
  exact hr
theorem Owns.rowLit (h : Owns w0 w ps) (cs : List Value) (hn : n ≤ maxLen) (hs : cs.length = n * size) : Owns w0 (w.alloc (.cells cs.toArray e)) (rowP e size (.slice (some ⟨w.heap.size, 0, none⟩) n n) n cs :: ps) := by
  refine h.push (S := [w.heap.size]) ⟨⟨hs, .inr ⟨w.heap.size, n, cs.toArray, rfl, Nat.zero_le _, new_heap w _ _ rfl, Nat.le_refl _, hn, by simpa using hs, ?_⟩⟩, by simp [Value.ownBlock]⟩ ((Below.refl _ _).alloc (Nat.le_refl _) _) (by simp)
  rw [List.take_of_length_le (by simp; omega)]
theorem Owns.rowGrew (h : Owns w0 w (rowP e size v n xs :: ps)) (hr : w'.ownsRow 0 e size v' n' xs') (hg : w.grownBy w' v.ownBlock) (hb : v'.ownBlock = v.ownBlock ∨ v'.ownBlock = some w.heap.size) : Owns w0 w' (rowP e size v' n' xs' :: ps) := by
  obtain ⟨S, ⟨h1, rfl⟩, -, hf⟩ := h.open
  refine hf w' _ v'.ownBlock.toList ⟨hr, rfl⟩ ⟨hg.os, hg.tape, hg.output, hg.size, fun k hk hn => hg.block k hk fun e => hn (by rw [← e]; simp)⟩ fun k hk => ?_
  rcases hb with hb | hb
  · exact .inl (by rw [← hb]; exact hk)
  · rw [hb] at hk
    simp at hk
    exact .inr (by omega)
/-- Where the cells of a row stand that is not empty. -/
theorem row_at (h : w.ownsRow 0 e size v n xs) (hn : 0 < n) : ∃ g c, v = .slice (some ⟨g, 0, none⟩) n c ∧ n ≤ c ∧ c ≤ maxLen ∧ g < w.heap.size ∧ (∃ cur, w.heap[g]? = some (.cells cur e (0, 0)) ∧ cur.size = c * size) ∧ ∀ (j : Nat) (x : Value), xs[j]? = some x → w.cell? ⟨g, j, none⟩ = some x := by
  rcases h.2 with ⟨-, h0⟩ | ⟨g, c, cur, rfl, h2, h3, h4, h5, h6, h7⟩
  · omega
  · refine ⟨g, c, rfl, h4, h5, lt_of_block h3, ⟨cur, h3, h6⟩, fun j x hx => ?_⟩
    rw [cell_of_heap h3]
    rw [← h7, List.getElem?_take] at hx
    split at hx
    · simpa using hx
    · cases hx
/-- A store into a row of the call's own. -/
theorem Owns.rowSet {g c i : Nat} (h : Owns w0 w (rowP e size (.slice (some ⟨g, 0, none⟩) n c) n xs :: ps)) (x : Value) (hi : i < n * size) : Owns w0 (w.setCell ⟨g, i, none⟩ x) (rowP e size (.slice (some ⟨g, 0, none⟩) n c) n (xs.set i x) :: ps) := by
  obtain ⟨S, ⟨h1, rfl⟩, -, hf⟩ := h.open
  rcases h1.2 with ⟨h0, -⟩ | ⟨g', c', cur, hv, h2, h3, h4, h5, h6, h7⟩
  · cases h0
  · cases hv
    have h8 := setCell_heap (i := i) h3 x
    refine hf _ _ [g] ⟨⟨by simpa using h1.1, .inr ⟨g, c, _, rfl, h2, h8, h4, h5, by simpa using h6, ?_⟩⟩, by simp [Value.ownBlock]⟩ ((Mod.refl _ _).setCell (.inl (by simp [Value.ownBlock])) x) fun k hk => .inl (by simpa [Value.ownBlock] using hk)
    rw [← h7]
    apply List.ext_getElem?
    intro j
    simp only [Array.toList_setIfInBounds, List.getElem?_take, List.getElem?_set, List.length_take, Array.length_toList]
    by_cases hj : j < n * size
    · simp only [if_pos hj]
      by_cases hij : i = j
      · subst hij
        have : i < cur.size := by rw [h6]; exact Nat.lt_of_lt_of_le hi (Nat.mul_le_mul_right _ h4)
        simp [this]; omega
      · simp [hij]
    · simp only [if_neg hj]
      by_cases hij : i = j
      · omega
      · simp [hij]
end
end Go.Cz
