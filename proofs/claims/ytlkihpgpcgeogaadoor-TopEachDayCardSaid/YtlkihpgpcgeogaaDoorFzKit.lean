/-
  A frozen account in memory; its small functions.
-/
import Derived.Test.YtlkihpgpcgeogaaDoorTdModel
import Derived.Test.YtlkihpgpcgeogaaDoorLxA
namespace Go.Cz
open Go.RowKit
section
variable {w0 w : World} {ps : List Piece} {P Q R : Piece}
theorem Owns.merge (h : Owns w0 w (P :: Q :: ps)) (hr : ∀ S T, P.lies w S → Q.lies w T → (∀ k ∈ T, k ∉ S) → R.lies w (S ++ T)) : Owns w0 w (R :: ps) := by
  obtain ⟨h1, S, h2, h3, T, h4, h5, h6⟩ := h
  refine ⟨h1, S ++ T, hr S T h2 h4 fun k hk hx => (h5 k hk).2 (by simpa using hx), fun k hk => ⟨?_, by simp⟩, h6.mono fun k hk => ?_⟩
  · rcases List.mem_append.1 hk with hk | hk
    · exact (h3 k hk).1
    · exact (h5 k hk).1
  · simp only [List.append_nil, List.mem_append] at hk ⊢
    exact .inl hk.symm
theorem Owns.open2 (h : Owns w0 w (R :: ps)) : ∃ S, R.lies w S ∧ ∀ P Q S1 S2, P.lies w S1 → Q.lies w S2 → (∀ k ∈ S1, k ∈ S) → (∀ k ∈ S2, k ∈ S) → (∀ k ∈ S2, k ∉ S1) → Owns w0 w (P :: Q :: ps) := by
  obtain ⟨h1, S, h2, h3, h6⟩ := h
  refine ⟨S, h2, fun P Q S1 S2 a b c d e => ⟨h1, S1, a, fun k hk => ⟨(h3 k (c k hk)).1, by simp⟩, S2, b, fun k hk => ⟨(h3 k (d k hk)).1, by simpa using e k hk⟩, h6.mono fun k hk => ?_⟩⟩
  simp only [List.append_nil, List.mem_append] at hk ⊢
  rcases hk with hk | hk
  · exact .inl (d k hk)
  · exact .inl (c k hk)
end
/-- The piece at a place. -/
def pick : List Piece → Nat → Piece
  | [], _ => blk 0 (.cells #[] 0 (0, 0))
  | p :: _, 0 => p
  | _ :: ps, n + 1 => pick ps n
theorem pick_take : ∀ (k : Nat) (ps : List Piece), k ≤ ps.length → (List.range k).map (pick ps) = ps.take k
  | 0, _, _ => by simp
  | k + 1, [], h => by simp at h
  | k + 1, p :: ps, h => by
    rw [List.range_succ_eq_map, List.map_cons, List.map_map, List.take_succ_cons]
    exact congrArg (p :: ·) (pick_take k ps (by simpa using h))
/-- The first pieces in another order. -/
theorem Owns.re {w0 w : World} {ps : List Piece} (h : Owns w0 w ps) (σ : List Nat) (hσ : σ.isPerm (List.range σ.length) = true := by decide) (hk : σ.length ≤ ps.length := by first | (simp only [List.length_cons, List.length_nil]; omega) | (simp [pick]; omega) | simp [pick]) : Owns w0 w (σ.map (pick ps) ++ ps.drop σ.length) := by
  refine h.perm ?_
  have h1 : (σ.map (pick ps)).Perm (ps.take σ.length) := by
    rw [← pick_take _ _ hk]
    exact (List.isPerm_iff.1 hσ).map _
  have h2 := (h1.append_right (ps.drop σ.length)).symm
  rw [List.take_append_drop] at h2
  exact h2
/-- A row of the call's own. -/
def rowP (e : TypeId) (size : Nat) (v : Value) (n : Nat) (xs : List Value) : Piece where
  lies w S := w.ownsRow 0 e size v n xs ∧ S = v.ownBlock.toList
  lt := by
    rintro w S ⟨h, rfl⟩ k hk
    rcases h.2 with ⟨rfl, _⟩ | ⟨g, cap, cur, rfl, _, hg, _⟩
    · simp [Value.ownBlock] at hk
    · simp [Value.ownBlock] at hk
      subst hk
      exact lt_of_block hg
  keep := by
    rintro w w' S T ⟨h, rfl⟩ hm hd
    refine ⟨⟨h.1, ?_⟩, rfl⟩
    rcases h.2 with h0 | ⟨g, cap, cur, rfl, h2, hg, h4⟩
    · exact .inl h0
    · exact .inr ⟨g, cap, cur, rfl, h2, hm.heap hg (hd g (by simp [Value.ownBlock])), h4⟩
section
variable {w0 w w' : World} {ps : List Piece} {e : TypeId} {size n n' : Nat} {v v' : Value} {xs xs' : List Value}
theorem Owns.row (h : Owns w0 w (rowP e size v n xs :: ps)) : w.ownsRow 0 e size v n xs := by
  obtain ⟨S, ⟨hr, -⟩, -⟩ := h.first
  exact hr
theorem Owns.rowLit (h : Owns w0 w ps) (cs : List Value) (hn : n ≤ maxLen) (hs : cs.length = n * size) : Owns w0 (w.alloc (.cells cs.toArray e)) (rowP e size (.slice (some ⟨w.heap.size, 0, none⟩) n n) n cs :: ps) := by
  refine h.push (S := [w.heap.size]) ⟨⟨hs, .inr ⟨w.heap.size, n, cs.toArray, rfl, Nat.zero_le _, new_heap w _ _ rfl, Nat.le_refl _, hn, by simpa using hs, ?_⟩⟩, by simp [Value.ownBlock]⟩ ((Below.refl _ _).alloc (Nat.le_refl _) _) (by simp)
  rw [List.take_of_length_le (by simp; omega)]
theorem Owns.rowGrew (h : Owns w0 w (rowP e size v n xs :: ps)) (hr : w'.ownsRow 0 e size v' n' xs') (hg : w.grownBy w' v.ownBlock) (hb : v'.ownBlock = v.ownBlock ∨ v'.ownBlock = some w.heap.size) : Owns w0 w' (rowP e size v' n' xs' :: ps) := by
  obtain ⟨S, ⟨h1, rfl⟩, -, hf⟩ := h.open
  refine hf w' _ v'.ownBlock.toList ⟨hr, rfl⟩ ⟨hg.os, hg.tape, hg.output, hg.size, fun k hk hn => hg.block k hk fun e => hn (by rw [← e]; simp)⟩ fun k hk => ?_
  rcases hb with hb | hb
  · exact .inl (by rw [← hb]; exact hk)
  · rw [hb] at hk
    simp at hk
    exact .inr (by omega)
/-- Where the cells of a row stand that is not empty. -/
theorem row_at (h : w.ownsRow 0 e size v n xs) (hn : 0 < n) : ∃ g c, v = .slice (some ⟨g, 0, none⟩) n c ∧ n ≤ c ∧ c ≤ maxLen ∧ g < w.heap.size ∧ (∃ cur, w.heap[g]? = some (.cells cur e (0, 0)) ∧ cur.size = c * size) ∧ ∀ (j : Nat) (x : Value), xs[j]? = some x → w.cell? ⟨g, j, none⟩ = some x := by
  rcases h.2 with ⟨-, h0⟩ | ⟨g, c, cur, rfl, h2, h3, h4, h5, h6, h7⟩
  · omega
  · refine ⟨g, c, rfl, h4, h5, lt_of_block h3, ⟨cur, h3, h6⟩, fun j x hx => ?_⟩
    rw [cell_of_heap h3]
    rw [← h7, List.getElem?_take] at hx
    split at hx
    · simpa using hx
    · cases hx
/-- A store into a row of the call's own. -/
theorem Owns.rowSet {g c i : Nat} (h : Owns w0 w (rowP e size (.slice (some ⟨g, 0, none⟩) n c) n xs :: ps)) (x : Value) (hi : i < n * size) : Owns w0 (w.setCell ⟨g, i, none⟩ x) (rowP e size (.slice (some ⟨g, 0, none⟩) n c) n (xs.set i x) :: ps) := by
  obtain ⟨S, ⟨h1, rfl⟩, -, hf⟩ := h.open
  rcases h1.2 with ⟨h0, -⟩ | ⟨g', c', cur, hv, h2, h3, h4, h5, h6, h7⟩
  · cases h0
  · cases hv
    have h8 := setCell_heap (i := i) h3 x
    refine hf _ _ [g] ⟨⟨by simpa using h1.1, .inr ⟨g, c, _, rfl, h2, h8, h4, h5, by simpa using h6, ?_⟩⟩, by simp [Value.ownBlock]⟩ ((Mod.refl _ _).setCell (.inl (by simp [Value.ownBlock])) x) fun k hk => .inl (by simpa [Value.ownBlock] using hk)
    rw [← h7]
    apply List.ext_getElem?
    intro j
    simp only [Array.toList_setIfInBounds, List.getElem?_take, List.getElem?_set, List.length_take, Array.length_toList]
    by_cases hj : j < n * size
    · simp only [if_pos hj]
      by_cases hij : i = j
      · subst hij
        have : i < cur.size := by rw [h6]; exact Nat.lt_of_lt_of_le hi (Nat.mul_le_mul_right _ h4)
        simp [this]; omega
      · simp [hij]
    · simp only [if_neg hj]
      by_cases hij : i = j
      · omega
      · simp [hij]
end
end Go.Cz
namespace Go.Proofs.YtlkihpgpcgeogaaDoor
open Go.RowKit Go.Cz Go.Cz.Td
set_option linter.unusedSimpArgs false
set_option linter.unusedVariables false
attribute [local irreducible] cList cPlan
def mvl (m : Mv) : List Value := [.int .i64 m.1, .int .i64 m.2]
def mcs (ms : List Mv) : List Value := ms.flatMap mvl
theorem mcs_at : ∀ (L : List Mv) (j : Nat) (x : Mv), L[j]? = some x → (mcs L)[j * 2]? = some (.int .i64 x.1) ∧ (mcs L)[j * 2 + 1]? = some (.int .i64 x.2)
  | [], j, x, h => by simp at h
  | a :: r, 0, x, h => by
    simp at h
    subst h
    simp [mcs, mvl]
  | a :: r, j + 1, x, h => by
    have h1 := mcs_at r j x (by simpa using h)
    have e : mcs (a :: r) = mvl a ++ mcs r := rfl
    rw [e, List.getElem?_append_right (by simp [mvl]; omega), List.getElem?_append_right (by simp [mvl]; omega)]
    have e1 : (j + 1) * 2 - (mvl a).length = j * 2 := by simp [mvl]; omega
    have e2 : (j + 1) * 2 + 1 - (mvl a).length = j * 2 + 1 := by simp [mvl]; omega
    rw [e1, e2]
    exact h1
theorem mcs_len : ∀ L : List Mv, (mcs L).length = L.length * 2
  | [] => rfl
  | a :: r => by
    have e : mcs (a :: r) = mvl a ++ mcs r := rfl
    rw [e, List.length_append, mcs_len r, List.length_cons]; simp [mvl]; omega
theorem mcs_append (L : List Mv) (m : Mv) : mcs (L ++ [m]) = mcs L ++ [.int .i64 m.1, .int .i64 m.2] := by simp [mcs, mvl]
abbrev aobj (a : Acc) (v : Value) : Obj := .cells #[.int .i64 a.r0, .int .i64 a.r1, v, .bool a.closed] 57 (0, 0)
abbrev mrow (v : Value) (ms : List Mv) : Piece := rowP 54 2 v ms.length (mcs ms)
/-- An account. -/
def accP (b : Nat) (a : Acc) : Piece where
  lies w S := ∃ v, S = b :: v.ownBlock.toList ∧ w.heap[b]? = some (aobj a v) ∧ w.ownsRow 0 54 2 v a.ms.length (mcs a.ms) ∧ ∀ k ∈ v.ownBlock.toList, k ≠ b
  lt := by
    rintro w S ⟨v, rfl, h1, h2, h3⟩ k hk
    rcases List.mem_cons.1 hk with rfl | hk
    · exact lt_of_block h1
    · exact (rowP 54 2 v a.ms.length (mcs a.ms)).lt ⟨h2, rfl⟩ k hk
  keep := by
    rintro w w' S T ⟨v, rfl, h1, h2, h3⟩ hm hd
    exact ⟨v, rfl, hm.heap h1 (hd b (by simp)), ((rowP 54 2 v a.ms.length (mcs a.ms)).keep ⟨h2, rfl⟩ hm fun k hk => hd k (List.mem_cons_of_mem _ hk)).1, h3⟩
end Go.Proofs.YtlkihpgpcgeogaaDoor
namespace Go.Cz
open Go.RowKit Go.Cz.Td Go.Proofs.YtlkihpgpcgeogaaDoor
section
variable {w0 w : World} {ps : List Piece} {b : Nat} {a : Acc} {v : Value}
theorem Owns.acc (h : Owns w0 w (accP b a :: ps)) : ∃ v, Owns w0 w (Cz.blk b (aobj a v) :: mrow v a.ms :: ps) := by
  obtain ⟨S, ⟨v, rfl, h1, h2, h3⟩, hf⟩ := h.open2
  exact ⟨v, hf (Cz.blk b (aobj a v)) (mrow v a.ms) [b] v.ownBlock.toList ⟨rfl, h1⟩ ⟨h2, rfl⟩ (by simp) (fun k hk => by simp [hk]) (fun k hk => by simpa using h3 k hk)⟩
theorem Owns.asAcc (h : Owns w0 w (Cz.blk b (aobj a v) :: mrow v a.ms :: ps)) : Owns w0 w (accP b a :: ps) :=
  h.merge fun S T h1 h2 h3 => by
    obtain ⟨rfl, h1⟩ := h1
    obtain ⟨h2, rfl⟩ := h2
    exact ⟨v, rfl, h1, h2, fun k hk => by simpa using h3 k hk⟩
end
end Go.Cz
namespace Go.Proofs.YtlkihpgpcgeogaaDoor
open Go.RowKit Go.Cz Go.Cz.Td
set_option linter.unusedSimpArgs false
set_option linter.unusedVariables false
attribute [local irreducible] cList cPlan
theorem within_c (n lo hi : Int) (w : World) : Calls Tryd.prog 17 #[.int .i64 n, .int .i64 lo, .int .i64 hi] w fun e w' => e = .returned (.bool (inB n lo hi)) ∧ w' = w := by
  by_cases h1 : lo ≤ n
  · by_cases h2 : n ≤ hi
    · have HE : Hid (inB n lo hi = true) := Lib.hid (inB_iff.2 ⟨h1, h2⟩)
      go_enter Tryd.func17, Tryd.ntmps17
      go_wp2_with fail
      go_ret
      exact ⟨by rw [HE.out]; rfl, rfl⟩
    · have HE : Hid (inB n lo hi = false) := Lib.hid (by simp [inB, h2])
      go_enter Tryd.func17, Tryd.ntmps17
      go_wp2_with fail
      go_ret
      exact ⟨by rw [HE.out]; rfl, rfl⟩
  · have HE : Hid (inB n lo hi = false) := Lib.hid (by simp [inB, h1])
    go_enter Tryd.func17, Tryd.ntmps17
    go_wp2_with fail
    go_ret
    exact ⟨by rw [HE.out]; rfl, rfl⟩
theorem isDay_c (d : Int) (w : World) : Calls Tryd.prog 18 #[.int .i64 d] w fun e w' => e = .returned (.bool (isDay d)) ∧ w' = w := by
  have HE : Hid (inB d 0 100000 = isDay d) := rfl
  go_enter Tryd.func18, Tryd.ntmps18
  go_wp2_with fail
  go_at_call 17
  refine (within_c d 0 100000 w).mono ?_
  rintro e w1 ⟨rfl, rfl⟩
  rw [HE.out]
  go_wp2_with fail
  go_ret
  exact ⟨rfl, rfl⟩
def openE (a : Acc) : Nat := if a.closed then 29 else 0
theorem open_c {w0 : World} {ps : List Piece} {b : Nat} {a : Acc} {v : Value} (w : World) (h : Owns w0 w (blk b (aobj a v) :: ps)) : Calls Tryd.prog 21 #[.pointer (some ⟨b, 0, none⟩)] w fun e w' => e = .returned (.int .i64 (openE a : Nat)) ∧ w' = w := by
  obtain ⟨r0, r1, ms, closed⟩ := a
  obtain ⟨bk, -⟩ := h.blk
  have hba := lt_of_block bk
  have ca0 := cell_of_heap bk (i := 0)
  have ca1 := cell_of_heap bk (i := 1)
  have ca2 := cell_of_heap bk (i := 2)
  have ca3 := cell_of_heap bk (i := 3)
  have fa2 := free_of_heap bk (i := 2)
  have fa3 := free_of_heap bk (i := 3)
  simp only [List.getElem?_toArray, List.getElem?_cons_succ, List.getElem?_cons_zero] at ca0 ca1 ca2 ca3
  clear bk
  clear h
  cases closed
  · have HE : Hid (openE ⟨r0, r1, ms, false⟩ = 0) := rfl
    go_enter Tryd.func21, Tryd.ntmps21
    go_wp2_with fail
    go_ret
    exact ⟨by rw [HE.out]; rfl, rfl⟩
  · have HE : Hid (openE ⟨r0, r1, ms, true⟩ = 29) := rfl
    go_enter Tryd.func21, Tryd.ntmps21
    go_wp2_with fail
    go_ret
    exact ⟨by rw [HE.out]; rfl, rfl⟩
theorem allowed_c (p d u : Value) (lic : Bool) (w : World) : Calls Tryd.prog 29 #[.agg #[p, d, u, .bool lic]] w fun e w' => e = .returned (.int .i64 (if lic = true then 0 else 20)) ∧ Below w.heap.size w w' := by
  cases lic
  · go_enter Tryd.func29, Tryd.ntmps29
    go_wp2_with fail
    go_ret
    exact ⟨rfl, by repeat (first | exact Below.refl _ _ | (refine Below.drew ?_) | (refine Below.alloc ?_ (by (try simp only [World.size_alloc, World.size_setCell, World.size_drew] at *); omega) _) | (refine Below.setCell ?_ (by (try simp only [World.size_alloc, World.size_setCell, World.size_drew] at *); omega) _))⟩
  · go_enter Tryd.func29, Tryd.ntmps29
    go_wp2_with fail
    go_ret
    exact ⟨rfl, by repeat (first | exact Below.refl _ _ | (refine Below.drew ?_) | (refine Below.alloc ?_ (by (try simp only [World.size_alloc, World.size_setCell, World.size_drew] at *); omega) _) | (refine Below.setCell ?_ (by (try simp only [World.size_alloc, World.size_setCell, World.size_drew] at *); omega) _))⟩
end Go.Proofs.YtlkihpgpcgeogaaDoor
