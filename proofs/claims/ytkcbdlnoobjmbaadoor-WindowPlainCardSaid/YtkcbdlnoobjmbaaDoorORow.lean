/-
  A row that a call makes for itself by append.
-/
import Derived.Test.YtkcbdlnoobjmbaaDoorMem
namespace Go.Cz
open Go.RowKit
structure ORow (e : TypeId) (size : Nat) (V wr : World) (v : Value) (n : Nat) (xs : List Value) : Prop where
  row : wr.ownsRow 0 e size v n xs
  new : ∀ k, v.ownBlock = some k → V.heap.size ≤ k
  below : Below V.heap.size V wr
section
variable {e : TypeId} {size : Nat} {V wr w1 w2 W : World} {v v' : Value} {n m : Nat} {xs ys : List Value}
theorem ORow.nil (hb : Below V.heap.size V wr) : ORow e size V wr (.slice none 0 0) 0 [] :=
  ⟨⟨by simp, .inl ⟨rfl, rfl⟩⟩, fun k hk => (by cases hk), hb⟩
theorem ownsRow_keep {b : Nat} (h : wr.ownsRow b e size v n xs) (hb : Below wr.heap.size wr W) : W.ownsRow b e size v n xs := by
  refine ⟨h.1, ?_⟩
  rcases h.2 with h0 | ⟨g, cap, cur, h1, h2, h3, h4⟩
  · exact .inl h0
  · exact .inr ⟨g, cap, cur, h1, h2, (hb.block g (lt_of_block h3)).trans h3, h4⟩
theorem ORow.keep (h : ORow e size V wr v n xs) (hb : Below wr.heap.size wr W) : ORow e size V W v n xs :=
  ⟨ownsRow_keep h.row hb, h.new, h.below.trans (hb.mono h.below.size)⟩
theorem ORow.step (h : ORow e size V wr v n xs) (hrow : W.ownsRow 0 e size v' m ys) (hgrow : wr.grownBy W v.ownBlock) (hblk : v'.ownBlock = v.ownBlock ∨ v'.ownBlock = some wr.heap.size) : ORow e size V W v' m ys := by
  refine ⟨hrow, fun k hk => ?_, h.below.grown hgrow h.below.size h.new⟩
  rcases hblk with e | e
  · exact h.new k (by rw [← e]; exact hk)
  · rw [e] at hk
    cases hk
    exact h.below.size
theorem ORow.form (h : ORow e size V wr v n xs) : ∃ a c, v = .slice a n c := by
  rcases h.row.2 with ⟨h1, h2⟩ | ⟨g, c, cur, h1, -⟩
  · exact ⟨none, 0, by rw [h1, h2]⟩
  · exact ⟨_, c, h1⟩
/-- Where its cells stand. -/
theorem ORow.at (h : ORow e size V wr v n xs) : (v = .slice none 0 0 ∧ n = 0) ∨ ∃ g c, v = .slice (some ⟨g, 0, none⟩) n c ∧ n ≤ c ∧ V.heap.size ≤ g ∧ g < wr.heap.size ∧ ∀ (j : Nat) (x : Value), xs[j]? = some x → wr.cell? ⟨g, j, none⟩ = some x := by
  rcases h.row.2 with h0 | ⟨g, c, cur, rfl, h2, h3, h4, h5, h6, h7⟩
  · exact .inl h0
  · refine .inr ⟨g, c, rfl, h4, h.new g rfl, lt_of_block h3, fun j x hx => ?_⟩
    rw [cell_of_heap h3]
    rw [← h7, List.getElem?_take] at hx
    split at hx
    · simpa using hx
    · cases hx
end
end Go.Cz
