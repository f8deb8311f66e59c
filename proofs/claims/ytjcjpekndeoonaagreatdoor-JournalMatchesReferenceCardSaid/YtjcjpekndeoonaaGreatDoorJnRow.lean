/-
  A row of texts as a piece of memory.
-/
import Derived.Test.YtjcjpekndeoonaaGreatDoorJnLong
namespace Go.Proofs.YtjcjpekndeoonaaGreatDoor
open Go.RowKit Go.Cz Go.Cz.Jn
set_option linter.unusedSimpArgs false
set_option linter.unusedVariables false
def trow (v : Value) (l : List Bytes) : Piece where
  lies w S := w.ownsRow 0 9 1 v l.length (tcs l) ∧ S = v.ownBlock.toList
  lt := by
    rintro w S ⟨h, rfl⟩ k hk
    rcases h.2 with ⟨rfl, _⟩ | ⟨g, cap, cur, rfl, _, hg, _⟩
    · simp [Value.ownBlock] at hk
    · simp [Value.ownBlock] at hk
      subst hk
      exact lt_of_block hg
  keep := by
    rintro w w' S T ⟨h, rfl⟩ hm hd
    refine ⟨⟨h.1, ?_⟩, rfl⟩
    rcases h.2 with h0 | ⟨g, cap, cur, rfl, h2, hg, h4⟩
    · exact .inl h0
    · exact .inr ⟨g, cap, cur, rfl, h2, hm.heap hg (hd g (by simp [Value.ownBlock])), h4⟩
section
variable {w0 w w' : World} {ps : List Piece} {v : Value} {l : List Bytes}
theorem Owns.trow (h : Owns w0 w ps) (ht : TRow w w' v l) : Owns w0 w' (trow v l :: ps) :=
  h.push (Q := Go.Proofs.YtjcjpekndeoonaaGreatDoor.trow v l) ⟨ht.row, rfl⟩ ht.below fun k hk => ht.new k (by simpa [Option.mem_toList] using hk)
theorem Owns.texts (h : Owns w0 w (Go.Proofs.YtjcjpekndeoonaaGreatDoor.trow v l :: ps)) : ∃ x n c, v = .slice x n c ∧ IsTexts w x n l := by
  obtain ⟨S, ⟨hr, -⟩, -⟩ := h.first
  rcases hr.2 with ⟨hv, h0⟩ | ⟨g, cap, cur, hv, h2, hg, h4, h5, h6, h7⟩
  · exact ⟨none, 0, 0, hv, h0, .inl rfl⟩
  · refine ⟨_, _, _, hv, rfl, .inr ⟨g, 0, rfl, lt_of_block hg, fun j s hj => ?_⟩⟩
    rw [Nat.zero_add, cell_of_heap hg]
    have h8 : (tcs l)[j]? = some (.string (bs s)) := by simp [tcs, hj]
    rw [← h7, List.getElem?_take] at h8
    split at h8
    · simpa using h8
    · cases h8
end
end Go.Proofs.YtjcjpekndeoonaaGreatDoor
