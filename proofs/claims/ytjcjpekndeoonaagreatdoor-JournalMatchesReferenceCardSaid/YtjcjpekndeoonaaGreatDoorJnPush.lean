/-
  A row of texts that grows, among other pieces; a row of one text.
-/
import Derived.Test.YtjcjpekndeoonaaGreatDoorJnRecs
namespace Go.Proofs.YtjcjpekndeoonaaGreatDoor
open Go.RowKit Go.Cz Go.Cz.Jn
set_option linter.unusedSimpArgs false
set_option linter.unusedVariables false
section
variable {w0 w w' : World} {ps : List Piece} {v v' : Value} {l l' : List Bytes}
theorem Owns.row (h : Owns w0 w (Go.Proofs.YtjcjpekndeoonaaGreatDoor.trow v l :: ps)) : w.ownsRow 0 9 1 v l.length (tcs l) := by
  obtain ⟨S, ⟨hr, -⟩, -⟩ := h.first
  exact hr
/-- A row has grown. -/
theorem Owns.grew (h : Owns w0 w (Go.Proofs.YtjcjpekndeoonaaGreatDoor.trow v l :: ps)) (hr : w'.ownsRow 0 9 1 v' l'.length (tcs l')) (hg : w.grownBy w' v.ownBlock) (hb : v'.ownBlock = v.ownBlock ∨ v'.ownBlock = some w.heap.size) : Owns w0 w' (Go.Proofs.YtjcjpekndeoonaaGreatDoor.trow v' l' :: ps) := by
  obtain ⟨S, ⟨h1, rfl⟩, -, hf⟩ := h.open
  refine hf w' _ v'.ownBlock.toList ⟨hr, rfl⟩ ⟨hg.os, hg.tape, hg.output, hg.size, fun k hk hn => hg.block k hk fun e => hn (by rw [← e]; simp)⟩ fun k hk => ?_
  rcases hb with hb | hb
  · exact .inl (by rw [← hb]; exact hk)
  · rw [hb] at hk
    simp at hk
    exact .inr (by omega)
/-- A new row of texts that is written out. -/
theorem Owns.made (h : Owns w0 w ps) (l : List Bytes) (hl : l.length ≤ 1000) : Owns w0 (w.alloc (.cells (tcs l).toArray 9)) (Go.Proofs.YtjcjpekndeoonaaGreatDoor.trow (.slice (some ⟨w.heap.size, 0, none⟩) l.length l.length) l :: ps) := by
  refine h.push (Q := Go.Proofs.YtjcjpekndeoonaaGreatDoor.trow (.slice (some ⟨w.heap.size, 0, none⟩) l.length l.length) l) ⟨⟨by simp [tcs], .inr ⟨w.heap.size, l.length, (tcs l).toArray, rfl, Nat.zero_le _, new_heap w _ _ rfl, Nat.le_refl _, by unfold maxLen; omega, by simp [tcs], by show (tcs l).take (l.length * 1) = tcs l; rw [List.take_of_length_le (by simp [tcs])]⟩⟩, rfl⟩ ((Below.refl _ w).alloc (Nat.le_refl _) _) (by simp [Value.ownBlock])
end
end Go.Proofs.YtjcjpekndeoonaaGreatDoor
