/-
  A copy of a row of texts.
-/
import Derived.Test.YtjcjpekndeoonaaGreatDoorJnRoom
namespace Go.Proofs.YtjcjpekndeoonaaGreatDoor
open Go.RowKit Go.Cz Go.Cz.Jn
set_option linter.unusedSimpArgs false
set_option linter.unusedVariables false
theorem trow_base {w0 w w' : World} {ps : List Piece} {v : Value} {l : List Bytes} (h : Owns w0 w ps) (hr : w'.ownsRow w.heap.size 9 1 v l.length (tcs l)) (hb : Below w.heap.size w w') : Owns w0 w' (Go.Proofs.YtjcjpekndeoonaaGreatDoor.trow v l :: ps) := by
  refine Owns.trow h ⟨⟨hr.1, ?_⟩, fun k hk => (hr.lt k hk).1, hb⟩
  rcases hr.2 with h0 | ⟨g, cap, cur, h1, h2, h3⟩
  · exact .inl h0
  · exact .inr ⟨g, cap, cur, h1, Nat.zero_le _, h3⟩
theorem clone_c {w0 w : World} {ps : List Piece} {v : Value} {l : List Bytes} (h : Owns w0 w (Go.Proofs.YtjcjpekndeoonaaGreatDoor.trow v l :: ps)) (hl : l.length ≤ 1000000) :
    Calls Tryz.prog 42 #[v] w fun e w' => ∃ v', e = .returned v' ∧ Owns w0 w' (Go.Proofs.YtjcjpekndeoonaaGreatDoor.trow v' l :: Go.Proofs.YtjcjpekndeoonaaGreatDoor.trow v l :: ps) := by
  obtain ⟨S, ⟨hr, -⟩, -⟩ := h.first
  rcases hr.2 with ⟨rfl, h0⟩ | ⟨g, cap, cur, rfl, h2, hg, h4, h5, h6, h7⟩
  · refine (Tryz.slices_Clone_string_nil 0 0 w).mono ?_
    rintro e w' ⟨rfl, rfl⟩
    obtain rfl : l = [] := List.length_eq_zero_iff.1 h0
    exact ⟨_, rfl, trow_base h (World.ownsRow_nil _ _ _ _) (Below.refl _ _)⟩
  · refine (Tryz.slices_Clone_string g 0 l.length cap (l.map bs) w (by simp) (by omega) (fun j hj => ?_)).mono ?_
    · rw [List.length_map] at hj
      rw [Nat.zero_add, cell_of_heap hg]
      have h8 : (tcs l)[j]? = some (.string (bs l[j])) := by simp [tcs, hj]
      rw [← h7, List.getElem?_take] at h8
      split at h8
      · have h9 : (l.map bs).getD j ByteArray.empty = bs l[j] := by simp [List.getD, hj]
        rw [h9]
        simpa using h8
      · cases h8
    · rintro e w' ⟨v', rfl, ho, -, hb⟩
      refine ⟨v', rfl, trow_base h ?_ hb⟩
      rw [List.take_of_length_le (by simp), List.map_map] at ho
      exact ho
end Go.Proofs.YtjcjpekndeoonaaGreatDoor
