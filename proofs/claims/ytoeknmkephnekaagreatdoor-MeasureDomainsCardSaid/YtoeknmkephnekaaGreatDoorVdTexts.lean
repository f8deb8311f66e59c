/-
  A row of texts of the call's own, as a piece.
-/
import Derived.Test.YtoeknmkephnekaaGreatDoorVdMem
namespace Go.Proofs.YtoeknmkephnekaaGreatDoor
open Go.RowKit Go.Cz Go.Cz.Lx Go.Cz.Fo Go.Cz.Vd
set_option linter.unusedSimpArgs false
set_option linter.unusedVariables false
/-- The cells of texts. -/
def txs (l : List Bytes) : List Value := l.map fun s => .string (bs s)
theorem info_txt : (Tryz.prog.info? 9).map (fun i => (i.zero, i.size, i.bytes)) = some (some (.string ⟨#[]⟩), 1, 16) := by kernel_rfl
/-- A row of texts of the call's own. -/
def txP (v : Value) (l : List Bytes) : Piece where
  lies w S := w.ownsRow 0 9 1 v l.length (txs l) ∧ S = v.ownBlock.toList
  lt := by
    rintro w S ⟨h, rfl⟩ k hk
    rcases h.2 with ⟨rfl, _⟩ | ⟨g, cap, cur, rfl, _, hg, _⟩
    · simp [Value.ownBlock] at hk
    · simp [Value.ownBlock] at hk
      subst hk
      exact lt_of_block hg
  keep := by
    rintro w w' S T ⟨h, rfl⟩ hm hd
    refine ⟨⟨h.1, ?_⟩, rfl⟩
    rcases h.2 with h0 | ⟨g, cap, cur, rfl, h2, hg, h4⟩
    · exact .inl h0
    · exact .inr ⟨g, cap, cur, rfl, h2, hm.heap hg (hd g (by simp [Value.ownBlock])), h4⟩
end Go.Proofs.YtoeknmkephnekaaGreatDoor
namespace Go.Cz
open Go.RowKit Go.Cz.Lx Go.Cz.Fo Go.Cz.Vd Go.Proofs.YtoeknmkephnekaaGreatDoor
section
variable {w0 w w' : World} {ps : List Piece} {v v' : Value} {l l' : List Bytes}
theorem Owns.txNew (h : Owns w0 w ps) : Owns w0 w (txP (.slice none 0 0) [] :: ps) :=
  h.push (Q := txP (.slice none 0 0) []) (S := []) ⟨⟨by simp [txs], .inl ⟨rfl, rfl⟩⟩, rfl⟩ (Below.refl _ _) (by simp)
theorem Owns.txRow (h : Owns w0 w (txP v l :: ps)) : w.ownsRow 0 9 1 v l.length (txs l) := by
  obtain ⟨S, ⟨hr, -⟩, -⟩ := h.first
  exact hr
theorem Owns.txGrew (h : Owns w0 w (txP v l :: ps)) (hr : w'.ownsRow 0 9 1 v' l'.length (txs l')) (hg : w.grownBy w' v.ownBlock) (hb : v'.ownBlock = v.ownBlock ∨ v'.ownBlock = some w.heap.size) : Owns w0 w' (txP v' l' :: ps) := by
  obtain ⟨S, ⟨h1, rfl⟩, -, hf⟩ := h.open
  refine hf w' _ v'.ownBlock.toList ⟨hr, rfl⟩ ⟨hg.os, hg.tape, hg.output, hg.size, fun k hk hn => hg.block k hk fun e => hn (by rw [← e]; simp)⟩ fun k hk => ?_
  rcases hb with hb | hb
  · exact .inl (by rw [← hb]; exact hk)
  · rw [hb] at hk
    simp at hk
    exact .inr (by omega)
theorem Owns.txIs (h : Owns w0 w (txP v l :: ps)) : IsTxR w l v := by
  have hr := h.txRow
  rcases hr.2 with ⟨hv, h0⟩ | ⟨g, cap, cur, hv, h2, hg, h4, h5, h6, h7⟩
  · exact ⟨none, 0, by rw [hv, h0], .inl (List.length_eq_zero_iff.1 h0)⟩
  · refine ⟨_, _, hv, .inr ⟨g, 0, rfl, lt_of_block hg, h4, fun j s hj => ?_⟩⟩
    rw [Nat.zero_add, cell_of_heap hg]
    have h8 : (txs l)[j]? = some (.string (bs s)) := by simp [txs, hj]
    rw [← h7, List.getElem?_take] at h8
    split at h8
    · simpa using h8
    · cases h8
theorem Has.app {W1 W2 : World} {ps : List Piece} (hb : Below W1.heap.size W1 W2) (hw : w.heap.size ≤ W1.heap.size) (hp : Has w W1 ps []) : ∀ {qs : List Piece} {U : List Nat}, Has W1 W2 qs U → (∀ k ∈ U, W1.heap.size ≤ k) → Has w W2 (qs ++ ps) U
  | [], U, _, hu => (Has.mono (V := U) hp fun k hk => .inr (hu k hk)).keep (T := []) (Mod.ofBelow hb []) (by simp)
  | Q :: qs, U, ⟨S, h1, h2, h3⟩, hu => ⟨S, h1, fun k hk => ⟨Nat.le_trans hw (h2 k hk).1, (h2 k hk).2⟩, Has.app hb hw hp h3 fun k hk => by
      rcases List.mem_append.1 hk with h | h
      · exact (h2 k h).1
      · exact hu k h⟩
/-- What a call has made for itself is made by its caller. -/
theorem Owns.app {W1 W2 : World} {ps qs : List Piece} (h : Owns w0 W1 ps) (h' : Owns W1 W2 qs) : Owns w0 W2 (qs ++ ps) :=
  ⟨h.1.trans (h'.1.mono h.1.size), Has.app h'.1 h.1.size h.2 h'.2 (by simp)⟩
end
end Go.Cz
