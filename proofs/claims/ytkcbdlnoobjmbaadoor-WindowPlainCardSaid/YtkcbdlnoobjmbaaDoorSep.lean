/-
  Memory in pieces: what a call has made for itself, piece by piece, each in blocks of its own.
-/
import Derived.Test.YtkcbdlnoobjmbaaDoorMem
namespace Go.Cz
open Go.RowKit

/-- Something that lies in blocks, and stays while they are not written. -/
structure Piece where
  lies : World → List Nat → Prop
  lt : ∀ {w : World} {S : List Nat}, lies w S → ∀ k ∈ S, k < w.heap.size
  keep : ∀ {w w' : World} {S T : List Nat}, lies w S → Mod T w w' → (∀ k ∈ S, k ∉ T) → lies w' S
def Has (w0 w : World) : List Piece → List Nat → Prop
  | [], _ => True
  | P :: ps, U => ∃ S, P.lies w S ∧ (∀ k ∈ S, w0.heap.size ≤ k ∧ k ∉ U) ∧ Has w0 w ps (S ++ U)
/-- The pieces lie apart, in blocks that are newer than w0; what is older is as it was. -/
def Owns (w0 w : World) (ps : List Piece) : Prop := Below w0.heap.size w0 w ∧ Has w0 w ps []

theorem Has.mono {w0 w : World} : ∀ {ps : List Piece} {U V : List Nat}, Has w0 w ps U → (∀ k ∈ V, k ∈ U ∨ w.heap.size ≤ k) → Has w0 w ps V
  | [], _, _, _, _ => trivial
  | P :: ps, U, V, ⟨S, h1, h2, h3⟩, hv => ⟨S, h1, fun k hk => ⟨(h2 k hk).1, fun hx => by
      rcases hv k hx with h | h
      · exact (h2 k hk).2 h
      · have := P.lt h1 k hk; omega⟩, Has.mono (ps := ps) h3 fun k hk => by
      rcases List.mem_append.1 hk with h | h
      · exact .inl (List.mem_append.2 (.inl h))
      · rcases hv k h with h | h
        · exact .inl (List.mem_append.2 (.inr h))
        · exact .inr h⟩
theorem Has.keep {w0 w w' : World} {T : List Nat} (hm : Mod T w w') : ∀ {ps : List Piece} {U : List Nat}, Has w0 w ps U → (∀ k ∈ T, k ∈ U ∨ w.heap.size ≤ k) → Has w0 w' ps U
  | [], _, _, _ => trivial
  | P :: ps, U, ⟨S, h1, h2, h3⟩, ht => by
    have hd : ∀ k ∈ S, k ∉ T := fun k hk hx => by
      rcases ht k hx with h | h
      · exact (h2 k hk).2 h
      · have := P.lt h1 k hk; omega
    exact ⟨S, P.keep h1 hm hd, h2, Has.keep hm h3 fun k hk => by
      rcases ht k hk with h | h
      · exact .inl (List.mem_append.2 (.inr h))
      · exact .inr h⟩
theorem toBelow' {S : List Nat} {w0 w w' : World} (h : Mod S w w') (hb : Below w0.heap.size w0 w) (hS : ∀ k ∈ S, w0.heap.size ≤ k) : Below w0.heap.size w0 w' :=
  ⟨h.os.trans hb.os, h.tape.trans hb.tape, h.output.trans hb.output, Nat.le_trans hb.size h.size, fun k hk => (h.block k (Nat.lt_of_lt_of_le hk hb.size) (fun hx => by have := hS k hx; omega)).trans (hb.block k hk)⟩
theorem Owns.base {w0 w : World} {ps : List Piece} (h : Owns w0 w ps) : Below w0.heap.size w0 w := h.1
theorem Owns.start (w : World) : Owns w w [] := ⟨Below.refl _ _, trivial⟩
theorem Owns.below {w0 w w' : World} {ps : List Piece} (h : Owns w0 w ps) (hb : Below w.heap.size w w') : Owns w0 w' ps :=
  ⟨h.1.trans (hb.mono h.1.size), h.2.keep (T := []) ((Mod.ofBelow hb [])) (by simp)⟩
theorem Owns.alloc {w0 w : World} {ps : List Piece} (h : Owns w0 w ps) (o : Obj) : Owns w0 (w.alloc o) ps := h.below (by exact (Below.refl _ _).alloc (Nat.le_refl _) _)
theorem Owns.drew {w0 w : World} {ps : List Piece} (h : Owns w0 w ps) : Owns w0 w.drew ps := h.below (Below.refl _ _).drew
/-- The first piece may become another one. -/
theorem Owns.open {w0 w : World} {P : Piece} {ps : List Piece} (h : Owns w0 w (P :: ps)) : ∃ S, P.lies w S ∧ (∀ k ∈ S, w0.heap.size ≤ k) ∧
    ∀ (w' : World) (Q : Piece) (S' : List Nat), Q.lies w' S' → Mod S w w' → (∀ k ∈ S', k ∈ S ∨ w.heap.size ≤ k) → Owns w0 w' (Q :: ps) := by
  obtain ⟨hb, S, h1, h2, h3⟩ := h
  refine ⟨S, h1, fun k hk => (h2 k hk).1, fun w' Q S' h4 hm h5 => ?_⟩
  refine ⟨toBelow' hm hb fun k hk => (h2 k hk).1, S', h4, fun k hk => ⟨?_, by simp⟩, ?_⟩
  · rcases h5 k hk with h | h
    · exact (h2 k h).1
    · exact Nat.le_trans hb.size h
  · have h6 : Has w0 w ps (S ++ (S' ++ [])) := h3.mono fun k hk => by
      rcases List.mem_append.1 hk with h | h
      · exact .inl (List.mem_append.2 (.inl h))
      · rcases List.mem_append.1 h with h | h
        · rcases h5 k h with h | h
          · exact .inl (List.mem_append.2 (.inl h))
          · exact .inr h
        · simp at h
    exact (h6.keep hm fun k hk => .inl (List.mem_append.2 (.inl hk))).mono fun k hk => .inl (List.mem_append.2 (.inr hk))
/-- A new piece. -/
theorem Owns.push {w0 w w' : World} {Q : Piece} {ps : List Piece} (h : Owns w0 w ps) {S : List Nat} (hq : Q.lies w' S) (hb : Below w.heap.size w w') (hn : ∀ k ∈ S, w.heap.size ≤ k) : Owns w0 w' (Q :: ps) := by
  obtain ⟨h1, h2⟩ := h
  refine ⟨h1.trans (hb.mono h1.size), S, hq, fun k hk => ⟨Nat.le_trans h1.size (hn k hk), by simp⟩, ?_⟩
  have h3 : Has w0 w ps (S ++ []) := h2.mono fun k hk => .inr (hn k (by simpa using hk))
  exact h3.keep (T := []) (Mod.ofBelow hb []) (by simp)
theorem Owns.pop {w0 w : World} {P : Piece} {ps : List Piece} (h : Owns w0 w (P :: ps)) : Owns w0 w ps := by
  obtain ⟨h1, S, _, _, h2⟩ := h
  exact ⟨h1, h2.mono (by simp)⟩
theorem Owns.swap {w0 w : World} {P Q : Piece} {ps : List Piece} (h : Owns w0 w (P :: Q :: ps)) : Owns w0 w (Q :: P :: ps) := by
  obtain ⟨h1, S, h2, h3, S', h4, h5, h6⟩ := h
  refine ⟨h1, S', h4, fun k hk => ⟨(h5 k hk).1, by simp⟩, S, h2, fun k hk => ⟨(h3 k hk).1, fun hx => ?_⟩, h6.mono fun k hk => ?_⟩
  · have hx : k ∈ S' := by simpa using hx
    exact (h5 k hx).2 (by simpa using hk)
  · simp only [List.append_nil, List.mem_append] at hk ⊢
    exact .inl hk.symm
/-- The third piece comes first. -/
theorem Owns.rot {w0 w : World} {P Q R : Piece} {ps : List Piece} (h : Owns w0 w (P :: Q :: R :: ps)) : Owns w0 w (R :: P :: Q :: ps) := by
  have hq : Owns w0 w (Q :: R :: ps) := h.pop
  obtain ⟨h1, S, h2, h3, S', h4, h5, S2, h6, h7, h8⟩ := h
  refine ⟨h1, S2, h6, fun k hk => ⟨(h7 k hk).1, by simp⟩, S, h2, fun k hk => ⟨(h3 k hk).1, fun hx => ?_⟩, S', h4, fun k hk => ⟨(h5 k hk).1, fun hx => ?_⟩, h8.mono fun k hk => ?_⟩
  · have hx : k ∈ S2 := by simpa using hx
    exact (h7 k hx).2 (by simp [hk])
  · simp only [List.append_nil, List.mem_append] at hx
    rcases hx with hx | hx
    · exact (h5 k hk).2 (by simpa using hx)
    · exact (h7 k hx).2 (by simp [hk])
  · simp only [List.append_nil, List.mem_append] at hk ⊢
    rcases hk with h | h | h
    · exact .inl (.inr (.inl h))
    · exact .inl (.inr (.inr h))
    · exact .inl (.inl h)
theorem Has.perm {w0 w : World} {ps qs : List Piece} (h : ps.Perm qs) : ∀ {U : List Nat}, Has w0 w ps U → Has w0 w qs U := by
  induction h with
  | nil => exact fun h => h
  | cons P _ ih => exact fun ⟨S, h1, h2, h3⟩ => ⟨S, h1, h2, ih h3⟩
  | swap P Q ps =>
    rintro U ⟨S, h2, h3, S', h4, h5, h6⟩
    refine ⟨S', h4, fun k hk => ⟨(h5 k hk).1, fun hx => (h5 k hk).2 (List.mem_append.2 (.inr hx))⟩, S, h2, fun k hk => ⟨(h3 k hk).1, fun hx => ?_⟩, h6.mono fun k hk => ?_⟩
    · rcases List.mem_append.1 hx with hx | hx
      · exact (h5 k hx).2 (List.mem_append.2 (.inl hk))
      · exact (h3 k hk).2 hx
    · simp only [List.mem_append] at hk ⊢
      rcases hk with h | h | h
      · exact .inl (.inr (.inl h))
      · exact .inl (.inl h)
      · exact .inl (.inr (.inr h))
  | trans _ _ ih1 ih2 => exact fun h => ih2 (ih1 h)
theorem Owns.perm {w0 w : World} {ps qs : List Piece} (h : Owns w0 w ps) (hp : ps.Perm qs) : Owns w0 w qs := ⟨h.1, h.2.perm hp⟩
/-- The fourth piece comes first; the fifth. -/
theorem Owns.rot4 {w0 w : World} {P Q R T : Piece} {ps : List Piece} (h : Owns w0 w (P :: Q :: R :: T :: ps)) : Owns w0 w (T :: P :: Q :: R :: ps) := h.perm (List.perm_middle (l₁ := [P, Q, R]))
theorem Owns.rot5 {w0 w : World} {P Q R T V : Piece} {ps : List Piece} (h : Owns w0 w (P :: Q :: R :: T :: V :: ps)) : Owns w0 w (V :: P :: Q :: R :: T :: ps) := h.perm (List.perm_middle (l₁ := [P, Q, R, T]))
theorem Owns.first {w0 w : World} {P : Piece} {ps : List Piece} (h : Owns w0 w (P :: ps)) : ∃ S, P.lies w S ∧ ∀ k ∈ S, w0.heap.size ≤ k := by
  obtain ⟨_, S, h1, h2, _⟩ := h
  exact ⟨S, h1, fun k hk => (h2 k hk).1⟩
theorem Owns.second {w0 w : World} {P Q : Piece} {ps : List Piece} (h : Owns w0 w (P :: Q :: ps)) : ∃ S, Q.lies w S ∧ ∀ k ∈ S, w0.heap.size ≤ k := h.pop.first
/-- A block that is known whole. -/
def blk (g : Nat) (o : Obj) : Piece where
  lies w S := S = [g] ∧ w.heap[g]? = some o
  lt := by rintro w S ⟨rfl, h⟩ k hk; simp at hk; subst hk; exact lt_of_block h
  keep := by rintro w w' S T ⟨rfl, h⟩ hm hd; exact ⟨rfl, hm.heap h (hd g (by simp))⟩
theorem Owns.box {w0 w : World} {ps : List Piece} (h : Owns w0 w ps) (o : Obj) : Owns w0 (w.alloc o) (blk w.heap.size o :: ps) :=
  h.push (S := [w.heap.size]) ⟨rfl, new_heap w o _ rfl⟩ ((Below.refl _ _).alloc (Nat.le_refl _) _) (by simp)
theorem Owns.blk {w0 w : World} {ps : List Piece} {g : Nat} {o : Obj} (h : Owns w0 w (blk g o :: ps)) : w.heap[g]? = some o ∧ w0.heap.size ≤ g := by
  obtain ⟨S, ⟨rfl, h1⟩, h2⟩ := h.first
  exact ⟨h1, h2 g (by simp)⟩
/-- A store into a block that is known whole. -/
theorem Owns.store {w0 w : World} {ps : List Piece} {g i : Nat} {cs : Array Value} {t : TypeId} {fr : Nat × Nat} (h : Owns w0 w (Cz.blk g (.cells cs t fr) :: ps)) (v : Value) :
    Owns w0 (w.setCell ⟨g, i, none⟩ v) (Cz.blk g (.cells (cs.setIfInBounds i v) t fr) :: ps) := by
  obtain ⟨S, ⟨rfl, h1⟩, _, hf⟩ := h.open
  exact hf _ _ [g] ⟨rfl, setCell_heap h1 v⟩ ((Mod.refl _ _).setCell (.inl (by simp)) v) fun k hk => .inl hk
end Go.Cz
