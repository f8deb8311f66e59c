/-
  Formulas in memory.
-/
import Derived.Test.YtoeknmkephnekaaGreatDoorFmModel
import Derived.Test.YtoeknmkephnekaaGreatDoorBase
import Derived.Test.YtoeknmkephnekaaGreatDoorLxA
namespace Go.Cz
/-- The piece at a place. -/
def pick : List Piece → Nat → Piece
  | [], _ => blk 0 (.cells #[] 0 (0, 0))
  | p :: _, 0 => p
  | _ :: ps, n + 1 => pick ps n
theorem pick_take : ∀ (k : Nat) (ps : List Piece), k ≤ ps.length → (List.range k).map (pick ps) = ps.take k
  | 0, _, _ => by simp
  | k + 1, [], h => by simp at h
  | k + 1, p :: ps, h => by
    rw [List.range_succ_eq_map, List.map_cons, List.map_map, List.take_succ_cons]
    exact congrArg (p :: ·) (pick_take k ps (by simpa using h))
/-- The first pieces in another order. -/
theorem Owns.re {w0 w : World} {ps : List Piece} (h : Owns w0 w ps) (σ : List Nat) (hσ : σ.isPerm (List.range σ.length) = true := by decide) (hk : σ.length ≤ ps.length := by first | (simp only [List.length_cons, List.length_nil]; omega) | (simp [pick]; omega) | simp [pick]) : Owns w0 w (σ.map (pick ps) ++ ps.drop σ.length) := by
  refine h.perm ?_
  have h1 : (σ.map (pick ps)).Perm (ps.take σ.length) := by
    rw [← pick_take _ _ hk]
    exact (List.isPerm_iff.1 hσ).map _
  have h2 := (h1.append_right (ps.drop σ.length)).symm
  rw [List.take_append_drop] at h2
  exact h2
end Go.Cz
namespace Go.Proofs.YtoeknmkephnekaaGreatDoor
open Go.RowKit Go.Cz Go.Cz.Lx Go.Cz.Fo
set_option linter.unusedSimpArgs false
set_option linter.unusedVariables false
abbrev one (b : Nat) (t : TypeId) (v : Value) : Piece := blk b (.cells #[v] t (0, 0))
theorem Owns.one {w0 w : World} {ps : List Piece} {b : Nat} {t : TypeId} {v : Value} (h : Owns w0 w (Go.Proofs.YtoeknmkephnekaaGreatDoor.one b t v :: ps)) : b < w.heap.size ∧ w.cell? ⟨b, 0, none⟩ = some v ∧ w.frozen? ⟨b, 0, none⟩ = false := by
  obtain ⟨bk, -⟩ := h.blk
  exact ⟨lt_of_block bk, by rw [cell_of_heap bk]; rfl, free_of_heap bk⟩
theorem Owns.ne {w0 w : World} {ps : List Piece} {b b' : Nat} {o o' : Obj} (h : Owns w0 w (blk b o :: blk b' o' :: ps)) : b ≠ b' := by
  obtain ⟨-, S, ⟨rfl, -⟩, -, S', ⟨rfl, -⟩, h5, -⟩ := h
  have := (h5 b' (by simp)).2
  simp at this
  exact fun e => this e.symm
/-- A formula's cells; the last one is the row of its kids. -/
abbrev fval (f : Fm) (kv : Value) : Value := .agg #[.int .i64 f.op, .string (bs f.name), .int .i64 f.cmp, .int .i64 f.num, kv]
/-- The block of a formula that was boxed. -/
abbrev fobj (f : Fm) (kv : Value) : Obj := .cells #[.int .i64 f.op, .string (bs f.name), .int .i64 f.cmp, .int .i64 f.num, kv] 24 (0, 0)
def fcells (f : Fm) (kv : Value) : List Value := [.int .i64 f.op, .string (bs f.name), .int .i64 f.cmp, .int .i64 f.num, kv]
/-- A formula that lies in blocks of which p holds; the value is the row of its kids. -/
inductive IsFm (p : Nat → Prop) (W : World) : Fm → Value → Prop
  | leaf (a : Int) (s : Bytes) (c d : Int) (y : Option Addr) (m : Nat) : IsFm p W (.mk a s c d []) (.slice y 0 m)
  | node (a : Int) (s : Bytes) (c d : Int) (ks : List Fm) (g off m : Nat) (kv : Nat → Value) : ks.length ≤ m → g < W.heap.size → p g →
      (∀ (j : Nat) (k : Fm), ks[j]? = some k → W.cell? ⟨g, off + j * 5, none⟩ = some (.int .i64 k.op) ∧ W.cell? ⟨g, off + j * 5 + 1, none⟩ = some (.string (bs k.name)) ∧ W.cell? ⟨g, off + j * 5 + 2, none⟩ = some (.int .i64 k.cmp) ∧ W.cell? ⟨g, off + j * 5 + 3, none⟩ = some (.int .i64 k.num) ∧ W.cell? ⟨g, off + j * 5 + 4, none⟩ = some (kv j)) →
      (∀ (j : Nat) (k : Fm), ks[j]? = some k → IsFm p W k (kv j)) → IsFm p W (.mk a s c d ks) (.slice (some ⟨g, off, none⟩) ks.length m)
section
variable {p q : Nat → Prop} {W W' : World} {f k : Fm} {v : Value} {n m j : Nat} {y : Option Addr}
theorem IsFm.keep (h : IsFm p W f v) (hk : ∀ g, p g → g < W.heap.size → W'.heap[g]? = W.heap[g]?) : IsFm p W' f v := by
  induction h with
  | leaf a s c d y m => exact .leaf a s c d y m
  | node a s c d ks g off m kv h1 h2 h3 h4 _ ih =>
    have e : ∀ i, W'.cell? ⟨g, i, none⟩ = W.cell? ⟨g, i, none⟩ := fun i => World.cell?_of_block (w := W) (hk g h3 h2)
    have h2' : g < W'.heap.size := by
      have := hk g h3 h2
      rw [Array.getElem?_eq_getElem h2] at this
      exact (Array.getElem?_eq_some_iff.1 this).1
    refine .node a s c d ks g off m kv h1 h2' h3 (fun j k hj => ?_) ih
    simp only [e]
    exact h4 j k hj
theorem IsFm.mono (h : IsFm p W f v) (hk : ∀ g, p g → g < W.heap.size → q g) : IsFm q W f v := by
  induction h with
  | leaf a s c d y m => exact .leaf a s c d y m
  | node a s c d ks g off m kv h1 h2 h3 h4 _ ih => exact .node a s c d ks g off m kv h1 h2 (hk g h3 h2) h4 ih
theorem IsFm.later (h : IsFm p W f v) (hb : Below W.heap.size W W') : IsFm p W' f v := h.keep fun g _ hg => hb.block g hg
theorem IsFm.form (h : IsFm p W f v) : ∃ y m, v = .slice y f.kids.length m := by
  cases h with
  | leaf a s c d y m => exact ⟨y, m, rfl⟩
  | node a s c d ks g off m kv _ _ _ _ _ => exact ⟨_, m, rfl⟩
/-- A kid, and where it stands. -/
theorem IsFm.get (h : IsFm p W f (.slice y n m)) (hj : f.kids[j]? = some k) : ∃ g off kv, y = some ⟨g, off, none⟩ ∧ g < W.heap.size ∧ p g ∧ IsFm p W k kv ∧
    W.cell? ⟨g, off + j * 5, none⟩ = some (.int .i64 k.op) ∧ W.cell? ⟨g, off + j * 5 + 1, none⟩ = some (.string (bs k.name)) ∧ W.cell? ⟨g, off + j * 5 + 2, none⟩ = some (.int .i64 k.cmp) ∧ W.cell? ⟨g, off + j * 5 + 3, none⟩ = some (.int .i64 k.num) ∧ W.cell? ⟨g, off + j * 5 + 4, none⟩ = some kv := by
  cases h with
  | leaf a s c d y m => simp [Fm.kids] at hj
  | node a s c d ks g off m kv _ h2 h3 h4 h5 => exact ⟨g, off, kv j, rfl, h2, h3, h5 j k hj, h4 j k hj⟩
/-- A kid of a formula that is older. -/
theorem IsFm.old (h : IsFm p W f (.slice y n m)) (hb : Below W.heap.size W W') (hj : f.kids[j]? = some k) : ∃ g off kv, y = some ⟨g, off, none⟩ ∧ g < W'.heap.size ∧ IsFm p W k kv ∧
    W'.cell? ⟨g, off + j * 5, none⟩ = some (.int .i64 k.op) ∧ W'.cell? ⟨g, off + j * 5 + 1, none⟩ = some (.string (bs k.name)) ∧ W'.cell? ⟨g, off + j * 5 + 2, none⟩ = some (.int .i64 k.cmp) ∧ W'.cell? ⟨g, off + j * 5 + 3, none⟩ = some (.int .i64 k.num) ∧ W'.cell? ⟨g, off + j * 5 + 4, none⟩ = some kv := by
  obtain ⟨g, off, kv, e, hg, -, hk, h0, h1, h2, h3, h4⟩ := h.get hj
  have e2 : ∀ i, W'.cell? ⟨g, i, none⟩ = W.cell? ⟨g, i, none⟩ := fun i => hb.cell (p := ⟨g, i, none⟩) hg
  exact ⟨g, off, kv, e, Nat.lt_of_lt_of_le hg hb.size, hk, by rw [e2]; exact h0, by rw [e2]; exact h1, by rw [e2]; exact h2, by rw [e2]; exact h3, by rw [e2]; exact h4⟩
theorem IsFm.cap (h : IsFm p W f (.slice y n m)) (hn : 0 < n) : n ≤ m := by
  cases h with
  | leaf a s c d y m => omega
  | node a s c d ks g off m kv h1 _ _ _ _ => exact h1
end
theorem sizes_take : ∀ {ks : List Fm} {j : Nat} {k : Fm}, ks[j]? = some k → sizes (ks.take (j + 1)) = sizes (ks.take j) + size k
  | [], j, k, h => by simp at h
  | a :: r, 0, k, h => by simp at h; subst h; simp [sizes]
  | a :: r, j + 1, k, h => by
    have := sizes_take (ks := r) (j := j) (k := k) (by simpa using h)
    rw [List.take_succ_cons, List.take_succ_cons, sizes, sizes, this]
    omega
theorem depths_take : ∀ {ks : List Fm} {j : Nat} {k : Fm}, ks[j]? = some k → depths (ks.take (j + 1)) = max (depths (ks.take j)) (depth k)
  | [], j, k, h => by simp at h
  | a :: r, 0, k, h => by simp at h; subst h; simp [depths]
  | a :: r, j + 1, k, h => by
    have := depths_take (ks := r) (j := j) (k := k) (by simpa using h)
    rw [List.take_succ_cons, List.take_succ_cons, depths, depths, this]
    omega
theorem shorts_take {n : Nat} : ∀ {ks : List Fm} {j : Nat} {k : Fm}, ks[j]? = some k → shorts n (ks.take (j + 1)) = (shorts n (ks.take j) && short n k)
  | [], j, k, h => by simp at h
  | a :: r, 0, k, h => by simp at h; subst h; simp [shorts]
  | a :: r, j + 1, k, h => by
    have := shorts_take (n := n) (ks := r) (j := j) (k := k) (by simpa using h)
    rw [List.take_succ_cons, List.take_succ_cons, shorts, shorts, this, Bool.and_assoc]
theorem shorts_false {n : Nat} : ∀ {ks : List Fm} {k : Fm}, k ∈ ks → short n k = false → shorts n ks = false
  | a :: r, k, h, e => by
    rw [shorts]
    rcases List.mem_cons.1 h with rfl | h
    · rw [e]; rfl
    · rw [shorts_false h e]; simp
theorem short_kids {n : Nat} : ∀ f : Fm, short n f = (shorts n f.kids && decide (f.name.length ≤ n)) | .mk _ _ _ _ ks => by rw [short]; rfl
theorem sizes_le : ∀ (ks : List Fm) (j : Nat), sizes (ks.take j) ≤ sizes ks
  | [], j => by simp
  | a :: r, 0 => by simp [sizes]
  | a :: r, j + 1 => by rw [List.take_succ_cons, sizes, sizes]; have := sizes_le r j; omega
theorem depths_le : ∀ (ks : List Fm) (j : Nat), depths (ks.take j) ≤ depths ks
  | [], j => by simp
  | a :: r, 0 => by simp [depths]
  | a :: r, j + 1 => by rw [List.take_succ_cons, depths, depths]; have := depths_le r j; omega
end Go.Proofs.YtoeknmkephnekaaGreatDoor
