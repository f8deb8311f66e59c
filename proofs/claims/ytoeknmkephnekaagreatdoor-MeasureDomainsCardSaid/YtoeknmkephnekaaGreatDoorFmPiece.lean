/-
  Formulas of a call's own, as pieces of memory; tokens that are read.
-/
import Derived.Test.YtoeknmkephnekaaGreatDoorFmRec
import Derived.Test.YtoeknmkephnekaaGreatDoorLxA
namespace Go.Proofs.YtoeknmkephnekaaGreatDoor
open Go.RowKit Go.Cz Go.Cz.Lx Go.Cz.Fo
set_option linter.unusedSimpArgs false
set_option linter.unusedVariables false
/-- A formula of the call's own; the value is the row of its kids. -/
def fmP (f : Fm) (v : Value) : Piece where
  lies w S := IsFm (· ∈ S) w f v ∧ ∀ k ∈ S, k < w.heap.size
  lt h := h.2
  keep := by
    rintro w w' S T ⟨h1, h2⟩ hm hd
    refine ⟨h1.keep fun g hg hl => hm.block g hl (hd g hg), fun k hk => Nat.lt_of_lt_of_le (h2 k hk) hm.size⟩
abbrev kidCells (L : List (Fm × Value)) : List Value := L.flatMap fun p => fcells p.1 p.2
/-- A row of formulas of the call's own. -/
def kidsP (L : List (Fm × Value)) (v : Value) : Piece where
  lies w S := ∃ S' : List Nat, w.ownsRow 0 24 5 v L.length (kidCells L) ∧ S = v.ownBlock.toList ++ S' ∧ (∀ k ∈ v.ownBlock.toList, k ∉ S') ∧ (∀ k ∈ S', k < w.heap.size) ∧ ∀ p ∈ L, IsFm (· ∈ S') w p.1 p.2
  lt := by
    rintro w S ⟨S', h, rfl, -, h3, -⟩ k hk
    rcases List.mem_append.1 hk with hk | hk
    · exact (h.lt k (by simpa [Option.mem_toList] using hk)).2
    · exact h3 k hk
  keep := by
    rintro w w' S T ⟨S', h, rfl, h2, h3, h4⟩ hm hd
    refine ⟨S', ⟨h.1, ?_⟩, rfl, h2, fun k hk => Nat.lt_of_lt_of_le (h3 k hk) hm.size, fun p hp => (h4 p hp).keep fun g hg hl => hm.block g hl (hd g (List.mem_append.2 (.inr hg)))⟩
    rcases h.2 with h0 | ⟨g, cap, cur, rfl, h5, hg, h6⟩
    · exact .inl h0
    · exact .inr ⟨g, cap, cur, rfl, h5, hm.heap hg (hd g (by simp [Value.ownBlock])), h6⟩
theorem flat_kid : ∀ (L : List (Fm × Value)) (j i : Nat) (p : Fm × Value), L[j]? = some p → i < 5 → (kidCells L)[j * 5 + i]? = (fcells p.1 p.2)[i]?
  | [], j, i, p, h, _ => by simp at h
  | a :: r, 0, i, p, h, hk => by
    simp at h; subst h
    rw [kidCells, List.flatMap_cons, Nat.zero_mul, Nat.zero_add, List.getElem?_append_left (by simp [fcells]; exact hk)]
  | a :: r, j + 1, i, p, h, hk => by
    rw [kidCells, List.flatMap_cons, List.getElem?_append_right (by simp [fcells]; omega)]
    have : (j + 1) * 5 + i - (fcells a.1 a.2).length = j * 5 + i := by simp [fcells]; omega
    rw [this]
    exact flat_kid r j i p (by simpa using h) hk
/-- The head of a formula does not lie in its memory. -/
theorem IsFm.head {f : Fm} {v : Value} {p : Nat → Prop} {W : World} {a : Int} {s : Bytes} {c d : Int} (h : IsFm p W f v) : IsFm p W (.mk a s c d f.kids) v := by
  cases h with
  | leaf a s c d y m => exact .leaf _ _ _ _ y m
  | node a s c d ks g off m kv h1 h2 h3 h4 h5 => exact .node _ _ _ _ ks g off m kv h1 h2 h3 h4 h5
end Go.Proofs.YtoeknmkephnekaaGreatDoor
namespace Go.Cz
open Go.RowKit Go.Cz.Lx Go.Cz.Fo Go.Proofs.YtoeknmkephnekaaGreatDoor
set_option linter.unusedSimpArgs false
set_option linter.unusedVariables false
section
variable {w0 w w' : World} {ps : List Piece} {v v' kv : Value} {f : Fm} {L : List (Fm × Value)}
/-- A piece that lies where another one does. -/
theorem Owns.turn {P Q : Piece} (h : Owns w0 w (P :: ps)) (hq : ∀ S, P.lies w S → Q.lies w S) : Owns w0 w (Q :: ps) := by
  obtain ⟨S, h1, -, hf⟩ := h.open
  exact hf w Q S (hq S h1) (Mod.refl _ _) fun k hk => .inl hk
/-- Two pieces are one. -/
theorem Owns.join {P Q R : Piece} (h : Owns w0 w (P :: Q :: ps)) (hr : ∀ S T, P.lies w S → Q.lies w T → (∀ k ∈ S, k ∉ T) → R.lies w (S ++ T)) : Owns w0 w (R :: ps) := by
  obtain ⟨h1, S, h2, h3, T, h4, h5, h6⟩ := h
  refine ⟨h1, S ++ T, hr S T h2 h4 fun k hk hx => (h5 k hx).2 (by simp [hk]), fun k hk => ⟨?_, by simp⟩, h6.mono fun k hk => .inl ?_⟩
  · rcases List.mem_append.1 hk with hk | hk
    · exact (h3 k hk).1
    · exact (h5 k hk).1
  · simp only [List.append_nil, List.mem_append] at hk ⊢
    exact hk.symm
theorem Owns.leaf (h : Owns w0 w ps) (a : Int) (s : Bytes) (c d : Int) (y : Option Addr) (m : Nat) : Owns w0 w (fmP (.mk a s c d []) (.slice y 0 m) :: ps) :=
  h.push (Q := fmP (.mk a s c d []) (.slice y 0 m)) (S := []) ⟨.leaf a s c d y m, by simp⟩ (Below.refl _ _) (by simp)
theorem Owns.fm (h : Owns w0 w (fmP f v :: ps)) : IsFm (fun g => w0.heap.size ≤ g) w f v := by
  obtain ⟨S, h1, h2⟩ := h.first
  exact h1.1.mono fun g hg _ => h2 g hg
/-- A row of formulas that has grown by one. -/
theorem Owns.kid (h : Owns w0 w (kidsP L v :: fmP f kv :: ps)) (hr : w'.ownsRow 0 24 5 v' (L.length + 1) (kidCells L ++ fcells f kv)) (hg : w.grownBy w' v.ownBlock) (hb : v'.ownBlock = v.ownBlock ∨ v'.ownBlock = some w.heap.size) : Owns w0 w' (kidsP (L ++ [(f, kv)]) v' :: ps) := by
  obtain ⟨h1, S, ⟨S', h2, rfl, h3, h4, h5⟩, h6, T, ⟨h7, h8⟩, h9, h10⟩ := h
  have hm : Mod v.ownBlock.toList w w' := ⟨hg.os, hg.tape, hg.output, hg.size, fun k hk hn => hg.block k hk fun e => hn (by rw [← e]; simp)⟩
  have hT : ∀ k ∈ T, k ∉ v.ownBlock.toList := fun k hk hx => (h9 k hk).2 (by simp [hx])
  have hS' : ∀ k ∈ S', k ∉ v.ownBlock.toList := fun k hk hx => h3 k hx hk
  have hv' : ∀ k ∈ v'.ownBlock.toList, k ∈ v.ownBlock.toList ∨ k = w.heap.size := fun k hk => by
    rcases hb with hb | hb
    · exact .inl (by rw [← hb]; exact hk)
    · rw [hb] at hk; simp at hk; exact .inr hk
  have hlies : (kidsP (L ++ [(f, kv)]) v').lies w' (v'.ownBlock.toList ++ (S' ++ T)) := by
    refine ⟨S' ++ T, by simpa [kidCells] using hr, rfl, fun k hk hx => ?_, fun k hk => ?_, fun p hp => ?_⟩
    · rcases hv' k hk with hk | rfl
      · rcases List.mem_append.1 hx with hx | hx
        · exact h3 k hk hx
        · exact hT k hx hk
      · rcases List.mem_append.1 hx with hx | hx
        · exact Nat.lt_irrefl _ (h4 _ hx)
        · exact Nat.lt_irrefl _ (h8 _ hx)
    · rcases List.mem_append.1 hk with hk | hk
      · exact Nat.lt_of_lt_of_le (h4 k hk) hg.size
      · exact Nat.lt_of_lt_of_le (h8 k hk) hg.size
    · rcases List.mem_append.1 hp with hp | hp
      · exact ((h5 p hp).keep fun g hx hl => hm.block g hl (hS' g hx)).mono fun g hx _ => List.mem_append.2 (.inl hx)
      · obtain rfl : p = (f, kv) := by simpa using hp
        exact (h7.keep fun g hx hl => hm.block g hl (hT g hx)).mono fun g hx _ => List.mem_append.2 (.inr hx)
  have hbase := toBelow' hm h1 fun k hk => (h6 k (List.mem_append.2 (.inl hk))).1
  refine ⟨hbase, _, hlies, fun k hk => ⟨?_, by simp⟩, ?_⟩
  · rcases List.mem_append.1 hk with hk | hk
    · rcases hv' k hk with hk | rfl
      · exact (h6 k (List.mem_append.2 (.inl hk))).1
      · exact h1.size
    · rcases List.mem_append.1 hk with hk | hk
      · exact (h6 k (List.mem_append.2 (.inr hk))).1
      · exact (h9 k hk).1
  · have h11 : Has w0 w ps (T ++ ((v.ownBlock.toList ++ S') ++ [w.heap.size])) := h10.mono fun k hk => by
      simp only [List.mem_append, List.append_nil, List.mem_singleton] at hk ⊢
      rcases hk with h | (h | h) | h
      · exact .inl (.inl h)
      · exact .inl (.inr (.inl h))
      · exact .inl (.inr (.inr h))
      · exact .inr (by omega)
    refine (h11.keep hm fun k hk => .inl (by simp [hk])).mono fun k hk => .inl ?_
    simp only [List.mem_append, List.append_nil, List.mem_singleton] at hk ⊢
    rcases hk with h | h | h
    · rcases hv' k h with h | h
      · exact .inr (.inl (.inl h))
      · exact .inr (.inr h)
    · exact .inr (.inl (.inr h))
    · exact .inl h
/-- A row of one formula that is written out. -/
theorem Owns.kid1 (h : Owns w0 w (fmP f kv :: ps)) : Owns w0 (w.alloc (.cells (fcells f kv).toArray 24)) (kidsP [(f, kv)] (.slice (some ⟨w.heap.size, 0, none⟩) 1 1) :: ps) := by
  have h0 : Owns w0 w (kidsP [] (.slice none 0 0) :: fmP f kv :: ps) := h.push (Q := kidsP [] (.slice none 0 0)) (S := []) ⟨[], World.ownsRow_nil _ _ _ _, rfl, by simp, by simp, by simp⟩ (Below.refl _ _) (by simp)
  refine Owns.kid h0 ⟨by simp [fcells], .inr ⟨w.heap.size, 1, (fcells f kv).toArray, rfl, Nat.zero_le _, new_heap w _ _ rfl, Nat.le_refl _, by unfold maxLen; omega, by simp [fcells], by simp [fcells]⟩⟩ (World.grownBy_alloc _ _ _) (.inr rfl)
theorem Owns.krow (h : Owns w0 w (kidsP L v :: ps)) : w.ownsRow 0 24 5 v L.length (kidCells L) := by
  obtain ⟨S, ⟨S', hr, -⟩, -⟩ := h.first
  exact hr
theorem Owns.kform (h : Owns w0 w (kidsP L v :: ps)) : ∃ y m, v = .slice y L.length m := by
  rcases h.krow.2 with ⟨h1, h2⟩ | ⟨g, c, cur, h1, -⟩
  · exact ⟨none, 0, by rw [h1, h2]⟩
  · exact ⟨_, c, h1⟩
/-- Where a kid stands. -/
theorem Owns.kget {j : Nat} {p : Fm × Value} (h : Owns w0 w (kidsP L v :: ps)) (hj : L[j]? = some p) : ∃ g m, v = .slice (some ⟨g, 0, none⟩) L.length m ∧ L.length ≤ m ∧ g < w.heap.size ∧
    w.cell? ⟨g, j * 5, none⟩ = some (.int .i64 p.1.op) ∧ w.cell? ⟨g, j * 5 + 1, none⟩ = some (.string (bs p.1.name)) ∧ w.cell? ⟨g, j * 5 + 2, none⟩ = some (.int .i64 p.1.cmp) ∧ w.cell? ⟨g, j * 5 + 3, none⟩ = some (.int .i64 p.1.num) ∧ w.cell? ⟨g, j * 5 + 4, none⟩ = some p.2 := by
  have hlt := (List.getElem?_eq_some_iff.1 hj).1
  rcases h.krow.2 with ⟨h1, h2⟩ | ⟨g, c, cur, h1, -, h3, h4, h5, h6, h7⟩
  · omega
  · have e : ∀ i x, (kidCells L)[i]? = some x → w.cell? ⟨g, i, none⟩ = some x := fun i x hx => by
      rw [cell_of_heap h3]
      rw [← h7, List.getElem?_take] at hx
      split at hx
      · simpa using hx
      · cases hx
    refine ⟨g, c, h1, h4, lt_of_block h3, e _ _ ?_, e _ _ ?_, e _ _ ?_, e _ _ ?_, e _ _ ?_⟩
    · exact (flat_kid L j 0 p hj (by omega)).trans rfl
    · exact (flat_kid L j 1 p hj (by omega)).trans rfl
    · exact (flat_kid L j 2 p hj (by omega)).trans rfl
    · exact (flat_kid L j 3 p hj (by omega)).trans rfl
    · exact (flat_kid L j 4 p hj (by omega)).trans rfl
/-- A node that has the row as its kids. -/
theorem Owns.knode (h : Owns w0 w (kidsP L v :: ps)) (a : Int) (s : Bytes) (c d : Int) : Owns w0 w (fmP (.mk a s c d (L.map Prod.fst)) v :: ps) := by
  have hh := h
  refine h.turn fun S hS => ?_
  obtain ⟨S', hr, rfl, h2, h3, h4⟩ := hS
  have hlt : ∀ k ∈ v.ownBlock.toList ++ S', k < w.heap.size := fun k hk => by
    rcases List.mem_append.1 hk with hk | hk
    · exact (hr.lt k (by simpa [Option.mem_toList] using hk)).2
    · exact h3 k hk
  refine ⟨?_, hlt⟩
  rcases hr.2 with ⟨h5, h6⟩ | ⟨g, cap, cur, rfl, h5, hg, h6, h7, h8, h9⟩
  · have : L = [] := List.length_eq_zero_iff.1 h6
    subst this
    rw [h5]
    exact .leaf a s c d none 0
  · have hks : (L.map Prod.fst).length = L.length := by simp
    rw [← hks]
    refine .node a s c d (L.map Prod.fst) g 0 cap (fun j => (L[j]?.map Prod.snd).getD (.bool false)) (by simpa using h6) (lt_of_block hg) (by simp [Value.ownBlock]) (fun j k hj => ?_) fun j k hj => ?_
    · obtain ⟨p, hp, rfl⟩ : ∃ p, L[j]? = some p ∧ p.1 = k := by
        rw [List.getElem?_map] at hj
        cases hp : L[j]? with
        | none => rw [hp] at hj; simp at hj
        | some p => rw [hp] at hj; exact ⟨p, rfl, by simpa using hj⟩
      obtain ⟨g2, m2, e2, -, -, c0, c1, c2, c3, c4⟩ := hh.kget hp
      have : g2 = g := by simp at e2; exact e2.1.symm
      subst this
      simp only [Nat.zero_add]
      exact ⟨c0, c1, c2, c3, by rw [c4, hp]; rfl⟩
    · obtain ⟨p, hp, rfl⟩ : ∃ p, L[j]? = some p ∧ p.1 = k := by
        rw [List.getElem?_map] at hj
        cases hp : L[j]? with
        | none => rw [hp] at hj; simp at hj
        | some p => rw [hp] at hj; exact ⟨p, rfl, by simpa using hj⟩
      rw [hp]
      exact (h4 p (List.mem_of_getElem? hp)).mono fun g hg _ => List.mem_append.2 (.inr hg)
/-- The only one. -/
theorem Owns.konly (h : Owns w0 w (kidsP [(f, kv)] v :: ps)) : Owns w0 w (fmP f kv :: ps) := by
  refine h.turn fun S hS => ?_
  have hS2 := (kidsP [(f, kv)] v).lt hS
  obtain ⟨S', hr, rfl, h2, h3, h4⟩ := hS
  exact ⟨(h4 (f, kv) (by simp)).mono fun g hg _ => List.mem_append.2 (.inr hg), hS2⟩
end
end Go.Cz
namespace Go.Proofs.YtoeknmkephnekaaGreatDoor
open Go.RowKit Go.Cz Go.Cz.Lx Go.Cz.Fo
set_option linter.unusedSimpArgs false
set_option linter.unusedVariables false
/-- Tokens that are left, in a row that is older. -/
def TokL (W : World) (v : Value) (ts : List Tok) : Prop := ∃ y m, v = .slice y ts.length m ∧ (ts = [] ∨ ∃ g off, y = some ⟨g, off, none⟩ ∧ g < W.heap.size ∧ ts.length ≤ m ∧ ∀ (j : Nat) (t : Tok), ts[j]? = some t →
    W.cell? ⟨g, off + j * 4, none⟩ = some (.int .i64 t.kind) ∧ W.cell? ⟨g, off + j * 4 + 1, none⟩ = some (.int .i64 t.pos) ∧ W.cell? ⟨g, off + j * 4 + 2, none⟩ = some (.int .i64 t.num) ∧ W.cell? ⟨g, off + j * 4 + 3, none⟩ = some (.string (bs t.text)))
section
variable {W W' : World} {v : Value} {ts : List Tok} {t : Tok} {r : List Tok} {y : Option Addr} {n m j : Nat}
theorem TokL.of (h : IsToks W v ts) : TokL W v ts := by
  rcases h with ⟨rfl, rfl⟩ | ⟨g, c, rfl, h2, h3, h4⟩
  · exact ⟨none, 0, rfl, .inl rfl⟩
  · exact ⟨_, c, rfl, .inr ⟨g, 0, rfl, h3, h2, by simpa using h4⟩⟩
theorem TokL.form (h : TokL W v ts) : ∃ y m, v = .slice y ts.length m := by obtain ⟨y, m, h1, -⟩ := h; exact ⟨y, m, h1⟩
theorem TokL.nil (W : World) (y : Option Addr) (m : Nat) : TokL W (.slice y 0 m) [] := ⟨y, m, rfl, .inl rfl⟩
theorem TokL.later (h : TokL W v ts) (hb : Below W.heap.size W W') : TokL W' v ts := by
  obtain ⟨y, m, rfl, h⟩ := h
  refine ⟨y, m, rfl, h.imp id ?_⟩
  rintro ⟨g, off, rfl, hg, hm, hc⟩
  refine ⟨g, off, rfl, Nat.lt_of_lt_of_le hg hb.size, hm, fun j t hj => ?_⟩
  have e2 : ∀ i, W'.cell? ⟨g, i, none⟩ = W.cell? ⟨g, i, none⟩ := fun i => hb.cell (p := ⟨g, i, none⟩) hg
  simp only [e2]
  exact hc j t hj
theorem TokL.get (h : TokL W (.slice y n m) ts) (hb : Below W.heap.size W W') (hj : ts[j]? = some t) : ∃ g off, y = some ⟨g, off, none⟩ ∧ n ≤ m ∧ g < W'.heap.size ∧
    W'.cell? ⟨g, off + j * 4, none⟩ = some (.int .i64 t.kind) ∧ W'.cell? ⟨g, off + j * 4 + 1, none⟩ = some (.int .i64 t.pos) ∧ W'.cell? ⟨g, off + j * 4 + 2, none⟩ = some (.int .i64 t.num) ∧ W'.cell? ⟨g, off + j * 4 + 3, none⟩ = some (.string (bs t.text)) := by
  obtain ⟨y', m', e, h⟩ := h.later hb
  simp only [Value.slice.injEq] at e
  obtain ⟨rfl, rfl, rfl⟩ := e
  rcases h with rfl | ⟨g, off, rfl, hg, hm, hc⟩
  · simp at hj
  · exact ⟨g, off, rfl, hm, hg, hc j t hj⟩
/-- All but the first. -/
theorem TokL.tail {g off : Nat} (h : TokL W (.slice (some ⟨g, off, none⟩) n m) (t :: r)) : TokL W (.slice (some ⟨g, off + 4, none⟩) (n - 1) (m - 1)) r ∧ (m = 1 → TokL W (.slice (some ⟨g, off, none⟩) (n - 1) (m - 1)) r) := by
  obtain ⟨y', m', e, h⟩ := h
  simp only [Value.slice.injEq] at e
  obtain ⟨rfl, rfl, rfl⟩ := e
  rcases h with h | ⟨g', off', e, hg, hm, hc⟩
  · simp at h
  simp only [Option.some.injEq, Addr.mk.injEq, and_true] at e
  obtain ⟨rfl, rfl⟩ := e
  simp only [List.length_cons] at hm
  refine ⟨⟨_, m - 1, by simp, .inr ⟨g, off + 4, rfl, hg, by omega, fun j t hj => ?_⟩⟩, fun h1 => ⟨some ⟨g, off, none⟩, m - 1, by simp, .inl ?_⟩⟩
  · obtain ⟨c0, c1, c2, c3⟩ := hc (j + 1) t (by simpa using hj)
    have e : off + (j + 1) * 4 = off + 4 + j * 4 := by omega
    rw [e] at c0 c1 c2 c3
    exact ⟨c0, c1, c2, c3⟩
  · have : r.length = 0 := by omega
    exact List.length_eq_zero_iff.1 this
end
end Go.Proofs.YtoeknmkephnekaaGreatDoor
