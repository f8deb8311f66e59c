/-
  A case that is copied and changed, as a row of the call's own.
-/
import Derived.Test.YtagoefnibgobcaaGreatDoorFmFew
import Derived.Test.YtagoefnibgobcaaGreatDoorFmNamed
import Derived.Laws.OwnMore
namespace Go.Cz.Fo
/-- Whether a formula names a fact. -/
def nmF (f : Fm) (d : List Fact) (j : Nat) : Bool := match d[j]? with | some x => namedF x.name f | none => false
/-- The values after k facts. -/
def mixV (f : Fm) (d : List Fact) (a b : List Int) (k j : Nat) : Int := if j < k ∧ nmF f d j = true then a.getD j 0 else b.getD j 0
theorem mixV_last {f : Fm} {d : List Fact} {a b : List Int} {j : Nat} {x : Fact} (ha : a.length = d.length) (hb : b.length = d.length) (hx : d[j]? = some x) : mixV f d a b d.length j = (mixF f d a b).getD j 0 := by
  have hj := (List.getElem?_eq_some_iff.1 hx).1
  rw [mix_get ha hb hx, mixV, nmF, hx]
  simp [hj]
theorem good_of3 {d : List Fact} {c : List Int} {f : Fm} (h : goodB d c f = true) : Good d c f ∧ short 60 f = true ∧ fewB d c = true := by
  unfold goodB at h
  simp only [Bool.and_eq_true, decide_eq_true_eq] at h
  exact ⟨⟨h.1, h.2.2.2.2.1, h.2.2.2.1, h.2.2.2.2.2⟩, h.2.1, h.2.2.1⟩
end Go.Cz.Fo
namespace Go.Cz
open Go.RowKit Go.Cz.Fo
section
variable {P : Program} {w : World}
theorem run_append_owned_nil (base : Nat) (t ty e : TypeId) (i : TypeInfo) (size : Nat) (ht : P.underlying t = some (.slice e)) (hi : P.info? e = some i)
    (v : Value) (n : Nat) (xs : List Value) (hown : w.ownsRow base e size v n xs) (c : Nat) :
    (Builtin.append_ #[t, t] ty #[v, .slice none 0 c]).run P w = .ok v w := by
  rcases hown.2 with ⟨rfl, rfl⟩ | ⟨g, cap, cur, rfl, _, _, hnc, _⟩
  · simp [Builtin.append_, run_underlying ht, sizeOf, typeInfo, hi, Builtin.lenOf, Builtin.firstCells]
  · simp [Builtin.append_, run_underlying ht, sizeOf, typeInfo, hi, Builtin.lenOf, Builtin.firstCells, hnc, storeCells]
end
theorem ORow.lit0 (w : World) (e : TypeId) (size : Nat) : ORow e size w (w.alloc (.cells #[] e)) (.slice (some ⟨w.heap.size, 0, none⟩) 0 0) 0 [] :=
  ⟨World.ownsRow_lit w #[] 0 (Nat.zero_le _) (Nat.zero_le _) (by simp), fun k hk => by
    have : w.heap.size = k := by simpa [Value.ownBlock] using hk
    omega, (Below.refl _ _).alloc (Nat.le_refl _) _⟩
end Go.Cz
namespace Go.Proofs.YtagoefnibgobcaaGreatDoor
open Go.RowKit Go.Cz Go.Cz.Lx Go.Cz.Fo
set_option linter.unusedSimpArgs false
set_option linter.unusedVariables false
abbrev ints (c : List Int) : List Value := c.map fun x => .int .i64 x
theorem info_int : (Tryz.prog.info? 3).map (fun i => (i.zero, i.size, i.bytes)) = some (some (.int .i64 0), 1, 8) := by kernel_rfl
/-- append(s, c...) of a case. -/
theorem wp_append_case {o : Oper} {a : Act} {K : Act → World → Prop} {Q : Exit → Act → World → Prop} {w : World} (s x : Operand)
    (ho : o.op = .call { callee := .builtin .append, args := #[s, x], argTypes := #[29, 29] })
    (v : Value) (hs : a.eval s = v) (hown : w.ownsRow 0 3 1 v 0 [])
    (c : List Int) (u : Value) (hx : a.eval x = u) (hc : IsC w c u) (h63 : c.length ≤ 1000000)
    (h : ∀ v' w', w'.ownsRow 0 3 1 v' c.length (ints c) → w.grownBy w' v.ownBlock → (v'.ownBlock = v.ownBlock ∨ v'.ownBlock = some w.heap.size) → K (a.put o.dst v') w') : o.wp Tryz.prog a w K Q := by
  obtain ⟨i, hi, hz, hs1, hb1⟩ := info_parts info_int
  obtain ⟨y, m, rfl, hc⟩ := hc
  rcases hc with rfl | ⟨g, off, rfl, hg, hm, hc⟩
  · rcases y with _ | ad
    · have hr := run_append_owned_nil (P := Tryz.prog) 0 29 o.type 3 i 1 Tryz.underlying29 hi v 0 [] hown m
      unfold Oper.wp execOp
      simp only [List.length_nil] at hx
      simp only [ho, resolve, invoke, builtin, Sem.run_bind, Sem.run_pure, Result.andThen_ok, List.map_toArray, List.map_cons, List.map_nil, hs, hx, hr]
      exact h v w (by simpa [ints] using hown) ⟨rfl, rfl, rfl, Nat.le_refl _, fun _ _ _ => rfl⟩ (.inl rfl)
    · obtain ⟨v', w', hr, h2, h3, _, h5⟩ := run_append_own_at (P := Tryz.prog) w 0 29 o.type 3 i _ 1 8 Tryz.underlying29 hi hz hs1 hb1 rfl (by omega) v 0 [] hown ad 0 m [] (by simp) (by intro j u hu; simp at hu) (by simp) (by unfold maxLen; omega) (by omega) (Nat.zero_le _)
      unfold Oper.wp execOp
      simp only [List.length_nil] at hx
      simp only [ho, resolve, invoke, builtin, Sem.run_bind, Sem.run_pure, Result.andThen_ok, List.map_toArray, List.map_cons, List.map_nil, hs, hx, hr]
      exact h v' w' (by simpa [ints] using h2) h3 h5
  · refine wp_append_at s x 29 ho 3 (.int .i64 0) 1 8 Tryz.underlying29 info_int rfl (by omega) v 0 [] hs hown g off m c.length (ints c) hx (by simp [ints]) (fun j u hu => ?_) (fun u hu => ?_) (by omega) (by omega) fun v' w' h1 h2 h3 => h v' w' (by simpa using h1) h2 h3
    · simp only [ints, List.getElem?_map, Option.map_eq_some_iff] at hu
      obtain ⟨r, hr, rfl⟩ := hu
      exact hc j r hr
    · simp only [ints, List.mem_map] at hu
      obtain ⟨r, -, rfl⟩ := hu
      rfl
theorem getD3 {W W' : World} {d : List Fact} {g off n m j : Nat} {x : Fact} (h : IsD W d (.slice (some ⟨g, off, none⟩) n m)) (hb : Below W.heap.size W W') (hj : d[j]? = some x) : g < W'.heap.size ∧
    W'.cell? ⟨g, off + j * 4, none⟩ = some (.string (bs x.name)) ∧ W'.cell? ⟨g, off + j * 4 + 1, none⟩ = some (.int .i64 x.kind) ∧ W'.cell? ⟨g, off + j * 4 + 2, none⟩ = some (.int .i64 x.lo) ∧ W'.cell? ⟨g, off + j * 4 + 3, none⟩ = some (.int .i64 x.hi) := by
  obtain ⟨g', off', e, h1, h2⟩ := h.get hb hj
  simp only [Option.some.injEq, Addr.mk.injEq, and_true] at e
  obtain ⟨rfl, rfl⟩ := e
  exact ⟨h1, h2⟩
/-- A row of numbers of the call's own. -/
def irow (v : Value) (L : List Int) : Piece where
  lies w S := w.ownsRow 0 3 1 v L.length (ints L) ∧ S = v.ownBlock.toList
  lt := by
    rintro w S ⟨h, rfl⟩ k hk
    exact (h.lt k (by simpa [Option.mem_toList] using hk)).2
  keep := by
    rintro w w' S T ⟨h, rfl⟩ hm hd
    refine ⟨⟨h.1, ?_⟩, rfl⟩
    rcases h.2 with h0 | ⟨g, cap, cur, rfl, h5, hg, h6⟩
    · exact .inl h0
    · exact .inr ⟨g, cap, cur, rfl, h5, hm.heap hg (hd g (by simp [Value.ownBlock])), h6⟩
end Go.Proofs.YtagoefnibgobcaaGreatDoor
namespace Go.Cz
open Go.RowKit Go.Cz.Lx Go.Cz.Fo Go.Proofs.YtagoefnibgobcaaGreatDoor
set_option linter.unusedVariables false
section
variable {w0 w : World} {ps : List Piece} {v : Value} {L : List Int}
theorem Owns.irow (h : Owns w0 w ps) {W : World} (hr : ORow 3 1 w W v L.length (ints L)) : Owns w0 W (Go.Proofs.YtagoefnibgobcaaGreatDoor.irow v L :: ps) :=
  h.push (Q := Go.Proofs.YtagoefnibgobcaaGreatDoor.irow v L) (S := v.ownBlock.toList) ⟨hr.row, rfl⟩ hr.below fun k hk => hr.new k (by simpa [Option.mem_toList] using hk)
theorem Owns.irow_row (h : Owns w0 w (Go.Proofs.YtagoefnibgobcaaGreatDoor.irow v L :: ps)) : w.ownsRow 0 3 1 v L.length (ints L) := by
  obtain ⟨S, ⟨hr, -⟩, -⟩ := h.first
  exact hr
theorem Owns.irow_case (h : Owns w0 w (Go.Proofs.YtagoefnibgobcaaGreatDoor.irow v L :: ps)) : IsC w L v := by
  rcases h.irow_row.2 with ⟨h1, h2⟩ | ⟨g, c, cur, rfl, -, h3, h4, h5, h6, h7⟩
  · exact ⟨none, 0, by rw [h1, h2], .inl (List.length_eq_zero_iff.1 h2)⟩
  · refine ⟨_, c, rfl, .inr ⟨g, 0, rfl, lt_of_block h3, h4, fun j x hj => ?_⟩⟩
    rw [Nat.zero_add, cell_of_heap h3]
    have h8 : (ints L)[j]? = some (.int .i64 x) := by rw [ints, List.getElem?_map, hj]; rfl
    rw [← h7, List.getElem?_take] at h8
    split at h8
    · simpa using h8
    · cases h8
theorem Owns.irow_at {j : Nat} (h : Owns w0 w (Go.Proofs.YtagoefnibgobcaaGreatDoor.irow v L :: ps)) (hj : j < L.length) : ∃ g c, v = .slice (some ⟨g, 0, none⟩) L.length c ∧ L.length ≤ c ∧ g < w.heap.size ∧ (∃ x, w.cell? ⟨g, j, none⟩ = some x) ∧ w.frozen? ⟨g, j, none⟩ = false := by
  rcases h.irow_row.2 with ⟨h1, h2⟩ | ⟨g, c, cur, rfl, -, h3, h4, h5, h6, h7⟩
  · omega
  · refine ⟨g, c, rfl, h4, lt_of_block h3, ⟨cur[j]'(by omega), ?_⟩, free_of_heap h3⟩
    rw [cell_of_heap h3, Array.getElem?_eq_getElem (by omega)]
theorem Owns.irow_store {g c j : Nat} (h : Owns w0 w (Go.Proofs.YtagoefnibgobcaaGreatDoor.irow (.slice (some ⟨g, 0, none⟩) L.length c) L :: ps)) (x : Int) :
    Owns w0 (w.setCell ⟨g, j, none⟩ (.int .i64 x)) (Go.Proofs.YtagoefnibgobcaaGreatDoor.irow (.slice (some ⟨g, 0, none⟩) L.length c) (L.set j x) :: ps) := by
  obtain ⟨S, ⟨hr, rfl⟩, -, hq⟩ := h.open
  have h1 := (hr.stored j (.int .i64 x)).1
  refine hq _ _ [g] ⟨?_, by simp [Value.ownBlock]⟩ ((Mod.refl _ _).setCell (.inl (by simp [Value.ownBlock])) _) fun k hk => .inl (by simpa [Value.ownBlock] using hk)
  rw [List.length_set]
  have e : ints (L.set j x) = (ints L).set j (.int .i64 x) := by simp [ints, List.map_set]
  rw [e]
  exact h1
end
end Go.Cz
