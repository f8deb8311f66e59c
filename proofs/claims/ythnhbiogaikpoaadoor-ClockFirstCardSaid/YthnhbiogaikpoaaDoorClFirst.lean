/-
  The plain law of the first instant of a local time, and a row of instants that is made.
-/
import Derived.Test.YthnhbiogaikpoaaDoorClEast
namespace Go.Proofs.YthnhbiogaikpoaaDoor
open Go.RowKit Go.Cz Go.Cz.Ck
set_option linter.unusedSimpArgs false
set_option linter.unusedVariables false
theorem earlier_loc {x d m : Int} (h1 : 0 ≤ m) (h2 : m < 1440) : earlierB (x / 1440) (x % 1440) d m = decide (x < d * 1440 + m) := by
  unfold earlierB
  by_cases h : x < d * 1440 + m
  · rw [decide_eq_true h]
    by_cases h3 : x / 1440 < d
    · simp [h3]
    · have h4 : x / 1440 = d := by omega
      have h5 : x % 1440 < m := by omega
      simp [h4, h5]
  · rw [decide_eq_false h]
    have h3 : ¬ x / 1440 < d := by omega
    by_cases h4 : x / 1440 = d
    · have h5 : ¬ x % 1440 < m := by omega
      simp [h3, h4, h5]
    · simp [h3, h4]
/-- An instant whose local time is earlier. -/
def Before (l : List Shift) (d m y : Int) : Prop := 0 ≤ y ∧ y ≤ 144001439 ∧ ∃ a b, localF l y = (a, b, 0) ∧ earlierB a b d m = true
theorem first_law {l : List Shift} (h : validB l = true) {d m : Int} (h1 : 0 ≤ m) (h2 : m < 1440) : ∃ T e, instF l d m = (T, e) ∧
    ((e = 0 ∧ 0 ≤ T ∧ T ≤ 144001439 ∧ (∃ a b, localF l T = (a, b, 0) ∧ earlierB a b d m = false) ∧ ∀ t, 0 ≤ t → t < T → Before l d m t) ∨ (e = 10 ∧ T = 0 ∧ ∀ t, 0 ≤ t → t < 144001440 → Before l d m t)) := by
  have k1 := inst_law h (d := d) h1 h2
  rcases hI : instF l d m with ⟨T, e⟩
  rw [hI] at k1
  simp only at k1
  refine ⟨T, e, rfl, ?_⟩
  rcases k1 with ⟨rfl, g1, g2, g3, g4⟩ | ⟨rfl, g1, g4⟩
  · refine .inl ⟨rfl, g1, g2, ⟨_, _, local_law h g1 g2, ?_⟩, fun t i1 i2 => ⟨i1, by omega, _, _, local_law h i1 (by omega), ?_⟩⟩
    · rw [earlier_loc h1 h2]; exact decide_eq_false (by omega)
    · rw [earlier_loc h1 h2]; exact decide_eq_true (g4 t i1 i2)
  · refine .inr ⟨rfl, g1, fun t i1 i2 => ⟨i1, by omega, _, _, local_law h i1 (by omega), ?_⟩⟩
    rw [earlier_loc h1 h2]; exact decide_eq_true (g4 t i1 (by omega))
def icells (xs : List Int) : List Value := xs.map (.int .i64 ·)
/-- A row of instants that is being made. -/
structure Row (V wr : World) (v : Value) (xs : List Int) : Prop where
  row : wr.ownsRow 0 3 1 v xs.length (icells xs)
  new : ∀ k, v.ownBlock = some k → V.heap.size ≤ k
  below : Below V.heap.size V wr
theorem info_int : (Tryd.prog.info? 3).map (fun i => (i.zero, i.size, i.bytes)) = some (some (.int .i64 0), 1, 8) := by kernel_rfl
theorem Row.start (V : World) (a b : Int) : Row V (V.alloc (.cells #[.int .i64 a, .int .i64 b] 3)) (.slice (some ⟨V.heap.size, 0, none⟩) 2 2) [a, b] := by
  have h : (V.alloc (.cells #[.int .i64 a, .int .i64 b] 3)).heap[V.heap.size]? = some (.cells #[.int .i64 a, .int .i64 b] 3 (0, 0)) := new_heap V _ _ rfl
  refine ⟨⟨?_, .inr ⟨V.heap.size, 2, #[.int .i64 a, .int .i64 b], rfl, ?_, ?_, ?_, ?_, ?_, ?_⟩⟩, fun k hk => (by cases hk; exact Nat.le_refl _), (Below.refl _ _).alloc (Nat.le_refl _) _⟩
  all_goals first | exact h | (simp [icells]; done) | omega | rfl | (unfold maxLen; simp)
theorem Row.step {V wr w1 w2 : World} {v v' : Value} {xs : List Int} {y : Int} (h : Row V wr v xs) (hb : Below wr.heap.size wr w1) (hrow : w2.ownsRow 0 3 1 v' (xs.length + 1) (icells xs ++ [.int .i64 y]))
    (hgrow : w1.grownBy w2 v.ownBlock) (hblk : v'.ownBlock = v.ownBlock ∨ v'.ownBlock = some w1.heap.size) : Row V w2 v' (xs ++ [y]) := by
  refine ⟨?_, fun k hk => ?_, (h.below.trans (hb.mono h.below.size)).grown hgrow (Nat.le_trans h.below.size hb.size) h.new⟩
  · simpa [icells] using hrow
  · rcases hblk with e | e
    · exact h.new k (by rw [← e]; exact hk)
    · rw [e] at hk
      cases hk
      exact Nat.le_trans h.below.size hb.size
theorem Row.at {V wr W : World} {v : Value} {xs : List Int} (h : Row V wr v xs) (hb : Below wr.heap.size wr W) : ∃ a c, v = .slice a xs.length c ∧ ∀ (j : Nat) y, xs[j]? = some y → ∃ g, a = some ⟨g, 0, none⟩ ∧ g < W.heap.size ∧ W.cell? ⟨g, j, none⟩ = some (.int .i64 y) := by
  rcases h.row.2 with ⟨rfl, hn⟩ | ⟨g, c, cur, rfl, _, hg, hnc, _⟩
  · exact ⟨none, 0, by rw [hn], fun j y hy => by have := (List.getElem?_eq_some_iff.1 hy).1; omega⟩
  · have hlt := lt_of_block hg
    refine ⟨_, c, rfl, fun j y hy => ⟨g, rfl, Nat.lt_of_lt_of_le hlt hb.size, ?_⟩⟩
    have hj : j < xs.length := (List.getElem?_eq_some_iff.1 hy).1
    rw [hb.cell (p := ⟨g, j, none⟩) hlt, h.row.cellAt j (by omega)]
    simp [icells, hy]
end Go.Proofs.YthnhbiogaikpoaaDoor
