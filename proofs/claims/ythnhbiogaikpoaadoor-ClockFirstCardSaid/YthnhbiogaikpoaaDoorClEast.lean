/-
  A zone that is built shift by shift.
-/
import Derived.Test.YthnhbiogaikpoaaDoorClEnv
import Derived.Test.YthnhbiogaikpoaaDoorClLaws
namespace Go.Proofs.YthnhbiogaikpoaaDoor
open Go.RowKit Go.Cz Go.Cz.Ck
set_option linter.unusedSimpArgs false
set_option linter.unusedVariables false
def scells (s : Shift) : List Value := [.int .i64 s.1, .int .i64 s.2]
theorem info_shift : (Tryd.prog.info? 40).map (fun i => (i.zero, i.size, i.bytes)) = some (some (.agg #[.int .i64 0, .int .i64 0]), 2, 16) := by kernel_rfl
theorem sflat_get : ∀ (q : List Shift) (j i : Nat) (p : Shift), q[j]? = some p → i < 2 → (q.flatMap scells)[j * 2 + i]? = (scells p)[i]?
  | [], j, i, p, h, _ => by simp at h
  | x :: q, 0, i, p, h, hi => by
    simp at h; subst h
    rw [List.flatMap_cons, List.getElem?_append_left (by simp [scells]; omega)]
    simp
  | x :: q, j + 1, i, p, h, hi => by
    rw [List.flatMap_cons, List.getElem?_append_right (by simp [scells]; omega)]
    rw [← sflat_get q j i p (by simpa using h) hi]
    congr 1
    simp [scells]; omega
/-- A zone in box E that is being made: the shifts s are there. -/
structure Made (V wr : World) (E : Nat) (s : List Shift) (v : Value) : Prop where
  main : Bk wr E #[v] 24
  row : wr.ownsRow 0 40 2 v s.length (s.flatMap scells)
  new : ∀ k, v.ownBlock = some k → V.heap.size ≤ k ∧ k ≠ E
  lo : V.heap.size ≤ E
  below : Below V.heap.size V wr
theorem Made.start (V : World) : Made V (V.alloc (.cells #[.slice none 0 0] 24)) V.heap.size [] (.slice none 0 0) :=
  ⟨Bk.new _ _ _, World.ownsRow_nil _ _ _ _, fun k hk => (by cases hk), Nat.le_refl _, (Below.refl _ _).alloc (Nat.le_refl _) _⟩
theorem Made.step {V wr w1 w2 : World} {E : Nat} {s : List Shift} {y : Shift} {v v' : Value} (h : Made V wr E s v) (hb : Below wr.heap.size wr w1) (hrow : w2.ownsRow 0 40 2 v' (s.length + 1) (s.flatMap scells ++ scells y))
    (hgrow : w1.grownBy w2 v.ownBlock) (hblk : v'.ownBlock = v.ownBlock ∨ v'.ownBlock = some w1.heap.size) :
    Made V (w2.setCell ⟨E, 0, none⟩ v') E (s ++ [y]) v' ∧ E < w2.heap.size ∧ w2.frozen? ⟨E, 0, none⟩ = false ∧ w2.cell? ⟨E, 0, none⟩ = some v := by
  have hlt := h.main.lt
  have hne : some E ≠ v.ownBlock := fun e => (h.new _ e.symm).2 rfl
  have hmain : Bk w2 E #[v] 24 := ((hgrow.block _ (Nat.lt_of_lt_of_le hlt hb.size) hne).trans (hb.block _ hlt)).trans h.main
  have hnew : ∀ k, v'.ownBlock = some k → V.heap.size ≤ k ∧ k ≠ E := fun k hk => by
    rcases hblk with e | e
    · exact h.new k (by rw [← e]; exact hk)
    · rw [e] at hk
      cases hk
      have h1 := hb.size
      have h2 := h.lo
      exact ⟨by omega, by omega⟩
  refine ⟨⟨?_, ?_, hnew, h.lo, ?_⟩, hmain.lt, hmain.free 0, by rw [hmain.cell]; rfl⟩
  · have := hmain.set 0 v'
    simpa using this
  · have := ownsRow_setCell_other (a := ⟨E, 0, none⟩) hrow (fun e => (hnew _ e).2 rfl) v'
    rw [List.length_append, List.flatMap_append]
    simpa using this
  · have h1 : Below V.heap.size V w2 := (h.below.trans (hb.mono h.below.size)).grown hgrow (Nat.le_trans h.below.size hb.size) fun k hk => (h.new k hk).1
    exact h1.setCell h.lo _
theorem Made.zone {V wr : World} {E : Nat} {s : List Shift} {v : Value} (h : Made V wr E s v) (hs : s.length ≤ 1000) : ∃ a c, v = .slice a s.length c ∧ IsShifts wr a s.length s := by
  rcases h.row.2 with ⟨rfl, hn⟩ | ⟨g, c, cur, rfl, _, hg, hnc, _⟩
  · exact ⟨none, 0, by rw [hn], rfl, by omega, .inl hn⟩
  · refine ⟨_, c, rfl, rfl, by omega, .inr ⟨g, 0, rfl, lt_of_block hg, fun j p hp => ?_⟩⟩
    have hj : j < s.length := (List.getElem?_eq_some_iff.1 hp).1
    have key : ∀ i, i < 2 → wr.cell? ⟨g, j * 2 + i, none⟩ = (scells p)[i]? := fun i hi => by
      rw [h.row.cellAt (j * 2 + i) (by omega), sflat_get s j i p hp hi]
    have k0 := key 0 (by omega)
    have k1 := key 1 (by omega)
    simp only [Nat.zero_add]
    exact ⟨k0, k1⟩
theorem length_east (k : Int) (l : List Shift) : (east k l).length = l.length := by simp [east]
theorem east_take {k : Int} {l : List Shift} {j : Nat} {s : Shift} (h : l[j]? = some s) : east k (l.take (j + 1)) = east k (l.take j) ++ [(s.1, s.2 + k)] := by
  obtain ⟨h1, h2⟩ := List.getElem?_eq_some_iff.1 h
  rw [List.take_succ_eq_append_getElem h1, h2]
  simp [east]
/-- What the law asks of a zone and of the one whose offsets are greater. -/
theorem east_law {l : List Shift} {k t day : Int} (h : validB l = true) (h' : validB (east k l) = true) (hk : 0 ≤ k) (h1 : 0 ≤ t) (h2 : t ≤ 144001439) : ∃ a b c d u g v e, localF l t = (a, b, 0) ∧ localF (east k l) t = (c, d, 0) ∧ 1440 * c + d = 1440 * a + b + k ∧
    -1 ≤ a ∧ a ≤ 100001 ∧ 0 ≤ b ∧ b < 1440 ∧ -1 ≤ c ∧ c ≤ 100001 ∧ 0 ≤ d ∧ d < 1440 ∧ instF l day 0 = (u, g) ∧ instF (east k l) day 0 = (v, e) ∧ (g = 10 ∨ g = 0 ∧ e = 0 ∧ v ≤ u) := by
  have o1 := off_range h t
  have o2 := off_range h' t
  have o3 := off_east (k := k) h h1 h2
  rcases hI : instF l day 0 with ⟨u, g⟩
  rcases hJ : instF (east k l) day 0 with ⟨v, e⟩
  refine ⟨_, _, _, _, u, g, v, e, local_law h h1 h2, local_law h' h1 h2, by omega, by omega, by omega, by omega, by omega, by omega, by omega, by omega, by omega, rfl, rfl, ?_⟩
  have k1 := inst_law h (d := day) (m := 0) (by omega) (by omega)
  have k2 := inst_law h' (d := day) (m := 0) (by omega) (by omega)
  rw [hI] at k1
  rw [hJ] at k2
  simp only at k1 k2
  rcases k1 with ⟨rfl, g1, g2, g3, g4⟩ | ⟨rfl, g1, g4⟩
  · refine .inr ⟨rfl, ?_⟩
    have o4 := off_east (k := k) h g1 g2
    rcases k2 with ⟨rfl, i1, i2, i3, i4⟩ | ⟨rfl, i1, i4⟩
    · refine ⟨rfl, ?_⟩
      rcases Int.lt_or_le u v with hb | hb
      · have := i4 u g1 hb
        omega
      · exact hb
    · have := i4 u g1 g2
      omega
  · exact .inl rfl
end Go.Proofs.YthnhbiogaikpoaaDoor
