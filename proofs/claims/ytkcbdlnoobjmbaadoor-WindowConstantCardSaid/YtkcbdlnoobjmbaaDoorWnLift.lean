/-
  What a law of the windows is handed: zones, measures.
-/
import Derived.Test.YtkcbdlnoobjmbaaDoorWnHead
import Derived.Test.YtkcbdlnoobjmbaaDoorRows
import Derived.Deep.Slices
import Derived.ChangeSame
import Derived.ShutString
import Derived.ProofKit
import Derived.SizedLaws
import Derived.LaidLaws
import Derived.Stop.LaidErr
import Derived.Lib.LaidTab
namespace Go.Proofs.YtkcbdlnoobjmbaaDoor
open Go.RowKit Go.Cz Go.Cz.Ck Go.Cz.Wn Go.ChangeShapes Go.WideShapes Go.Deep
set_option linter.unusedSimpArgs false
set_option linter.unusedVariables false

theorem len5 {α : Type _} {l : List α} (h : l.length = 5) : ∃ a0 a1 a2 a3 a4, l = [a0, a1, a2, a3, a4] := by
  rcases l with _ | ⟨a0, l⟩
  · simp at h
  rcases l with _ | ⟨a1, l⟩
  · simp at h
  rcases l with _ | ⟨a2, l⟩
  · simp at h
  rcases l with _ | ⟨a3, l⟩
  · simp at h
  rcases l with _ | ⟨a4, l⟩
  · simp at h
  rcases l with _ | ⟨b, l⟩
  · exact ⟨_, _, _, _, _, rfl⟩
  · simp at h
theorem len8 {α : Type _} {l : List α} (h : l.length = 8) : ∃ a0 a1 a2 a3 a4 a5 a6 a7, l = [a0, a1, a2, a3, a4, a5, a6, a7] := by
  rcases l with _ | ⟨a0, l⟩
  · simp at h
  rcases l with _ | ⟨a1, l⟩
  · simp at h
  rcases l with _ | ⟨a2, l⟩
  · simp at h
  rcases l with _ | ⟨a3, l⟩
  · simp at h
  rcases l with _ | ⟨a4, l⟩
  · simp at h
  rcases l with _ | ⟨a5, l⟩
  · simp at h
  rcases l with _ | ⟨a6, l⟩
  · simp at h
  rcases l with _ | ⟨a7, l⟩
  · simp at h
  rcases l with _ | ⟨b, l⟩
  · exact ⟨_, _, _, _, _, _, _, _, rfl⟩
  · simp at h
theorem len12 {α : Type _} {l : List α} (h : l.length = 12) : ∃ a0 a1 a2 a3 a4 a5 a6 a7 a8 a9 a10 a11, l = [a0, a1, a2, a3, a4, a5, a6, a7, a8, a9, a10, a11] := by
  rcases l with _ | ⟨a0, l⟩
  · simp at h
  rcases l with _ | ⟨a1, l⟩
  · simp at h
  rcases l with _ | ⟨a2, l⟩
  · simp at h
  rcases l with _ | ⟨a3, l⟩
  · simp at h
  rcases l with _ | ⟨a4, l⟩
  · simp at h
  rcases l with _ | ⟨a5, l⟩
  · simp at h
  rcases l with _ | ⟨a6, l⟩
  · simp at h
  rcases l with _ | ⟨a7, l⟩
  · simp at h
  rcases l with _ | ⟨a8, l⟩
  · simp at h
  rcases l with _ | ⟨a9, l⟩
  · simp at h
  rcases l with _ | ⟨a10, l⟩
  · simp at h
  rcases l with _ | ⟨a11, l⟩
  · simp at h
  rcases l with _ | ⟨b, l⟩
  · exact ⟨_, _, _, _, _, _, _, _, _, _, _, _, rfl⟩
  · simp at h
section
variable {H : Type} {enc : TypeId × Value → H} {w : World} {base : Nat} {spare : Nat → Bool} {held : Bool}
theorem open_shift {fuel : Nat} {cs : List Value} {x : DataW H × List MemPlace} (h : DataW.trod enc Tryd.prog w base spare held fuel 50 cs = some x) : ∃ s : Shift, cs = [.int .i64 s.1, .int .i64 s.2] := by
  obtain ⟨xs, n, rfl, rfl, hlen, hxs, hf⟩ := DataW.trod_struct Tryd.underlying50 h
  have hc : Tryd.prog.cellsOf 50 = 2 := by kernel_rfl
  rw [hc] at hlen
  have c3 : Tryd.prog.cellsOf 3 = 1 := by kernel_rfl
  obtain ⟨v0, v1, rfl⟩ : ∃ v0 v1, cs = [v0, v1] := by
    rcases cs with _ | ⟨a, _ | ⟨b, _ | ⟨c, r⟩⟩⟩
    · simp at hlen
    · simp at hlen
    · exact ⟨a, b, rfl⟩
    · simp at hlen
  obtain ⟨y0, y1, rfl⟩ : ∃ y0 y1, xs = [y0, y1] := by
    have hxs' : xs.length = 2 := hxs
    rcases xs with _ | ⟨a, _ | ⟨b, _ | ⟨c, r⟩⟩⟩
    · simp at hxs'
    · simp at hxs'
    · exact ⟨a, b, rfl⟩
    · simp at hxs'
  have g0 : DataW.trod enc Tryd.prog w base spare held n 3 (([v0, v1].drop 0).take (Tryd.prog.cellsOf 3)) = some y0 := hf 0 _ rfl
  have g1 : DataW.trod enc Tryd.prog w base spare held n 3 (([v0, v1].drop 1).take (Tryd.prog.cellsOf 3)) = some y1 := hf 1 _ rfl
  rw [c3] at g0 g1
  obtain ⟨k, e0, _, w0⟩ := DataW.trod_int Tryd.underlying3 g0
  obtain ⟨s, e1, _, w1⟩ := DataW.trod_int Tryd.underlying3 g1
  obtain rfl := List.cons.inj e0 |>.1
  obtain rfl := List.cons.inj e1 |>.1
  exact ⟨(k, s), rfl⟩
theorem lt_of_cell {w : World} {p : Addr} {v : Value} (h : w.cell? p = some v) : p.block < w.heap.size := by
  rcases Nat.lt_or_ge p.block w.heap.size with h1 | h1
  · exact h1
  · simp [World.cell?, Array.getElem?_eq_none h1] at h
theorem open_shifts {fuel : Nat} {cs : List Value} {x : DataW H × List MemPlace} (h : DataW.trod enc Tryd.prog w base spare held fuel 27 cs = some x) :
    ∃ a n c l, cs = [.slice a n c] ∧ IsShifts w a n l := by
  rcases open_slice Tryd.underlying27 h with ⟨rfl, _⟩ | ⟨a, len, cap, m, n, D, Pl, rfl, _, hl, hm, hmm, _, hi⟩
  · exact ⟨none, 0, 0, [], rfl, rfl, by omega, .inl rfl⟩
  · have hc : Tryd.prog.cellsOf 50 = 2 := by kernel_rfl
    rw [hc] at hi
    have hlm : len ≤ m := by rw [hmm]; split <;> omega
    have key : ∀ i, i < len → ∃ y : Shift, ∀ k v, (#[Value.int .i64 y.1, .int .i64 y.2] : Array Value)[k]? = some v → w.cell? ((a.add (i * 2)).add k) = some v := by
      intro i hil
      obtain ⟨cs', h1, h2⟩ := hi i (by omega)
      obtain ⟨y, rfl⟩ := open_shift h2
      obtain ⟨_, hlen, hat⟩ := World.cells?_some h1
      refine ⟨y, fun k v hk => ?_⟩
      have hk6 : k < 2 := by have := (Array.getElem?_eq_some_iff.1 hk).1; simpa using this
      have := hat k hk6
      rw [this]
      simpa using hk
    have hm63 : len ≤ 9223372036854775807 := by unfold maxLen at hm; omega
    by_cases h0 : len = 0
    · subst h0
      exact ⟨_, 0, cap, [], rfl, rfl, by omega, .inl rfl⟩
    · obtain ⟨g, off, spot⟩ := a
      have hspot : spot = none := by
        obtain ⟨y, hy⟩ := key 0 (by omega)
        have := World.cell?_spot (hy 0 _ rfl)
        simpa [Addr.add] using this
      subst hspot
      have key2 : ∀ i, ∃ y : Shift, i < len → ∀ k v, (#[Value.int .i64 y.1, .int .i64 y.2] : Array Value)[k]? = some v → w.cell? (((⟨g, off, none⟩ : Addr).add (i * 2)).add k) = some v := fun i => by
        by_cases h : i < len
        · obtain ⟨y, hy⟩ := key i h; exact ⟨y, fun _ => hy⟩
        · exact ⟨(0, 0), fun h' => absurd h' h⟩
      obtain ⟨f, hf⟩ := Classical.axiomOfChoice key2
      refine ⟨_, len, cap, (List.range len).map f, rfl, by simp, hm63, .inr ⟨g, off, rfl, ?_, ?_⟩⟩
      · obtain ⟨y, hy⟩ := key 0 (by omega)
        exact lt_of_cell (hy 0 _ rfl)
      · intro j y hy
        have hj : j < len := by have := (List.getElem?_eq_some_iff.1 hy).1; simpa using this
        simp [hj] at hy
        have hs := hf j hj
        rw [hy] at hs
        have e : ∀ k, ((⟨g, off, none⟩ : Addr).add (j * 2)).add k = ⟨g, off + j * 2 + k, none⟩ := fun k => by unfold Addr.add; split <;> split <;> simp_all
        simp only [e] at hs
        exact ⟨hs 0 _ rfl, hs 1 _ rfl⟩
theorem open_zone {fuel : Nat} {cs : List Value} {x : DataW H × List MemPlace} (h : DataW.trod enc Tryd.prog w base spare held fuel 29 cs = some x) :
    ∃ a n c l, cs = [.slice a n c] ∧ IsShifts w a n l := by
  obtain ⟨xs, n, rfl, rfl, hlen, hxs, hf⟩ := DataW.trod_struct Tryd.underlying29 h
  have hc : Tryd.prog.cellsOf 29 = 1 := by kernel_rfl
  rw [hc] at hlen
  have c3 : Tryd.prog.cellsOf 27 = 1 := by kernel_rfl
  obtain ⟨v0, rfl⟩ : ∃ v0, cs = [v0] := by
    rcases cs with _ | ⟨a, _ | ⟨b, r⟩⟩
    · simp at hlen
    · exact ⟨a, rfl⟩
    · simp at hlen
  obtain ⟨y0, rfl⟩ : ∃ y0, xs = [y0] := by
    have hxs' : xs.length = 1 := hxs
    rcases xs with _ | ⟨a, _ | ⟨b, r⟩⟩
    · simp at hxs'
    · exact ⟨a, rfl⟩
    · simp at hxs'
  have g0 : DataW.trod enc Tryd.prog w base spare held n 27 (([v0].drop 0).take (Tryd.prog.cellsOf 27)) = some y0 := hf 0 _ rfl
  rw [c3] at g0
  exact open_shifts g0
theorem open_kids {fuel : Nat} {cs : List Value} {x : DataW H × List MemPlace} (h : DataW.trod enc Tryd.prog w base spare held fuel 22 cs = some x) : ∃ a n c, cs = [.slice a n c] := by
  rcases open_slice Tryd.underlying22 h with ⟨rfl, _⟩ | ⟨a, len, cap, m, n, D, Pl, rfl, _⟩
  · exact ⟨none, 0, 0, rfl⟩
  · exact ⟨_, len, cap, rfl⟩
theorem open_formula {fuel : Nat} {cs : List Value} {x : DataW H × List MemPlace} (h : DataW.trod enc Tryd.prog w base spare held fuel 24 cs = some x) :
    ∃ (op : Int) (name : ByteArray) (cmp num : Int) (ka : Option Addr) (kn kc : Nat), cs = [.int .i64 op, .string name, .int .i64 cmp, .int .i64 num, .slice ka kn kc] := by
  obtain ⟨xs, n, rfl, rfl, hlen, hxs, hf⟩ := DataW.trod_struct Tryd.underlying24 h
  have hc : Tryd.prog.cellsOf 24 = 5 := by kernel_rfl
  rw [hc] at hlen
  have ci : Tryd.prog.cellsOf 3 = 1 := by kernel_rfl
  have cst : Tryd.prog.cellsOf 9 = 1 := by kernel_rfl
  have ck : Tryd.prog.cellsOf 22 = 1 := by kernel_rfl
  obtain ⟨v0, v1, v2, v3, v4, rfl⟩ := len5 hlen
  obtain ⟨y0, y1, y2, y3, y4, rfl⟩ := len5 (show xs.length = 5 from hxs)
  have g0 : DataW.trod enc Tryd.prog w base spare held n 3 (([v0, v1, v2, v3, v4].drop 0).take (Tryd.prog.cellsOf 3)) = some y0 := hf 0 _ rfl
  have g1 : DataW.trod enc Tryd.prog w base spare held n 9 (([v0, v1, v2, v3, v4].drop 1).take (Tryd.prog.cellsOf 9)) = some y1 := hf 1 _ rfl
  have g2 : DataW.trod enc Tryd.prog w base spare held n 3 (([v0, v1, v2, v3, v4].drop 2).take (Tryd.prog.cellsOf 3)) = some y2 := hf 2 _ rfl
  have g3 : DataW.trod enc Tryd.prog w base spare held n 3 (([v0, v1, v2, v3, v4].drop 3).take (Tryd.prog.cellsOf 3)) = some y3 := hf 3 _ rfl
  have g4 : DataW.trod enc Tryd.prog w base spare held n 22 (([v0, v1, v2, v3, v4].drop 4).take (Tryd.prog.cellsOf 22)) = some y4 := hf 4 _ rfl
  rw [ci] at g0 g2 g3
  rw [cst] at g1
  rw [ck] at g4
  obtain ⟨k0, e0, -, -⟩ := DataW.trod_int Tryd.underlying3 g0
  obtain ⟨k1, e1, -⟩ := DataW.trod_string Tryd.underlying9 g1
  obtain ⟨k2, e2, -, -⟩ := DataW.trod_int Tryd.underlying3 g2
  obtain ⟨k3, e3, -, -⟩ := DataW.trod_int Tryd.underlying3 g3
  obtain ⟨ka, kn, kc, e4⟩ := open_kids g4
  obtain rfl := List.cons.inj e0 |>.1
  obtain rfl := List.cons.inj e1 |>.1
  obtain rfl := List.cons.inj e2 |>.1
  obtain rfl := List.cons.inj e3 |>.1
  obtain rfl := List.cons.inj e4 |>.1
  exact ⟨k0, k1, k2, k3, ka, kn, kc, rfl⟩
theorem open_measure {fuel : Nat} {cs : List Value} {x : DataW H × List MemPlace} (h : DataW.trod enc Tryd.prog w base spare held fuel 26 cs = some x) : ∃ m : Ms, cs = m.v.toList := by
  obtain ⟨xs, n, rfl, rfl, hlen, hxs, hf⟩ := DataW.trod_struct Tryd.underlying26 h
  have hc : Tryd.prog.cellsOf 26 = 12 := by kernel_rfl
  rw [hc] at hlen
  have ci : Tryd.prog.cellsOf 3 = 1 := by kernel_rfl
  have cst : Tryd.prog.cellsOf 9 = 1 := by kernel_rfl
  have cf : Tryd.prog.cellsOf 24 = 5 := by kernel_rfl
  obtain ⟨v0, v1, v2, v3, v4, v5, v6, v7, v8, v9, v10, v11, rfl⟩ := len12 hlen
  obtain ⟨y0, y1, y2, y3, y4, y5, y6, y7, rfl⟩ := len8 (show xs.length = 8 from hxs)
  have g0 : DataW.trod enc Tryd.prog w base spare held n 9 (([v0, v1, v2, v3, v4, v5, v6, v7, v8, v9, v10, v11].drop 0).take (Tryd.prog.cellsOf 9)) = some y0 := hf 0 _ rfl
  have g1 : DataW.trod enc Tryd.prog w base spare held n 9 (([v0, v1, v2, v3, v4, v5, v6, v7, v8, v9, v10, v11].drop 1).take (Tryd.prog.cellsOf 9)) = some y1 := hf 1 _ rfl
  have g2 : DataW.trod enc Tryd.prog w base spare held n 3 (([v0, v1, v2, v3, v4, v5, v6, v7, v8, v9, v10, v11].drop 2).take (Tryd.prog.cellsOf 3)) = some y2 := hf 2 _ rfl
  have g3 : DataW.trod enc Tryd.prog w base spare held n 9 (([v0, v1, v2, v3, v4, v5, v6, v7, v8, v9, v10, v11].drop 3).take (Tryd.prog.cellsOf 9)) = some y3 := hf 3 _ rfl
  have g4 : DataW.trod enc Tryd.prog w base spare held n 24 (([v0, v1, v2, v3, v4, v5, v6, v7, v8, v9, v10, v11].drop 4).take (Tryd.prog.cellsOf 24)) = some y4 := hf 4 _ rfl
  have g5 : DataW.trod enc Tryd.prog w base spare held n 3 (([v0, v1, v2, v3, v4, v5, v6, v7, v8, v9, v10, v11].drop 9).take (Tryd.prog.cellsOf 3)) = some y5 := hf 5 _ rfl
  have g6 : DataW.trod enc Tryd.prog w base spare held n 3 (([v0, v1, v2, v3, v4, v5, v6, v7, v8, v9, v10, v11].drop 10).take (Tryd.prog.cellsOf 3)) = some y6 := hf 6 _ rfl
  have g7 : DataW.trod enc Tryd.prog w base spare held n 3 (([v0, v1, v2, v3, v4, v5, v6, v7, v8, v9, v10, v11].drop 11).take (Tryd.prog.cellsOf 3)) = some y7 := hf 7 _ rfl
  rw [ci] at g2 g5 g6 g7
  rw [cst] at g0 g1 g3
  rw [cf] at g4
  obtain ⟨k0, e0, -⟩ := DataW.trod_string Tryd.underlying9 g0
  obtain ⟨k1, e1, -⟩ := DataW.trod_string Tryd.underlying9 g1
  obtain ⟨k2, e2, -, -⟩ := DataW.trod_int Tryd.underlying3 g2
  obtain ⟨k3, e3, -⟩ := DataW.trod_string Tryd.underlying9 g3
  obtain ⟨op, name, cmp, num, ka, kn, kc, e4⟩ := open_formula g4
  obtain ⟨k5, e5, -, -⟩ := DataW.trod_int Tryd.underlying3 g5
  obtain ⟨k6, e6, -, -⟩ := DataW.trod_int Tryd.underlying3 g6
  obtain ⟨k7, e7, -, -⟩ := DataW.trod_int Tryd.underlying3 g7
  obtain rfl := List.cons.inj e0 |>.1
  obtain rfl := List.cons.inj e1 |>.1
  obtain rfl := List.cons.inj e2 |>.1
  obtain rfl := List.cons.inj e3 |>.1
  obtain rfl := List.cons.inj e5 |>.1
  obtain rfl := List.cons.inj e6 |>.1
  obtain rfl := List.cons.inj e7 |>.1
  simp only [List.drop_succ_cons, List.drop_zero, List.take_succ_cons, List.take_zero, List.cons.injEq, and_true] at e4
  obtain ⟨rfl, rfl, rfl, rfl, rfl⟩ := e4
  exact ⟨⟨k0, k1, k2, k3, op, name, cmp, num, ka, kn, kc, k5, k6, k7⟩, rfl⟩
end
/-- What the rows list. -/
def laid5 : List (String × DataW Unit) := [("math/bits.deBruijn32tab", Rows.laid_math_bits_deBruijn32tab), ("math/bits.deBruijn64tab", Rows.laid_math_bits_deBruijn64tab), ("internal/strconv.uint64pow10", Rows.laid_internal_strconv_uint64pow10), ("strconv.ErrRange", Rows.laid_strconv_ErrRange), ("strconv.ErrSyntax", Rows.laid_strconv_ErrSyntax)]
end Go.Proofs.YtkcbdlnoobjmbaaDoor
