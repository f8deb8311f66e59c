/-
  What a law of the clock is handed: zones, and the library's variables.
-/
import Derived.Test.YthnhbiogaikpoaaDoorClHead2
import Derived.Test.YthnhbiogaikpoaaDoorRows
import Derived.Deep.Slices
import Derived.ChangeSame
import Derived.ShutString
import Derived.ProofKit
import Derived.SizedLaws
import Derived.LaidLaws
import Derived.Stop.LaidErr
import Derived.Lib.LaidTab
namespace Go.Proofs.YthnhbiogaikpoaaDoor
open Go.RowKit Go.Cz Go.Cz.Ck Go.ChangeShapes Go.WideShapes Go.Deep
set_option linter.unusedSimpArgs false
set_option linter.unusedVariables false

section
variable {H : Type} {enc : TypeId × Value → H} {w : World} {base : Nat} {spare : Nat → Bool} {held : Bool}
theorem open_shift {fuel : Nat} {cs : List Value} {x : DataW H × List MemPlace} (h : DataW.trod enc Tryd.prog w base spare held fuel 40 cs = some x) : ∃ s : Shift, cs = [.int .i64 s.1, .int .i64 s.2] := by
  obtain ⟨xs, n, rfl, rfl, hlen, hxs, hf⟩ := DataW.trod_struct Tryd.underlying40 h
  have hc : Tryd.prog.cellsOf 40 = 2 := by kernel_rfl
  rw [hc] at hlen
  have c3 : Tryd.prog.cellsOf 3 = 1 := by kernel_rfl
  obtain ⟨v0, v1, rfl⟩ : ∃ v0 v1, cs = [v0, v1] := by
    rcases cs with _ | ⟨a, _ | ⟨b, _ | ⟨c, r⟩⟩⟩
    · simp at hlen
    · simp at hlen
    · exact ⟨a, b, rfl⟩
    · simp at hlen
  obtain ⟨y0, y1, rfl⟩ : ∃ y0 y1, xs = [y0, y1] := by
    have hxs' : xs.length = 2 := hxs
    rcases xs with _ | ⟨a, _ | ⟨b, _ | ⟨c, r⟩⟩⟩
    · simp at hxs'
    · simp at hxs'
    · exact ⟨a, b, rfl⟩
    · simp at hxs'
  have g0 : DataW.trod enc Tryd.prog w base spare held n 3 (([v0, v1].drop 0).take (Tryd.prog.cellsOf 3)) = some y0 := hf 0 _ rfl
  have g1 : DataW.trod enc Tryd.prog w base spare held n 3 (([v0, v1].drop 1).take (Tryd.prog.cellsOf 3)) = some y1 := hf 1 _ rfl
  rw [c3] at g0 g1
  obtain ⟨k, e0, _, w0⟩ := DataW.trod_int Tryd.underlying3 g0
  obtain ⟨s, e1, _, w1⟩ := DataW.trod_int Tryd.underlying3 g1
  obtain rfl := List.cons.inj e0 |>.1
  obtain rfl := List.cons.inj e1 |>.1
  exact ⟨(k, s), rfl⟩
theorem lt_of_cell {w : World} {p : Addr} {v : Value} (h : w.cell? p = some v) : p.block < w.heap.size := by
  rcases Nat.lt_or_ge p.block w.heap.size with h1 | h1
  · exact h1
  · simp [World.cell?, Array.getElem?_eq_none h1] at h
theorem open_shifts {fuel : Nat} {cs : List Value} {x : DataW H × List MemPlace} (h : DataW.trod enc Tryd.prog w base spare held fuel 22 cs = some x) :
    ∃ a n c l, cs = [.slice a n c] ∧ IsShifts w a n l := by
  rcases open_slice Tryd.underlying22 h with ⟨rfl, _⟩ | ⟨a, len, cap, m, n, D, Pl, rfl, _, hl, hm, hmm, _, hi⟩
  · exact ⟨none, 0, 0, [], rfl, rfl, by omega, .inl rfl⟩
  · have hc : Tryd.prog.cellsOf 40 = 2 := by kernel_rfl
    rw [hc] at hi
    have hlm : len ≤ m := by rw [hmm]; split <;> omega
    have key : ∀ i, i < len → ∃ y : Shift, ∀ k v, (#[Value.int .i64 y.1, .int .i64 y.2] : Array Value)[k]? = some v → w.cell? ((a.add (i * 2)).add k) = some v := by
      intro i hil
      obtain ⟨cs', h1, h2⟩ := hi i (by omega)
      obtain ⟨y, rfl⟩ := open_shift h2
      obtain ⟨_, hlen, hat⟩ := World.cells?_some h1
      refine ⟨y, fun k v hk => ?_⟩
      have hk6 : k < 2 := by have := (Array.getElem?_eq_some_iff.1 hk).1; simpa using this
      have := hat k hk6
      rw [this]
      simpa using hk
    have hm63 : len ≤ 9223372036854775807 := by unfold maxLen at hm; omega
    by_cases h0 : len = 0
    · subst h0
      exact ⟨_, 0, cap, [], rfl, rfl, by omega, .inl rfl⟩
    · obtain ⟨g, off, spot⟩ := a
      have hspot : spot = none := by
        obtain ⟨y, hy⟩ := key 0 (by omega)
        have := World.cell?_spot (hy 0 _ rfl)
        simpa [Addr.add] using this
      subst hspot
      have key2 : ∀ i, ∃ y : Shift, i < len → ∀ k v, (#[Value.int .i64 y.1, .int .i64 y.2] : Array Value)[k]? = some v → w.cell? (((⟨g, off, none⟩ : Addr).add (i * 2)).add k) = some v := fun i => by
        by_cases h : i < len
        · obtain ⟨y, hy⟩ := key i h; exact ⟨y, fun _ => hy⟩
        · exact ⟨(0, 0), fun h' => absurd h' h⟩
      obtain ⟨f, hf⟩ := Classical.axiomOfChoice key2
      refine ⟨_, len, cap, (List.range len).map f, rfl, by simp, hm63, .inr ⟨g, off, rfl, ?_, ?_⟩⟩
      · obtain ⟨y, hy⟩ := key 0 (by omega)
        exact lt_of_cell (hy 0 _ rfl)
      · intro j y hy
        have hj : j < len := by have := (List.getElem?_eq_some_iff.1 hy).1; simpa using this
        simp [hj] at hy
        have hs := hf j hj
        rw [hy] at hs
        have e : ∀ k, ((⟨g, off, none⟩ : Addr).add (j * 2)).add k = ⟨g, off + j * 2 + k, none⟩ := fun k => by unfold Addr.add; split <;> split <;> simp_all
        simp only [e] at hs
        exact ⟨hs 0 _ rfl, hs 1 _ rfl⟩
theorem open_zone {fuel : Nat} {cs : List Value} {x : DataW H × List MemPlace} (h : DataW.trod enc Tryd.prog w base spare held fuel 24 cs = some x) :
    ∃ a n c l, cs = [.slice a n c] ∧ IsShifts w a n l := by
  obtain ⟨xs, n, rfl, rfl, hlen, hxs, hf⟩ := DataW.trod_struct Tryd.underlying24 h
  have hc : Tryd.prog.cellsOf 24 = 1 := by kernel_rfl
  rw [hc] at hlen
  have c3 : Tryd.prog.cellsOf 22 = 1 := by kernel_rfl
  obtain ⟨v0, rfl⟩ : ∃ v0, cs = [v0] := by
    rcases cs with _ | ⟨a, _ | ⟨b, r⟩⟩
    · simp at hlen
    · exact ⟨a, rfl⟩
    · simp at hlen
  obtain ⟨y0, rfl⟩ : ∃ y0, xs = [y0] := by
    have hxs' : xs.length = 1 := hxs
    rcases xs with _ | ⟨a, _ | ⟨b, r⟩⟩
    · simp at hxs'
    · exact ⟨a, rfl⟩
    · simp at hxs'
  have g0 : DataW.trod enc Tryd.prog w base spare held n 22 (([v0].drop 0).take (Tryd.prog.cellsOf 22)) = some y0 := hf 0 _ rfl
  rw [c3] at g0
  exact open_shifts g0
end

/-- What the rows list. -/
def laid5 : List (String × DataW Unit) := [("math/bits.deBruijn32tab", Rows.laid_math_bits_deBruijn32tab), ("math/bits.deBruijn64tab", Rows.laid_math_bits_deBruijn64tab), ("internal/strconv.uint64pow10", Rows.laid_internal_strconv_uint64pow10), ("strconv.ErrRange", Rows.laid_strconv_ErrRange), ("strconv.ErrSyntax", Rows.laid_strconv_ErrSyntax)]
theorem t_syn : (Tryd.prog.globals[1]?).map (·.type) = some 65 := by kernel_rfl
theorem t_rng : (Tryd.prog.globals[2]?).map (·.type) = some 65 := by kernel_rfl
theorem star : "*" ++ "errors.errorString" = "*errors.errorString" := by decide
theorem row_err (u : TypeId) (h : Tryd.prog.typeName? 3 u = some "*errors.errorString") : u = 104 :=
  typeName_ptr_named (nm := "errors.errorString") (by rw [star]; kernel_rfl) (by kernel_rfl) (by decide) u (by rw [star]; exact h)
theorem c_err : Tryd.prog.cellsOf 106 = 1 := by kernel_rfl
theorem c_str : Tryd.prog.cellsOf 9 = 1 := by kernel_rfl
theorem std_of {W : World} (h : laidMet Tryd.prog laid5 W) : Std W := by
  have h2 := h.tail.tail
  refine ⟨?_, ?_, ?_⟩
  · exact Lib.tabIs_of_head g_tab (t := 96) (by kernel_rfl) Tryd.underlying96 Tryd.underlying70 (by kernel_rfl) (by kernel_rfl) h2
  · obtain ⟨a, s, hv, -, -, -⟩ := laid_sentinel h2.tail.tail g_syn t_syn Tryd.underlying65 row_err Tryd.underlying104 Tryd.underlying106 rfl rfl Tryd.underlying9 c_err c_str
    exact ⟨_, _, hv⟩
  · obtain ⟨a, s, hv, -, -, -⟩ := laid_sentinel h2.tail g_rng t_rng Tryd.underlying65 row_err Tryd.underlying104 Tryd.underlying106 rfl rfl Tryd.underlying9 c_err c_str
    exact ⟨_, _, hv⟩
end Go.Proofs.YthnhbiogaikpoaaDoor
