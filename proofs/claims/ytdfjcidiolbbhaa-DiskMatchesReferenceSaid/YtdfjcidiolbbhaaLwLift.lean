/-
  What a law is handed: operations, read off the arguments' data.
-/
import Derived.Test.YtdfjcidiolbbhaaLwHead2
import Derived.Deep.Slices
import Derived.ChangeSame
import Derived.ShutString
import Derived.ProofKit
namespace Go.Proofs.Ytdfjcidiolbbhaa
open Go.RowKit Go.Cz Go.Cz.Dk Go.ChangeShapes Go.WideShapes Go.Deep
set_option linter.unusedSimpArgs false
set_option linter.unusedVariables false

section
variable {H : Type} {enc : TypeId × Value → H} {w : World} {base : Nat} {spare : Nat → Bool} {held : Bool}
theorem open_act {fuel : Nat} {cs : List Value} {x : DataW H × List MemPlace} (h : DataW.trod enc Try.prog w base spare held fuel 34 cs = some x) : ∃ a : AAct, cs = (AAct.cells a).toList ∧ AAct.fine a := by
  obtain ⟨xs, n, rfl, rfl, hlen, hxs, hf⟩ := DataW.trod_struct Try.underlying34 h
  have hc : Try.prog.cellsOf 34 = 6 := by kernel_rfl
  rw [hc] at hlen
  have c3 : Try.prog.cellsOf 3 = 1 := by kernel_rfl
  have c9 : Try.prog.cellsOf 9 = 1 := by kernel_rfl
  have c4 : Try.prog.cellsOf 4 = 1 := by kernel_rfl
  match cs, hlen with
  | [v0, v1, v2, v3, v4, v5], _ =>
    match xs, hxs with
    | [y0, y1, y2, y3, y4, y5], _ =>
      have g0 : DataW.trod enc Try.prog w base spare held n 3 (([v0, v1, v2, v3, v4, v5].drop 0).take (Try.prog.cellsOf 3)) = some y0 := hf 0 _ rfl
      have g1 : DataW.trod enc Try.prog w base spare held n 3 (([v0, v1, v2, v3, v4, v5].drop 1).take (Try.prog.cellsOf 3)) = some y1 := hf 1 _ rfl
      have g2 : DataW.trod enc Try.prog w base spare held n 3 (([v0, v1, v2, v3, v4, v5].drop 2).take (Try.prog.cellsOf 3)) = some y2 := hf 2 _ rfl
      have g3 : DataW.trod enc Try.prog w base spare held n 9 (([v0, v1, v2, v3, v4, v5].drop 3).take (Try.prog.cellsOf 9)) = some y3 := hf 3 _ rfl
      have g4 : DataW.trod enc Try.prog w base spare held n 4 (([v0, v1, v2, v3, v4, v5].drop 4).take (Try.prog.cellsOf 4)) = some y4 := hf 4 _ rfl
      have g5 : DataW.trod enc Try.prog w base spare held n 3 (([v0, v1, v2, v3, v4, v5].drop 5).take (Try.prog.cellsOf 3)) = some y5 := hf 5 _ rfl
      rw [c3] at g0 g1 g2 g5
      rw [c9] at g3
      rw [c4] at g4
      obtain ⟨k, e0, _, w0⟩ := DataW.trod_int Try.underlying3 g0
      obtain ⟨s, e1, _, w1⟩ := DataW.trod_int Try.underlying3 g1
      obtain ⟨b, e2, _, w2⟩ := DataW.trod_int Try.underlying3 g2
      obtain ⟨t, e3, _, w3⟩ := DataW.trod_string Try.underlying9 g3
      obtain ⟨o, e4, _⟩ := DataW.trod_bool Try.underlying4 g4
      obtain ⟨f, e5, _, w5⟩ := DataW.trod_int Try.underlying3 g5
      obtain rfl := List.cons.inj e0 |>.1
      obtain rfl := List.cons.inj e1 |>.1
      obtain rfl := List.cons.inj e2 |>.1
      obtain rfl := List.cons.inj e3 |>.1
      obtain rfl := List.cons.inj e4 |>.1
      obtain rfl := List.cons.inj e5 |>.1
      refine ⟨{ kind := k, sector := s, bytes := b, text := t.data.toList, odd := o, after := f }, ?_, ?_⟩
      · simp [AAct.cells, bs_of]
      · simp only [Lit.wf, Bool.and_eq_true, decide_eq_true_eq] at w5
        exact w5.2
theorem lt_of_cell {w : World} {p : Addr} {v : Value} (h : w.cell? p = some v) : p.block < w.heap.size := by
  rcases Nat.lt_or_ge p.block w.heap.size with h1 | h1
  · exact h1
  · simp [World.cell?, Array.getElem?_eq_none h1] at h
theorem open_acts {fuel : Nat} {cs : List Value} {x : DataW H × List MemPlace} (h : DataW.trod enc Try.prog w base spare held fuel 22 cs = some x) :
    ∃ a n c l, cs = [.slice a n c] ∧ IsActs w a n l ∧ ∀ y ∈ l, AAct.fine y := by
  rcases open_slice Try.underlying22 h with ⟨rfl, _⟩ | ⟨a, len, cap, m, n, D, Pl, rfl, _, hl, hm, hmm, _, hi⟩
  · exact ⟨none, 0, 0, [], rfl, ⟨rfl, by omega, .inl rfl⟩, by simp⟩
  · have hc : Try.prog.cellsOf 34 = 6 := by kernel_rfl
    rw [hc] at hi
    have hlm : len ≤ m := by rw [hmm]; split <;> omega
    have key : ∀ i, i < len → ∃ y : AAct, AAct.fine y ∧ ∀ k v, (AAct.cells y)[k]? = some v → w.cell? ((a.add (i * 6)).add k) = some v := by
      intro i hil
      obtain ⟨cs', h1, h2⟩ := hi i (by omega)
      obtain ⟨y, rfl, hy⟩ := open_act h2
      obtain ⟨_, hlen, hat⟩ := World.cells?_some h1
      refine ⟨y, hy, fun k v hk => ?_⟩
      have hk6 : k < 6 := by have := (Array.getElem?_eq_some_iff.1 hk).1; simpa [AAct.cells] using this
      have := hat k hk6
      rw [this]
      simpa using hk
    have hm63 : len ≤ 9223372036854775807 := by unfold maxLen at hm; omega
    by_cases h0 : len = 0
    · subst h0
      exact ⟨_, 0, cap, [], rfl, ⟨rfl, by omega, .inl rfl⟩, by simp⟩
    · obtain ⟨g, off, spot⟩ := a
      have hspot : spot = none := by
        obtain ⟨y, _, hy⟩ := key 0 (by omega)
        have := World.cell?_spot (hy 0 _ rfl)
        simpa [Addr.add] using this
      subst hspot
      refine ⟨_, len, cap, (List.range len).map fun i => if hi : i < len then Classical.choose (key i hi) else ⟨0, 0, 0, [], false, 0⟩, rfl, ⟨by simp, hm63, .inr ⟨g, off, rfl, ?_, ?_⟩⟩, ?_⟩
      · obtain ⟨y, _, hy⟩ := key 0 (by omega)
        exact lt_of_cell (hy 0 _ rfl)
      · intro j y hy
        have hj : j < len := by have := (List.getElem?_eq_some_iff.1 hy).1; simpa using this
        simp [hj] at hy
        have hs := (Classical.choose_spec (key j hj)).2
        rw [hy] at hs
        have e : ∀ k, ((⟨g, off, none⟩ : Addr).add (j * 6)).add k = ⟨g, off + j * 6 + k, none⟩ := fun k => by unfold Addr.add; split <;> split <;> simp_all
        simp only [e] at hs
        exact ⟨hs 0 _ rfl, hs 1 _ rfl, hs 2 _ rfl, hs 3 _ rfl, hs 4 _ rfl, hs 5 _ rfl⟩
      · intro y hy
        simp only [List.mem_map, List.mem_range] at hy
        obtain ⟨i, hi', rfl⟩ := hy
        simp only [hi', dif_pos]
        exact (Classical.choose_spec (key i hi')).1
end
end Go.Proofs.Ytdfjcidiolbbhaa
