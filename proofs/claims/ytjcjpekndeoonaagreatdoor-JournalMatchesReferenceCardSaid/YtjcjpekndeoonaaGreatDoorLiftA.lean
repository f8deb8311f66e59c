/-
  What a law of the journal is handed: operations, texts, and the library's variables.
  Operations that are handed in, their positions in range.
  One start that meets what the rows list.
-/
import Derived.Test.YtjcjpekndeoonaaGreatDoorJnMore
import Derived.Test.YtjcjpekndeoonaaGreatDoorRows
import Derived.Deep.Slices
import Derived.ChangeSame
import Derived.ShutString
import Derived.ProofKit
import Derived.SizedLaws
import Derived.LaidLaws
import Derived.Stop.LaidErr
import Derived.Lib.LaidTab
import Derived.JoinedOf
import Derived.JoinedAt
import Derived.RowKit
import Derived.RowKit3
import Derived.RowKitTokens
import Derived.HandedFrom
import Derived.ChangeVars
import Derived.ChangeMaps5
namespace Go.Proofs.YtjcjpekndeoonaaGreatDoor
open Go.RowKit Go.Cz Go.Cz.Jn Go.ChangeShapes Go.WideShapes Go.Deep
set_option linter.unusedSimpArgs false
set_option linter.unusedVariables false
theorem weights_all {H : Type} {P : Program} {e : TypeId} : ∀ {ds : List (DataW H)} {d : DataW H}, d ∈ ds → ∀ n ∈ d.weights P e, n ∈ DataW.weightsAll P e ds
  | d0 :: ds, d, hd, n, hn => by
    simp only [DataW.weightsAll, List.mem_append]
    rcases List.mem_cons.1 hd with rfl | hd
    · exact .inl hn
    · exact .inr (weights_all hd n hn)
  | [], _, hd, _, _ => by simp at hd
theorem len5 {α : Type _} {l : List α} (h : l.length = 5) : ∃ a0 a1 a2 a3 a4, l = [a0, a1, a2, a3, a4] := by
  rcases l with _ | ⟨a0, l⟩
  · simp at h
  rcases l with _ | ⟨a1, l⟩
  · simp at h
  rcases l with _ | ⟨a2, l⟩
  · simp at h
  rcases l with _ | ⟨a3, l⟩
  · simp at h
  rcases l with _ | ⟨a4, l⟩
  · simp at h
  rcases l with _ | ⟨b, l⟩
  · exact ⟨_, _, _, _, _, rfl⟩
  · simp at h
section
variable {H : Type} {enc : TypeId × Value → H} {w : World} {base : Nat} {spare : Nat → Bool} {held : Bool}
theorem lt_of_cell {w : World} {p : Addr} {v : Value} (h : w.cell? p = some v) : p.block < w.heap.size := by
  rcases Nat.lt_or_ge p.block w.heap.size with h1 | h1
  · exact h1
  · simp [World.cell?, Array.getElem?_eq_none h1] at h
theorem open_texts {fuel : Nat} {cs : List Value} {x : DataW H × List MemPlace} (h : DataW.trod enc Tryz.prog w base spare held fuel 26 cs = some x) (hw : ∀ n ∈ x.1.weights Tryz.prog 26, n ≤ reachBytes) :
    ∃ (y : Option Addr) (k c : Nat) (l : List Bytes), cs = [.slice y k c] ∧ IsTexts w y k l ∧ ((y = none → c = 0) ∧ ∀ s ∈ l, s.length ≤ 140737488355328) := by
  have hc : Tryz.prog.cellsOf 9 = 1 := by kernel_rfl
  rcases open_slice1 Tryz.underlying26 hc h with ⟨rfl, _⟩ | ⟨a, len, cap, m, n, V, D, Pl, rfl, _, hl, hm, hmm, rfl, hi⟩
  · exact ⟨none, 0, 0, [], rfl, ⟨rfl, .inl rfl⟩, fun _ => rfl, by simp⟩
  · have hlm : len ≤ m := by rw [hmm]; split <;> omega
    have key : ∀ i, ∃ s : Bytes, i < len → (w.cell? (a.add i) = some (.string (bs s)) ∧ s.length ≤ 140737488355328) := fun i => by
      by_cases hil : i < len
      · obtain ⟨h1, h2⟩ := hi i (by omega)
        obtain ⟨s, e0, e1, -⟩ := DataW.trod_string Tryz.underlying9 h2
        refine ⟨s.data.toList, fun _ => ⟨?_, ?_⟩⟩
        · rw [h1, (List.cons.inj e0).1]
          rfl
        · have h3 := hw s.data.toList.length (by
            simp only [DataW.weights, Tryz.underlying26]
            refine List.mem_cons.2 (.inr (List.mem_append.2 (.inl ?_)))
            refine weights_all (d := D i) (List.mem_map.2 ⟨i, List.mem_range.2 hil, rfl⟩) _ ?_
            rw [(Prod.mk.inj e1).1]
            simp [DataW.weights])
          have h4 := reachBytes_lt
          have e3 : (2 : Nat) ^ 47 = 140737488355328 := by decide
          omega
      · exact ⟨[], fun h' => absurd h' hil⟩
    obtain ⟨f, hf⟩ := Classical.axiomOfChoice key
    by_cases h0 : len = 0
    · subst h0
      exact ⟨some a, 0, cap, [], rfl, ⟨rfl, .inl rfl⟩, (fun h => by cases h), by simp⟩
    · obtain ⟨g, off, spot⟩ := a
      have hspot : spot = none := by
        have := World.cell?_spot (hf 0 (by omega)).1
        simpa [Addr.add] using this
      subst hspot
      have e : ∀ j, (⟨g, off, none⟩ : Addr).add j = ⟨g, off + j, none⟩ := fun j => by unfold Addr.add; split <;> simp_all
      refine ⟨_, len, cap, (List.range len).map f, rfl, ⟨by simp, .inr ⟨g, off, rfl, ?_, ?_⟩⟩, (fun h => by cases h), ?_⟩
      · have := lt_of_cell (hf 0 (by omega)).1
        rw [e] at this
        exact this
      · intro j s hj
        have hjl : j < len := by have := (List.getElem?_eq_some_iff.1 hj).1; simpa using this
        simp [hjl] at hj
        have := (hf j hjl).1
        rw [e, hj] at this
        exact this
      · intro s hs
        obtain ⟨i, hi', rfl⟩ := List.mem_map.1 hs
        exact (hf i (List.mem_range.1 hi')).2
theorem open_op {fuel : Nat} {cs : List Value} {x : DataW H × List MemPlace} (h : DataW.trod enc Tryz.prog w base spare held fuel 36 cs = some x) (hw : ∀ n ∈ x.1.weights Tryz.prog 36, n ≤ reachBytes) :
    ∃ (o : JOp) (y : Option Addr) (k c : Nat), cs = [.int .i64 o.kind, .slice y k c, .int .i64 o.pos, .int .i64 o.writes, .int .i64 o.bytes] ∧ IsTexts w y k o.list ∧ ((y = none → c = 0) ∧ ∀ s ∈ o.list, s.length ≤ 140737488355328) := by
  obtain ⟨xs, n, rfl, rfl, hlen, hxs, hf⟩ := DataW.trod_struct Tryz.underlying36 h
  have hc : Tryz.prog.cellsOf 36 = 5 := by kernel_rfl
  rw [hc] at hlen
  have c3 : Tryz.prog.cellsOf 3 = 1 := by kernel_rfl
  have c4 : Tryz.prog.cellsOf 26 = 1 := by kernel_rfl
  obtain ⟨v0, v1, v2, v3, v4, rfl⟩ := len5 hlen
  obtain ⟨y0, y1, y2, y3, y4, rfl⟩ := len5 (show xs.length = 5 from hxs)
  have g0 : DataW.trod enc Tryz.prog w base spare held n 3 (([v0, v1, v2, v3, v4].drop 0).take (Tryz.prog.cellsOf 3)) = some y0 := hf 0 _ rfl
  have g1 : DataW.trod enc Tryz.prog w base spare held n 26 (([v0, v1, v2, v3, v4].drop 1).take (Tryz.prog.cellsOf 26)) = some y1 := hf 1 _ rfl
  have g2 : DataW.trod enc Tryz.prog w base spare held n 3 (([v0, v1, v2, v3, v4].drop 2).take (Tryz.prog.cellsOf 3)) = some y2 := hf 2 _ rfl
  have g3 : DataW.trod enc Tryz.prog w base spare held n 3 (([v0, v1, v2, v3, v4].drop 3).take (Tryz.prog.cellsOf 3)) = some y3 := hf 3 _ rfl
  have g4 : DataW.trod enc Tryz.prog w base spare held n 3 (([v0, v1, v2, v3, v4].drop 4).take (Tryz.prog.cellsOf 3)) = some y4 := hf 4 _ rfl
  rw [c3] at g0 g2 g3 g4
  rw [c4] at g1
  obtain ⟨k0, e0, _, _⟩ := DataW.trod_int Tryz.underlying3 g0
  obtain ⟨k2, e2, _, _⟩ := DataW.trod_int Tryz.underlying3 g2
  obtain ⟨k3, e3, _, _⟩ := DataW.trod_int Tryz.underlying3 g3
  obtain ⟨k4, e4, _, _⟩ := DataW.trod_int Tryz.underlying3 g4
  obtain ⟨y, k, c, l, e1, h1, h2⟩ := open_texts g1 fun m hm => hw m (by
    simp only [DataW.weights, Tryz.underlying36]
    exact DataW.weights_mem_each (j := 1) (t := 26) (d := y1.1) rfl rfl m hm)
  obtain rfl := List.cons.inj e0 |>.1
  obtain rfl := List.cons.inj e1 |>.1
  obtain rfl := List.cons.inj e2 |>.1
  obtain rfl := List.cons.inj e3 |>.1
  obtain rfl := List.cons.inj e4 |>.1
  exact ⟨⟨k0, l, k2, k3, k4⟩, y, k, c, rfl, h1, h2⟩
theorem open_ops {fuel : Nat} {cs : List Value} {x : DataW H × List MemPlace} (h : DataW.trod enc Tryz.prog w base spare held fuel 22 cs = some x) (hw : ∀ n ∈ x.1.weights Tryz.prog 22, n ≤ reachBytes) :
    ∃ (y : Option Addr) (k c : Nat) (l : List JOp), cs = [.slice y k c] ∧ IsOps w y k l := by
  have hc : Tryz.prog.cellsOf 36 = 5 := by kernel_rfl
  rcases open_slice Tryz.underlying22 h with ⟨rfl, _⟩ | ⟨a, len, cap, m, n, D, Pl, rfl, _, hl, hm, hmm, rfl, hi⟩
  · exact ⟨none, 0, 0, [], rfl, rfl, .inl rfl⟩
  · rw [hc] at hi
    have hlm : len ≤ m := by rw [hmm]; split <;> omega
    have key : ∀ i, ∃ o : JOp, i < len → ∃ (y : Option Addr) (k c : Nat), (∀ (q : Nat) (u : Value), (#[Value.int .i64 o.kind, .slice y k c, .int .i64 o.pos, .int .i64 o.writes, .int .i64 o.bytes] : Array Value)[q]? = some u → w.cell? ((a.add (i * 5)).add q) = some u) ∧ IsTexts w y k o.list ∧ ((y = none → c = 0) ∧ ∀ s ∈ o.list, s.length ≤ 140737488355328) := fun i => by
      by_cases hil : i < len
      · obtain ⟨cs', h1, h2⟩ := hi i (by omega)
        obtain ⟨o, y, k, c, rfl, h3, h4⟩ := open_op h2 fun q hq => hw q (by
          simp only [DataW.weights, Tryz.underlying22]
          refine List.mem_cons.2 (.inr (List.mem_append.2 (.inl ?_)))
          exact weights_all (d := D i) (List.mem_map.2 ⟨i, List.mem_range.2 hil, rfl⟩) _ hq)
        obtain ⟨_, hlen, hat⟩ := World.cells?_some h1
        refine ⟨o, fun _ => ⟨y, k, c, fun q u hq => ?_, h3, h4⟩⟩
        have hq5 : q < 5 := by have := (Array.getElem?_eq_some_iff.1 hq).1; simpa using this
        have := hat q hq5
        rw [this]
        simpa using hq
      · exact ⟨⟨0, [], 0, 0, 0⟩, fun h' => absurd h' hil⟩
    obtain ⟨f, hf⟩ := Classical.axiomOfChoice key
    by_cases h0 : len = 0
    · subst h0
      exact ⟨some a, 0, cap, [], rfl, rfl, .inl rfl⟩
    · obtain ⟨g, off, spot⟩ := a
      obtain ⟨y0, k0, c0, hy0, -, -⟩ := hf 0 (by omega)
      have hspot : spot = none := by
        have := World.cell?_spot (hy0 0 _ rfl)
        simpa [Addr.add] using this
      subst hspot
      have e : ∀ j q, ((⟨g, off, none⟩ : Addr).add (j * 5)).add q = ⟨g, off + j * 5 + q, none⟩ := fun j q => by unfold Addr.add; split <;> split <;> simp_all
      refine ⟨_, len, cap, (List.range len).map f, rfl, by simp, .inr ⟨g, off, rfl, ?_, ?_⟩⟩
      · have := lt_of_cell (hy0 0 _ rfl)
        rw [e] at this
        exact this
      · intro j o hj
        have hjl : j < len := by have := (List.getElem?_eq_some_iff.1 hj).1; simpa using this
        simp [hjl] at hj
        obtain ⟨y, k, c, h1, h2, h3⟩ := hf j hjl
        rw [hj] at h1 h2 h3
        simp only [e] at h1
        exact ⟨y, k, c, h2, h3, h1 0 _ rfl, h1 1 _ rfl, h1 2 _ rfl, h1 3 _ rfl, h1 4 _ rfl⟩
end

/-- What the rows list. -/
def laid5 : List (String × DataW Unit) := [("math/bits.deBruijn32tab", Rows.laid_math_bits_deBruijn32tab), ("math/bits.deBruijn64tab", Rows.laid_math_bits_deBruijn64tab), ("internal/strconv.uint64pow10", Rows.laid_internal_strconv_uint64pow10), ("strconv.ErrRange", Rows.laid_strconv_ErrRange), ("strconv.ErrSyntax", Rows.laid_strconv_ErrSyntax)]
theorem t_syn : (Tryz.prog.globals[0]?).map (·.type) = some 60 := by kernel_rfl
theorem t_rng : (Tryz.prog.globals[1]?).map (·.type) = some 60 := by kernel_rfl
theorem star : "*" ++ "errors.errorString" = "*errors.errorString" := by decide
theorem row_err (u : TypeId) (h : Tryz.prog.typeName? 3 u = some "*errors.errorString") : u = 142 :=
  typeName_ptr_named (nm := "errors.errorString") (by rw [star]; kernel_rfl) (by kernel_rfl) (by decide) u (by rw [star]; exact h)
theorem c_err : Tryz.prog.cellsOf 144 = 1 := by kernel_rfl
theorem c_str : Tryz.prog.cellsOf 9 = 1 := by kernel_rfl
theorem std_of {W : World} (h : laidMet Tryz.prog laid5 W) : Std W := by
  have h2 := h.tail.tail
  refine ⟨?_, ?_, ?_, Lib.tabIs_of_head g_tz (t := 163) (by kernel_rfl) Tryz.underlying163 Tryz.underlying5 (by kernel_rfl) (by kernel_rfl) h.tail⟩
  · exact Lib.tabIs_of_head g_tab (t := 157) (by kernel_rfl) Tryz.underlying157 Tryz.underlying123 (by kernel_rfl) (by kernel_rfl) h2
  · obtain ⟨a, s, hv, -, -, -⟩ := laid_sentinel h2.tail.tail g_syn t_syn Tryz.underlying60 row_err Tryz.underlying142 Tryz.underlying144 rfl rfl Tryz.underlying9 c_err c_str
    exact ⟨_, _, hv⟩
  · obtain ⟨a, s, hv, -, -, -⟩ := laid_sentinel h2.tail g_rng t_rng Tryz.underlying60 row_err Tryz.underlying142 Tryz.underlying144 rfl rfl Tryz.underlying9 c_err c_str
    exact ⟨_, _, hv⟩
end Go.Proofs.YtjcjpekndeoonaaGreatDoor
namespace Go.Proofs.YtjcjpekndeoonaaGreatDoor
open Go.RowKit Go.Cz Go.Cz.Jn Go.ChangeShapes Go.WideShapes Go.Deep
set_option linter.unusedSimpArgs false
set_option linter.unusedVariables false
section
variable {H : Type} {enc : TypeId × Value → H} {w : World} {base : Nat} {spare : Nat → Bool} {held : Bool}
theorem open_opR {fuel : Nat} {cs : List Value} {x : DataW H × List MemPlace} (h : DataW.trod enc Tryz.prog w base spare held fuel 36 cs = some x) (hw : ∀ n ∈ x.1.weights Tryz.prog 36, n ≤ reachBytes) :
    ∃ (o : JOp) (y : Option Addr) (k c : Nat), cs = [.int .i64 o.kind, .slice y k c, .int .i64 o.pos, .int .i64 o.writes, .int .i64 o.bytes] ∧ IsTexts w y k o.list ∧ ((y = none → c = 0) ∧ ∀ s ∈ o.list, s.length ≤ 140737488355328) ∧ o.pos ≤ 9223372036854775807 := by
  obtain ⟨xs, n, rfl, rfl, hlen, hxs, hf⟩ := DataW.trod_struct Tryz.underlying36 h
  have hc : Tryz.prog.cellsOf 36 = 5 := by kernel_rfl
  rw [hc] at hlen
  have c3 : Tryz.prog.cellsOf 3 = 1 := by kernel_rfl
  have c4 : Tryz.prog.cellsOf 26 = 1 := by kernel_rfl
  obtain ⟨v0, v1, v2, v3, v4, rfl⟩ := len5 hlen
  obtain ⟨y0, y1, y2, y3, y4, rfl⟩ := len5 (show xs.length = 5 from hxs)
  have g0 : DataW.trod enc Tryz.prog w base spare held n 3 (([v0, v1, v2, v3, v4].drop 0).take (Tryz.prog.cellsOf 3)) = some y0 := hf 0 _ rfl
  have g1 : DataW.trod enc Tryz.prog w base spare held n 26 (([v0, v1, v2, v3, v4].drop 1).take (Tryz.prog.cellsOf 26)) = some y1 := hf 1 _ rfl
  have g2 : DataW.trod enc Tryz.prog w base spare held n 3 (([v0, v1, v2, v3, v4].drop 2).take (Tryz.prog.cellsOf 3)) = some y2 := hf 2 _ rfl
  have g3 : DataW.trod enc Tryz.prog w base spare held n 3 (([v0, v1, v2, v3, v4].drop 3).take (Tryz.prog.cellsOf 3)) = some y3 := hf 3 _ rfl
  have g4 : DataW.trod enc Tryz.prog w base spare held n 3 (([v0, v1, v2, v3, v4].drop 4).take (Tryz.prog.cellsOf 3)) = some y4 := hf 4 _ rfl
  rw [c3] at g0 g2 g3 g4
  rw [c4] at g1
  obtain ⟨k0, e0, _, _⟩ := DataW.trod_int Tryz.underlying3 g0
  obtain ⟨k2, e2, _, wf2⟩ := DataW.trod_int Tryz.underlying3 g2
  obtain ⟨k3, e3, _, _⟩ := DataW.trod_int Tryz.underlying3 g3
  obtain ⟨k4, e4, _, _⟩ := DataW.trod_int Tryz.underlying3 g4
  obtain ⟨y, k, c, l, e1, h1, h2⟩ := open_texts g1 fun m hm => hw m (by
    simp only [DataW.weights, Tryz.underlying36]
    exact DataW.weights_mem_each (j := 1) (t := 26) (d := y1.1) rfl rfl m hm)
  obtain rfl := List.cons.inj e0 |>.1
  obtain rfl := List.cons.inj e1 |>.1
  obtain rfl := List.cons.inj e2 |>.1
  obtain rfl := List.cons.inj e3 |>.1
  obtain rfl := List.cons.inj e4 |>.1
  exact ⟨⟨k0, l, k2, k3, k4⟩, y, k, c, rfl, h1, h2, by simp only [Lit.wf, Bool.and_eq_true, decide_eq_true_eq] at wf2; exact wf2.2⟩
theorem open_opsR {fuel : Nat} {cs : List Value} {x : DataW H × List MemPlace} (h : DataW.trod enc Tryz.prog w base spare held fuel 22 cs = some x) (hw : ∀ n ∈ x.1.weights Tryz.prog 22, n ≤ reachBytes) :
    ∃ (y : Option Addr) (k c : Nat) (l : List JOp), cs = [.slice y k c] ∧ IsOps w y k l ∧ ∀ o ∈ l, o.pos ≤ 9223372036854775807 := by
  have hc : Tryz.prog.cellsOf 36 = 5 := by kernel_rfl
  rcases open_slice Tryz.underlying22 h with ⟨rfl, _⟩ | ⟨a, len, cap, m, n, D, Pl, rfl, _, hl, hm, hmm, rfl, hi⟩
  · exact ⟨none, 0, 0, [], rfl, ⟨rfl, .inl rfl⟩, by simp⟩
  · rw [hc] at hi
    have hlm : len ≤ m := by rw [hmm]; split <;> omega
    have key : ∀ i, ∃ o : JOp, i < len → ∃ (y : Option Addr) (k c : Nat), (∀ (q : Nat) (u : Value), (#[Value.int .i64 o.kind, .slice y k c, .int .i64 o.pos, .int .i64 o.writes, .int .i64 o.bytes] : Array Value)[q]? = some u → w.cell? ((a.add (i * 5)).add q) = some u) ∧ IsTexts w y k o.list ∧ ((y = none → c = 0) ∧ ∀ s ∈ o.list, s.length ≤ 140737488355328) ∧ o.pos ≤ 9223372036854775807 := fun i => by
      by_cases hil : i < len
      · obtain ⟨cs', h1, h2⟩ := hi i (by omega)
        obtain ⟨o, y, k, c, rfl, h3, h4⟩ := open_opR h2 fun q hq => hw q (by
          simp only [DataW.weights, Tryz.underlying22]
          refine List.mem_cons.2 (.inr (List.mem_append.2 (.inl ?_)))
          exact weights_all (d := D i) (List.mem_map.2 ⟨i, List.mem_range.2 hil, rfl⟩) _ hq)
        obtain ⟨_, hlen, hat⟩ := World.cells?_some h1
        refine ⟨o, fun _ => ⟨y, k, c, fun q u hq => ?_, h3, h4⟩⟩
        have hq5 : q < 5 := by have := (Array.getElem?_eq_some_iff.1 hq).1; simpa using this
        have := hat q hq5
        rw [this]
        simpa using hq
      · exact ⟨⟨0, [], 0, 0, 0⟩, fun h' => absurd h' hil⟩
    obtain ⟨f, hf⟩ := Classical.axiomOfChoice key
    by_cases h0 : len = 0
    · subst h0
      exact ⟨some a, 0, cap, [], rfl, ⟨rfl, .inl rfl⟩, by simp⟩
    · obtain ⟨g, off, spot⟩ := a
      obtain ⟨y0, k0, c0, hy0, -⟩ := hf 0 (by omega)
      have hspot : spot = none := by
        have := World.cell?_spot (hy0 0 _ rfl)
        simpa [Addr.add] using this
      subst hspot
      have e : ∀ j q, ((⟨g, off, none⟩ : Addr).add (j * 5)).add q = ⟨g, off + j * 5 + q, none⟩ := fun j q => by unfold Addr.add; split <;> split <;> simp_all
      refine ⟨_, len, cap, (List.range len).map f, rfl, ⟨by simp, .inr ⟨g, off, rfl, ?_, ?_⟩⟩, ?_⟩
      · have := lt_of_cell (hy0 0 _ rfl)
        rw [e] at this
        exact this
      · intro j o hj
        have hjl : j < len := by have := (List.getElem?_eq_some_iff.1 hj).1; simpa using this
        simp [hjl] at hj
        obtain ⟨y, k, c, h1, h2, h3, -⟩ := hf j hjl
        rw [hj] at h1 h2 h3
        simp only [e] at h1
        exact ⟨y, k, c, h2, h3, h1 0 _ rfl, h1 1 _ rfl, h1 2 _ rfl, h1 3 _ rfl, h1 4 _ rfl⟩
      · intro o ho
        obtain ⟨j, hj, rfl⟩ := List.mem_map.1 ho
        obtain ⟨y, k, c, -, -, -, h4⟩ := hf j (List.mem_range.1 hj)
        exact h4
end
end Go.Proofs.YtjcjpekndeoonaaGreatDoor
namespace Go.Proofs.YtjcjpekndeoonaaGreatDoor
open Go.RowKit Go.Cz Go.Cz.Jn Go.ChangeShapes Go.WideShapes Go.ChangeAt
set_option linter.unusedVariables false
theorem clock_own : ownKnob Tryz.prog.godebug = none := by kernel_rfl
theorem clock_laidOut : laidOutB Tryz.prog = true := by kernel_rfl
abbrev synS : ByteArray := { data := #[105, 110, 118, 97, 108, 105, 100, 32, 115, 121, 110, 116, 97, 120] }
abbrev rngS : ByteArray := { data := #[118, 97, 108, 117, 101, 32, 111, 117, 116, 32, 111, 102, 32, 114, 97, 110, 103, 101] }
/-- So many blocks has the settled world. -/
noncomputable def low : Nat := (World.holding Tryz.prog default ⟨#[], #[], []⟩).heap.size
def litsOf : DataW Unit → Array Value
  | .agg l => (l.map fun | .lit (.int k n) => Value.int k n | _ => .nilIface).toArray
  | _ => #[]
def lay (v : Array Value) : Obj → Obj
  | .cells _ t frozen => .cells v t frozen
  | o => o
noncomputable def laidWorld (os : Os) : World :=
  let w0 := World.holding Tryz.prog os ⟨#[.cells #[.string synS] 144, .cells #[.string rngS] 144], #[], []⟩
  { w0 with heap := ((((w0.heap.modify 0 (lay #[.iface 142 (.pointer (some ⟨low, 0, none⟩))])).modify 1 (lay #[.iface 142 (.pointer (some ⟨low + 1, 0, none⟩))])).modify
      4 (lay (litsOf Rows.laid_math_bits_deBruijn32tab))).modify 5 (lay (litsOf Rows.laid_math_bits_deBruijn64tab))).modify 3 (lay (litsOf Rows.laid_internal_strconv_uint64pow10)) }
theorem laidWorld_met (os : Os) (args : Array Value) : laidMet Tryz.prog laid5 ((laidWorld os).forCall (fun _ _ => 0) ⟨#[], args, []⟩).memory :=
  laidMet_of_run' 8 (by kernel_rfl) (by kernel_rfl)
end Go.Proofs.YtjcjpekndeoonaaGreatDoor
