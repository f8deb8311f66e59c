/-
  A slice that a law is handed, opened: its elements.
-/
import Derived.Test.YtckocgkndbdhcaaGreatDoorProg
import Derived.Deep.Slices
import Derived.ChangeSame
import Derived.ShutString
import Derived.ProofKit
namespace Go.Proofs.YtckocgkndbdhcaaGreatDoor
open Go.RowKit Go.ChangeShapes Go.WideShapes Go.Deep
set_option linter.unusedSimpArgs false
set_option linter.unusedVariables false
section
variable {H : Type} {enc : TypeId × Value → H} {w : World} {base : Nat} {spare : Nat → Bool} {held : Bool}
theorem block_lt_of_cell {w : World} {p : Addr} {v : Value} (h : w.cell? p = some v) : p.block < w.heap.size := by
  rcases Nat.lt_or_ge p.block w.heap.size with h1 | h1
  · exact h1
  · simp [World.cell?, Array.getElem?_eq_none h1] at h
theorem open_rows {t e : TypeId} {sz : Nat} {T : Type} (d : T) (vals : T → Array Value) (p : T → Prop) (ht : Tryz.prog.underlying t = some (.slice e)) (hc : Tryz.prog.cellsOf e = sz) (hpos : 0 < sz) (hsz : ∀ y, (vals y).size = sz)
    (open1 : ∀ (fuel : Nat) (cs : List Value) (x : DataW H × List MemPlace), DataW.trod enc Tryz.prog w base spare held fuel e cs = some x → ∃ y, cs = (vals y).toList ∧ p y)
    {fuel : Nat} {cs : List Value} {x : DataW H × List MemPlace} (h : DataW.trod enc Tryz.prog w base spare held fuel t cs = some x) :
    ∃ (a : Option Addr) (n c : Nat) (l : List T), cs = [.slice a n c] ∧ l.length = n ∧ n ≤ c ∧ n ≤ 9223372036854775807 ∧ (∀ y ∈ l, p y) ∧ (n = 0 ∨ ∃ g off, a = some ⟨g, off, none⟩ ∧ g < w.heap.size ∧ ∀ (j : Nat) (y : T), l[j]? = some y → ∀ (k : Nat) (u : Value), (vals y)[k]? = some u → w.cell? ⟨g, off + j * sz + k, none⟩ = some u) := by
  rcases open_slice ht h with ⟨rfl, _⟩ | ⟨a, len, cap, m, n, D, Pl, rfl, _, hl, hm, hmm, _, hi⟩
  · exact ⟨none, 0, 0, [], rfl, rfl, Nat.le_refl _, by omega, by simp, .inl rfl⟩
  · rw [hc] at hi
    have hlm : len ≤ m := by rw [hmm]; split <;> omega
    have hm63 : len ≤ 9223372036854775807 := by unfold maxLen at hm; omega
    have key : ∀ i, i < len → ∃ y : T, p y ∧ ∀ k v, (vals y)[k]? = some v → w.cell? ((a.add (i * sz)).add k) = some v := by
      intro i hil
      obtain ⟨cs', h1, h2⟩ := hi i (by omega)
      obtain ⟨y, rfl, hp⟩ := open1 _ _ _ h2
      obtain ⟨_, hlen, hat⟩ := World.cells?_some h1
      refine ⟨y, hp, fun k v hk => ?_⟩
      have hk6 : k < sz := by have := (Array.getElem?_eq_some_iff.1 hk).1; rw [hsz] at this; exact this
      have := hat k hk6
      rw [this]
      simpa using hk
    by_cases h0 : len = 0
    · subst h0
      exact ⟨_, 0, cap, [], rfl, rfl, Nat.zero_le _, by omega, by simp, .inl rfl⟩
    · obtain ⟨g, off, spot⟩ := a
      obtain ⟨y0, -, hy0⟩ := key 0 (by omega)
      have h00 : (vals y0)[0]? = some ((vals y0)[0]'(by rw [hsz]; exact hpos)) := Array.getElem?_eq_getElem _
      have hspot : spot = none := by
        have := World.cell?_spot (hy0 0 _ h00)
        simpa [Addr.add] using this
      subst hspot
      have key2 : ∀ i, ∃ y : T, i < len → p y ∧ ∀ k v, (vals y)[k]? = some v → w.cell? (((⟨g, off, none⟩ : Addr).add (i * sz)).add k) = some v := fun i => by
        by_cases h : i < len
        · obtain ⟨y, hy⟩ := key i h; exact ⟨y, fun _ => hy⟩
        · exact ⟨d, fun h' => absurd h' h⟩
      obtain ⟨f, hf⟩ := Classical.axiomOfChoice key2
      refine ⟨_, len, cap, (List.range len).map f, rfl, by simp, hl, hm63, ?_, .inr ⟨g, off, rfl, ?_, ?_⟩⟩
      · intro y hy
        obtain ⟨i, hi, rfl⟩ := List.mem_map.1 hy
        exact (hf i (List.mem_range.1 hi)).1
      · have h6 := block_lt_of_cell (hy0 0 _ h00)
        have e : ((⟨g, off, none⟩ : Addr).add (0 * sz)).add 0 = ⟨g, off + 0 * sz + 0, none⟩ := by unfold Addr.add; split <;> split <;> simp_all
        rw [e] at h6
        exact h6
      · intro j y hy k u hu
        have hj : j < len := by have := (List.getElem?_eq_some_iff.1 hy).1; simpa using this
        simp [hj] at hy
        have hs := (hf j hj).2
        rw [hy] at hs
        have e : ((⟨g, off, none⟩ : Addr).add (j * sz)).add k = ⟨g, off + j * sz + k, none⟩ := by unfold Addr.add; split <;> split <;> simp_all
        rw [← e]
        exact hs k u hu
/-- A slice of texts. -/
theorem open_strs {t e : TypeId} (ht : Tryz.prog.underlying t = some (.slice e)) (he : Tryz.prog.underlying e = some .string) (hc : Tryz.prog.cellsOf e = 1) {fuel : Nat} {cs : List Value} {x : DataW H × List MemPlace} (h : DataW.trod enc Tryz.prog w base spare held fuel t cs = some x) :
    ∃ a n c, ∃ l : List ByteArray, cs = [.slice a n c] ∧ l.length = n ∧ n ≤ c ∧ n ≤ 9223372036854775807 ∧ (n = 0 ∨ ∃ g off, a = some ⟨g, off, none⟩ ∧ g < w.heap.size ∧ ∀ j, j < l.length → w.cell? ⟨g, off + j, none⟩ = some (.string (l.getD j ByteArray.empty))) := by
  obtain ⟨a, n, c, l, h1, h2, h3, h4, -, h5⟩ := open_rows (sz := 1) ByteArray.empty (fun s => #[.string s]) (fun _ => True) ht hc (by omega) (fun _ => rfl) (fun fuel cs x h => by
    obtain ⟨k, e0, -⟩ := DataW.trod_string he h
    exact ⟨k, e0, trivial⟩) h
  refine ⟨a, n, c, l, h1, h2, h3, h4, ?_⟩
  rcases h5 with h5 | ⟨g, off, e1, e2, e3⟩
  · exact .inl h5
  · refine .inr ⟨g, off, e1, e2, fun j hj => ?_⟩
    have := e3 j l[j] (List.getElem?_eq_getElem hj) 0 _ rfl
    rw [List.getD_eq_getElem?_getD, List.getElem?_eq_getElem hj]
    simpa using this
end
end Go.Proofs.YtckocgkndbdhcaaGreatDoor
