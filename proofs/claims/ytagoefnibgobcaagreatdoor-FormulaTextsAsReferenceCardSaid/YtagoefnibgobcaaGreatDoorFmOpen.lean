/-
  What a law of the formulas is handed: formulas, domains, cases.
-/
import Derived.Test.YtagoefnibgobcaaGreatDoorFmHead
import Derived.Test.YtagoefnibgobcaaGreatDoorOpen
namespace Go.Proofs.YtagoefnibgobcaaGreatDoor
open Go.RowKit Go.Cz Go.Cz.Lx Go.Cz.Fo Go.ChangeShapes Go.WideShapes Go.Deep
set_option linter.unusedSimpArgs false
set_option linter.unusedVariables false
theorem len5 {α : Type _} {l : List α} (h : l.length = 5) : ∃ a0 a1 a2 a3 a4, l = [a0, a1, a2, a3, a4] := by
  rcases l with _ | ⟨a0, l⟩
  · simp at h
  rcases l with _ | ⟨a1, l⟩
  · simp at h
  rcases l with _ | ⟨a2, l⟩
  · simp at h
  rcases l with _ | ⟨a3, l⟩
  · simp at h
  rcases l with _ | ⟨a4, l⟩
  · simp at h
  rcases l with _ | ⟨b, l⟩
  · exact ⟨_, _, _, _, _, rfl⟩
  · simp at h
theorem len4 {α : Type _} {l : List α} (h : l.length = 4) : ∃ a0 a1 a2 a3, l = [a0, a1, a2, a3] := by
  rcases l with _ | ⟨a0, l⟩
  · simp at h
  rcases l with _ | ⟨a1, l⟩
  · simp at h
  rcases l with _ | ⟨a2, l⟩
  · simp at h
  rcases l with _ | ⟨a3, l⟩
  · simp at h
  rcases l with _ | ⟨b, l⟩
  · exact ⟨_, _, _, _, rfl⟩
  · simp at h
theorem len1 {α : Type _} {l : List α} (h : l.length = 1) : ∃ a0, l = [a0] := List.length_eq_one_iff.1 h
section
variable {H : Type} {enc : TypeId × Value → H} {w : World} {base : Nat} {spare : Nat → Bool} {held : Bool}
/-- The elements of a slice, each of which is opened with less fuel. -/
theorem open_rowsN {t e : TypeId} {sz : Nat} {T : Type} (d : T) (vals : T → Array Value) (p : T → Prop) (ht : Tryz.prog.underlying t = some (.slice e)) (hc : Tryz.prog.cellsOf e = sz) (hpos : 0 < sz) (hsz : ∀ y, (vals y).size = sz)
    {fuel : Nat} (open1 : ∀ (n : Nat) (cs : List Value) (x : DataW H × List MemPlace), n < fuel → DataW.trod enc Tryz.prog w base spare held n e cs = some x → ∃ y, cs = (vals y).toList ∧ p y)
    {cs : List Value} {x : DataW H × List MemPlace} (h : DataW.trod enc Tryz.prog w base spare held fuel t cs = some x) :
    ∃ (a : Option Addr) (n c : Nat) (l : List T), cs = [.slice a n c] ∧ l.length = n ∧ n ≤ c ∧ n ≤ 9223372036854775807 ∧ (∀ y ∈ l, p y) ∧ (n = 0 ∨ ∃ g off, a = some ⟨g, off, none⟩ ∧ g < w.heap.size ∧ ∀ (j : Nat) (y : T), l[j]? = some y → ∀ (k : Nat) (u : Value), (vals y)[k]? = some u → w.cell? ⟨g, off + j * sz + k, none⟩ = some u) := by
  rcases DataW.trod_slice ht h with ⟨rfl, _⟩ | ⟨a, len, cap, elems, rest, n, hfu, rfl, _, _, hl, hm, hlen, hel, _, _⟩
  · exact ⟨none, 0, 0, [], rfl, rfl, Nat.le_refl _, by omega, by simp, .inl rfl⟩
  · rw [hc] at hel
    have hm63 : len ≤ 9223372036854775807 := by unfold maxLen at hm; omega
    have key : ∀ i, i < len → ∃ y : T, p y ∧ ∀ k v, (vals y)[k]? = some v → w.cell? ((a.add (i * sz)).add k) = some v := by
      intro i hil
      have h0 := hel i hil
      rw [List.getElem?_eq_getElem (by omega), Option.bind_eq_some_iff] at h0
      obtain ⟨cs', h1, h2⟩ := h0
      obtain ⟨y, rfl, hp⟩ := open1 _ _ _ (by omega) h2
      obtain ⟨_, hlen, hat⟩ := World.cells?_some h1
      refine ⟨y, hp, fun k v hk => ?_⟩
      have hk6 : k < sz := by have := (Array.getElem?_eq_some_iff.1 hk).1; rw [hsz] at this; exact this
      have := hat k hk6
      rw [this]
      simpa using hk
    by_cases h0 : len = 0
    · subst h0
      exact ⟨_, 0, cap, [], rfl, rfl, Nat.zero_le _, by omega, by simp, .inl rfl⟩
    · obtain ⟨g, off, spot⟩ := a
      obtain ⟨y0, -, hy0⟩ := key 0 (by omega)
      have h00 : (vals y0)[0]? = some ((vals y0)[0]'(by rw [hsz]; exact hpos)) := Array.getElem?_eq_getElem _
      have hspot : spot = none := by
        have := World.cell?_spot (hy0 0 _ h00)
        simpa [Addr.add] using this
      subst hspot
      have key2 : ∀ i, ∃ y : T, i < len → p y ∧ ∀ k v, (vals y)[k]? = some v → w.cell? (((⟨g, off, none⟩ : Addr).add (i * sz)).add k) = some v := fun i => by
        by_cases h : i < len
        · obtain ⟨y, hy⟩ := key i h; exact ⟨y, fun _ => hy⟩
        · exact ⟨d, fun h' => absurd h' h⟩
      obtain ⟨f, hf⟩ := Classical.axiomOfChoice key2
      refine ⟨_, len, cap, (List.range len).map f, rfl, by simp, hl, hm63, ?_, .inr ⟨g, off, rfl, ?_, ?_⟩⟩
      · intro y hy
        obtain ⟨i, hi, rfl⟩ := List.mem_map.1 hy
        exact (hf i (List.mem_range.1 hi)).1
      · have h6 := block_lt_of_cell (hy0 0 _ h00)
        have e : ((⟨g, off, none⟩ : Addr).add (0 * sz)).add 0 = ⟨g, off + 0 * sz + 0, none⟩ := by unfold Addr.add; split <;> split <;> simp_all
        rw [e] at h6
        exact h6
      · intro j y hy k u hu
        have hj : j < len := by have := (List.getElem?_eq_some_iff.1 hy).1; simpa using this
        simp [hj] at hy
        have hs := (hf j hj).2
        rw [hy] at hs
        have e : ((⟨g, off, none⟩ : Addr).add (j * sz)).add k = ⟨g, off + j * sz + k, none⟩ := by unfold Addr.add; split <;> split <;> simp_all
        rw [← e]
        exact hs k u hu
/-- A formula. -/
theorem open_fm : ∀ (fuel : Nat) (cs : List Value) (x : DataW H × List MemPlace), DataW.trod enc Tryz.prog w base spare held fuel 24 cs = some x → ∃ (f : Fm) (kv : Value), cs = fcells f kv ∧ IsFm (fun _ => True) w f kv := by
  intro fuel
  induction fuel using Nat.strongRecOn with
  | _ fuel ih =>
  intro cs x h
  obtain ⟨xs, n, rfl, rfl, hlen, hxs, hf⟩ := DataW.trod_struct Tryz.underlying24 h
  have hc : Tryz.prog.cellsOf 24 = 5 := by kernel_rfl
  rw [hc] at hlen
  have c3 : Tryz.prog.cellsOf 3 = 1 := by kernel_rfl
  have c4 : Tryz.prog.cellsOf 9 = 1 := by kernel_rfl
  have c5 : Tryz.prog.cellsOf 22 = 1 := by kernel_rfl
  obtain ⟨v0, v1, v2, v3, v4, rfl⟩ := len5 hlen
  obtain ⟨y0, y1, y2, y3, y4, rfl⟩ := len5 (show xs.length = 5 from hxs)
  have g0 : DataW.trod enc Tryz.prog w base spare held n 3 (([v0, v1, v2, v3, v4].drop 0).take (Tryz.prog.cellsOf 3)) = some y0 := hf 0 _ rfl
  have g1 : DataW.trod enc Tryz.prog w base spare held n 9 (([v0, v1, v2, v3, v4].drop 1).take (Tryz.prog.cellsOf 9)) = some y1 := hf 1 _ rfl
  have g2 : DataW.trod enc Tryz.prog w base spare held n 3 (([v0, v1, v2, v3, v4].drop 2).take (Tryz.prog.cellsOf 3)) = some y2 := hf 2 _ rfl
  have g3 : DataW.trod enc Tryz.prog w base spare held n 3 (([v0, v1, v2, v3, v4].drop 3).take (Tryz.prog.cellsOf 3)) = some y3 := hf 3 _ rfl
  have g4 : DataW.trod enc Tryz.prog w base spare held n 22 (([v0, v1, v2, v3, v4].drop 4).take (Tryz.prog.cellsOf 22)) = some y4 := hf 4 _ rfl
  rw [c3] at g0 g2 g3
  rw [c4] at g1
  rw [c5] at g4
  obtain ⟨k0, e0, _, _⟩ := DataW.trod_int Tryz.underlying3 g0
  obtain ⟨k2, e2, _, _⟩ := DataW.trod_int Tryz.underlying3 g2
  obtain ⟨k3, e3, _, _⟩ := DataW.trod_int Tryz.underlying3 g3
  obtain ⟨s, e1, -⟩ := DataW.trod_string Tryz.underlying9 g1
  obtain ⟨s, rfl⟩ := eq_bs s
  obtain ⟨a, nn, c, l, e4, hl, hle, h63, hp, hcells⟩ := open_rowsN (zeroF, Value.slice none 0 0) (fun q => (fcells q.1 q.2).toArray) (fun q => IsFm (fun _ => True) w q.1 q.2) Tryz.underlying22 hc (by omega) (fun _ => by simp [fcells]) (fun m cs x hm hx => by
    obtain ⟨f, kv, h1, h2⟩ := ih m (by omega) cs x hx
    exact ⟨(f, kv), by simp [h1], h2⟩) g4
  obtain rfl := List.cons.inj e0 |>.1
  obtain rfl := List.cons.inj e1 |>.1
  obtain rfl := List.cons.inj e2 |>.1
  obtain rfl := List.cons.inj e3 |>.1
  obtain rfl := List.cons.inj e4 |>.1
  refine ⟨.mk k0 s k2 k3 (l.map Prod.fst), .slice a nn c, rfl, ?_⟩
  rcases hcells with h0 | ⟨g, off, rfl, hg, hcell⟩
  · subst h0
    have : l = [] := List.length_eq_zero_iff.1 hl
    subst this
    exact .leaf _ _ _ _ _ _
  · have hks : (l.map Prod.fst).length = nn := by rw [List.length_map, hl]
    have get : ∀ (j : Nat) (k : Fm), (l.map Prod.fst)[j]? = some k → ∃ q, l[j]? = some q ∧ q.1 = k := fun j k hj => by
      rw [List.getElem?_map] at hj
      cases hq : l[j]? with
      | none => rw [hq] at hj; simp at hj
      | some q => rw [hq] at hj; exact ⟨q, rfl, by simpa using hj⟩
    rw [← hks]
    refine .node k0 s k2 k3 (l.map Prod.fst) g off c (fun j => (l[j]?.map Prod.snd).getD (.bool false)) (by rw [hks]; exact hle) hg trivial (fun j k hj => ?_) fun j k hj => ?_
    · obtain ⟨q, hq, rfl⟩ := get j k hj
      have hh := hcell j q hq
      refine ⟨hh 0 _ rfl, hh 1 _ rfl, hh 2 _ rfl, hh 3 _ rfl, ?_⟩
      rw [hq]
      exact hh 4 _ rfl
    · obtain ⟨q, hq, rfl⟩ := get j k hj
      rw [hq]
      exact hp q (List.mem_of_getElem? hq)
/-- A fact. -/
theorem open_fact {fuel : Nat} {cs : List Value} {x : DataW H × List MemPlace} (h : DataW.trod enc Tryz.prog w base spare held fuel 49 cs = some x) : ∃ f : Fact, cs = [.string (bs f.name), .int .i64 f.kind, .int .i64 f.lo, .int .i64 f.hi] := by
  obtain ⟨xs, n, rfl, rfl, hlen, hxs, hf⟩ := DataW.trod_struct Tryz.underlying49 h
  have hc : Tryz.prog.cellsOf 49 = 4 := by kernel_rfl
  rw [hc] at hlen
  have c3 : Tryz.prog.cellsOf 3 = 1 := by kernel_rfl
  have c4 : Tryz.prog.cellsOf 9 = 1 := by kernel_rfl
  obtain ⟨v0, v1, v2, v3, rfl⟩ := len4 hlen
  obtain ⟨y0, y1, y2, y3, rfl⟩ := len4 (show xs.length = 4 from hxs)
  have g0 : DataW.trod enc Tryz.prog w base spare held n 9 (([v0, v1, v2, v3].drop 0).take (Tryz.prog.cellsOf 9)) = some y0 := hf 0 _ rfl
  have g1 : DataW.trod enc Tryz.prog w base spare held n 3 (([v0, v1, v2, v3].drop 1).take (Tryz.prog.cellsOf 3)) = some y1 := hf 1 _ rfl
  have g2 : DataW.trod enc Tryz.prog w base spare held n 3 (([v0, v1, v2, v3].drop 2).take (Tryz.prog.cellsOf 3)) = some y2 := hf 2 _ rfl
  have g3 : DataW.trod enc Tryz.prog w base spare held n 3 (([v0, v1, v2, v3].drop 3).take (Tryz.prog.cellsOf 3)) = some y3 := hf 3 _ rfl
  rw [c3] at g1 g2 g3
  rw [c4] at g0
  obtain ⟨k1, e1, _, _⟩ := DataW.trod_int Tryz.underlying3 g1
  obtain ⟨k2, e2, _, _⟩ := DataW.trod_int Tryz.underlying3 g2
  obtain ⟨k3, e3, _, _⟩ := DataW.trod_int Tryz.underlying3 g3
  obtain ⟨s, e0, -⟩ := DataW.trod_string Tryz.underlying9 g0
  obtain ⟨s, rfl⟩ := eq_bs s
  obtain rfl := List.cons.inj e0 |>.1
  obtain rfl := List.cons.inj e1 |>.1
  obtain rfl := List.cons.inj e2 |>.1
  obtain rfl := List.cons.inj e3 |>.1
  exact ⟨⟨s, k1, k2, k3⟩, rfl⟩
/-- A domain. -/
theorem open_dom {fuel : Nat} {cs : List Value} {x : DataW H × List MemPlace} (h : DataW.trod enc Tryz.prog w base spare held fuel 27 cs = some x) : ∃ (d : List Fact) (v : Value), cs = [v] ∧ IsD w d v ∧ d.length ≤ 9223372036854775807 := by
  obtain ⟨xs, n, rfl, rfl, hlen, hxs, hf⟩ := DataW.trod_struct Tryz.underlying27 h
  have hc : Tryz.prog.cellsOf 27 = 1 := by kernel_rfl
  rw [hc] at hlen
  have c4 : Tryz.prog.cellsOf 25 = 1 := by kernel_rfl
  have c5 : Tryz.prog.cellsOf 49 = 4 := by kernel_rfl
  obtain ⟨v0, rfl⟩ := len1 hlen
  obtain ⟨y0, rfl⟩ := len1 (show xs.length = 1 from hxs)
  have g0 : DataW.trod enc Tryz.prog w base spare held n 25 (([v0].drop 0).take (Tryz.prog.cellsOf 25)) = some y0 := hf 0 _ rfl
  rw [c4] at g0
  obtain ⟨a, nn, c, l, e4, hl, hle, h63, hp, hcells⟩ := open_rowsN (⟨[], 0, 0, 0⟩ : Fact) (fun f => #[.string (bs f.name), .int .i64 f.kind, .int .i64 f.lo, .int .i64 f.hi]) (fun _ => True) Tryz.underlying25 c5 (by omega) (fun _ => rfl) (fun m cs x hm hx => by
    obtain ⟨f, h1⟩ := open_fact hx
    exact ⟨f, by simp [h1], trivial⟩) g0
  obtain rfl := List.cons.inj e4 |>.1
  subst hl
  refine ⟨l, _, rfl, ⟨a, c, rfl, ?_⟩, h63⟩
  rcases hcells with h0 | ⟨g, off, rfl, hg, hcell⟩
  · exact .inl (List.length_eq_zero_iff.1 h0)
  · exact .inr ⟨g, off, rfl, hg, hle, fun j x hj => ⟨hcell j x hj 0 _ rfl, hcell j x hj 1 _ rfl, hcell j x hj 2 _ rfl, hcell j x hj 3 _ rfl⟩⟩
/-- A case. -/
theorem open_case {fuel : Nat} {cs : List Value} {x : DataW H × List MemPlace} (h : DataW.trod enc Tryz.prog w base spare held fuel 29 cs = some x) : ∃ (c : List Int) (v : Value), cs = [v] ∧ IsC w c v ∧ c.length ≤ 9223372036854775807 := by
  have c5 : Tryz.prog.cellsOf 3 = 1 := by kernel_rfl
  obtain ⟨a, nn, c, l, e4, hl, hle, h63, hp, hcells⟩ := open_rowsN (0 : Int) (fun f => #[.int .i64 f]) (fun _ => True) Tryz.underlying29 c5 (by omega) (fun _ => rfl) (fun m cs x hm hx => by
    obtain ⟨k, e, _, _⟩ := DataW.trod_int Tryz.underlying3 hx
    exact ⟨k, by simp [e], trivial⟩) h
  subst e4
  subst hl
  refine ⟨l, _, rfl, ⟨a, c, rfl, ?_⟩, h63⟩
  rcases hcells with h0 | ⟨g, off, rfl, hg, hcell⟩
  · exact .inl (List.length_eq_zero_iff.1 h0)
  · refine .inr ⟨g, off, rfl, hg, hle, fun j x hj => ?_⟩
    have := hcell j x hj 0 _ rfl
    rw [Nat.mul_one] at this
    exact this
end
end Go.Proofs.YtagoefnibgobcaaGreatDoor
