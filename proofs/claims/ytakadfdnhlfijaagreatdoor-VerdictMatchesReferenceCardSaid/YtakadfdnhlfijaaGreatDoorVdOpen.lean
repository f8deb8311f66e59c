/-
  What a law of the verdicts is handed: measures, scenes; no text is longer than memory reaches.
-/
import Derived.Test.YtakadfdnhlfijaaGreatDoorVdMem
import Derived.Test.YtakadfdnhlfijaaGreatDoorVdCount
import Derived.Test.YtakadfdnhlfijaaGreatDoorOpen
import Derived.SizedLaws
namespace Go.Proofs.YtakadfdnhlfijaaGreatDoor
open Go.RowKit Go.Cz Go.Cz.Lx Go.Cz.Fo Go.Cz.Vd Go.ChangeShapes Go.WideShapes Go.Deep
open Go.Cz.Ck (Shift validB)
set_option linter.unusedSimpArgs false
set_option linter.unusedVariables false
theorem len5F {α : Type _} {l : List α} (h : l.length = 5) : ∃ a0 a1 a2 a3 a4, l = [a0, a1, a2, a3, a4] := by
  rcases l with _ | ⟨a0, l⟩
  · simp at h
  rcases l with _ | ⟨a1, l⟩
  · simp at h
  rcases l with _ | ⟨a2, l⟩
  · simp at h
  rcases l with _ | ⟨a3, l⟩
  · simp at h
  rcases l with _ | ⟨a4, l⟩
  · simp at h
  rcases l with _ | ⟨b, l⟩
  · exact ⟨_, _, _, _, _, rfl⟩
  · simp at h
theorem len4 {α : Type _} {l : List α} (h : l.length = 4) : ∃ a0 a1 a2 a3, l = [a0, a1, a2, a3] := by
  rcases l with _ | ⟨a0, l⟩
  · simp at h
  rcases l with _ | ⟨a1, l⟩
  · simp at h
  rcases l with _ | ⟨a2, l⟩
  · simp at h
  rcases l with _ | ⟨a3, l⟩
  · simp at h
  rcases l with _ | ⟨b, l⟩
  · exact ⟨_, _, _, _, rfl⟩
  · simp at h
theorem len1 {α : Type _} {l : List α} (h : l.length = 1) : ∃ a0, l = [a0] := List.length_eq_one_iff.1 h
theorem len2 {α : Type _} {l : List α} (h : l.length = 2) : ∃ a0 a1, l = [a0, a1] := by
  rcases l with _ | ⟨a, _ | ⟨b, _ | ⟨c, r⟩⟩⟩
  · simp at h
  · simp at h
  · exact ⟨_, _, rfl⟩
  · simp at h
theorem len6 {α : Type _} {l : List α} (h : l.length = 6) : ∃ a0 a1 a2 a3 a4 a5, l = [a0, a1, a2, a3, a4, a5] := by
  rcases l with _ | ⟨a0, l⟩
  · simp at h
  obtain ⟨a1, a2, a3, a4, a5, rfl⟩ := len5F (l := l) (by simpa using h)
  exact ⟨_, _, _, _, _, _, rfl⟩
theorem len8 {α : Type _} {l : List α} (h : l.length = 8) : ∃ a0 a1 a2 a3 a4 a5 a6 a7, l = [a0, a1, a2, a3, a4, a5, a6, a7] := by
  rcases l with _ | ⟨a0, _ | ⟨a1, l⟩⟩
  · simp at h
  · simp at h
  obtain ⟨a2, a3, a4, a5, a6, a7, rfl⟩ := len6 (l := l) (by simpa using h)
  exact ⟨_, _, _, _, _, _, _, _, rfl⟩
theorem len12 {α : Type _} {l : List α} (h : l.length = 12) : ∃ a0 a1 a2 a3 a4 a5 a6 a7 a8 a9 a10 a11, l = [a0, a1, a2, a3, a4, a5, a6, a7, a8, a9, a10, a11] := by
  obtain ⟨a, b, c, d, r, rfl⟩ : ∃ a b c d r, l = a :: b :: c :: d :: r := by
    rcases l with _ | ⟨a, _ | ⟨b, _ | ⟨c, _ | ⟨d, r⟩⟩⟩⟩
    · simp at h
    · simp at h
    · simp at h
    · simp at h
    · exact ⟨a, b, c, d, r, rfl⟩
  obtain ⟨a0, a1, a2, a3, a4, a5, a6, a7, rfl⟩ := len8 (l := r) (by simpa using h)
  exact ⟨_, _, _, _, _, _, _, _, _, _, _, _, rfl⟩
section
variable {H : Type} {P : Program} {t e : TypeId} {R : Nat}
theorem wAll {d : DataW H} {n : Nat} : ∀ {l : List (DataW H)}, d ∈ l → n ∈ d.weights P e → n ∈ DataW.weightsAll P e l
  | a :: r, hd, h => by
    rw [DataW.weightsAll, List.mem_append]
    rcases List.mem_cons.1 hd with rfl | hd
    · exact .inl h
    · exact .inr (wAll hd h)
theorem wStruct {fs : Array Field} (hu : P.underlying t = some (.struct fs)) {parts : List (DataW H)} (hz : ∀ n ∈ (DataW.agg parts).weights P t, n ≤ R) (i : Nat) {f : Field} {d : DataW H} (hf : fs[i]? = some f) (hd : parts[i]? = some d) : ∀ n ∈ d.weights P f.type, n ≤ R := by
  intro n hn
  apply hz
  rw [DataW.weights, hu]
  exact DataW.weights_mem_each (j := i) (by simp [hf]) hd n hn
theorem wSlice (hu : P.underlying t = some (.slice e)) {elems spare : List (DataW H)} (hz : ∀ n ∈ (DataW.slice elems spare).weights P t, n ≤ R) {d : DataW H} (hd : d ∈ elems) : ∀ n ∈ d.weights P e, n ≤ R := by
  intro n hn
  apply hz
  rw [DataW.weights, hu]
  exact List.mem_cons_of_mem _ (List.mem_append.2 (.inl (wAll hd hn)))
theorem wString {s : List UInt8} (hz : ∀ n ∈ (DataW.lit (.string s) : DataW H).weights P t, n ≤ R) : s.length ≤ R := hz _ (by rw [DataW.weights]; simp)
end
section
variable {H : Type} {enc : TypeId × Value → H} {w : World} {base : Nat} {spare : Nat → Bool} {held : Bool} {R : Nat}
/-- The elements of a slice, each of which is opened with less fuel. -/
theorem open_rowsZ {t e : TypeId} {sz : Nat} {T : Type} (d : T) (vals : T → Array Value) (p : T → Prop) (ht : Tryz.prog.underlying t = some (.slice e)) (hc : Tryz.prog.cellsOf e = sz) (hpos : 0 < sz) (hsz : ∀ y, (vals y).size = sz)
    {fuel : Nat} (open1 : ∀ (n : Nat) (cs : List Value) (x : DataW H × List MemPlace), n < fuel → DataW.trod enc Tryz.prog w base spare held n e cs = some x → (∀ k ∈ x.1.weights Tryz.prog e, k ≤ R) → ∃ y, cs = (vals y).toList ∧ p y)
    {cs : List Value} {x : DataW H × List MemPlace} (h : DataW.trod enc Tryz.prog w base spare held fuel t cs = some x) (hz : ∀ k ∈ x.1.weights Tryz.prog t, k ≤ R) :
    ∃ (a : Option Addr) (n c : Nat) (l : List T), cs = [.slice a n c] ∧ l.length = n ∧ n ≤ c ∧ n ≤ 9223372036854775807 ∧ (∀ y ∈ l, p y) ∧ (n = 0 ∨ ∃ g off, a = some ⟨g, off, none⟩ ∧ g < w.heap.size ∧ ∀ (j : Nat) (y : T), l[j]? = some y → ∀ (k : Nat) (u : Value), (vals y)[k]? = some u → w.cell? ⟨g, off + j * sz + k, none⟩ = some u) := by
  rcases DataW.trod_slice ht h with ⟨rfl, _⟩ | ⟨a, len, cap, elems, rest, n, hfu, rfl, rfl, _, hl, hm, hlen, hel, _, _⟩
  · exact ⟨none, 0, 0, [], rfl, rfl, Nat.le_refl _, by omega, by simp, .inl rfl⟩
  · rw [hc] at hel
    have hm63 : len ≤ 9223372036854775807 := by unfold maxLen at hm; omega
    have key : ∀ i, i < len → ∃ y : T, p y ∧ ∀ k v, (vals y)[k]? = some v → w.cell? ((a.add (i * sz)).add k) = some v := by
      intro i hil
      have h0 := hel i hil
      rw [List.getElem?_eq_getElem (by omega), Option.bind_eq_some_iff] at h0
      obtain ⟨cs', h1, h2⟩ := h0
      obtain ⟨y, rfl, hp⟩ := open1 _ _ _ (by omega) h2 (wSlice ht hz (List.mem_map.2 ⟨_, List.getElem_mem _, rfl⟩))
      obtain ⟨_, hlen, hat⟩ := World.cells?_some h1
      refine ⟨y, hp, fun k v hk => ?_⟩
      have hk6 : k < sz := by have := (Array.getElem?_eq_some_iff.1 hk).1; rw [hsz] at this; exact this
      have := hat k hk6
      rw [this]
      simpa using hk
    by_cases h0 : len = 0
    · subst h0
      exact ⟨_, 0, cap, [], rfl, rfl, Nat.zero_le _, by omega, by simp, .inl rfl⟩
    · obtain ⟨g, off, spot⟩ := a
      obtain ⟨y0, -, hy0⟩ := key 0 (by omega)
      have h00 : (vals y0)[0]? = some ((vals y0)[0]'(by rw [hsz]; exact hpos)) := Array.getElem?_eq_getElem _
      have hspot : spot = none := by
        have := World.cell?_spot (hy0 0 _ h00)
        simpa [Addr.add] using this
      subst hspot
      have key2 : ∀ i, ∃ y : T, i < len → p y ∧ ∀ k v, (vals y)[k]? = some v → w.cell? (((⟨g, off, none⟩ : Addr).add (i * sz)).add k) = some v := fun i => by
        by_cases h : i < len
        · obtain ⟨y, hy⟩ := key i h; exact ⟨y, fun _ => hy⟩
        · exact ⟨d, fun h' => absurd h' h⟩
      obtain ⟨f, hf⟩ := Classical.axiomOfChoice key2
      refine ⟨_, len, cap, (List.range len).map f, rfl, by simp, hl, hm63, ?_, .inr ⟨g, off, rfl, ?_, ?_⟩⟩
      · intro y hy
        obtain ⟨i, hi, rfl⟩ := List.mem_map.1 hy
        exact (hf i (List.mem_range.1 hi)).1
      · have h6 := block_lt_of_cell (hy0 0 _ h00)
        have e : ((⟨g, off, none⟩ : Addr).add (0 * sz)).add 0 = ⟨g, off + 0 * sz + 0, none⟩ := by unfold Addr.add; split <;> split <;> simp_all
        rw [e] at h6
        exact h6
      · intro j y hy k u hu
        have hj : j < len := by have := (List.getElem?_eq_some_iff.1 hy).1; simpa using this
        simp [hj] at hy
        have hs := (hf j hj).2
        rw [hy] at hs
        have e : ((⟨g, off, none⟩ : Addr).add (j * sz)).add k = ⟨g, off + j * sz + k, none⟩ := by unfold Addr.add; split <;> split <;> simp_all
        rw [← e]
        exact hs k u hu
theorem shorts_of {n : Nat} : ∀ {ks : List Fm}, (∀ k ∈ ks, short n k = true) → shorts n ks = true
  | [], _ => rfl
  | k :: r, h => by rw [shorts, h k (by simp), shorts_of fun q hq => h q (by simp [hq])]; rfl
/-- A formula. -/
theorem open_fmZ : ∀ (fuel : Nat) (cs : List Value) (x : DataW H × List MemPlace), DataW.trod enc Tryz.prog w base spare held fuel 44 cs = some x → (∀ k ∈ x.1.weights Tryz.prog 44, k ≤ R) → ∃ (f : Fm) (kv : Value), cs = fcells f kv ∧ IsFm (fun _ => True) w f kv ∧ short R f = true := by
  intro fuel
  induction fuel using Nat.strongRecOn with
  | _ fuel ih =>
  intro cs x h hz
  obtain ⟨xs, n, rfl, rfl, hlen, hxs, hf⟩ := DataW.trod_struct Tryz.underlying44 h
  have hc : Tryz.prog.cellsOf 44 = 5 := by kernel_rfl
  rw [hc] at hlen
  have c3 : Tryz.prog.cellsOf 3 = 1 := by kernel_rfl
  have c4 : Tryz.prog.cellsOf 9 = 1 := by kernel_rfl
  have c5 : Tryz.prog.cellsOf 42 = 1 := by kernel_rfl
  obtain ⟨v0, v1, v2, v3, v4, rfl⟩ := len5F hlen
  obtain ⟨y0, y1, y2, y3, y4, rfl⟩ := len5F (show xs.length = 5 from hxs)
  have g0 : DataW.trod enc Tryz.prog w base spare held n 3 (([v0, v1, v2, v3, v4].drop 0).take (Tryz.prog.cellsOf 3)) = some y0 := hf 0 _ rfl
  have g1 : DataW.trod enc Tryz.prog w base spare held n 9 (([v0, v1, v2, v3, v4].drop 1).take (Tryz.prog.cellsOf 9)) = some y1 := hf 1 _ rfl
  have g2 : DataW.trod enc Tryz.prog w base spare held n 3 (([v0, v1, v2, v3, v4].drop 2).take (Tryz.prog.cellsOf 3)) = some y2 := hf 2 _ rfl
  have g3 : DataW.trod enc Tryz.prog w base spare held n 3 (([v0, v1, v2, v3, v4].drop 3).take (Tryz.prog.cellsOf 3)) = some y3 := hf 3 _ rfl
  have g4 : DataW.trod enc Tryz.prog w base spare held n 42 (([v0, v1, v2, v3, v4].drop 4).take (Tryz.prog.cellsOf 42)) = some y4 := hf 4 _ rfl
  rw [c3] at g0 g2 g3
  rw [c4] at g1
  rw [c5] at g4
  obtain ⟨k0, e0, _, _⟩ := DataW.trod_int Tryz.underlying3 g0
  obtain ⟨k2, e2, _, _⟩ := DataW.trod_int Tryz.underlying3 g2
  obtain ⟨k3, e3, _, _⟩ := DataW.trod_int Tryz.underlying3 g3
  obtain ⟨s, e1, es, -⟩ := DataW.trod_string Tryz.underlying9 g1
  obtain ⟨s, rfl⟩ := eq_bs s
  have hsl : s.length ≤ R := by
    have h1 : ∀ n ∈ y1.1.weights Tryz.prog 9, n ≤ R := wStruct Tryz.underlying44 hz 1 rfl rfl
    rw [es] at h1
    have := wString h1
    simpa [bs] using this
  obtain ⟨a, nn, c, l, e4, hl, hle, h63, hp, hcells⟩ := open_rowsZ (zeroF, Value.slice none 0 0) (fun q => (fcells q.1 q.2).toArray) (fun q => IsFm (fun _ => True) w q.1 q.2 ∧ short R q.1 = true) Tryz.underlying42 hc (by omega) (fun _ => by simp [fcells]) (fun m cs x hm hx hzx => by
    obtain ⟨f, kv, h1, h2⟩ := ih m (by omega) cs x hx hzx
    exact ⟨(f, kv), by simp [h1], h2⟩) g4 (wStruct Tryz.underlying44 hz 4 rfl rfl)
  obtain rfl := List.cons.inj e0 |>.1
  obtain rfl := List.cons.inj e1 |>.1
  obtain rfl := List.cons.inj e2 |>.1
  obtain rfl := List.cons.inj e3 |>.1
  obtain rfl := List.cons.inj e4 |>.1
  have hsh : shorts R (l.map Prod.fst) = true := shorts_of fun k hk => by
    obtain ⟨q, hq, rfl⟩ := List.mem_map.1 hk
    exact (hp q hq).2
  refine ⟨.mk k0 s k2 k3 (l.map Prod.fst), .slice a nn c, rfl, ?_, by rw [short, hsh, decide_eq_true hsl]; rfl⟩
  rcases hcells with h0 | ⟨g, off, rfl, hg, hcell⟩
  · subst h0
    have : l = [] := List.length_eq_zero_iff.1 hl
    subst this
    exact .leaf _ _ _ _ _ _
  · have hks : (l.map Prod.fst).length = nn := by rw [List.length_map, hl]
    have get : ∀ (j : Nat) (k : Fm), (l.map Prod.fst)[j]? = some k → ∃ q, l[j]? = some q ∧ q.1 = k := fun j k hj => by
      rw [List.getElem?_map] at hj
      cases hq : l[j]? with
      | none => rw [hq] at hj; simp at hj
      | some q => rw [hq] at hj; exact ⟨q, rfl, by simpa using hj⟩
    rw [← hks]
    refine .node k0 s k2 k3 (l.map Prod.fst) g off c (fun j => (l[j]?.map Prod.snd).getD (.bool false)) (by rw [hks]; exact hle) hg trivial (fun j k hj => ?_) fun j k hj => ?_
    · obtain ⟨q, hq, rfl⟩ := get j k hj
      have hh := hcell j q hq
      refine ⟨hh 0 _ rfl, hh 1 _ rfl, hh 2 _ rfl, hh 3 _ rfl, ?_⟩
      rw [hq]
      exact hh 4 _ rfl
    · obtain ⟨q, hq, rfl⟩ := get j k hj
      rw [hq]
      exact (hp q (List.mem_of_getElem? hq)).1
/-- A fact. -/
theorem open_factZ {fuel : Nat} {cs : List Value} {x : DataW H × List MemPlace} (h : DataW.trod enc Tryz.prog w base spare held fuel 91 cs = some x) (hz : ∀ k ∈ x.1.weights Tryz.prog 91, k ≤ R) : ∃ f : Fact, cs = [.string (bs f.name), .int .i64 f.kind, .int .i64 f.lo, .int .i64 f.hi] ∧ f.name.length ≤ R := by
  obtain ⟨xs, n, rfl, rfl, hlen, hxs, hf⟩ := DataW.trod_struct Tryz.underlying91 h
  have hc : Tryz.prog.cellsOf 91 = 4 := by kernel_rfl
  rw [hc] at hlen
  have c3 : Tryz.prog.cellsOf 3 = 1 := by kernel_rfl
  have c4 : Tryz.prog.cellsOf 9 = 1 := by kernel_rfl
  obtain ⟨v0, v1, v2, v3, rfl⟩ := len4 hlen
  obtain ⟨y0, y1, y2, y3, rfl⟩ := len4 (show xs.length = 4 from hxs)
  have g0 : DataW.trod enc Tryz.prog w base spare held n 9 (([v0, v1, v2, v3].drop 0).take (Tryz.prog.cellsOf 9)) = some y0 := hf 0 _ rfl
  have g1 : DataW.trod enc Tryz.prog w base spare held n 3 (([v0, v1, v2, v3].drop 1).take (Tryz.prog.cellsOf 3)) = some y1 := hf 1 _ rfl
  have g2 : DataW.trod enc Tryz.prog w base spare held n 3 (([v0, v1, v2, v3].drop 2).take (Tryz.prog.cellsOf 3)) = some y2 := hf 2 _ rfl
  have g3 : DataW.trod enc Tryz.prog w base spare held n 3 (([v0, v1, v2, v3].drop 3).take (Tryz.prog.cellsOf 3)) = some y3 := hf 3 _ rfl
  rw [c3] at g1 g2 g3
  rw [c4] at g0
  obtain ⟨k1, e1, _, _⟩ := DataW.trod_int Tryz.underlying3 g1
  obtain ⟨k2, e2, _, _⟩ := DataW.trod_int Tryz.underlying3 g2
  obtain ⟨k3, e3, _, _⟩ := DataW.trod_int Tryz.underlying3 g3
  obtain ⟨s, e0, es, -⟩ := DataW.trod_string Tryz.underlying9 g0
  obtain ⟨s, rfl⟩ := eq_bs s
  have hsl : s.length ≤ R := by
    have h1 : ∀ n ∈ y0.1.weights Tryz.prog 9, n ≤ R := wStruct Tryz.underlying91 hz 0 rfl rfl
    rw [es] at h1
    have := wString h1
    simpa [bs] using this
  obtain rfl := List.cons.inj e0 |>.1
  obtain rfl := List.cons.inj e1 |>.1
  obtain rfl := List.cons.inj e2 |>.1
  obtain rfl := List.cons.inj e3 |>.1
  exact ⟨⟨s, k1, k2, k3⟩, rfl, hsl⟩
/-- A domain. -/
theorem open_domZ {fuel : Nat} {cs : List Value} {x : DataW H × List MemPlace} (h : DataW.trod enc Tryz.prog w base spare held fuel 25 cs = some x) (hz : ∀ k ∈ x.1.weights Tryz.prog 25, k ≤ R) : ∃ (d : List Fact) (v : Value), cs = [v] ∧ IsD w d v ∧ d.length ≤ 9223372036854775807 ∧ ∀ f ∈ d, f.name.length ≤ R := by
  obtain ⟨xs, n, rfl, rfl, hlen, hxs, hf⟩ := DataW.trod_struct Tryz.underlying25 h
  have hc : Tryz.prog.cellsOf 25 = 1 := by kernel_rfl
  rw [hc] at hlen
  have c4 : Tryz.prog.cellsOf 23 = 1 := by kernel_rfl
  have c5 : Tryz.prog.cellsOf 91 = 4 := by kernel_rfl
  obtain ⟨v0, rfl⟩ := len1 hlen
  obtain ⟨y0, rfl⟩ := len1 (show xs.length = 1 from hxs)
  have g0 : DataW.trod enc Tryz.prog w base spare held n 23 (([v0].drop 0).take (Tryz.prog.cellsOf 23)) = some y0 := hf 0 _ rfl
  rw [c4] at g0
  obtain ⟨a, nn, c, l, e4, hl, hle, h63, hp, hcells⟩ := open_rowsZ (⟨[], 0, 0, 0⟩ : Fact) (fun f => #[.string (bs f.name), .int .i64 f.kind, .int .i64 f.lo, .int .i64 f.hi]) (fun f => f.name.length ≤ R) Tryz.underlying23 c5 (by omega) (fun _ => rfl) (fun m cs x hm hx hzx => by
    obtain ⟨f, h1, h2⟩ := open_factZ hx hzx
    exact ⟨f, by simp [h1], h2⟩) g0 (wStruct Tryz.underlying25 hz 0 rfl rfl)
  obtain rfl := List.cons.inj e4 |>.1
  subst hl
  refine ⟨l, _, rfl, ⟨a, c, rfl, ?_⟩, h63, hp⟩
  rcases hcells with h0 | ⟨g, off, rfl, hg, hcell⟩
  · exact .inl (List.length_eq_zero_iff.1 h0)
  · exact .inr ⟨g, off, rfl, hg, hle, fun j x hj => ⟨hcell j x hj 0 _ rfl, hcell j x hj 1 _ rfl, hcell j x hj 2 _ rfl, hcell j x hj 3 _ rfl⟩⟩
/-- A case. -/
theorem open_caseZ {fuel : Nat} {cs : List Value} {x : DataW H × List MemPlace} (h : DataW.trod enc Tryz.prog w base spare held fuel 68 cs = some x) (hz : ∀ k ∈ x.1.weights Tryz.prog 68, k ≤ R) : ∃ (c : List Int) (v : Value), cs = [v] ∧ IsC w c v ∧ c.length ≤ 9223372036854775807 := by
  have c5 : Tryz.prog.cellsOf 3 = 1 := by kernel_rfl
  obtain ⟨a, nn, c, l, e4, hl, hle, h63, hp, hcells⟩ := open_rowsZ (0 : Int) (fun f => #[.int .i64 f]) (fun _ => True) Tryz.underlying68 c5 (by omega) (fun _ => rfl) (fun m cs x hm hx _ => by
    obtain ⟨k, e, _, _⟩ := DataW.trod_int Tryz.underlying3 hx
    exact ⟨k, by simp [e], trivial⟩) h hz
  subst e4
  subst hl
  refine ⟨l, _, rfl, ⟨a, c, rfl, ?_⟩, h63⟩
  rcases hcells with h0 | ⟨g, off, rfl, hg, hcell⟩
  · exact .inl (List.length_eq_zero_iff.1 h0)
  · refine .inr ⟨g, off, rfl, hg, hle, fun j x hj => ?_⟩
    have := hcell j x hj 0 _ rfl
    rw [Nat.mul_one] at this
    exact this
/-- A shift. -/
theorem open_shift {fuel : Nat} {cs : List Value} {x : DataW H × List MemPlace} (h : DataW.trod enc Tryz.prog w base spare held fuel 89 cs = some x) : ∃ s : Shift, cs = [.int .i64 s.1, .int .i64 s.2] := by
  obtain ⟨xs, n, rfl, rfl, hlen, hxs, hf⟩ := DataW.trod_struct Tryz.underlying89 h
  have hc : Tryz.prog.cellsOf 89 = 2 := by kernel_rfl
  rw [hc] at hlen
  have c3 : Tryz.prog.cellsOf 3 = 1 := by kernel_rfl
  obtain ⟨v0, v1, rfl⟩ : ∃ v0 v1, cs = [v0, v1] := by
    rcases cs with _ | ⟨a, _ | ⟨b, _ | ⟨c, r⟩⟩⟩
    · simp at hlen
    · simp at hlen
    · exact ⟨a, b, rfl⟩
    · simp at hlen
  obtain ⟨y0, y1, rfl⟩ : ∃ y0 y1, xs = [y0, y1] := by
    have hxs' : xs.length = 2 := hxs
    rcases xs with _ | ⟨a, _ | ⟨b, _ | ⟨c, r⟩⟩⟩
    · simp at hxs'
    · simp at hxs'
    · exact ⟨a, b, rfl⟩
    · simp at hxs'
  have g0 : DataW.trod enc Tryz.prog w base spare held n 3 (([v0, v1].drop 0).take (Tryz.prog.cellsOf 3)) = some y0 := hf 0 _ rfl
  have g1 : DataW.trod enc Tryz.prog w base spare held n 3 (([v0, v1].drop 1).take (Tryz.prog.cellsOf 3)) = some y1 := hf 1 _ rfl
  rw [c3] at g0 g1
  obtain ⟨k, e0, _, w0⟩ := DataW.trod_int Tryz.underlying3 g0
  obtain ⟨s, e1, _, w1⟩ := DataW.trod_int Tryz.underlying3 g1
  obtain rfl := List.cons.inj e0 |>.1
  obtain rfl := List.cons.inj e1 |>.1
  exact ⟨(k, s), rfl⟩
theorem open_shifts {fuel : Nat} {cs : List Value} {x : DataW H × List MemPlace} (h : DataW.trod enc Tryz.prog w base spare held fuel 64 cs = some x) :
    ∃ a n c l, cs = [.slice a n c] ∧ IsShifts w a n l := by
  rcases open_slice Tryz.underlying64 h with ⟨rfl, _⟩ | ⟨a, len, cap, m, n, D, Pl, rfl, _, hl, hm, hmm, _, hi⟩
  · exact ⟨none, 0, 0, [], rfl, rfl, by omega, .inl rfl⟩
  · have hc : Tryz.prog.cellsOf 89 = 2 := by kernel_rfl
    rw [hc] at hi
    have hlm : len ≤ m := by rw [hmm]; split <;> omega
    have key : ∀ i, i < len → ∃ y : Shift, ∀ k v, (#[Value.int .i64 y.1, .int .i64 y.2] : Array Value)[k]? = some v → w.cell? ((a.add (i * 2)).add k) = some v := by
      intro i hil
      obtain ⟨cs', h1, h2⟩ := hi i (by omega)
      obtain ⟨y, rfl⟩ := open_shift h2
      obtain ⟨_, hlen, hat⟩ := World.cells?_some h1
      refine ⟨y, fun k v hk => ?_⟩
      have hk6 : k < 2 := by have := (Array.getElem?_eq_some_iff.1 hk).1; simpa using this
      have := hat k hk6
      rw [this]
      simpa using hk
    have hm63 : len ≤ 9223372036854775807 := by unfold maxLen at hm; omega
    by_cases h0 : len = 0
    · subst h0
      exact ⟨_, 0, cap, [], rfl, rfl, by omega, .inl rfl⟩
    · obtain ⟨g, off, spot⟩ := a
      have hspot : spot = none := by
        obtain ⟨y, hy⟩ := key 0 (by omega)
        have := World.cell?_spot (hy 0 _ rfl)
        simpa [Addr.add] using this
      subst hspot
      have key2 : ∀ i, ∃ y : Shift, i < len → ∀ k v, (#[Value.int .i64 y.1, .int .i64 y.2] : Array Value)[k]? = some v → w.cell? (((⟨g, off, none⟩ : Addr).add (i * 2)).add k) = some v := fun i => by
        by_cases h : i < len
        · obtain ⟨y, hy⟩ := key i h; exact ⟨y, fun _ => hy⟩
        · exact ⟨(0, 0), fun h' => absurd h' h⟩
      obtain ⟨f, hf⟩ := Classical.axiomOfChoice key2
      refine ⟨_, len, cap, (List.range len).map f, rfl, by simp, hm63, .inr ⟨g, off, rfl, ?_, ?_⟩⟩
      · obtain ⟨y, hy⟩ := key 0 (by omega)
        exact block_lt_of_cell (hy 0 _ rfl)
      · intro j y hy
        have hj : j < len := by have := (List.getElem?_eq_some_iff.1 hy).1; simpa using this
        simp [hj] at hy
        have hs := hf j hj
        rw [hy] at hs
        have e : ∀ k, ((⟨g, off, none⟩ : Addr).add (j * 2)).add k = ⟨g, off + j * 2 + k, none⟩ := fun k => by unfold Addr.add; split <;> split <;> simp_all
        simp only [e] at hs
        exact ⟨hs 0 _ rfl, hs 1 _ rfl⟩
theorem open_zone {fuel : Nat} {cs : List Value} {x : DataW H × List MemPlace} (h : DataW.trod enc Tryz.prog w base spare held fuel 66 cs = some x) :
    ∃ a n c l, cs = [.slice a n c] ∧ IsShifts w a n l := by
  obtain ⟨xs, n, rfl, rfl, hlen, hxs, hf⟩ := DataW.trod_struct Tryz.underlying66 h
  have hc : Tryz.prog.cellsOf 66 = 1 := by kernel_rfl
  rw [hc] at hlen
  have c3 : Tryz.prog.cellsOf 64 = 1 := by kernel_rfl
  obtain ⟨v0, rfl⟩ : ∃ v0, cs = [v0] := by
    rcases cs with _ | ⟨a, _ | ⟨b, r⟩⟩
    · simp at hlen
    · exact ⟨a, rfl⟩
    · simp at hlen
  obtain ⟨y0, rfl⟩ : ∃ y0, xs = [y0] := by
    have hxs' : xs.length = 1 := hxs
    rcases xs with _ | ⟨a, _ | ⟨b, r⟩⟩
    · simp at hxs'
    · exact ⟨a, rfl⟩
    · simp at hxs'
  have g0 : DataW.trod enc Tryz.prog w base spare held n 64 (([v0].drop 0).take (Tryz.prog.cellsOf 64)) = some y0 := hf 0 _ rfl
  rw [c3] at g0
  exact open_shifts g0
/-- A measure. -/
theorem open_meZ {fuel : Nat} {cs : List Value} {x : DataW H × List MemPlace} (h : DataW.trod enc Tryz.prog w base spare held fuel 46 cs = some x) (hz : ∀ k ∈ x.1.weights Tryz.prog 46, k ≤ R) :
    ∃ (m : Me) (kv : Value), cs = mcl (m, kv) ∧ IsFm (fun _ => True) w m.cond kv ∧ m.id.length ≤ R ∧ m.auth.length ≤ R ∧ m.target.length ≤ R ∧ short R m.cond = true := by
  obtain ⟨xs, n, rfl, rfl, hlen, hxs, hf⟩ := DataW.trod_struct Tryz.underlying46 h
  have hc : Tryz.prog.cellsOf 46 = 12 := by kernel_rfl
  rw [hc] at hlen
  have ci : Tryz.prog.cellsOf 3 = 1 := by kernel_rfl
  have cst : Tryz.prog.cellsOf 9 = 1 := by kernel_rfl
  have cf : Tryz.prog.cellsOf 44 = 5 := by kernel_rfl
  obtain ⟨v0, v1, v2, v3, v4, v5, v6, v7, v8, v9, v10, v11, rfl⟩ := len12 hlen
  obtain ⟨y0, y1, y2, y3, y4, y5, y6, y7, rfl⟩ := len8 (show xs.length = 8 from hxs)
  have g0 : DataW.trod enc Tryz.prog w base spare held n 9 (([v0, v1, v2, v3, v4, v5, v6, v7, v8, v9, v10, v11].drop 0).take (Tryz.prog.cellsOf 9)) = some y0 := hf 0 _ rfl
  have g1 : DataW.trod enc Tryz.prog w base spare held n 9 (([v0, v1, v2, v3, v4, v5, v6, v7, v8, v9, v10, v11].drop 1).take (Tryz.prog.cellsOf 9)) = some y1 := hf 1 _ rfl
  have g2 : DataW.trod enc Tryz.prog w base spare held n 3 (([v0, v1, v2, v3, v4, v5, v6, v7, v8, v9, v10, v11].drop 2).take (Tryz.prog.cellsOf 3)) = some y2 := hf 2 _ rfl
  have g3 : DataW.trod enc Tryz.prog w base spare held n 9 (([v0, v1, v2, v3, v4, v5, v6, v7, v8, v9, v10, v11].drop 3).take (Tryz.prog.cellsOf 9)) = some y3 := hf 3 _ rfl
  have g4 : DataW.trod enc Tryz.prog w base spare held n 44 (([v0, v1, v2, v3, v4, v5, v6, v7, v8, v9, v10, v11].drop 4).take (Tryz.prog.cellsOf 44)) = some y4 := hf 4 _ rfl
  have g5 : DataW.trod enc Tryz.prog w base spare held n 3 (([v0, v1, v2, v3, v4, v5, v6, v7, v8, v9, v10, v11].drop 9).take (Tryz.prog.cellsOf 3)) = some y5 := hf 5 _ rfl
  have g6 : DataW.trod enc Tryz.prog w base spare held n 3 (([v0, v1, v2, v3, v4, v5, v6, v7, v8, v9, v10, v11].drop 10).take (Tryz.prog.cellsOf 3)) = some y6 := hf 6 _ rfl
  have g7 : DataW.trod enc Tryz.prog w base spare held n 3 (([v0, v1, v2, v3, v4, v5, v6, v7, v8, v9, v10, v11].drop 11).take (Tryz.prog.cellsOf 3)) = some y7 := hf 7 _ rfl
  rw [ci] at g2 g5 g6 g7
  rw [cst] at g0 g1 g3
  rw [cf] at g4
  obtain ⟨k0, e0, s0, -⟩ := DataW.trod_string Tryz.underlying9 g0
  obtain ⟨k0, rfl⟩ := eq_bs k0
  have l0 : k0.length ≤ R := by
    have h1 : ∀ n ∈ y0.1.weights Tryz.prog 9, n ≤ R := wStruct Tryz.underlying46 hz 0 rfl rfl
    rw [s0] at h1
    have := wString h1
    simpa [bs] using this
  obtain ⟨k1, e1, s1, -⟩ := DataW.trod_string Tryz.underlying9 g1
  obtain ⟨k1, rfl⟩ := eq_bs k1
  have l1 : k1.length ≤ R := by
    have h1 : ∀ n ∈ y1.1.weights Tryz.prog 9, n ≤ R := wStruct Tryz.underlying46 hz 1 rfl rfl
    rw [s1] at h1
    have := wString h1
    simpa [bs] using this
  obtain ⟨k3, e3, s3, -⟩ := DataW.trod_string Tryz.underlying9 g3
  obtain ⟨k3, rfl⟩ := eq_bs k3
  have l3 : k3.length ≤ R := by
    have h1 : ∀ n ∈ y3.1.weights Tryz.prog 9, n ≤ R := wStruct Tryz.underlying46 hz 3 rfl rfl
    rw [s3] at h1
    have := wString h1
    simpa [bs] using this
  obtain ⟨k2, e2, -, -⟩ := DataW.trod_int Tryz.underlying3 g2
  obtain ⟨k5, e5, -, -⟩ := DataW.trod_int Tryz.underlying3 g5
  obtain ⟨k6, e6, -, -⟩ := DataW.trod_int Tryz.underlying3 g6
  obtain ⟨k7, e7, -, -⟩ := DataW.trod_int Tryz.underlying3 g7
  obtain ⟨f, kv, e4, hfm, hsh⟩ := open_fmZ _ _ _ g4 (wStruct Tryz.underlying46 hz 4 rfl rfl)
  obtain rfl := List.cons.inj e0 |>.1
  obtain rfl := List.cons.inj e1 |>.1
  obtain rfl := List.cons.inj e2 |>.1
  obtain rfl := List.cons.inj e3 |>.1
  obtain rfl := List.cons.inj e5 |>.1
  obtain rfl := List.cons.inj e6 |>.1
  obtain rfl := List.cons.inj e7 |>.1
  simp only [fcells, List.drop_succ_cons, List.drop_zero, List.take_succ_cons, List.take_zero, List.cons.injEq, and_true] at e4
  obtain ⟨rfl, rfl, rfl, rfl, rfl⟩ := e4
  exact ⟨⟨k0, k1, k2, k3, f, k5, k6, k7⟩, v8, rfl, hfm, l0, l1, l3, hsh⟩
/-- A row of measures. -/
theorem open_mesZ {fuel : Nat} {cs : List Value} {x : DataW H × List MemPlace} (h : DataW.trod enc Tryz.prog w base spare held fuel 22 cs = some x) (hz : ∀ k ∈ x.1.weights Tryz.prog 22, k ≤ R) :
    ∃ (l : List Me) (v : Value), cs = [v] ∧ IsMeR w l v ∧ l.length ≤ 9223372036854775807 ∧ ∀ m ∈ l, m.id.length ≤ R ∧ m.auth.length ≤ R ∧ m.target.length ≤ R ∧ short R m.cond = true := by
  obtain ⟨a, nn, c, l, e4, hl, hle, h63, hp, hcells⟩ := open_rowsZ ((⟨[], [], 0, [], zeroF, 0, 0, 0⟩, Value.slice none 0 0) : Me × Value) (fun q => (mcl q).toArray) (fun q => IsFm (fun _ => True) w q.1.cond q.2 ∧ q.1.id.length ≤ R ∧ q.1.auth.length ≤ R ∧ q.1.target.length ≤ R ∧ short R q.1.cond = true) Tryz.underlying22 (show Tryz.prog.cellsOf 46 = 12 by kernel_rfl) (by omega) (fun _ => by simp [mcl]) (fun m cs x hm hx hzx => by
    obtain ⟨f, kv, h1, h2⟩ := open_meZ hx hzx
    exact ⟨(f, kv), by simp [h1], h2⟩) h hz
  subst e4
  refine ⟨l.map Prod.fst, _, rfl, ⟨a, c, by rw [List.length_map, hl], ?_⟩, by rw [List.length_map]; omega, fun m hm => ?_⟩
  · rcases hcells with h0 | ⟨g, off, rfl, hg, hcell⟩
    · exact .inl (by rw [List.map_eq_nil_iff]; exact List.length_eq_zero_iff.1 (by omega))
    · refine .inr ⟨g, off, rfl, hg, by rw [List.length_map]; omega, fun j m hj => ?_⟩
      obtain ⟨p, hq, rfl⟩ : ∃ p, l[j]? = some p ∧ p.1 = m := by
        rw [List.getElem?_map] at hj
        cases hq : l[j]? with
        | none => rw [hq] at hj; simp at hj
        | some q => rw [hq] at hj; exact ⟨q, rfl, by simpa using hj⟩
      have hh := hcell j p hq
      exact ⟨p.2, ⟨hh 0 _ rfl, hh 1 _ rfl, hh 2 _ rfl, hh 3 _ rfl, hh 4 _ rfl, hh 5 _ rfl, hh 6 _ rfl, hh 7 _ rfl, hh 8 _ rfl, hh 9 _ rfl, hh 10 _ rfl, hh 11 _ rfl⟩, (hp p (List.mem_of_getElem? hq)).1⟩
  · obtain ⟨q, hq, rfl⟩ := List.mem_map.1 hm
    exact (hp q hq).2
/-- A row of texts. -/
theorem open_txsZ {fuel : Nat} {cs : List Value} {x : DataW H × List MemPlace} (h : DataW.trod enc Tryz.prog w base spare held fuel 26 cs = some x) (hz : ∀ k ∈ x.1.weights Tryz.prog 26, k ≤ R) :
    ∃ (l : List Bytes) (v : Value), cs = [v] ∧ IsTxR w l v ∧ l.length ≤ 9223372036854775807 ∧ ∀ s ∈ l, s.length ≤ R := by
  obtain ⟨a, nn, c, l, e4, hl, hle, h63, hp, hcells⟩ := open_rowsZ ([] : Bytes) (fun q => #[.string (bs q)]) (fun q => q.length ≤ R) Tryz.underlying26 (show Tryz.prog.cellsOf 9 = 1 by kernel_rfl) (by omega) (fun _ => rfl) (fun m cs x hm hx hzx => by
    obtain ⟨s, e1, es, -⟩ := DataW.trod_string Tryz.underlying9 hx
    obtain ⟨s, rfl⟩ := eq_bs s
    rw [es] at hzx
    have := wString hzx
    exact ⟨s, by simp [e1], by simpa [bs] using this⟩) h hz
  subst e4
  subst hl
  refine ⟨l, _, rfl, ⟨a, c, rfl, ?_⟩, h63, hp⟩
  rcases hcells with h0 | ⟨g, off, rfl, hg, hcell⟩
  · exact .inl (List.length_eq_zero_iff.1 h0)
  · refine .inr ⟨g, off, rfl, hg, hle, fun j x hj => ?_⟩
    have := hcell j x hj 0 _ rfl
    rw [Nat.mul_one] at this
    exact this
/-- A row of zones. -/
theorem open_zosZ {fuel : Nat} {cs : List Value} {x : DataW H × List MemPlace} (h : DataW.trod enc Tryz.prog w base spare held fuel 27 cs = some x) (hz : ∀ k ∈ x.1.weights Tryz.prog 27, k ≤ R) :
    ∃ (l : List (List Shift)) (v : Value), cs = [v] ∧ IsZoR w l v ∧ l.length ≤ 9223372036854775807 := by
  obtain ⟨a, nn, c, l, e4, hl, hle, h63, hp, hcells⟩ := open_rowsZ (([], Value.slice none 0 0) : List Shift × Value) (fun q => #[q.2]) (fun q => ∃ x c, q.2 = .slice x q.1.length c ∧ IsShifts w x q.1.length q.1) Tryz.underlying27 (show Tryz.prog.cellsOf 66 = 1 by kernel_rfl) (by omega) (fun _ => rfl) (fun m cs x hm hx _ => by
    obtain ⟨a, n, c, l, h1, h2⟩ := open_zone hx
    have hn : l.length = n := h2.1
    subst hn
    exact ⟨(l, .slice a l.length c), by simp [h1], a, c, rfl, h2⟩) h hz
  subst e4
  subst hl
  refine ⟨l.map Prod.fst, _, rfl, ⟨a, c, by rw [List.length_map], ?_⟩, by rw [List.length_map]; exact h63⟩
  rcases hcells with h0 | ⟨g, off, rfl, hg, hcell⟩
  · exact .inl (by rw [List.map_eq_nil_iff]; exact List.length_eq_zero_iff.1 h0)
  · refine .inr ⟨g, off, rfl, hg, by rw [List.length_map]; exact hle, fun j z hj => ?_⟩
    obtain ⟨p, hq, rfl⟩ : ∃ p, l[j]? = some p ∧ p.1 = z := by
      rw [List.getElem?_map] at hj
      cases hq : l[j]? with
      | none => rw [hq] at hj; simp at hj
      | some q => rw [hq] at hj; exact ⟨q, rfl, by simpa using hj⟩
    obtain ⟨x, zc, e, h2⟩ := hp p (List.mem_of_getElem? hq)
    have := hcell j p hq 0 _ rfl
    rw [Nat.mul_one, e] at this
    exact ⟨x, zc, this, h2⟩
/-- A row of cases. -/
theorem open_casZ {fuel : Nat} {cs : List Value} {x : DataW H × List MemPlace} (h : DataW.trod enc Tryz.prog w base spare held fuel 28 cs = some x) (hz : ∀ k ∈ x.1.weights Tryz.prog 28, k ≤ R) :
    ∃ (l : List (List Int)) (v : Value), cs = [v] ∧ IsCaR w l v ∧ l.length ≤ 9223372036854775807 := by
  obtain ⟨a, nn, c, l, e4, hl, hle, h63, hp, hcells⟩ := open_rowsZ (([], Value.slice none 0 0) : List Int × Value) (fun q => #[q.2]) (fun q => IsC w q.1 q.2) Tryz.underlying28 (show Tryz.prog.cellsOf 68 = 1 by kernel_rfl) (by omega) (fun _ => rfl) (fun m cs x hm hx hzx => by
    obtain ⟨c, v, h1, h2, -⟩ := open_caseZ hx hzx
    exact ⟨(c, v), by simp [h1], h2⟩) h hz
  subst e4
  subst hl
  refine ⟨l.map Prod.fst, _, rfl, ⟨a, c, by rw [List.length_map], ?_⟩, by rw [List.length_map]; exact h63⟩
  rcases hcells with h0 | ⟨g, off, rfl, hg, hcell⟩
  · exact .inl (by rw [List.map_eq_nil_iff]; exact List.length_eq_zero_iff.1 h0)
  · refine .inr ⟨g, off, rfl, hg, by rw [List.length_map]; exact hle, fun j z hj => ?_⟩
    obtain ⟨p, hq, rfl⟩ : ∃ p, l[j]? = some p ∧ p.1 = z := by
      rw [List.getElem?_map] at hj
      cases hq : l[j]? with
      | none => rw [hq] at hj; simp at hj
      | some q => rw [hq] at hj; exact ⟨q, rfl, by simpa using hj⟩
    have := hcell j p hq 0 _ rfl
    rw [Nat.mul_one] at this
    exact ⟨p.2, this, hp p (List.mem_of_getElem? hq)⟩
/-- A scene. -/
theorem open_scZ {fuel : Nat} {cs : List Value} {x : DataW H × List MemPlace} (h : DataW.trod enc Tryz.prog w base spare held fuel 30 cs = some x) (hz : ∀ k ∈ x.1.weights Tryz.prog 30, k ≤ R) :
    ∃ (s : Sc) (vd va vz vc : Value), cs = [vd, va, vz, vc, .int .i64 s.signed, .int .i64 s.now] ∧ IsSc w s vd va vz vc ∧ s.dom.length ≤ 9223372036854775807 ∧ (∀ f ∈ s.dom, f.name.length ≤ R) ∧ s.auths.length ≤ 9223372036854775807 ∧ (∀ a ∈ s.auths, a.length ≤ R) ∧ s.zones.length ≤ 9223372036854775807 ∧ s.cases.length ≤ 9223372036854775807 := by
  obtain ⟨xs, n, rfl, rfl, hlen, hxs, hf⟩ := DataW.trod_struct Tryz.underlying30 h
  have hc : Tryz.prog.cellsOf 30 = 6 := by kernel_rfl
  rw [hc] at hlen
  have ci : Tryz.prog.cellsOf 3 = 1 := by kernel_rfl
  have cd : Tryz.prog.cellsOf 25 = 1 := by kernel_rfl
  have ct : Tryz.prog.cellsOf 26 = 1 := by kernel_rfl
  have cz : Tryz.prog.cellsOf 27 = 1 := by kernel_rfl
  have cc : Tryz.prog.cellsOf 28 = 1 := by kernel_rfl
  obtain ⟨v0, v1, v2, v3, v4, v5, rfl⟩ := len6 hlen
  obtain ⟨y0, y1, y2, y3, y4, y5, rfl⟩ := len6 (show xs.length = 6 from hxs)
  have g0 : DataW.trod enc Tryz.prog w base spare held n 25 (([v0, v1, v2, v3, v4, v5].drop 0).take (Tryz.prog.cellsOf 25)) = some y0 := hf 0 _ rfl
  have g1 : DataW.trod enc Tryz.prog w base spare held n 26 (([v0, v1, v2, v3, v4, v5].drop 1).take (Tryz.prog.cellsOf 26)) = some y1 := hf 1 _ rfl
  have g2 : DataW.trod enc Tryz.prog w base spare held n 27 (([v0, v1, v2, v3, v4, v5].drop 2).take (Tryz.prog.cellsOf 27)) = some y2 := hf 2 _ rfl
  have g3 : DataW.trod enc Tryz.prog w base spare held n 28 (([v0, v1, v2, v3, v4, v5].drop 3).take (Tryz.prog.cellsOf 28)) = some y3 := hf 3 _ rfl
  have g4 : DataW.trod enc Tryz.prog w base spare held n 3 (([v0, v1, v2, v3, v4, v5].drop 4).take (Tryz.prog.cellsOf 3)) = some y4 := hf 4 _ rfl
  have g5 : DataW.trod enc Tryz.prog w base spare held n 3 (([v0, v1, v2, v3, v4, v5].drop 5).take (Tryz.prog.cellsOf 3)) = some y5 := hf 5 _ rfl
  rw [ci] at g4 g5
  rw [cd] at g0
  rw [ct] at g1
  rw [cz] at g2
  rw [cc] at g3
  obtain ⟨k4, e4, -, -⟩ := DataW.trod_int Tryz.underlying3 g4
  obtain ⟨k5, e5, -, -⟩ := DataW.trod_int Tryz.underlying3 g5
  obtain ⟨d, vd, e0, hd, hd1, hd2⟩ := open_domZ g0 (wStruct Tryz.underlying30 hz 0 rfl rfl)
  obtain ⟨ts, va, e1, ha, ha1, ha2⟩ := open_txsZ g1 (wStruct Tryz.underlying30 hz 1 rfl rfl)
  obtain ⟨zs, vz, e2, hzo, hz1⟩ := open_zosZ g2 (wStruct Tryz.underlying30 hz 2 rfl rfl)
  obtain ⟨css, vc, e3, hca, hc1⟩ := open_casZ g3 (wStruct Tryz.underlying30 hz 3 rfl rfl)
  obtain rfl := List.cons.inj e0 |>.1
  obtain rfl := List.cons.inj e1 |>.1
  obtain rfl := List.cons.inj e2 |>.1
  obtain rfl := List.cons.inj e3 |>.1
  obtain rfl := List.cons.inj e4 |>.1
  obtain rfl := List.cons.inj e5 |>.1
  exact ⟨⟨d, ts, zs, css, k4, k5⟩, _, _, _, _, rfl, ⟨hd, ha, hzo, hca⟩, hd1, hd2, ha1, ha2, hz1, hc1⟩
end
end Go.Proofs.YtakadfdnhlfijaaGreatDoor
