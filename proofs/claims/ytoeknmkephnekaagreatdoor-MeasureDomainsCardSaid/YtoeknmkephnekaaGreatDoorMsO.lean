/-
  What a law of the measures is handed: measures, domains, facts; no text is longer than memory reaches.
  One start that meets what the rows list.
  What the measures' laws share: rows of one or two measures, what 'few' says.
-/
import Derived.Test.YtoeknmkephnekaaGreatDoorVdMem
import Derived.Test.YtoeknmkephnekaaGreatDoorMsS
import Derived.Test.YtoeknmkephnekaaGreatDoorOpen
import Derived.SizedLaws
import Derived.Test.YtoeknmkephnekaaGreatDoorRows
import Derived.ChangeSame
import Derived.ShutString
import Derived.ProofKit
import Derived.LaidLaws
import Derived.Stop.LaidErr
import Derived.Lib.LaidTab
import Derived.JoinedOf
import Derived.JoinedAt
import Derived.RowKit
import Derived.RowKit3
import Derived.RowKitTokens
import Derived.HandedFrom
import Derived.ChangeVars
import Derived.ChangeMaps5
import Derived.Test.YtoeknmkephnekaaGreatDoorMsP
import Derived.Test.YtoeknmkephnekaaGreatDoorFmLaw2
namespace Go.Proofs.YtoeknmkephnekaaGreatDoor
open Go.RowKit Go.Cz Go.Cz.Lx Go.Cz.Fo Go.Cz.Vd Go.ChangeShapes Go.WideShapes Go.Deep
set_option linter.unusedSimpArgs false
set_option linter.unusedVariables false
theorem len5F {α : Type _} {l : List α} (h : l.length = 5) : ∃ a0 a1 a2 a3 a4, l = [a0, a1, a2, a3, a4] := by
  rcases l with _ | ⟨a0, l⟩
  · simp at h
  rcases l with _ | ⟨a1, l⟩
  · simp at h
  rcases l with _ | ⟨a2, l⟩
  · simp at h
  rcases l with _ | ⟨a3, l⟩
  · simp at h
  rcases l with _ | ⟨a4, l⟩
  · simp at h
  rcases l with _ | ⟨b, l⟩
  · exact ⟨_, _, _, _, _, rfl⟩
  · simp at h
theorem len4 {α : Type _} {l : List α} (h : l.length = 4) : ∃ a0 a1 a2 a3, l = [a0, a1, a2, a3] := by
  rcases l with _ | ⟨a0, l⟩
  · simp at h
  rcases l with _ | ⟨a1, l⟩
  · simp at h
  rcases l with _ | ⟨a2, l⟩
  · simp at h
  rcases l with _ | ⟨a3, l⟩
  · simp at h
  rcases l with _ | ⟨b, l⟩
  · exact ⟨_, _, _, _, rfl⟩
  · simp at h
theorem len1 {α : Type _} {l : List α} (h : l.length = 1) : ∃ a0, l = [a0] := List.length_eq_one_iff.1 h
theorem len2 {α : Type _} {l : List α} (h : l.length = 2) : ∃ a0 a1, l = [a0, a1] := by
  rcases l with _ | ⟨a, _ | ⟨b, _ | ⟨c, r⟩⟩⟩
  · simp at h
  · simp at h
  · exact ⟨_, _, rfl⟩
  · simp at h
theorem len6 {α : Type _} {l : List α} (h : l.length = 6) : ∃ a0 a1 a2 a3 a4 a5, l = [a0, a1, a2, a3, a4, a5] := by
  rcases l with _ | ⟨a0, l⟩
  · simp at h
  obtain ⟨a1, a2, a3, a4, a5, rfl⟩ := len5F (l := l) (by simpa using h)
  exact ⟨_, _, _, _, _, _, rfl⟩
theorem len8 {α : Type _} {l : List α} (h : l.length = 8) : ∃ a0 a1 a2 a3 a4 a5 a6 a7, l = [a0, a1, a2, a3, a4, a5, a6, a7] := by
  rcases l with _ | ⟨a0, _ | ⟨a1, l⟩⟩
  · simp at h
  · simp at h
  obtain ⟨a2, a3, a4, a5, a6, a7, rfl⟩ := len6 (l := l) (by simpa using h)
  exact ⟨_, _, _, _, _, _, _, _, rfl⟩
theorem len12 {α : Type _} {l : List α} (h : l.length = 12) : ∃ a0 a1 a2 a3 a4 a5 a6 a7 a8 a9 a10 a11, l = [a0, a1, a2, a3, a4, a5, a6, a7, a8, a9, a10, a11] := by
  obtain ⟨a, b, c, d, r, rfl⟩ : ∃ a b c d r, l = a :: b :: c :: d :: r := by
    rcases l with _ | ⟨a, _ | ⟨b, _ | ⟨c, _ | ⟨d, r⟩⟩⟩⟩
    · simp at h
    · simp at h
    · simp at h
    · simp at h
    · exact ⟨a, b, c, d, r, rfl⟩
  obtain ⟨a0, a1, a2, a3, a4, a5, a6, a7, rfl⟩ := len8 (l := r) (by simpa using h)
  exact ⟨_, _, _, _, _, _, _, _, _, _, _, _, rfl⟩
abbrev mclM (m : Me) (kv : Value) : List Value := [.string (bs m.id), .string (bs m.auth), .int .i64 m.kind, .string (bs m.target), .int .i64 m.cond.op, .string (bs m.cond.name), .int .i64 m.cond.cmp, .int .i64 m.cond.num, kv, .int .i64 m.fr, .int .i64 m.un, .int .i64 m.wi]
theorem wf_in {r : Int} (hr : (Lit.int .i64 r).wf = true) : -9223372036854775808 ≤ r ∧ r ≤ 9223372036854775807 := by
  simp only [Lit.wf, Bool.and_eq_true, decide_eq_true_eq] at hr
  exact ⟨hr.1, hr.2⟩
section
variable {H : Type} {P : Program} {t e : TypeId} {R : Nat}
theorem wAll {d : DataW H} {n : Nat} : ∀ {l : List (DataW H)}, d ∈ l → n ∈ d.weights P e → n ∈ DataW.weightsAll P e l
  | a :: r, hd, h => by
    rw [DataW.weightsAll, List.mem_append]
    rcases List.mem_cons.1 hd with rfl | hd
    · exact .inl h
    · exact .inr (wAll hd h)
theorem wStruct {fs : Array Field} (hu : P.underlying t = some (.struct fs)) {parts : List (DataW H)} (hz : ∀ n ∈ (DataW.agg parts).weights P t, n ≤ R) (i : Nat) {f : Field} {d : DataW H} (hf : fs[i]? = some f) (hd : parts[i]? = some d) : ∀ n ∈ d.weights P f.type, n ≤ R := by
  intro n hn
  apply hz
  rw [DataW.weights, hu]
  exact DataW.weights_mem_each (j := i) (by simp [hf]) hd n hn
theorem wSlice (hu : P.underlying t = some (.slice e)) {elems spare : List (DataW H)} (hz : ∀ n ∈ (DataW.slice elems spare).weights P t, n ≤ R) {d : DataW H} (hd : d ∈ elems) : ∀ n ∈ d.weights P e, n ≤ R := by
  intro n hn
  apply hz
  rw [DataW.weights, hu]
  exact List.mem_cons_of_mem _ (List.mem_append.2 (.inl (wAll hd hn)))
theorem wString {s : List UInt8} (hz : ∀ n ∈ (DataW.lit (.string s) : DataW H).weights P t, n ≤ R) : s.length ≤ R := hz _ (by rw [DataW.weights]; simp)
end
section
variable {H : Type} {enc : TypeId × Value → H} {w : World} {base : Nat} {spare : Nat → Bool} {held : Bool} {R : Nat}
/-- The elements of a slice, each of which is opened with less fuel. -/
theorem open_rowsZ {t e : TypeId} {sz : Nat} {T : Type} (d : T) (vals : T → Array Value) (p : T → Prop) (ht : Tryz.prog.underlying t = some (.slice e)) (hc : Tryz.prog.cellsOf e = sz) (hpos : 0 < sz) (hsz : ∀ y, (vals y).size = sz)
    {fuel : Nat} (open1 : ∀ (n : Nat) (cs : List Value) (x : DataW H × List MemPlace), n < fuel → DataW.trod enc Tryz.prog w base spare held n e cs = some x → (∀ k ∈ x.1.weights Tryz.prog e, k ≤ R) → ∃ y, cs = (vals y).toList ∧ p y)
    {cs : List Value} {x : DataW H × List MemPlace} (h : DataW.trod enc Tryz.prog w base spare held fuel t cs = some x) (hz : ∀ k ∈ x.1.weights Tryz.prog t, k ≤ R) :
    ∃ (a : Option Addr) (n c : Nat) (l : List T), cs = [.slice a n c] ∧ l.length = n ∧ n ≤ c ∧ n ≤ 9223372036854775807 ∧ (∀ y ∈ l, p y) ∧ (n = 0 ∨ ∃ g off, a = some ⟨g, off, none⟩ ∧ g < w.heap.size ∧ ∀ (j : Nat) (y : T), l[j]? = some y → ∀ (k : Nat) (u : Value), (vals y)[k]? = some u → w.cell? ⟨g, off + j * sz + k, none⟩ = some u) := by
  rcases DataW.trod_slice ht h with ⟨rfl, _⟩ | ⟨a, len, cap, elems, rest, n, hfu, rfl, rfl, _, hl, hm, hlen, hel, _, _⟩
  · exact ⟨none, 0, 0, [], rfl, rfl, Nat.le_refl _, by omega, by simp, .inl rfl⟩
  · rw [hc] at hel
    have hm63 : len ≤ 9223372036854775807 := by unfold maxLen at hm; omega
    have key : ∀ i, i < len → ∃ y : T, p y ∧ ∀ k v, (vals y)[k]? = some v → w.cell? ((a.add (i * sz)).add k) = some v := by
      intro i hil
      have h0 := hel i hil
      rw [List.getElem?_eq_getElem (by omega), Option.bind_eq_some_iff] at h0
      obtain ⟨cs', h1, h2⟩ := h0
      obtain ⟨y, rfl, hp⟩ := open1 _ _ _ (by omega) h2 (wSlice ht hz (List.mem_map.2 ⟨_, List.getElem_mem _, rfl⟩))
      obtain ⟨_, hlen, hat⟩ := World.cells?_some h1
      refine ⟨y, hp, fun k v hk => ?_⟩
      have hk6 : k < sz := by have := (Array.getElem?_eq_some_iff.1 hk).1; rw [hsz] at this; exact this
      have := hat k hk6
      rw [this]
      simpa using hk
    by_cases h0 : len = 0
    · subst h0
      exact ⟨_, 0, cap, [], rfl, rfl, Nat.zero_le _, by omega, by simp, .inl rfl⟩
    · obtain ⟨g, off, spot⟩ := a
      obtain ⟨y0, -, hy0⟩ := key 0 (by omega)
      have h00 : (vals y0)[0]? = some ((vals y0)[0]'(by rw [hsz]; exact hpos)) := Array.getElem?_eq_getElem _
      have hspot : spot = none := by
        have := World.cell?_spot (hy0 0 _ h00)
        simpa [Addr.add] using this
      subst hspot
      have key2 : ∀ i, ∃ y : T, i < len → p y ∧ ∀ k v, (vals y)[k]? = some v → w.cell? (((⟨g, off, none⟩ : Addr).add (i * sz)).add k) = some v := fun i => by
        by_cases h : i < len
        · obtain ⟨y, hy⟩ := key i h; exact ⟨y, fun _ => hy⟩
        · exact ⟨d, fun h' => absurd h' h⟩
      obtain ⟨f, hf⟩ := Classical.axiomOfChoice key2
      refine ⟨_, len, cap, (List.range len).map f, rfl, by simp, hl, hm63, ?_, .inr ⟨g, off, rfl, ?_, ?_⟩⟩
      · intro y hy
        obtain ⟨i, hi, rfl⟩ := List.mem_map.1 hy
        exact (hf i (List.mem_range.1 hi)).1
      · have h6 := block_lt_of_cell (hy0 0 _ h00)
        have e : ((⟨g, off, none⟩ : Addr).add (0 * sz)).add 0 = ⟨g, off + 0 * sz + 0, none⟩ := by unfold Addr.add; split <;> split <;> simp_all
        rw [e] at h6
        exact h6
      · intro j y hy k u hu
        have hj : j < len := by have := (List.getElem?_eq_some_iff.1 hy).1; simpa using this
        simp [hj] at hy
        have hs := (hf j hj).2
        rw [hy] at hs
        have e : ((⟨g, off, none⟩ : Addr).add (j * sz)).add k = ⟨g, off + j * sz + k, none⟩ := by unfold Addr.add; split <;> split <;> simp_all
        rw [← e]
        exact hs k u hu
theorem shorts_of {n : Nat} : ∀ {ks : List Fm}, (∀ k ∈ ks, short n k = true) → shorts n ks = true
  | [], _ => rfl
  | k :: r, h => by rw [shorts, h k (by simp), shorts_of fun q hq => h q (by simp [hq])]; rfl
/-- A formula. -/
theorem open_fmZ : ∀ (fuel : Nat) (cs : List Value) (x : DataW H × List MemPlace), DataW.trod enc Tryz.prog w base spare held fuel 24 cs = some x → (∀ k ∈ x.1.weights Tryz.prog 24, k ≤ R) → ∃ (f : Fm) (kv : Value), cs = fcells f kv ∧ IsFm (fun _ => True) w f kv ∧ short R f = true := by
  intro fuel
  induction fuel using Nat.strongRecOn with
  | _ fuel ih =>
  intro cs x h hz
  obtain ⟨xs, n, rfl, rfl, hlen, hxs, hf⟩ := DataW.trod_struct Tryz.underlying24 h
  have hc : Tryz.prog.cellsOf 24 = 5 := by kernel_rfl
  rw [hc] at hlen
  have c3 : Tryz.prog.cellsOf 3 = 1 := by kernel_rfl
  have c4 : Tryz.prog.cellsOf 9 = 1 := by kernel_rfl
  have c5 : Tryz.prog.cellsOf 22 = 1 := by kernel_rfl
  obtain ⟨v0, v1, v2, v3, v4, rfl⟩ := len5F hlen
  obtain ⟨y0, y1, y2, y3, y4, rfl⟩ := len5F (show xs.length = 5 from hxs)
  have g0 : DataW.trod enc Tryz.prog w base spare held n 3 (([v0, v1, v2, v3, v4].drop 0).take (Tryz.prog.cellsOf 3)) = some y0 := hf 0 _ rfl
  have g1 : DataW.trod enc Tryz.prog w base spare held n 9 (([v0, v1, v2, v3, v4].drop 1).take (Tryz.prog.cellsOf 9)) = some y1 := hf 1 _ rfl
  have g2 : DataW.trod enc Tryz.prog w base spare held n 3 (([v0, v1, v2, v3, v4].drop 2).take (Tryz.prog.cellsOf 3)) = some y2 := hf 2 _ rfl
  have g3 : DataW.trod enc Tryz.prog w base spare held n 3 (([v0, v1, v2, v3, v4].drop 3).take (Tryz.prog.cellsOf 3)) = some y3 := hf 3 _ rfl
  have g4 : DataW.trod enc Tryz.prog w base spare held n 22 (([v0, v1, v2, v3, v4].drop 4).take (Tryz.prog.cellsOf 22)) = some y4 := hf 4 _ rfl
  rw [c3] at g0 g2 g3
  rw [c4] at g1
  rw [c5] at g4
  obtain ⟨k0, e0, _, _⟩ := DataW.trod_int Tryz.underlying3 g0
  obtain ⟨k2, e2, _, _⟩ := DataW.trod_int Tryz.underlying3 g2
  obtain ⟨k3, e3, _, _⟩ := DataW.trod_int Tryz.underlying3 g3
  obtain ⟨s, e1, es, -⟩ := DataW.trod_string Tryz.underlying9 g1
  obtain ⟨s, rfl⟩ := eq_bs s
  have hsl : s.length ≤ R := by
    have h1 : ∀ n ∈ y1.1.weights Tryz.prog 9, n ≤ R := wStruct Tryz.underlying24 hz 1 rfl rfl
    rw [es] at h1
    have := wString h1
    simpa [bs] using this
  obtain ⟨a, nn, c, l, e4, hl, hle, h63, hp, hcells⟩ := open_rowsZ (zeroF, Value.slice none 0 0) (fun q => (fcells q.1 q.2).toArray) (fun q => IsFm (fun _ => True) w q.1 q.2 ∧ short R q.1 = true) Tryz.underlying22 hc (by omega) (fun _ => by simp [fcells]) (fun m cs x hm hx hzx => by
    obtain ⟨f, kv, h1, h2⟩ := ih m (by omega) cs x hx hzx
    exact ⟨(f, kv), by simp [h1], h2⟩) g4 (wStruct Tryz.underlying24 hz 4 rfl rfl)
  obtain rfl := List.cons.inj e0 |>.1
  obtain rfl := List.cons.inj e1 |>.1
  obtain rfl := List.cons.inj e2 |>.1
  obtain rfl := List.cons.inj e3 |>.1
  obtain rfl := List.cons.inj e4 |>.1
  have hsh : shorts R (l.map Prod.fst) = true := shorts_of fun k hk => by
    obtain ⟨q, hq, rfl⟩ := List.mem_map.1 hk
    exact (hp q hq).2
  refine ⟨.mk k0 s k2 k3 (l.map Prod.fst), .slice a nn c, rfl, ?_, by rw [short, hsh, decide_eq_true hsl]; rfl⟩
  rcases hcells with h0 | ⟨g, off, rfl, hg, hcell⟩
  · subst h0
    have : l = [] := List.length_eq_zero_iff.1 hl
    subst this
    exact .leaf _ _ _ _ _ _
  · have hks : (l.map Prod.fst).length = nn := by rw [List.length_map, hl]
    have get : ∀ (j : Nat) (k : Fm), (l.map Prod.fst)[j]? = some k → ∃ q, l[j]? = some q ∧ q.1 = k := fun j k hj => by
      rw [List.getElem?_map] at hj
      cases hq : l[j]? with
      | none => rw [hq] at hj; simp at hj
      | some q => rw [hq] at hj; exact ⟨q, rfl, by simpa using hj⟩
    rw [← hks]
    refine .node k0 s k2 k3 (l.map Prod.fst) g off c (fun j => (l[j]?.map Prod.snd).getD (.bool false)) (by rw [hks]; exact hle) hg trivial (fun j k hj => ?_) fun j k hj => ?_
    · obtain ⟨q, hq, rfl⟩ := get j k hj
      have hh := hcell j q hq
      refine ⟨hh 0 _ rfl, hh 1 _ rfl, hh 2 _ rfl, hh 3 _ rfl, ?_⟩
      rw [hq]
      exact hh 4 _ rfl
    · obtain ⟨q, hq, rfl⟩ := get j k hj
      rw [hq]
      exact (hp q (List.mem_of_getElem? hq)).1
/-- A fact. -/
theorem open_factZ {fuel : Nat} {cs : List Value} {x : DataW H × List MemPlace} (h : DataW.trod enc Tryz.prog w base spare held fuel 47 cs = some x) (hz : ∀ k ∈ x.1.weights Tryz.prog 47, k ≤ R) : ∃ f : Fact, cs = [.string (bs f.name), .int .i64 f.kind, .int .i64 f.lo, .int .i64 f.hi] ∧ f.name.length ≤ R := by
  obtain ⟨xs, n, rfl, rfl, hlen, hxs, hf⟩ := DataW.trod_struct Tryz.underlying47 h
  have hc : Tryz.prog.cellsOf 47 = 4 := by kernel_rfl
  rw [hc] at hlen
  have c3 : Tryz.prog.cellsOf 3 = 1 := by kernel_rfl
  have c4 : Tryz.prog.cellsOf 9 = 1 := by kernel_rfl
  obtain ⟨v0, v1, v2, v3, rfl⟩ := len4 hlen
  obtain ⟨y0, y1, y2, y3, rfl⟩ := len4 (show xs.length = 4 from hxs)
  have g0 : DataW.trod enc Tryz.prog w base spare held n 9 (([v0, v1, v2, v3].drop 0).take (Tryz.prog.cellsOf 9)) = some y0 := hf 0 _ rfl
  have g1 : DataW.trod enc Tryz.prog w base spare held n 3 (([v0, v1, v2, v3].drop 1).take (Tryz.prog.cellsOf 3)) = some y1 := hf 1 _ rfl
  have g2 : DataW.trod enc Tryz.prog w base spare held n 3 (([v0, v1, v2, v3].drop 2).take (Tryz.prog.cellsOf 3)) = some y2 := hf 2 _ rfl
  have g3 : DataW.trod enc Tryz.prog w base spare held n 3 (([v0, v1, v2, v3].drop 3).take (Tryz.prog.cellsOf 3)) = some y3 := hf 3 _ rfl
  rw [c3] at g1 g2 g3
  rw [c4] at g0
  obtain ⟨k1, e1, _, _⟩ := DataW.trod_int Tryz.underlying3 g1
  obtain ⟨k2, e2, _, _⟩ := DataW.trod_int Tryz.underlying3 g2
  obtain ⟨k3, e3, _, _⟩ := DataW.trod_int Tryz.underlying3 g3
  obtain ⟨s, e0, es, -⟩ := DataW.trod_string Tryz.underlying9 g0
  obtain ⟨s, rfl⟩ := eq_bs s
  have hsl : s.length ≤ R := by
    have h1 : ∀ n ∈ y0.1.weights Tryz.prog 9, n ≤ R := wStruct Tryz.underlying47 hz 0 rfl rfl
    rw [es] at h1
    have := wString h1
    simpa [bs] using this
  obtain rfl := List.cons.inj e0 |>.1
  obtain rfl := List.cons.inj e1 |>.1
  obtain rfl := List.cons.inj e2 |>.1
  obtain rfl := List.cons.inj e3 |>.1
  exact ⟨⟨s, k1, k2, k3⟩, rfl, hsl⟩
/-- A domain. -/
theorem open_domZ {fuel : Nat} {cs : List Value} {x : DataW H × List MemPlace} (h : DataW.trod enc Tryz.prog w base spare held fuel 45 cs = some x) (hz : ∀ k ∈ x.1.weights Tryz.prog 45, k ≤ R) : ∃ (d : List Fact) (v : Value), cs = [v] ∧ IsD w d v ∧ d.length ≤ 9223372036854775807 ∧ ∀ f ∈ d, f.name.length ≤ R := by
  obtain ⟨xs, n, rfl, rfl, hlen, hxs, hf⟩ := DataW.trod_struct Tryz.underlying45 h
  have hc : Tryz.prog.cellsOf 45 = 1 := by kernel_rfl
  rw [hc] at hlen
  have c4 : Tryz.prog.cellsOf 43 = 1 := by kernel_rfl
  have c5 : Tryz.prog.cellsOf 47 = 4 := by kernel_rfl
  obtain ⟨v0, rfl⟩ := len1 hlen
  obtain ⟨y0, rfl⟩ := len1 (show xs.length = 1 from hxs)
  have g0 : DataW.trod enc Tryz.prog w base spare held n 43 (([v0].drop 0).take (Tryz.prog.cellsOf 43)) = some y0 := hf 0 _ rfl
  rw [c4] at g0
  obtain ⟨a, nn, c, l, e4, hl, hle, h63, hp, hcells⟩ := open_rowsZ (⟨[], 0, 0, 0⟩ : Fact) (fun f => #[.string (bs f.name), .int .i64 f.kind, .int .i64 f.lo, .int .i64 f.hi]) (fun f => f.name.length ≤ R) Tryz.underlying43 c5 (by omega) (fun _ => rfl) (fun m cs x hm hx hzx => by
    obtain ⟨f, h1, h2⟩ := open_factZ hx hzx
    exact ⟨f, by simp [h1], h2⟩) g0 (wStruct Tryz.underlying45 hz 0 rfl rfl)
  obtain rfl := List.cons.inj e4 |>.1
  subst hl
  refine ⟨l, _, rfl, ⟨a, c, rfl, ?_⟩, h63, hp⟩
  rcases hcells with h0 | ⟨g, off, rfl, hg, hcell⟩
  · exact .inl (List.length_eq_zero_iff.1 h0)
  · exact .inr ⟨g, off, rfl, hg, hle, fun j x hj => ⟨hcell j x hj 0 _ rfl, hcell j x hj 1 _ rfl, hcell j x hj 2 _ rfl, hcell j x hj 3 _ rfl⟩⟩
/-- A measure. -/
theorem open_meZ {fuel : Nat} {cs : List Value} {x : DataW H × List MemPlace} (h : DataW.trod enc Tryz.prog w base spare held fuel 26 cs = some x) (hz : ∀ k ∈ x.1.weights Tryz.prog 26, k ≤ R) :
    ∃ (m : Me) (kv : Value), cs = mclM m kv ∧ MeInt m ∧ IsFm (fun _ => True) w m.cond kv ∧ m.id.length ≤ R ∧ m.auth.length ≤ R ∧ m.target.length ≤ R ∧ short R m.cond = true := by
  obtain ⟨xs, n, rfl, rfl, hlen, hxs, hf⟩ := DataW.trod_struct Tryz.underlying26 h
  have hc : Tryz.prog.cellsOf 26 = 12 := by kernel_rfl
  rw [hc] at hlen
  have ci : Tryz.prog.cellsOf 3 = 1 := by kernel_rfl
  have cst : Tryz.prog.cellsOf 9 = 1 := by kernel_rfl
  have cf : Tryz.prog.cellsOf 24 = 5 := by kernel_rfl
  obtain ⟨v0, v1, v2, v3, v4, v5, v6, v7, v8, v9, v10, v11, rfl⟩ := len12 hlen
  obtain ⟨y0, y1, y2, y3, y4, y5, y6, y7, rfl⟩ := len8 (show xs.length = 8 from hxs)
  have g0 : DataW.trod enc Tryz.prog w base spare held n 9 (([v0, v1, v2, v3, v4, v5, v6, v7, v8, v9, v10, v11].drop 0).take (Tryz.prog.cellsOf 9)) = some y0 := hf 0 _ rfl
  have g1 : DataW.trod enc Tryz.prog w base spare held n 9 (([v0, v1, v2, v3, v4, v5, v6, v7, v8, v9, v10, v11].drop 1).take (Tryz.prog.cellsOf 9)) = some y1 := hf 1 _ rfl
  have g2 : DataW.trod enc Tryz.prog w base spare held n 3 (([v0, v1, v2, v3, v4, v5, v6, v7, v8, v9, v10, v11].drop 2).take (Tryz.prog.cellsOf 3)) = some y2 := hf 2 _ rfl
  have g3 : DataW.trod enc Tryz.prog w base spare held n 9 (([v0, v1, v2, v3, v4, v5, v6, v7, v8, v9, v10, v11].drop 3).take (Tryz.prog.cellsOf 9)) = some y3 := hf 3 _ rfl
  have g4 : DataW.trod enc Tryz.prog w base spare held n 24 (([v0, v1, v2, v3, v4, v5, v6, v7, v8, v9, v10, v11].drop 4).take (Tryz.prog.cellsOf 24)) = some y4 := hf 4 _ rfl
  have g5 : DataW.trod enc Tryz.prog w base spare held n 3 (([v0, v1, v2, v3, v4, v5, v6, v7, v8, v9, v10, v11].drop 9).take (Tryz.prog.cellsOf 3)) = some y5 := hf 5 _ rfl
  have g6 : DataW.trod enc Tryz.prog w base spare held n 3 (([v0, v1, v2, v3, v4, v5, v6, v7, v8, v9, v10, v11].drop 10).take (Tryz.prog.cellsOf 3)) = some y6 := hf 6 _ rfl
  have g7 : DataW.trod enc Tryz.prog w base spare held n 3 (([v0, v1, v2, v3, v4, v5, v6, v7, v8, v9, v10, v11].drop 11).take (Tryz.prog.cellsOf 3)) = some y7 := hf 7 _ rfl
  rw [ci] at g2 g5 g6 g7
  rw [cst] at g0 g1 g3
  rw [cf] at g4
  obtain ⟨k0, e0, s0, -⟩ := DataW.trod_string Tryz.underlying9 g0
  obtain ⟨k0, rfl⟩ := eq_bs k0
  have l0 : k0.length ≤ R := by
    have h1 : ∀ n ∈ y0.1.weights Tryz.prog 9, n ≤ R := wStruct Tryz.underlying26 hz 0 rfl rfl
    rw [s0] at h1
    have := wString h1
    simpa [bs] using this
  obtain ⟨k1, e1, s1, -⟩ := DataW.trod_string Tryz.underlying9 g1
  obtain ⟨k1, rfl⟩ := eq_bs k1
  have l1 : k1.length ≤ R := by
    have h1 : ∀ n ∈ y1.1.weights Tryz.prog 9, n ≤ R := wStruct Tryz.underlying26 hz 1 rfl rfl
    rw [s1] at h1
    have := wString h1
    simpa [bs] using this
  obtain ⟨k3, e3, s3, -⟩ := DataW.trod_string Tryz.underlying9 g3
  obtain ⟨k3, rfl⟩ := eq_bs k3
  have l3 : k3.length ≤ R := by
    have h1 : ∀ n ∈ y3.1.weights Tryz.prog 9, n ≤ R := wStruct Tryz.underlying26 hz 3 rfl rfl
    rw [s3] at h1
    have := wString h1
    simpa [bs] using this
  obtain ⟨k2, e2, -, r2⟩ := DataW.trod_int Tryz.underlying3 g2
  obtain ⟨k5, e5, -, r5⟩ := DataW.trod_int Tryz.underlying3 g5
  obtain ⟨k6, e6, -, r6⟩ := DataW.trod_int Tryz.underlying3 g6
  obtain ⟨k7, e7, -, r7⟩ := DataW.trod_int Tryz.underlying3 g7
  obtain ⟨f, kv, e4, hfm, hsh⟩ := open_fmZ _ _ _ g4 (wStruct Tryz.underlying26 hz 4 rfl rfl)
  obtain rfl := List.cons.inj e0 |>.1
  obtain rfl := List.cons.inj e1 |>.1
  obtain rfl := List.cons.inj e2 |>.1
  obtain rfl := List.cons.inj e3 |>.1
  obtain rfl := List.cons.inj e5 |>.1
  obtain rfl := List.cons.inj e6 |>.1
  obtain rfl := List.cons.inj e7 |>.1
  simp only [fcells, List.drop_succ_cons, List.drop_zero, List.take_succ_cons, List.take_zero, List.cons.injEq, and_true] at e4
  obtain ⟨rfl, rfl, rfl, rfl, rfl⟩ := e4
  exact ⟨⟨k0, k1, k2, k3, f, k5, k6, k7⟩, v8, rfl, ⟨wf_in r2, wf_in r5, wf_in r6, wf_in r7⟩, hfm, l0, l1, l3, hsh⟩
end
end Go.Proofs.YtoeknmkephnekaaGreatDoor
namespace Go.Proofs.YtoeknmkephnekaaGreatDoor
open Go.RowKit Go.Cz Go.Cz.Fo Go.Cz.Vd Go.ChangeShapes Go.WideShapes Go.ChangeAt
set_option linter.unusedVariables false
/-- What the rows list. -/
def laid5 : List (String × DataW Unit) := [("math/bits.deBruijn32tab", Rows.laid_math_bits_deBruijn32tab), ("math/bits.deBruijn64tab", Rows.laid_math_bits_deBruijn64tab), ("internal/strconv.uint64pow10", Rows.laid_internal_strconv_uint64pow10), ("strconv.ErrRange", Rows.laid_strconv_ErrRange), ("strconv.ErrSyntax", Rows.laid_strconv_ErrSyntax)]
theorem clock_own : ownKnob Tryz.prog.godebug = none := by kernel_rfl
theorem clock_laidOut : laidOutB Tryz.prog = true := by kernel_rfl
abbrev synS : ByteArray := { data := #[105, 110, 118, 97, 108, 105, 100, 32, 115, 121, 110, 116, 97, 120] }
abbrev rngS : ByteArray := { data := #[118, 97, 108, 117, 101, 32, 111, 117, 116, 32, 111, 102, 32, 114, 97, 110, 103, 101] }
/-- So many blocks has the settled world. -/
noncomputable def low : Nat := (World.holding Tryz.prog default ⟨#[], #[], []⟩).heap.size
def litsOf : DataW Unit → Array Value
  | .agg l => (l.map fun | .lit (.int k n) => Value.int k n | _ => .nilIface).toArray
  | _ => #[]
def lay (v : Array Value) : Obj → Obj
  | .cells _ t frozen => .cells v t frozen
  | o => o
noncomputable def laidWorld (os : Os) : World :=
  let w0 := World.holding Tryz.prog os ⟨#[.cells #[.string synS] 186, .cells #[.string rngS] 186], #[], []⟩
  { w0 with heap := ((((w0.heap.modify 2 (lay #[.iface 184 (.pointer (some ⟨low, 0, none⟩))])).modify 3 (lay #[.iface 184 (.pointer (some ⟨low + 1, 0, none⟩))])).modify
      4 (lay (litsOf Rows.laid_math_bits_deBruijn32tab))).modify 5 (lay (litsOf Rows.laid_math_bits_deBruijn64tab))).modify 0 (lay (litsOf Rows.laid_internal_strconv_uint64pow10)) }
theorem laidWorld_met (os : Os) (args : Array Value) : laidMet Tryz.prog laid5 ((laidWorld os).forCall (fun _ _ => 0) ⟨#[], args, []⟩).memory :=
  laidMet_of_run' 8 (by kernel_rfl) (by kernel_rfl)
theorem std_of {W : World} (h : laidMet Tryz.prog laid5 W) : Std W :=
  ⟨Lib.tabIs_of_head g_tab (t := 172) (by kernel_rfl) Tryz.underlying172 Tryz.underlying122 (by kernel_rfl) (by kernel_rfl) h.tail.tail⟩
/-- A measure that is handed in. -/
structure MIn (w : World) (m : Me) (kv : Value) : Prop where
  fm : IsFm (fun _ => True) w m.cond kv
  len : MeLen m
  names : short 140737488355328 m.cond = true
  ints : MeInt m
/-- A domain that is handed in. -/
structure DIn (w : World) (d : List Fact) (v : Value) : Prop where
  dom : IsD w d v
  len : d.length ≤ 9223372036854775807
  names : ∀ f ∈ d, f.name.length ≤ 140737488355328
section
variable {H : Type} {enc : TypeId × Value → H} {W : World}
theorem sized_each {ts : List TypeId} {ds : List (DataW H)} (hsz : (DataW.weightsEach Tryz.prog ts ds).all (· ≤ reachBytes) = true) {j : Nat} {t : TypeId} {d : DataW H} (ht : ts[j]? = some t) (hd : ds[j]? = some d) : ∀ k ∈ d.weights Tryz.prog t, k ≤ 140737488355328 := fun k hk => by
  have h1 := List.all_eq_true.1 hsz _ (DataW.weights_mem_each ht hd k hk)
  have h2 := reachBytes_lt
  have e3 : (2 : Nat) ^ 47 = 140737488355328 := by decide
  simp only [decide_eq_true_eq] at h1
  omega
theorem in_me {spare : Nat → Bool} {held : Bool} {base fuel : Nat} {cs : List Value} {x : DataW H × List MemPlace} (h : DataW.trod enc Tryz.prog W base spare held fuel 26 cs = some x) (hz : ∀ k ∈ x.1.weights Tryz.prog 26, k ≤ 140737488355328) : ∃ m kv, cs = mclM m kv ∧ MIn W m kv := by
  obtain ⟨l, v, h1, hi, h2, h3, h4, h5, h6⟩ := open_meZ h hz
  exact ⟨l, v, h1, h2, ⟨h3, h4, h5⟩, h6, hi⟩
theorem in_dom {spare : Nat → Bool} {held : Bool} {base fuel : Nat} {cs : List Value} {x : DataW H × List MemPlace} (h : DataW.trod enc Tryz.prog W base spare held fuel 45 cs = some x) (hz : ∀ k ∈ x.1.weights Tryz.prog 45, k ≤ 140737488355328) : ∃ d v, cs = [v] ∧ DIn W d v := by
  obtain ⟨d, v, h1, h2, h3, h4⟩ := open_domZ h hz
  exact ⟨d, v, h1, h2, h3, h4⟩
theorem in_fact {spare : Nat → Bool} {held : Bool} {base fuel : Nat} {cs : List Value} {x : DataW H × List MemPlace} (h : DataW.trod enc Tryz.prog W base spare held fuel 47 cs = some x) (hz : ∀ k ∈ x.1.weights Tryz.prog 47, k ≤ 140737488355328) : ∃ f : Fact, cs = [.string (bs f.name), .int .i64 f.kind, .int .i64 f.lo, .int .i64 f.hi] ∧ f.name.length ≤ 140737488355328 := open_factZ h hz
end
end Go.Proofs.YtoeknmkephnekaaGreatDoor
namespace Go.Proofs.YtoeknmkephnekaaGreatDoor
open Go.RowKit Go.Cz Go.Cz.Lx Go.Cz.Fo Go.Cz.Vd
set_option linter.unusedSimpArgs false
set_option linter.unusedVariables false
theorem me_row1 {W : World} {g : Nat} {t : TypeId} {fr : Nat × Nat} {a : Me} {ka : Value} (h : W.heap[g]? = some (.cells (mclM a ka).toArray t fr)) (ha : IsFm (fun _ => True) W a.cond ka) : IsMeR W [a] (.slice (some ⟨g, 0, none⟩) 1 1) := by
  refine ⟨_, 1, rfl, .inr ⟨g, 0, rfl, lt_of_block h, Nat.le_refl _, fun j m hj => ?_⟩⟩
  rcases j with _ | j
  · simp at hj; subst hj
    exact ⟨ka, ⟨by rw [cell_of_heap h]; rfl, by rw [cell_of_heap h]; rfl, by rw [cell_of_heap h]; rfl, by rw [cell_of_heap h]; rfl, by rw [cell_of_heap h]; rfl, by rw [cell_of_heap h]; rfl, by rw [cell_of_heap h]; rfl, by rw [cell_of_heap h]; rfl, by rw [cell_of_heap h]; rfl, by rw [cell_of_heap h]; rfl, by rw [cell_of_heap h]; rfl, by rw [cell_of_heap h]; rfl⟩, ha⟩
  · simp at hj
theorem me_row2 {W : World} {g : Nat} {t : TypeId} {fr : Nat × Nat} {a b : Me} {ka kb : Value} (h : W.heap[g]? = some (.cells (mclM a ka ++ mclM b kb).toArray t fr)) (ha : IsFm (fun _ => True) W a.cond ka) (hb : IsFm (fun _ => True) W b.cond kb) : IsMeR W [a, b] (.slice (some ⟨g, 0, none⟩) 2 2) := by
  refine ⟨_, 2, rfl, .inr ⟨g, 0, rfl, lt_of_block h, Nat.le_refl _, fun j m hj => ?_⟩⟩
  rcases j with _ | _ | j
  · simp at hj; subst hj
    exact ⟨ka, ⟨by rw [cell_of_heap h]; rfl, by rw [cell_of_heap h]; rfl, by rw [cell_of_heap h]; rfl, by rw [cell_of_heap h]; rfl, by rw [cell_of_heap h]; rfl, by rw [cell_of_heap h]; rfl, by rw [cell_of_heap h]; rfl, by rw [cell_of_heap h]; rfl, by rw [cell_of_heap h]; rfl, by rw [cell_of_heap h]; rfl, by rw [cell_of_heap h]; rfl, by rw [cell_of_heap h]; rfl⟩, ha⟩
  · simp at hj; subst hj
    exact ⟨kb, ⟨by rw [cell_of_heap h]; rfl, by rw [cell_of_heap h]; rfl, by rw [cell_of_heap h]; rfl, by rw [cell_of_heap h]; rfl, by rw [cell_of_heap h]; rfl, by rw [cell_of_heap h]; rfl, by rw [cell_of_heap h]; rfl, by rw [cell_of_heap h]; rfl, by rw [cell_of_heap h]; rfl, by rw [cell_of_heap h]; rfl, by rw [cell_of_heap h]; rfl, by rw [cell_of_heap h]; rfl⟩, hb⟩
  · simp at hj
/-- A measure of a moderate size. -/
structure FewM (m : Me) : Prop where
  len : MeLen m
  cond : CoLen m.cond
  size : Go.Cz.Fo.size m.cond ≤ 900000
  ints : MeInt m
theorem few_of {W : World} {m : Me} {kv : Value} (h : fewM 60 m = true) (hi : MIn W m kv) : FewM m := by
  unfold fewM smallB at h
  simp only [Bool.and_eq_true, decide_eq_true_eq] at h
  exact ⟨hi.len, ⟨hi.names, by omega⟩, by omega, hi.ints⟩
theorem few1 {a : Me} (h : fewL [a] = true) : fewM 60 a = true := by simpa [fewL] using h
theorem few2 {a b : Me} (h : fewL [a, b] = true) : fewM 60 a = true ∧ fewM 60 b = true := by simpa [fewL] using h
theorem short_mono {a b : Nat} (hab : a ≤ b) (f : Fm) : short a f = true → short b f = true := by
  refine Fm.induct (P := fun f => short a f = true → short b f = true) ?_ f
  clear f
  intro f ih h
  rw [short_kids, Bool.and_eq_true, decide_eq_true_eq] at h ⊢
  exact ⟨shorts_of fun k hk => ih k hk (short_mem h.1 hk), by omega⟩
/-- A measure that has a text, or that the parser made, is of a moderate size. -/
theorem few_wr {m : Me} (h : wrM m = true) : FewM m := by
  have h1 := wrM_parts h
  have h2 := (largeB_false.1 h1.large).1
  have n1 := name_le h1.id
  have n2 := name_le h1.auth
  have n3 : m.target.length ≤ 24 := by
    rcases h1.kind with h | h | h
    · rw [h.2]; simp
    · exact name_le h.2.1
    · exact name_le h.2.1
  have hk : 0 ≤ m.kind ∧ m.kind ≤ 3 := by rcases h1.kind with h | h | h <;> omega
  have h4 := h1.fr
  have h5 := h1.un
  have h6 := h1.wi
  exact ⟨⟨by omega, by omega, by omega⟩, ⟨short_mono (by omega) _ (wr_short _ h1.wr), by omega⟩, by omega, ⟨⟨by omega, by omega⟩, ⟨by omega, by omega⟩, ⟨by omega, by omega⟩, ⟨by omega, by omega⟩⟩⟩
theorem text_len {m : Me} : (textM m).1.length ≤ 13000 := by
  unfold textM
  split
  · rename_i h
    exact (say_len (wrM_parts h)).1
  · simp
end Go.Proofs.YtoeknmkephnekaaGreatDoor
