/-
  The changes that the law is handed, opened.
-/
import Derived.Test.YtckocgkndbdhcaaGreatDoorNwShort
import Derived.Test.YtckocgkndbdhcaaGreatDoorOpen
import Derived.Test.YtckocgkndbdhcaaGreatDoorRows
namespace Go.Proofs.YtckocgkndbdhcaaGreatDoor
open Go.RowKit Go.Cz Go.Cz.Nw Go.ChangeShapes Go.WideShapes Go.ChangeAt Go.Deep
set_option linter.unusedVariables false
theorem pick_all {α β : Type} {P : α → β → Prop} : ∀ (l : List α), (∀ y ∈ l, ∃ z, P y z) → ∃ L : List β, L.length = l.length ∧ ∀ (j : Nat) (y : α), l[j]? = some y → ∃ z, L[j]? = some z ∧ P y z
  | [], _ => ⟨[], rfl, fun j y h => by simp at h⟩
  | a :: r, h => by
    obtain ⟨z, hz⟩ := h a (by simp)
    obtain ⟨L, h1, h2⟩ := pick_all r fun y hy => h y (by simp [hy])
    refine ⟨z :: L, by simp [h1], fun j y hj => ?_⟩
    match j, hj with
    | 0, hj =>
      simp at hj
      subst hj
      exact ⟨z, rfl, hz⟩
    | j + 1, hj => exact h2 j y (by simpa using hj)
theorem bs_back (s : ByteArray) : bs s.data.toList = s := by
  cases s
  simp [bs]
section
variable {H : Type} {enc : TypeId × Value → H} {w : World} {base : Nat} {spare : Nat → Bool} {held : Bool}
theorem open_words {fuel : Nat} {cs : List Value} {x : DataW H × List MemPlace} (h : DataW.trod enc Tryz.prog w base spare held fuel 39 cs = some x) :
    ∃ v ws, cs = [v] ∧ IsWords w v ws ∧ ws.length ≤ 9223372036854775807 := by
  obtain ⟨a, n, c, l, rfl, hl, -, hn, h5⟩ := open_strs Tryz.underlying39 Tryz.underlying9 (by kernel_rfl) h
  refine ⟨_, l.map (·.data.toList), rfl, ⟨a, c, by rw [List.length_map, hl], fun j x hx => ?_⟩, by rw [List.length_map]; omega⟩
  rw [List.getElem?_map] at hx
  have hj : j < l.length := by
    rcases Nat.lt_or_ge j l.length with h | h
    · exact h
    · rw [List.getElem?_eq_none h] at hx; simp at hx
  rw [List.getElem?_eq_getElem hj] at hx
  simp at hx
  rcases h5 with h0 | ⟨g, off, e1, hg, hc⟩
  · omega
  · refine ⟨g, off, e1, hg, ?_⟩
    rw [hc j hj, List.getD_eq_getElem?_getD, List.getElem?_eq_getElem hj, ← hx, bs_back]
    rfl
def nmV (s : Int × Value) : Array Value := #[.int .i64 s.1, s.2]
def nmP (w : World) (s : Int × Value) : Prop := ∃ ws, IsWords w s.2 ws ∧ ws.length ≤ 9223372036854775807
theorem open_name {fuel : Nat} {cs : List Value} {x : DataW H × List MemPlace} (h : DataW.trod enc Tryz.prog w base spare held fuel 41 cs = some x) : ∃ s, cs = (nmV s).toList ∧ nmP w s := by
  obtain ⟨xs, n, rfl, rfl, hlen, hxs, hf⟩ := DataW.trod_struct Tryz.underlying41 h
  have hc : Tryz.prog.cellsOf 41 = 2 := by kernel_rfl
  rw [hc] at hlen
  have c3 : Tryz.prog.cellsOf 3 = 1 := by kernel_rfl
  have c4 : Tryz.prog.cellsOf 39 = 1 := by kernel_rfl
  obtain ⟨v0, v1, rfl⟩ : ∃ v0 v1, cs = [v0, v1] := by
    rcases cs with _ | ⟨a, _ | ⟨b, _ | ⟨c, r⟩⟩⟩
    · simp at hlen
    · simp at hlen
    · exact ⟨a, b, rfl⟩
    · simp at hlen
  obtain ⟨y0, y1, rfl⟩ : ∃ y0 y1, xs = [y0, y1] := by
    have hxs' : xs.length = 2 := hxs
    rcases xs with _ | ⟨a, _ | ⟨b, _ | ⟨c, r⟩⟩⟩
    · simp at hxs'
    · simp at hxs'
    · exact ⟨a, b, rfl⟩
    · simp at hxs'
  have g0 : DataW.trod enc Tryz.prog w base spare held n 3 (([v0, v1].drop 0).take (Tryz.prog.cellsOf 3)) = some y0 := hf 0 _ rfl
  have g1 : DataW.trod enc Tryz.prog w base spare held n 39 (([v0, v1].drop 1).take (Tryz.prog.cellsOf 39)) = some y1 := hf 1 _ rfl
  rw [c3] at g0
  rw [c4] at g1
  obtain ⟨k, e0, _, w0⟩ := DataW.trod_int Tryz.underlying3 g0
  obtain ⟨v, ws, e1, h1, h2⟩ := open_words g1
  obtain rfl := List.cons.inj e0 |>.1
  obtain rfl := List.cons.inj e1 |>.1
  exact ⟨(k, v1), rfl, ws, h1, h2⟩
/-- The names that a change has been handed with. -/
def nsP (w : World) (v : Value) (ns : List Nm) : Prop := IsNames w v ns ∧ ns.length ≤ 9223372036854775807 ∧ ∀ n ∈ ns, n.ws.length ≤ 9223372036854775807
theorem open_names {fuel : Nat} {cs : List Value} {x : DataW H × List MemPlace} (h : DataW.trod enc Tryz.prog w base spare held fuel 25 cs = some x) :
    ∃ v ns, cs = [v] ∧ nsP w v ns := by
  obtain ⟨a, n, c, l, rfl, hl, -, hn, hp, hc⟩ := open_rows (sz := 2) (0, .slice none 0 0) nmV (nmP w) Tryz.underlying25 (by kernel_rfl) (by omega) (fun _ => rfl) (fun _ _ _ hh => open_name hh) h
  obtain ⟨L, hL, hLa⟩ := pick_all l hp
  refine ⟨_, (l.zip L).map fun p => ⟨p.1.1, p.2⟩, rfl, ⟨a, c, by simp; omega, fun j n hj => ?_⟩, by simp; omega, fun n hn => ?_⟩
  · rw [List.getElem?_map] at hj
    obtain ⟨p, hp1, rfl⟩ := Option.map_eq_some_iff.1 hj
    rw [List.getElem?_zip_eq_some] at hp1
    obtain ⟨z, hz, h1, h2⟩ := hLa j p.1 hp1.1
    rw [hp1.2] at hz
    cases hz
    have hj2 := (List.getElem?_eq_some_iff.1 hp1.1).1
    rcases hc with h0 | ⟨g, off, e1, hg, hcl⟩
    · omega
    · exact ⟨g, off, p.1.2, e1, hg, hcl j _ hp1.1 0 _ rfl, hcl j _ hp1.1 1 _ rfl, h1⟩
  · obtain ⟨p, hp1, rfl⟩ := List.mem_map.1 hn
    obtain ⟨j, hj⟩ := List.getElem?_of_mem hp1
    rw [List.getElem?_zip_eq_some] at hj
    obtain ⟨z, hz, h1, h2⟩ := hLa j p.1 hj.1
    rw [hj.2] at hz
    cases hz
    exact h2
theorem open_entry {fuel : Nat} {cs : List Value} {x : DataW H × List MemPlace} (h : DataW.trod enc Tryz.prog w base spare held fuel 27 cs = some x) : ∃ (i : ByteArray) (v : Value) (ns : List Nm), cs = [.string i, v] ∧ nsP w v ns := by
  obtain ⟨xs, n, rfl, rfl, hlen, hxs, hf⟩ := DataW.trod_struct Tryz.underlying27 h
  have hc : Tryz.prog.cellsOf 27 = 2 := by kernel_rfl
  rw [hc] at hlen
  have c3 : Tryz.prog.cellsOf 9 = 1 := by kernel_rfl
  have c4 : Tryz.prog.cellsOf 25 = 1 := by kernel_rfl
  obtain ⟨v0, v1, rfl⟩ : ∃ v0 v1, cs = [v0, v1] := by
    rcases cs with _ | ⟨a, _ | ⟨b, _ | ⟨c, r⟩⟩⟩
    · simp at hlen
    · simp at hlen
    · exact ⟨a, b, rfl⟩
    · simp at hlen
  obtain ⟨y0, y1, rfl⟩ : ∃ y0 y1, xs = [y0, y1] := by
    have hxs' : xs.length = 2 := hxs
    rcases xs with _ | ⟨a, _ | ⟨b, _ | ⟨c, r⟩⟩⟩
    · simp at hxs'
    · simp at hxs'
    · exact ⟨a, b, rfl⟩
    · simp at hxs'
  have g0 : DataW.trod enc Tryz.prog w base spare held n 9 (([v0, v1].drop 0).take (Tryz.prog.cellsOf 9)) = some y0 := hf 0 _ rfl
  have g1 : DataW.trod enc Tryz.prog w base spare held n 25 (([v0, v1].drop 1).take (Tryz.prog.cellsOf 25)) = some y1 := hf 1 _ rfl
  rw [c3] at g0
  rw [c4] at g1
  obtain ⟨k, e0, _⟩ := DataW.trod_string Tryz.underlying9 g0
  obtain ⟨v, ns, e1, h1⟩ := open_names g1
  obtain rfl := List.cons.inj e0 |>.1
  obtain rfl := List.cons.inj e1 |>.1
  exact ⟨_, _, ns, rfl, h1⟩
structure Raw where
  k : Int
  id : ByteArray
  eid : ByteArray
  nv : Value
  at_ : Int
def rwV (s : Raw) : Array Value := #[.int .i64 s.k, .string s.id, .string s.eid, s.nv, .int .i64 s.at_]
def rwP (w : World) (s : Raw) : Prop := ∃ ns, nsP w s.nv ns
theorem open_change {fuel : Nat} {cs : List Value} {x : DataW H × List MemPlace} (h : DataW.trod enc Tryz.prog w base spare held fuel 29 cs = some x) : ∃ s, cs = (rwV s).toList ∧ rwP w s := by
  obtain ⟨xs, n, rfl, rfl, hlen, hxs, hf⟩ := DataW.trod_struct Tryz.underlying29 h
  have hc : Tryz.prog.cellsOf 29 = 5 := by kernel_rfl
  rw [hc] at hlen
  have c3 : Tryz.prog.cellsOf 3 = 1 := by kernel_rfl
  have c4 : Tryz.prog.cellsOf 9 = 1 := by kernel_rfl
  have c5 : Tryz.prog.cellsOf 27 = 2 := by kernel_rfl
  obtain ⟨v0, v1, v2, v3, v4, rfl⟩ : ∃ v0 v1 v2 v3 v4, cs = [v0, v1, v2, v3, v4] := by
    rcases cs with _ | ⟨a, _ | ⟨b, _ | ⟨c, _ | ⟨d, _ | ⟨e, _ | ⟨f, r⟩⟩⟩⟩⟩⟩
    · simp at hlen
    · simp at hlen
    · simp at hlen
    · simp at hlen
    · simp at hlen
    · exact ⟨a, b, c, d, e, rfl⟩
    · simp at hlen
  obtain ⟨y0, y1, y2, y3, rfl⟩ : ∃ y0 y1 y2 y3, xs = [y0, y1, y2, y3] := by
    have hxs' : xs.length = 4 := hxs
    rcases xs with _ | ⟨a, _ | ⟨b, _ | ⟨c, _ | ⟨d, _ | ⟨e, r⟩⟩⟩⟩⟩
    · simp at hxs'
    · simp at hxs'
    · simp at hxs'
    · simp at hxs'
    · exact ⟨a, b, c, d, rfl⟩
    · simp at hxs'
  have g0 : DataW.trod enc Tryz.prog w base spare held n 3 (([v0, v1, v2, v3, v4].drop 0).take (Tryz.prog.cellsOf 3)) = some y0 := hf 0 _ rfl
  have g1 : DataW.trod enc Tryz.prog w base spare held n 9 (([v0, v1, v2, v3, v4].drop 1).take (Tryz.prog.cellsOf 9)) = some y1 := hf 1 _ rfl
  have g2 : DataW.trod enc Tryz.prog w base spare held n 27 (([v0, v1, v2, v3, v4].drop 2).take (Tryz.prog.cellsOf 27)) = some y2 := hf 2 _ rfl
  have g3 : DataW.trod enc Tryz.prog w base spare held n 3 (([v0, v1, v2, v3, v4].drop 4).take (Tryz.prog.cellsOf 3)) = some y3 := hf 3 _ rfl
  rw [c3] at g0 g3
  rw [c4] at g1
  rw [c5] at g2
  obtain ⟨k, e0, _, w0⟩ := DataW.trod_int Tryz.underlying3 g0
  obtain ⟨i, e1, _⟩ := DataW.trod_string Tryz.underlying9 g1
  obtain ⟨ei, v, ns, e2, hns⟩ := open_entry g2
  obtain ⟨t, e3, _, w3⟩ := DataW.trod_int Tryz.underlying3 g3
  obtain rfl := List.cons.inj e0 |>.1
  obtain rfl := List.cons.inj e1 |>.1
  obtain ⟨rfl, e22⟩ := List.cons.inj e2
  obtain rfl := List.cons.inj e22 |>.1
  obtain rfl := List.cons.inj e3 |>.1
  exact ⟨⟨k, _, _, v3, t⟩, rfl, ns, hns⟩
theorem open_changes {fuel : Nat} {cs : List Value} {x : DataW H × List MemPlace} (h : DataW.trod enc Tryz.prog w base spare held fuel 22 cs = some x) :
    ∃ v l, cs = [v] ∧ IsChgs w v l ∧ NmsIn w l ∧ l.length + 1 ≤ Rows.uptoBulk x.1 := by
  obtain ⟨a, n, c, l, hcs, hl, -, hn, hp, hc⟩ := open_rows (sz := 5) ⟨0, ByteArray.empty, ByteArray.empty, .slice none 0 0, 0⟩ rwV (rwP w) Tryz.underlying22 (by kernel_rfl) (by omega) (fun _ => rfl) (fun _ _ _ hh => open_change hh) h
  subst hcs
  have hbulk : n + 1 ≤ Rows.uptoBulk x.1 := by
    rcases open_slice Tryz.underlying22 h with ⟨e, rfl⟩ | ⟨a', len, cap, m, n', D, Pl, e, -, -, -, -, rfl, -⟩
    · simp at e
      obtain ⟨-, rfl, -⟩ := e
      simp [Rows.uptoBulk]
    · simp at e
      obtain ⟨-, rfl, -⟩ := e
      have h2 : ∀ l : List (DataW H), l.length ≤ Rows.uptoBulkAll l := fun l => by
        induction l with
        | nil => simp [Rows.uptoBulkAll]
        | cons d r ih =>
          have h1 : 1 ≤ Rows.uptoBulk d := by
            cases d with
            | lit l => cases l <;> simp [Rows.uptoBulk]
            | nil => simp [Rows.uptoBulk]
            | ptr d => simp [Rows.uptoBulk]
            | slice elems spare => simp [Rows.uptoBulk]
            | agg parts => simp [Rows.uptoBulk]
            | iface t d => simp [Rows.uptoBulk]
            | map entries => simp [Rows.uptoBulk]
            | held h => simp [Rows.uptoBulk]
          simp only [Rows.uptoBulkAll, List.length_cons]
          omega
      have h3 := h2 ((List.range n).map D)
      simp only [Rows.uptoBulk]
      simp only [List.length_map, List.length_range] at h3
      omega
  obtain ⟨L, hL, hLa⟩ := pick_all l hp
  refine ⟨_, (l.zip L).map fun p => ⟨p.1.k, p.1.id.data.toList, p.1.eid.data.toList, p.1.nv, p.2, p.1.at_⟩, rfl, ⟨a, c, by simp; omega, fun j x hj => ?_⟩, fun x hx => ?_, by simp; omega⟩
  · rw [List.getElem?_map] at hj
    obtain ⟨p, hp1, rfl⟩ := Option.map_eq_some_iff.1 hj
    rw [List.getElem?_zip_eq_some] at hp1
    obtain ⟨z, hz, h1, h2⟩ := hLa j p.1 hp1.1
    rw [hp1.2] at hz
    cases hz
    have hj2 := (List.getElem?_eq_some_iff.1 hp1.1).1
    rcases hc with h0 | ⟨g, off, e1, hg, hcl⟩
    · omega
    · refine ⟨g, off, e1, hg, hcl j _ hp1.1 0 _ rfl, ?_, ?_, hcl j _ hp1.1 3 _ rfl, hcl j _ hp1.1 4 _ rfl, h1⟩
      · rw [bs_back]; exact hcl j _ hp1.1 1 _ rfl
      · rw [bs_back]; exact hcl j _ hp1.1 2 _ rfl
  · obtain ⟨p, hp1, rfl⟩ := List.mem_map.1 hx
    obtain ⟨j, hj⟩ := List.getElem?_of_mem hp1
    rw [List.getElem?_zip_eq_some] at hj
    obtain ⟨z, hz, h1⟩ := hLa j p.1 hj.1
    rw [hj.2] at hz
    cases hz
    exact h1
end
end Go.Proofs.YtckocgkndbdhcaaGreatDoor
