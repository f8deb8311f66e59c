/-
  Measures, authorities, zones and cases in memory.
-/
import Derived.Test.YtoeknmkephnekaaGreatDoorVdModel
import Derived.Test.YtoeknmkephnekaaGreatDoorFmDom
namespace Go.Proofs.YtoeknmkephnekaaGreatDoor
open Go.RowKit Go.Cz Go.Cz.Lx Go.Cz.Fo Go.Cz.Vd
open Go.Cz.Ck (Shift validB)
set_option linter.unusedSimpArgs false
set_option linter.unusedVariables false
/-- A measure's cells; kv is the row of its condition's kids. -/
abbrev mval (m : Me) (kv : Value) : Value := .agg #[.string (bs m.id), .string (bs m.auth), .int .i64 m.kind, .string (bs m.target), .int .i64 m.cond.op, .string (bs m.cond.name), .int .i64 m.cond.cmp, .int .i64 m.cond.num, kv, .int .i64 m.fr, .int .i64 m.un, .int .i64 m.wi]
abbrev mobj (m : Me) (kv : Value) : Obj := .cells #[.string (bs m.id), .string (bs m.auth), .int .i64 m.kind, .string (bs m.target), .int .i64 m.cond.op, .string (bs m.cond.name), .int .i64 m.cond.cmp, .int .i64 m.cond.num, kv, .int .i64 m.fr, .int .i64 m.un, .int .i64 m.wi] 26 (0, 0)
/-- A measure's cells stand at a place. -/
structure MeAt (W : World) (g o : Nat) (m : Me) (kv : Value) : Prop where
  c0 : W.cell? ⟨g, o, none⟩ = some (.string (bs m.id))
  c1 : W.cell? ⟨g, o + 1, none⟩ = some (.string (bs m.auth))
  c2 : W.cell? ⟨g, o + 2, none⟩ = some (.int .i64 m.kind)
  c3 : W.cell? ⟨g, o + 3, none⟩ = some (.string (bs m.target))
  c4 : W.cell? ⟨g, o + 4, none⟩ = some (.int .i64 m.cond.op)
  c5 : W.cell? ⟨g, o + 5, none⟩ = some (.string (bs m.cond.name))
  c6 : W.cell? ⟨g, o + 6, none⟩ = some (.int .i64 m.cond.cmp)
  c7 : W.cell? ⟨g, o + 7, none⟩ = some (.int .i64 m.cond.num)
  c8 : W.cell? ⟨g, o + 8, none⟩ = some kv
  c9 : W.cell? ⟨g, o + 9, none⟩ = some (.int .i64 m.fr)
  c10 : W.cell? ⟨g, o + 10, none⟩ = some (.int .i64 m.un)
  c11 : W.cell? ⟨g, o + 11, none⟩ = some (.int .i64 m.wi)
theorem MeAt.later {W W' : World} {g o : Nat} {m : Me} {kv : Value} (h : MeAt W g o m kv) (hg : g < W.heap.size) (hb : Below W.heap.size W W') : MeAt W' g o m kv := by
  have e : ∀ i, W'.cell? ⟨g, i, none⟩ = W.cell? ⟨g, i, none⟩ := fun i => hb.cell (p := ⟨g, i, none⟩) hg
  exact ⟨(e _).trans h.c0, (e _).trans h.c1, (e _).trans h.c2, (e _).trans h.c3, (e _).trans h.c4, (e _).trans h.c5, (e _).trans h.c6, (e _).trans h.c7, (e _).trans h.c8, (e _).trans h.c9, (e _).trans h.c10, (e _).trans h.c11⟩
/-- A row of measures. -/
def IsMeR (W : World) (l : List Me) (v : Value) : Prop := ∃ y c, v = .slice y l.length c ∧ (l = [] ∨ ∃ g off, y = some ⟨g, off, none⟩ ∧ g < W.heap.size ∧ l.length ≤ c ∧ ∀ (j : Nat) (m : Me), l[j]? = some m → ∃ kv, MeAt W g (off + j * 12) m kv ∧ IsFm (fun _ => True) W m.cond kv)
/-- A row of texts. -/
def IsTxR (W : World) (l : List Bytes) (v : Value) : Prop := ∃ y c, v = .slice y l.length c ∧ (l = [] ∨ ∃ g off, y = some ⟨g, off, none⟩ ∧ g < W.heap.size ∧ l.length ≤ c ∧ ∀ (j : Nat) (s : Bytes), l[j]? = some s → W.cell? ⟨g, off + j, none⟩ = some (.string (bs s)))
/-- A row of cases. -/
def IsCaR (W : World) (l : List (List Int)) (v : Value) : Prop := ∃ y c, v = .slice y l.length c ∧ (l = [] ∨ ∃ g off, y = some ⟨g, off, none⟩ ∧ g < W.heap.size ∧ l.length ≤ c ∧ ∀ (j : Nat) (a : List Int), l[j]? = some a → ∃ u, W.cell? ⟨g, off + j, none⟩ = some u ∧ IsC W a u)
section
variable {W W' : World} {l : List Me} {ts : List Bytes} {zs : List (List Shift)} {cs : List (List Int)} {v : Value} {y : Option Addr} {n c j : Nat} {m : Me} {s : Bytes} {z : List Shift} {a : List Int}
theorem IsMeR.later (h : IsMeR W l v) (hb : Below W.heap.size W W') : IsMeR W' l v := by
  obtain ⟨y, c, rfl, h⟩ := h
  refine ⟨y, c, rfl, h.imp id ?_⟩
  rintro ⟨g, off, rfl, hg, hm, hc⟩
  refine ⟨g, off, rfl, Nat.lt_of_lt_of_le hg hb.size, hm, fun j m hj => ?_⟩
  obtain ⟨kv, h1, h2⟩ := hc j m hj
  exact ⟨kv, h1.later hg hb, h2.later hb⟩
theorem IsTxR.later (h : IsTxR W ts v) (hb : Below W.heap.size W W') : IsTxR W' ts v := by
  obtain ⟨y, c, rfl, h⟩ := h
  refine ⟨y, c, rfl, h.imp id ?_⟩
  rintro ⟨g, off, rfl, hg, hm, hc⟩
  exact ⟨g, off, rfl, Nat.lt_of_lt_of_le hg hb.size, hm, fun j s hj => (hb.cell (p := ⟨g, off + j, none⟩) hg).trans (hc j s hj)⟩
theorem IsCaR.later (h : IsCaR W cs v) (hb : Below W.heap.size W W') : IsCaR W' cs v := by
  obtain ⟨y, c, rfl, h⟩ := h
  refine ⟨y, c, rfl, h.imp id ?_⟩
  rintro ⟨g, off, rfl, hg, hm, hc⟩
  refine ⟨g, off, rfl, Nat.lt_of_lt_of_le hg hb.size, hm, fun j z hj => ?_⟩
  obtain ⟨u, h1, h2⟩ := hc j z hj
  exact ⟨u, (hb.cell (p := ⟨g, off + j, none⟩) hg).trans h1, h2.later hb⟩
theorem IsMeR.form (h : IsMeR W l v) : ∃ y c, v = .slice y l.length c := by obtain ⟨y, c, h1, -⟩ := h; exact ⟨y, c, h1⟩
theorem IsTxR.form (h : IsTxR W ts v) : ∃ y c, v = .slice y ts.length c := by obtain ⟨y, c, h1, -⟩ := h; exact ⟨y, c, h1⟩
theorem IsCaR.form (h : IsCaR W cs v) : ∃ y c, v = .slice y cs.length c := by obtain ⟨y, c, h1, -⟩ := h; exact ⟨y, c, h1⟩
theorem IsMeR.get (h : IsMeR W l (.slice y n c)) (hb : Below W.heap.size W W') (hj : l[j]? = some m) : ∃ g off kv, y = some ⟨g, off, none⟩ ∧ g < W'.heap.size ∧ MeAt W' g (off + j * 12) m kv ∧ IsFm (fun _ => True) W' m.cond kv := by
  obtain ⟨y', c', e, h⟩ := h.later hb
  cases e
  rcases h with rfl | ⟨g, off, e, hg, -, hc⟩
  · simp at hj
  · obtain ⟨kv, h1, h2⟩ := hc j m hj
    exact ⟨g, off, kv, e, hg, h1, h2⟩
theorem IsTxR.get (h : IsTxR W ts (.slice y n c)) (hb : Below W.heap.size W W') (hj : ts[j]? = some s) : ∃ g off, y = some ⟨g, off, none⟩ ∧ g < W'.heap.size ∧ W'.cell? ⟨g, off + j, none⟩ = some (.string (bs s)) := by
  obtain ⟨y', c', e, h⟩ := h.later hb
  cases e
  rcases h with rfl | ⟨g, off, e, hg, -, hc⟩
  · simp at hj
  · exact ⟨g, off, e, hg, hc j s hj⟩
theorem IsCaR.get (h : IsCaR W cs (.slice y n c)) (hb : Below W.heap.size W W') (hj : cs[j]? = some a) : ∃ g off u, y = some ⟨g, off, none⟩ ∧ g < W'.heap.size ∧ W'.cell? ⟨g, off + j, none⟩ = some u ∧ IsC W' a u := by
  obtain ⟨y', c', e, h⟩ := h.later hb
  cases e
  rcases h with rfl | ⟨g, off, e, hg, -, hc⟩
  · simp at hj
  · obtain ⟨u, h1, h2⟩ := hc j a hj
    exact ⟨g, off, u, e, hg, h1, h2⟩
end
end Go.Proofs.YtoeknmkephnekaaGreatDoor
