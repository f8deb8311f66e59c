/-
  What a walk of the clock's laws carries: a zone in a box, its shifts.
-/
import Derived.Test.YthnhbiogaikpoaaDoorClHead2
namespace Go.Proofs.YthnhbiogaikpoaaDoor
open Go.RowKit Go.Cz Go.Cz.Ck
structure ZE (w W : World) (B : Nat) (x : Option Addr) (n c : Nat) (l : List Shift) : Prop where
  below : Below w.heap.size w W
  box : Bk W B #[.slice x n c] 24
  sh : IsShifts W x n l
theorem ZE.next {w W W' : World} {B : Nat} {x : Option Addr} {n c : Nat} {l : List Shift} (h : ZE w W B x n c l) (hb : Below W.heap.size W W') : Hid (ZE w W' B x n c l) ∧ B < W'.heap.size ∧ W'.cell? ⟨B, 0, none⟩ = some (.slice x n c) := by
  have hb2 := h.box.below hb
  exact ⟨⟨h.below.trans (hb.mono h.below.size), hb2, h.sh.below hb⟩, hb2.lt, by rw [hb2.cell]; rfl⟩
theorem u32_in {r : Int} (hr : (Lit.int .u32 r).wf = true) : 0 ≤ r ∧ r ≤ 4294967295 := by
  simp only [Lit.wf, Bool.and_eq_true, decide_eq_true_eq] at hr
  exact ⟨hr.1, hr.2⟩
theorem u8_in {r : Int} (hr : (Lit.int .u8 r).wf = true) : 0 ≤ r ∧ r ≤ 255 := by
  simp only [Lit.wf, Bool.and_eq_true, decide_eq_true_eq] at hr
  exact ⟨hr.1, hr.2⟩
theorem u16_in {r : Int} (hr : (Lit.int .u16 r).wf = true) : 0 ≤ r ∧ r ≤ 65535 := by
  simp only [Lit.wf, Bool.and_eq_true, decide_eq_true_eq] at hr
  exact ⟨hr.1, hr.2⟩
theorem IsShifts.two {w : World} {x : Option Addr} {n : Nat} {l : List Shift} (h : IsShifts w x n l) {k : Nat} (hk : k + 1 < n) : ∃ g off s s', x = some ⟨g, off, none⟩ ∧ l[k]? = some s ∧ l[k + 1]? = some s' ∧ g < w.heap.size ∧
    w.cell? ⟨g, off + k * 2, none⟩ = some (.int .i64 s.1) ∧ w.cell? ⟨g, off + k * 2 + 1, none⟩ = some (.int .i64 s.2) ∧
    w.cell? ⟨g, off + (k + 1) * 2, none⟩ = some (.int .i64 s'.1) ∧ w.cell? ⟨g, off + (k + 1) * 2 + 1, none⟩ = some (.int .i64 s'.2) := by
  obtain ⟨g, off, s, rfl, h1, h2, h3, h4⟩ := h.at (j := k) (by omega)
  obtain ⟨g', off', s', he, i1, i2, i3, i4⟩ := h.at (j := k + 1) hk
  simp only [Option.some.injEq, Addr.mk.injEq] at he
  obtain ⟨rfl, rfl, -⟩ := he
  exact ⟨_, _, s, s', rfl, h1, i1, h2, h3, h4, i3, i4⟩
end Go.Proofs.YthnhbiogaikpoaaDoor
