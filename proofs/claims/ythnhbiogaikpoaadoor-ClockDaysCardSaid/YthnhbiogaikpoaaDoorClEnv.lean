/-
  What a walk of the clock's laws carries: a zone in a box, its shifts.
-/
import Derived.Test.YthnhbiogaikpoaaDoorClHead2
namespace Go.Proofs.YthnhbiogaikpoaaDoor
open Go.RowKit Go.Cz Go.Cz.Ck
structure ZE (w W : World) (B : Nat) (x : Option Addr) (n c : Nat) (l : List Shift) : Prop where
  below : Below w.heap.size w W
  box : Bk W B #[.slice x n c] 24
  sh : IsShifts W x n l
theorem ZE.next {w W W' : World} {B : Nat} {x : Option Addr} {n c : Nat} {l : List Shift} (h : ZE w W B x n c l) (hb : Below W.heap.size W W') : Hid (ZE w W' B x n c l) ∧ B < W'.heap.size ∧ W'.cell? ⟨B, 0, none⟩ = some (.slice x n c) := by
  have hb2 := h.box.below hb
  exact ⟨⟨h.below.trans (hb.mono h.below.size), hb2, h.sh.below hb⟩, hb2.lt, by rw [hb2.cell]; rfl⟩
theorem u32_in {r : Int} (hr : (Lit.int .u32 r).wf = true) : 0 ≤ r ∧ r ≤ 4294967295 := by
  simp only [Lit.wf, Bool.and_eq_true, decide_eq_true_eq] at hr
  exact ⟨hr.1, hr.2⟩
theorem u8_in {r : Int} (hr : (Lit.int .u8 r).wf = true) : 0 ≤ r ∧ r ≤ 255 := by
  simp only [Lit.wf, Bool.and_eq_true, decide_eq_true_eq] at hr
  exact ⟨hr.1, hr.2⟩
theorem u16_in {r : Int} (hr : (Lit.int .u16 r).wf = true) : 0 ≤ r ∧ r ≤ 65535 := by
  simp only [Lit.wf, Bool.and_eq_true, decide_eq_true_eq] at hr
  exact ⟨hr.1, hr.2⟩
end Go.Proofs.YthnhbiogaikpoaaDoor
