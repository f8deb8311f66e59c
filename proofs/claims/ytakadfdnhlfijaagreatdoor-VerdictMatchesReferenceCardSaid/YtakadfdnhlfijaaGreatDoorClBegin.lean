/-
  'Begin', and what a walk carries of a zone: a box, its shifts.
-/
import Derived.Test.YtakadfdnhlfijaaGreatDoorClInst
namespace Go.Proofs.YtakadfdnhlfijaaGreatDoor
open Go.RowKit Go.Cz Go.Cz.Ck
set_option linter.unusedSimpArgs false
set_option linter.unusedVariables false
attribute [local go_sem] bs_size bs_extract bs_append bs_toList
attribute [local irreducible] cList
set_option maxHeartbeats 1000000 in
theorem Begin_c (x : Option Addr) (m c : Nat) (l : List Shift) (day : Int) (w : World) (hx : IsShifts w x m l) :
    Calls Tryz.prog 57 #[.agg #[.slice x m c], .int .i64 day] w (InsPost w (instF l day 0).1 (instF l day 0).2) := by
  have HI := Lib.hid fun (W : World) (hb : Below w.heap.size w W) => Instant_c x m c l day 0 W (hx.below hb)
  clear hx
  go_enter Tryz.func57, Tryz.ntmps57
  go_wp2_with fail
  go_at_call 79
  refine (HI.out _ (by repeat (first | exact Below.refl _ _ | (refine Below.drew ?_) | (refine Below.alloc ?_ (by (try simp only [World.size_alloc, World.size_setCell, World.size_drew] at *); omega) _) | (refine Below.setCell ?_ (by (try simp only [World.size_alloc, World.size_setCell, World.size_drew] at *); omega) _)))).mono ?_
  rintro e w1 ⟨rfl, hb1⟩
  have Hb : Hid (Below w.heap.size w w1) := by show Below _ _ _; repeat (first | exact Below.refl _ _ | (refine Below.trans ?_ (hb1.mono (by have z0 := hb1.size; (try simp only [World.size_alloc, World.size_setCell, World.size_drew] at *); omega))) | (refine Below.drew ?_) | (refine Below.alloc ?_ (by have z0 := hb1.size; (try simp only [World.size_alloc, World.size_setCell, World.size_drew] at *); omega) _) | (refine Below.setCell ?_ (by have z0 := hb1.size; (try simp only [World.size_alloc, World.size_setCell, World.size_drew] at *); omega) _))
  clear hb1
  go_wp2_with fail
  go_ret2
  exact ⟨rfl, Hb.out⟩
structure ZE (w W : World) (B : Nat) (x : Option Addr) (n c : Nat) (l : List Shift) : Prop where
  below : Below w.heap.size w W
  box : Bk W B #[.slice x n c] 66
  sh : IsShifts W x n l
theorem ZE.next {w W W' : World} {B : Nat} {x : Option Addr} {n c : Nat} {l : List Shift} (h : ZE w W B x n c l) (hb : Below W.heap.size W W') : Hid (ZE w W' B x n c l) ∧ B < W'.heap.size ∧ W'.cell? ⟨B, 0, none⟩ = some (.slice x n c) := by
  have hb2 := h.box.below hb
  exact ⟨⟨h.below.trans (hb.mono h.below.size), hb2, h.sh.below hb⟩, hb2.lt, by rw [hb2.cell]; rfl⟩
theorem u32_in {r : Int} (hr : (Lit.int .u32 r).wf = true) : 0 ≤ r ∧ r ≤ 4294967295 := by
  simp only [Lit.wf, Bool.and_eq_true, decide_eq_true_eq] at hr
  exact ⟨hr.1, hr.2⟩
theorem u8_in {r : Int} (hr : (Lit.int .u8 r).wf = true) : 0 ≤ r ∧ r ≤ 255 := by
  simp only [Lit.wf, Bool.and_eq_true, decide_eq_true_eq] at hr
  exact ⟨hr.1, hr.2⟩
theorem u16_in {r : Int} (hr : (Lit.int .u16 r).wf = true) : 0 ≤ r ∧ r ≤ 65535 := by
  simp only [Lit.wf, Bool.and_eq_true, decide_eq_true_eq] at hr
  exact ⟨hr.1, hr.2⟩
theorem IsShifts.two {w : World} {x : Option Addr} {n : Nat} {l : List Shift} (h : IsShifts w x n l) {k : Nat} (hk : k + 1 < n) : ∃ g off s s', x = some ⟨g, off, none⟩ ∧ l[k]? = some s ∧ l[k + 1]? = some s' ∧ g < w.heap.size ∧
    w.cell? ⟨g, off + k * 2, none⟩ = some (.int .i64 s.1) ∧ w.cell? ⟨g, off + k * 2 + 1, none⟩ = some (.int .i64 s.2) ∧
    w.cell? ⟨g, off + (k + 1) * 2, none⟩ = some (.int .i64 s'.1) ∧ w.cell? ⟨g, off + (k + 1) * 2 + 1, none⟩ = some (.int .i64 s'.2) := by
  obtain ⟨g, off, s, rfl, h1, h2, h3, h4⟩ := h.at (j := k) (by omega)
  obtain ⟨g', off', s', he, i1, i2, i3, i4⟩ := h.at (j := k + 1) hk
  simp only [Option.some.injEq, Addr.mk.injEq] at he
  obtain ⟨rfl, rfl, -⟩ := he
  exact ⟨_, _, s, s', rfl, h1, i1, h2, h3, h4, i3, i4⟩
end Go.Proofs.YtakadfdnhlfijaaGreatDoor
