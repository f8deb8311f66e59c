/-
  What the walks of the windows' laws carry.
-/
import Derived.Test.YtkcbdlnoobjmbaaDoorWnHead
import Derived.Test.YtkcbdlnoobjmbaaDoorBase
namespace Go.Proofs.YtkcbdlnoobjmbaaDoor
open Go.RowKit Go.Cz Go.Cz.Ck Go.Cz.Wn
set_option linter.unusedSimpArgs false
set_option linter.unusedVariables false
theorem WE.keep {w W W' : World} {B : Nat} {m : Ms} {x : Option Addr} {n c : Nat} {l : List Shift} (h : WE w W B m x n c l) (hb : Below W.heap.size W W') : WE w W' B m x n c l :=
  ⟨h.below.trans (hb.mono h.below.size), h.mb.below hb, h.zb.below hb, h.sh.below hb⟩
theorem WE.cells {w W : World} {B : Nat} {m : Ms} {x : Option Addr} {n c : Nat} {l : List Shift} (h : WE w W B m x n c l) : B < W.heap.size ∧ B + 1 < W.heap.size ∧ W.cell? ⟨B + 1, 0, none⟩ = some (.slice x n c) ∧
    W.cell? ⟨B, 0, none⟩ = some (.string m.id) ∧ W.cell? ⟨B, 1, none⟩ = some (.string m.auth) ∧ W.cell? ⟨B, 2, none⟩ = some (.int .i64 m.kind) ∧ W.cell? ⟨B, 3, none⟩ = some (.string m.target) ∧ W.cell? ⟨B, 4, none⟩ = some (.int .i64 m.op) ∧ W.cell? ⟨B, 5, none⟩ = some (.string m.name) ∧
    W.cell? ⟨B, 6, none⟩ = some (.int .i64 m.cmp) ∧ W.cell? ⟨B, 7, none⟩ = some (.int .i64 m.num) ∧ W.cell? ⟨B, 8, none⟩ = some (.slice m.ka m.kn m.kc) ∧ W.cell? ⟨B, 9, none⟩ = some (.int .i64 m.fr) ∧ W.cell? ⟨B, 10, none⟩ = some (.int .i64 m.un) ∧ W.cell? ⟨B, 11, none⟩ = some (.int .i64 m.wi) :=
  ⟨h.mb.lt, h.zb.lt, by rw [h.zb.cell]; rfl, by rw [h.mb.cell]; rfl, by rw [h.mb.cell]; rfl, by rw [h.mb.cell]; rfl, by rw [h.mb.cell]; rfl, by rw [h.mb.cell]; rfl, by rw [h.mb.cell]; rfl, by rw [h.mb.cell]; rfl, by rw [h.mb.cell]; rfl, by rw [h.mb.cell]; rfl, by rw [h.mb.cell]; rfl, by rw [h.mb.cell]; rfl, by rw [h.mb.cell]; rfl⟩
end Go.Proofs.YtkcbdlnoobjmbaaDoor
