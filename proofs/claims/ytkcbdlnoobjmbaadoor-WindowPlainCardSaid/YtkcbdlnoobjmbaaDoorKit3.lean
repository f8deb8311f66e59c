/-
  A guarded call whose guard holds, in a region that is walked in one order.
-/
import Derived.Test.YtkcbdlnoobjmbaaDoorKit2
namespace Go.Cz
open Go.RowKit
section
variable {P : Program} {ls : List Oper} {fl : Nat → Bool} {Q : Act → World → Prop} {i : Nat} {π : List Nat} {a : Act} {w : World} {o : Oper}
theorem cl_ycall {j : Nat} {b : Bool} (ho : nth ls i = some o) (hg : o.guard = some (j, b)) (hy : yielded ls.toArray a.tmps j = some b) (hk : okB o a.eval = true)
    (h : ∀ K : Act → World → Prop, (∀ a' w', Below w.heap.size w w' ∧ cList P ls.toArray fl Q π a' w' → K a' w') → o.wp P a w K QF) : cList P ls.toArray fl Q (i :: π) a w := by
  unfold cList cOp
  simp only [nth_eq, ho, Region.wanted, hg, hy, beq_self_eq_true, if_true]
  exact ⟨hk, h _ fun a' w' hh => ⟨fun _ => hh.1, hh.2⟩⟩
end
end Go.Cz
