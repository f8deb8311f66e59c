/-
  Guarded operations whose guards hold, in a region that is walked in every order.
-/
import Derived.Test.YtagoefnibgobcaaGreatDoorAnyOrd
namespace Go.Cz
open Go.RowKit
section
variable {P : Program} {ls : List Oper} {fl : Nat → Bool} {Q : Act → World → Prop} {f : Nat} {listed : Array Bool} {a : Act} {w : World} {i : Nat} {o : Oper}
theorem cw_yes {j : Nat} {b : Bool} (ho : nth ls i = some o) (hg : o.guard = some (j, b)) (hy : yielded ls.toArray a.tmps j = some b) (hf : fl i = false) (hk : okB o a.eval = true)
    (h : ∀ K : Act → World → Prop, (∀ a w, cWalk P ls.toArray fl Q f listed a w → K a w) → o.wp P a w K QF) : cOp P ls.toArray fl i (cWalk P ls.toArray fl Q f listed) a w := by
  unfold cOp
  simp only [nth_eq, ho, Region.wanted, hg, hy, beq_self_eq_true, if_true]
  exact ⟨hk, h _ fun a' w' hh => ⟨(fun hx => by rw [hf] at hx; cases hx), hh⟩⟩
theorem cw_ycall {j : Nat} {b : Bool} (ho : nth ls i = some o) (hg : o.guard = some (j, b)) (hy : yielded ls.toArray a.tmps j = some b) (hk : okB o a.eval = true)
    (h : ∀ K : Act → World → Prop, (∀ a' w', Below w.heap.size w w' ∧ cWalk P ls.toArray fl Q f listed a' w' → K a' w') → o.wp P a w K QF) : cOp P ls.toArray fl i (cWalk P ls.toArray fl Q f listed) a w := by
  unfold cOp
  simp only [nth_eq, ho, Region.wanted, hg, hy, beq_self_eq_true, if_true]
  exact ⟨hk, h _ fun a' w' hh => ⟨fun _ => hh.1, hh.2⟩⟩
end
end Go.Cz
