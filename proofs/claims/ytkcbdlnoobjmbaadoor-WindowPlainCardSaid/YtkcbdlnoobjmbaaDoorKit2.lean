/-
  A guarded operation whose guard holds, in a region that is walked in one order.
-/
import Derived.Test.YtkcbdlnoobjmbaaDoorKit
namespace Go.Cz
open Go.RowKit
section
variable {P : Program} {ls : List Oper} {fl : Nat → Bool} {Q : Act → World → Prop} {i : Nat} {π : List Nat} {a : Act} {w : World} {o : Oper}
theorem cl_yes {j : Nat} {b : Bool} (ho : nth ls i = some o) (hg : o.guard = some (j, b)) (hy : yielded ls.toArray a.tmps j = some b) (hf : fl i = false) (hk : okB o a.eval = true)
    (h : ∀ K : Act → World → Prop, (∀ a w, cList P ls.toArray fl Q π a w → K a w) → o.wp P a w K QF) : cList P ls.toArray fl Q (i :: π) a w :=
  cl_guard ho hg hy hf (fun _ => hk) (fun _ => h) (fun hx => by cases b <;> cases hx)
theorem cl_no {j : Nat} {b : Bool} (ho : nth ls i = some o) (hg : o.guard = some (j, b)) (hy : yielded ls.toArray a.tmps j = some (!b)) (h : cList P ls.toArray fl Q π (a.put o.dst undef) w) : cList P ls.toArray fl Q (i :: π) a w :=
  cl_skip ho (by unfold Region.wanted; rw [hg]; dsimp only; rw [hy]; cases b <;> rfl) h
end
end Go.Cz
