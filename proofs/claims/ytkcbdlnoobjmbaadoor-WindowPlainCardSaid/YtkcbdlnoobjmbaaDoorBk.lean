/-
  A block that is known whole.
-/
import Derived.Test.YtkcbdlnoobjmbaaDoorMem
namespace Go.Proofs.YtkcbdlnoobjmbaaDoor
open Go.RowKit Go.Cz
set_option linter.unusedVariables false
/-- A block that is known whole. -/
def Bk (W : World) (B : Nat) (cs : Array Value) (t : TypeId) : Prop := W.heap[B]? = some (.cells cs t (0, 0))
section
variable {W W' : World} {B : Nat} {cs : Array Value} {t : TypeId}
theorem Bk.lt (h : Bk W B cs t) : B < W.heap.size := lt_of_block h
theorem Bk.new (W : World) (cs : Array Value) (t : TypeId) : Bk (W.alloc (.cells cs t)) W.heap.size cs t := new_heap _ _ _ rfl
theorem Bk.alloc (h : Bk W B cs t) (o : Obj) : Bk (W.alloc o) B cs t := (Below.heap_alloc W o B h.lt).trans h
theorem Bk.below (h : Bk W B cs t) (hb : Below W.heap.size W W') : Bk W' B cs t := (hb.block B h.lt).trans h
theorem Bk.cell (h : Bk W B cs t) (i : Nat) : W.cell? ⟨B, i, none⟩ = cs[i]? := cell_of_heap h
theorem Bk.free (h : Bk W B cs t) (i : Nat) : W.frozen? ⟨B, i, none⟩ = false := free_of_heap h
theorem Bk.set (h : Bk W B cs t) (i : Nat) (v : Value) : Bk (W.setCell ⟨B, i, none⟩ v) B (cs.setIfInBounds i v) t := setCell_heap h v
theorem Bk.other (h : Bk W B cs t) {p : Addr} (hn : B ≠ p.block) (v : Value) : Bk (W.setCell p v) B cs t := (setCell_heap_ne hn v).trans h
end
end Go.Proofs.YtkcbdlnoobjmbaaDoor
