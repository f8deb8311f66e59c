/-
  The contracts of slices.Insert at []int, laid at this dump by hand.
-/
import Derived.Test.YtkcbdlnoobjmbaaDoorShelf
import Derived.Shelf.Spec.SlicesInsertGrow
namespace Go.Proofs.YtkcbdlnoobjmbaaDoor
open Go.RowKit Go.Shelf
set_option maxRecDepth 100000
def insRen : Go.Shelf.Ren := ⟨fun | 21 => 44 | 27 => 53 | 28 => 54 | 35 => 64 | 39 => 74 | n => n, fun | 22 => 39 | 3 => 3 | 4 => 4 | 0 => 0 | n => n, fun | n => n⟩
theorem insLay : Go.Proofs.Lays2.n21 Tryd.prog insRen := {
  mixed := by kernel_rfl
  f21 := Tryd.func44.trans (congrArg some (by kernel_rfl))
  f27 := Tryd.func53.trans (congrArg some (by kernel_rfl))
  f28 := Tryd.func54.trans (congrArg some (by kernel_rfl))
  f35 := Tryd.func64.trans (congrArg some (by kernel_rfl))
  f39 := Tryd.func74.trans (congrArg some (by kernel_rfl))
  t0 := Tryd.underlying0
  a0 := Tryd.isAgg0
  z0 := Tryd.sizeOf0
  v0 := Tryd.zeroValue0
  t3 := Tryd.underlying3
  a3 := Tryd.isAgg3
  z3 := Tryd.sizeOf3
  v3 := Tryd.zeroValue3
  t4 := Tryd.underlying4
  a4 := Tryd.isAgg4
  z4 := Tryd.sizeOf4
  v4 := Tryd.zeroValue4
  t22 := Tryd.underlying39
  a22 := Tryd.isAgg39
  z22 := Tryd.sizeOf39
  v22 := Tryd.zeroValue39
  i3 := by kernel_rfl }
end Go.Proofs.YtkcbdlnoobjmbaaDoor
