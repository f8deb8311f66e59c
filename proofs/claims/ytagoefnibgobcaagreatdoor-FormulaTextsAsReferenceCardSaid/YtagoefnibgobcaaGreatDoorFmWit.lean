/-
  One start that meets what the rows list.
-/
import Derived.Test.YtagoefnibgobcaaGreatDoorFmOpen
import Derived.Test.YtagoefnibgobcaaGreatDoorRows
import Derived.ChangeSame
import Derived.ShutString
import Derived.ProofKit
import Derived.SizedLaws
import Derived.LaidLaws
import Derived.Stop.LaidErr
import Derived.Lib.LaidTab
import Derived.JoinedOf
import Derived.JoinedAt
import Derived.RowKit
import Derived.RowKit3
import Derived.RowKitTokens
import Derived.HandedFrom
import Derived.ChangeVars
import Derived.ChangeMaps5
namespace Go.Proofs.YtagoefnibgobcaaGreatDoor
open Go.RowKit Go.Cz Go.Cz.Fo Go.ChangeShapes Go.WideShapes Go.ChangeAt
set_option linter.unusedVariables false
/-- What the rows list. -/
def laid5 : List (String × DataW Unit) := [("math/bits.deBruijn32tab", Rows.laid_math_bits_deBruijn32tab), ("math/bits.deBruijn64tab", Rows.laid_math_bits_deBruijn64tab), ("internal/strconv.uint64pow10", Rows.laid_internal_strconv_uint64pow10), ("strconv.ErrRange", Rows.laid_strconv_ErrRange), ("strconv.ErrSyntax", Rows.laid_strconv_ErrSyntax)]
theorem std_of {W : World} (h : laidMet Tryz.prog laid5 W) : Std W :=
  ⟨Lib.tabIs_of_head g_tab (t := 155) (by kernel_rfl) Tryz.underlying155 Tryz.underlying118 (by kernel_rfl) (by kernel_rfl) h.tail.tail⟩
theorem clock_own : ownKnob Tryz.prog.godebug = none := by kernel_rfl
theorem clock_laidOut : laidOutB Tryz.prog = true := by kernel_rfl
abbrev synS : ByteArray := { data := #[105, 110, 118, 97, 108, 105, 100, 32, 115, 121, 110, 116, 97, 120] }
abbrev rngS : ByteArray := { data := #[118, 97, 108, 117, 101, 32, 111, 117, 116, 32, 111, 102, 32, 114, 97, 110, 103, 101] }
/-- So many blocks has the settled world. -/
noncomputable def low : Nat := (World.holding Tryz.prog default ⟨#[], #[], []⟩).heap.size
def litsOf : DataW Unit → Array Value
  | .agg l => (l.map fun | .lit (.int k n) => Value.int k n | _ => .nilIface).toArray
  | _ => #[]
def lay (v : Array Value) : Obj → Obj
  | .cells _ t frozen => .cells v t frozen
  | o => o
noncomputable def laidWorld (os : Os) : World :=
  let w0 := World.holding Tryz.prog os ⟨#[.cells #[.string synS] 169, .cells #[.string rngS] 169], #[], []⟩
  { w0 with heap := ((((w0.heap.modify 2 (lay #[.iface 167 (.pointer (some ⟨low, 0, none⟩))])).modify 3 (lay #[.iface 167 (.pointer (some ⟨low + 1, 0, none⟩))])).modify
      4 (lay (litsOf Rows.laid_math_bits_deBruijn32tab))).modify 5 (lay (litsOf Rows.laid_math_bits_deBruijn64tab))).modify 0 (lay (litsOf Rows.laid_internal_strconv_uint64pow10)) }
theorem laidWorld_met (os : Os) (args : Array Value) : laidMet Tryz.prog laid5 ((laidWorld os).forCall (fun _ _ => 0) ⟨#[], args, []⟩).memory :=
  laidMet_of_run' 8 (by kernel_rfl) (by kernel_rfl)
end Go.Proofs.YtagoefnibgobcaaGreatDoor
