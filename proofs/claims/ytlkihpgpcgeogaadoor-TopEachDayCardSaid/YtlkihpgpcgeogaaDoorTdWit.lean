/-
  What TopEachDay is handed, and one start that meets what the row lists.
-/
import Derived.Test.YtlkihpgpcgeogaaDoorTopEachDayW
import Derived.Test.YtlkihpgpcgeogaaDoorOpen
import Derived.Test.YtlkihpgpcgeogaaDoorRows
import Derived.Deep.Slices
import Derived.ChangeSame
import Derived.ShutString
import Derived.ProofKit
import Derived.SizedLaws
import Derived.LaidLaws
import Derived.Stop.LaidErr
import Derived.Lib.LaidTab
import Derived.JoinedOf
import Derived.JoinedAt
import Derived.RowKit
import Derived.RowKit3
import Derived.RowKitTokens
import Derived.HandedFrom
import Derived.ChangeVars
import Derived.ChangeMaps5
namespace Go.Proofs.YtlkihpgpcgeogaaDoor
open Go.RowKit Go.Cz Go.Cz.Td Go.ChangeShapes Go.WideShapes Go.ChangeAt Go.Deep
set_option linter.unusedVariables false
/-- What the rows list. -/
def laid5 : List (String × DataW Unit) := [("math/bits.deBruijn32tab", Rows.laid_math_bits_deBruijn32tab), ("math/bits.deBruijn64tab", Rows.laid_math_bits_deBruijn64tab), ("internal/strconv.uint64pow10", Rows.laid_internal_strconv_uint64pow10), ("strconv.ErrRange", Rows.laid_strconv_ErrRange), ("strconv.ErrSyntax", Rows.laid_strconv_ErrSyntax)]
theorem clock_own : ownKnob Tryd.prog.godebug = none := by kernel_rfl
theorem clock_laidOut : laidOutB Tryd.prog = true := by kernel_rfl
abbrev synS : ByteArray := { data := #[105, 110, 118, 97, 108, 105, 100, 32, 115, 121, 110, 116, 97, 120] }
abbrev rngS : ByteArray := { data := #[118, 97, 108, 117, 101, 32, 111, 117, 116, 32, 111, 102, 32, 114, 97, 110, 103, 101] }
/-- So many blocks has the settled world. -/
noncomputable def low : Nat := (World.holding Tryd.prog default ⟨#[], #[], []⟩).heap.size
def litsOf : DataW Unit → Array Value
  | .agg l => (l.map fun | .lit (.int k n) => Value.int k n | _ => .nilIface).toArray
  | _ => #[]
def lay (v : Array Value) : Obj → Obj
  | .cells _ t frozen => .cells v t frozen
  | o => o
noncomputable def laidWorld (os : Os) : World :=
  let w0 := World.holding Tryd.prog os ⟨#[.cells #[.string synS] 139, .cells #[.string rngS] 139], #[], []⟩
  { w0 with heap := ((((w0.heap.modify 1 (lay #[.iface 137 (.pointer (some ⟨low, 0, none⟩))])).modify 2 (lay #[.iface 137 (.pointer (some ⟨low + 1, 0, none⟩))])).modify
      4 (lay (litsOf Rows.laid_math_bits_deBruijn32tab))).modify 5 (lay (litsOf Rows.laid_math_bits_deBruijn64tab))).modify 3 (lay (litsOf Rows.laid_internal_strconv_uint64pow10)) }
theorem laidWorld_met (os : Os) (args : Array Value) : laidMet Tryd.prog laid5 ((laidWorld os).forCall (fun _ _ => 0) ⟨#[], args, []⟩).memory :=
  laidMet_of_run' 8 (by kernel_rfl) (by kernel_rfl)
section
variable {H : Type} {enc : TypeId × Value → H} {w : World} {base : Nat} {spare : Nat → Bool} {held : Bool}
def stV (s : Stp) : Array Value := #[.int .i64 s.k, .int .i64 s.d, .int .i64 s.u, .bool s.lic]
theorem open_step {fuel : Nat} {cs : List Value} {x : DataW H × List MemPlace} (h : DataW.trod enc Tryd.prog w base spare held fuel 30 cs = some x) : ∃ s : Stp, cs = (stV s).toList ∧ True := by
  obtain ⟨xs, n, rfl, rfl, hlen, hxs, hf⟩ := DataW.trod_struct Tryd.underlying30 h
  have hc : Tryd.prog.cellsOf 30 = 4 := by kernel_rfl
  rw [hc] at hlen
  have c3 : Tryd.prog.cellsOf 3 = 1 := by kernel_rfl
  have c4 : Tryd.prog.cellsOf 4 = 1 := by kernel_rfl
  obtain ⟨v0, v1, v2, v3, rfl⟩ : ∃ v0 v1 v2 v3, cs = [v0, v1, v2, v3] := by
    rcases cs with _ | ⟨a, _ | ⟨b, _ | ⟨c, _ | ⟨d, _ | ⟨e, r⟩⟩⟩⟩⟩
    · simp at hlen
    · simp at hlen
    · simp at hlen
    · simp at hlen
    · exact ⟨a, b, c, d, rfl⟩
    · simp at hlen
  obtain ⟨y0, y1, y2, y3, rfl⟩ : ∃ y0 y1 y2 y3, xs = [y0, y1, y2, y3] := by
    have hxs' : xs.length = 4 := hxs
    rcases xs with _ | ⟨a, _ | ⟨b, _ | ⟨c, _ | ⟨d, _ | ⟨e, r⟩⟩⟩⟩⟩
    · simp at hxs'
    · simp at hxs'
    · simp at hxs'
    · simp at hxs'
    · exact ⟨a, b, c, d, rfl⟩
    · simp at hxs'
  have g0 : DataW.trod enc Tryd.prog w base spare held n 3 (([v0, v1, v2, v3].drop 0).take (Tryd.prog.cellsOf 3)) = some y0 := hf 0 _ rfl
  have g1 : DataW.trod enc Tryd.prog w base spare held n 3 (([v0, v1, v2, v3].drop 1).take (Tryd.prog.cellsOf 3)) = some y1 := hf 1 _ rfl
  have g2 : DataW.trod enc Tryd.prog w base spare held n 3 (([v0, v1, v2, v3].drop 2).take (Tryd.prog.cellsOf 3)) = some y2 := hf 2 _ rfl
  have g3 : DataW.trod enc Tryd.prog w base spare held n 4 (([v0, v1, v2, v3].drop 3).take (Tryd.prog.cellsOf 4)) = some y3 := hf 3 _ rfl
  rw [c3] at g0 g1 g2
  rw [c4] at g3
  obtain ⟨k, e0, _, w0⟩ := DataW.trod_int Tryd.underlying3 g0
  obtain ⟨d, e1, _, w1⟩ := DataW.trod_int Tryd.underlying3 g1
  obtain ⟨u, e2, _, w2⟩ := DataW.trod_int Tryd.underlying3 g2
  obtain ⟨l, e3, _⟩ := DataW.trod_bool Tryd.underlying4 g3
  obtain rfl := List.cons.inj e0 |>.1
  obtain rfl := List.cons.inj e1 |>.1
  obtain rfl := List.cons.inj e2 |>.1
  obtain rfl := List.cons.inj e3 |>.1
  exact ⟨⟨k, d, u, l⟩, rfl, trivial⟩
theorem open_steps {fuel : Nat} {cs : List Value} {x : DataW H × List MemPlace} (h : DataW.trod enc Tryd.prog w base spare held fuel 22 cs = some x) :
    ∃ a n c l, cs = [.slice a n c] ∧ IsSteps w a n l := by
  obtain ⟨a, n, c, l, rfl, hl, -, -, -, hn⟩ := open_rows (sz := 4) ⟨0, 0, 0, false⟩ stV (fun _ => True) Tryd.underlying22 (by kernel_rfl) (by omega) (fun _ => rfl) (fun _ _ _ hh => open_step hh) h
  refine ⟨a, n, c, l, rfl, hl.symm, fun j s hj => ?_⟩
  have hj2 := (List.getElem?_eq_some_iff.1 hj).1
  rcases hn with h0 | ⟨g, off, rfl, hg, hc⟩
  · omega
  · have h := hc j s hj
    exact ⟨g, off, rfl, hg, h 0 _ rfl, h 1 _ rfl, h 2 _ rfl, h 3 _ rfl⟩
end
end Go.Proofs.YtlkihpgpcgeogaaDoor
