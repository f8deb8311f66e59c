/-
  One start that meets what the rows list.
-/
import Derived.Test.YtakadfdnhlfijaaGreatDoorVdOpen
import Derived.Test.YtakadfdnhlfijaaGreatDoorVdF
import Derived.Test.YtakadfdnhlfijaaGreatDoorRows
import Derived.ChangeSame
import Derived.ShutString
import Derived.ProofKit
import Derived.SizedLaws
import Derived.LaidLaws
import Derived.Stop.LaidErr
import Derived.Lib.LaidTab
import Derived.JoinedOf
import Derived.JoinedAt
import Derived.RowKit
import Derived.RowKit3
import Derived.RowKitTokens
import Derived.HandedFrom
import Derived.ChangeVars
import Derived.ChangeMaps5
namespace Go.Proofs.YtakadfdnhlfijaaGreatDoor
open Go.RowKit Go.Cz Go.Cz.Fo Go.Cz.Vd Go.ChangeShapes Go.WideShapes Go.ChangeAt
set_option linter.unusedVariables false
/-- What the rows list. -/
def laid5 : List (String × DataW Unit) := [("math/bits.deBruijn32tab", Rows.laid_math_bits_deBruijn32tab), ("math/bits.deBruijn64tab", Rows.laid_math_bits_deBruijn64tab), ("internal/strconv.uint64pow10", Rows.laid_internal_strconv_uint64pow10), ("strconv.ErrRange", Rows.laid_strconv_ErrRange), ("strconv.ErrSyntax", Rows.laid_strconv_ErrSyntax)]
theorem clock_own : ownKnob Tryz.prog.godebug = none := by kernel_rfl
theorem clock_laidOut : laidOutB Tryz.prog = true := by kernel_rfl
abbrev synS : ByteArray := { data := #[105, 110, 118, 97, 108, 105, 100, 32, 115, 121, 110, 116, 97, 120] }
abbrev rngS : ByteArray := { data := #[118, 97, 108, 117, 101, 32, 111, 117, 116, 32, 111, 102, 32, 114, 97, 110, 103, 101] }
/-- So many blocks has the settled world. -/
noncomputable def low : Nat := (World.holding Tryz.prog default ⟨#[], #[], []⟩).heap.size
def litsOf : DataW Unit → Array Value
  | .agg l => (l.map fun | .lit (.int k n) => Value.int k n | _ => .nilIface).toArray
  | _ => #[]
def lay (v : Array Value) : Obj → Obj
  | .cells _ t frozen => .cells v t frozen
  | o => o
noncomputable def laidWorld (os : Os) : World :=
  let w0 := World.holding Tryz.prog os ⟨#[.cells #[.string synS] 183, .cells #[.string rngS] 183], #[], []⟩
  { w0 with heap := ((((w0.heap.modify 1 (lay #[.iface 181 (.pointer (some ⟨low, 0, none⟩))])).modify 2 (lay #[.iface 181 (.pointer (some ⟨low + 1, 0, none⟩))])).modify
      4 (lay (litsOf Rows.laid_math_bits_deBruijn32tab))).modify 5 (lay (litsOf Rows.laid_math_bits_deBruijn64tab))).modify 3 (lay (litsOf Rows.laid_internal_strconv_uint64pow10)) }
theorem laidWorld_met (os : Os) (args : Array Value) : laidMet Tryz.prog laid5 ((laidWorld os).forCall (fun _ _ => 0) ⟨#[], args, []⟩).memory :=
  laidMet_of_run' 8 (by kernel_rfl) (by kernel_rfl)
/-- A measure that is handed in. -/
structure MIn (w : World) (m : Me) (kv : Value) : Prop where
  fm : IsFm (fun _ => True) w m.cond kv
  len : MeLen m
  names : short 140737488355328 m.cond = true
section
variable {H : Type} {enc : TypeId × Value → H} {W : World}
theorem sized_each {ts : List TypeId} {ds : List (DataW H)} (hsz : (DataW.weightsEach Tryz.prog ts ds).all (· ≤ reachBytes) = true) {j : Nat} {t : TypeId} {d : DataW H} (ht : ts[j]? = some t) (hd : ds[j]? = some d) : ∀ k ∈ d.weights Tryz.prog t, k ≤ 140737488355328 := fun k hk => by
  have h1 := List.all_eq_true.1 hsz _ (DataW.weights_mem_each ht hd k hk)
  have h2 := reachBytes_lt
  have e3 : (2 : Nat) ^ 47 = 140737488355328 := by decide
  simp only [decide_eq_true_eq] at h1
  omega
theorem in_mes {spare : Nat → Bool} {held : Bool} {base fuel : Nat} {cs : List Value} {x : DataW H × List MemPlace} (h : DataW.trod enc Tryz.prog W base spare held fuel 22 cs = some x) (hz : ∀ k ∈ x.1.weights Tryz.prog 22, k ≤ 140737488355328) : ∃ l v, cs = [v] ∧ MeIn W l v := by
  obtain ⟨l, v, h1, h2, h3, h4⟩ := open_mesZ h hz
  exact ⟨l, v, h1, h2, h3, h4⟩
theorem in_me {spare : Nat → Bool} {held : Bool} {base fuel : Nat} {cs : List Value} {x : DataW H × List MemPlace} (h : DataW.trod enc Tryz.prog W base spare held fuel 46 cs = some x) (hz : ∀ k ∈ x.1.weights Tryz.prog 46, k ≤ 140737488355328) : ∃ m kv, cs = mcl (m, kv) ∧ MIn W m kv := by
  obtain ⟨l, v, h1, h2, h3, h4, h5, h6⟩ := open_meZ h hz
  exact ⟨l, v, h1, h2, ⟨h3, h4, h5⟩, h6⟩
theorem in_txs {spare : Nat → Bool} {held : Bool} {base fuel : Nat} {cs : List Value} {x : DataW H × List MemPlace} (h : DataW.trod enc Tryz.prog W base spare held fuel 26 cs = some x) (hz : ∀ k ∈ x.1.weights Tryz.prog 26, k ≤ 140737488355328) : ∃ l v, cs = [v] ∧ TxIn W l v := by
  obtain ⟨l, v, h1, h2, h3, h4⟩ := open_txsZ h hz
  exact ⟨l, v, h1, h2, h3, h4⟩
theorem in_sc {spare : Nat → Bool} {held : Bool} {base fuel : Nat} {cs : List Value} {x : DataW H × List MemPlace} (h : DataW.trod enc Tryz.prog W base spare held fuel 30 cs = some x) (hz : ∀ k ∈ x.1.weights Tryz.prog 30, k ≤ 140737488355328) : ∃ s vd va vz vc, cs = [vd, va, vz, vc, .int .i64 s.signed, .int .i64 s.now] ∧ ScIn W s vd va vz vc := by
  obtain ⟨s, vd, va, vz, vc, h1, h2, h3, h4, h5, h6, h7, h8⟩ := open_scZ h hz
  exact ⟨s, vd, va, vz, vc, h1, h2, h3, h4, h5, h6, h7, h8⟩
end
end Go.Proofs.YtakadfdnhlfijaaGreatDoor
