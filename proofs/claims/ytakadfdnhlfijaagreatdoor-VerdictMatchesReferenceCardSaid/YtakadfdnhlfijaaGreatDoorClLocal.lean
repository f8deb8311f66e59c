/-
  'spans' as a value; 'Local'.
-/
import Derived.Test.YtakadfdnhlfijaaGreatDoorClSpans
namespace Go.Proofs.YtakadfdnhlfijaaGreatDoor
open Go.RowKit Go.Cz Go.Cz.Ck Go.Shelf
set_option linter.unusedSimpArgs false
set_option linter.unusedVariables false
attribute [local go_sem] Oper.semAt_some
attribute [local irreducible] cList

theorem spans_c (x : Option Addr) (m c : Nat) (w : World) :
    Calls Tryz.prog 104 #[.agg #[.slice x m c]] w fun e w' => e = .returned (.func (.func 122) #[] #[.pointer (some ⟨w.heap.size, 0, none⟩)]) ∧ w' = w.alloc (.cells #[.slice x m c] 66) := by
  go_enter Tryz.func104, Tryz.ntmps104
  go_wp2
  go_ret
  exact ⟨rfl, rfl⟩
theorem spans_stops (n : Nat) (hn : 1 ≤ n) (Bz : Nat) (w0 : World) (x : Option Addr) (m c : Nat) (l : List Shift) (hx : IsShifts w0 x m l) (hm : m ≤ 20) (hB : ∀ s ∈ l, 0 ≤ s.1 ∧ s.1 ≤ 144001439) (w : World) (hbw : Below w0.heap.size w0 w) (hBz : Bk w Bz #[.slice x m c] 66) :
    SeqStopsK Fence.wide n Tryz.prog 122 #[.pointer (some ⟨Bz, 0, none⟩)] encS (Kz w0 Bz) (fun ys => ys = spans l) (fun pre => pre <+: spans l) m w := fun lp J Jx W hW hJ _ hY h0 =>
  spans1_in Fence.wide n trivial rfl hn lp Bz w0 x m c l hx hm hB J Jx W hJ (hbw.trans (hW.mono hbw.size)) (hBz.below hW) hY h0
theorem Kz.turn {w0 w : World} {Bz : Nat} (hb : w0.heap.size ≤ w.heap.size) (hz : Bz < w.heap.size) (W : World) (l : Nat) (o o' : Obj) (hl : w.heap.size ≤ l) (h : W.heap[l]? = some o) (_ : o.isCells = false) (_ : o.isWalk = false) : Kz w0 Bz W (W.putObj l o') :=
  ⟨belowK_b hb W l o o' hl h ‹_› ‹_›, World.putObj_heap_other (by omega)⟩
/-- A function that holds a range over a function, entered; the calls in it are plain ones. -/
theorem calls_marks {P : Program} {f : FuncId} {fn : Func} {c : Code} {args : Array Value} {w : World} {R : Ending → World → Prop} (n : Nat) (hf : P.funcs[f]? = some fn) (hb : fn.body = some c)
    (h : c.wp P (bodyPostM Fence.wide n P fn R) { tmps := args ++ Array.replicate (fn.ntmps - args.size) undef, defers := [] } w) : Calls P f args w R :=
  (callsIn_wide (n := n)).1 (callsIn_of_wp_marks (F := Fence.wide) hf hb trivial (wpIn_wide.2 h) rfl)
/-- What holds between two rounds of 'Local', and what a round leaves that ends the loop. -/
def LocI (w : World) (L : Nat) (x : Option Addr) (m c : Nat) (t : Int) (pre : List (Shift × Int)) (W : World) : Prop :=
  Bk W (w.heap.size + 1) #[.int .i64 t] 3 ∧ Bk W L #[.int .i64 t] 3 ∧ Bk W (L + 1) #[.slice x m c] 66 ∧ Below w.heap.size w W ∧ (∀ p ∈ pre, p.2 < t)
def LocX (w : World) (L : Nat) (t : Int) (e : Code) (pre : List (Shift × Int)) (W : World) : Prop :=
  Below w.heap.size w W ∧ e = .exit 0 ∧ ∃ ini p, pre = ini ++ [p] ∧ (∀ y ∈ ini, y.2 < t) ∧ t ≤ p.2 ∧ Bk W L #[.int .i64 (wrap64 (t + p.1.2))] 3
end Go.Proofs.YtakadfdnhlfijaaGreatDoor
