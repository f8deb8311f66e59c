/-
  The lexer's scanner, built.
-/
import Derived.Test.YtkcbdlnoobjmbaaDoorLxAt
namespace Go.Proofs.YtkcbdlnoobjmbaaDoor
open Go.RowKit Go.Cz Go.Cz.Lx
set_option linter.unusedSimpArgs false
set_option linter.unusedVariables false
set_option maxRecDepth 100000 in
theorem built_scan (u : ByteArray) : Tryd.prog.built 85 [(0, .string u), (1, .agg clsTab)] = some (#[.string u] ++ clsTab) := by kernel_rfl
theorem wpList_build_to {P : Program} {ops : Array Oper} {rest : List Oper} {o : Oper} {a : Act} {w : World} {Q : Exit → Act → World → Prop} (hg : o.guard = none) (t : TypeId) (parts : Array (Nat × Operand)) (ho : o.op = .build t parts) (cells : Array Value)
    (ps : List (Nat × Value)) (hp : (parts.map fun (i, x) => (i, a.eval x)).toList = ps) (hc : P.built t ps = some cells) (h : wpList P ops Q rest (a.put o.dst (.agg cells)) w) : wpList P ops Q (o :: rest) a w :=
  wpList_build hg t parts ho (by rw [hp, hc]; rfl) (by rw [hp, hc]; exact h)
theorem zero_scan : (Tryd.zeroCells85).size = 257 := by kernel_rfl
theorem info_scan : (Tryd.prog.info? 85).map (·.size) = some 257 := by kernel_rfl
/-- The scanner's cells. -/
def ScanCells (u : ByteArray) (cs : Array Value) : Prop := cs.size = 257 ∧ cs.all (·.oneCell') = true ∧ cs[0]? = some (.string u) ∧ ∀ c : Nat, c < 256 → cs[1 + c]? = some (.int .i64 (cls (UInt8.ofNat c) : Int))
theorem scanCells (u : ByteArray) : ScanCells u (#[.string u] ++ clsTab) := by
  refine ⟨by rw [Array.size_append, clsTab_size]; rfl, ?_, by rw [Array.getElem?_append_left (by simp)]; rfl, fun c hc => ?_⟩
  · rw [Array.all_append, clsTab_one]; simp [Value.oneCell']
  · rw [Array.getElem?_append_right (by simp)]
    have := clsTab_at hc
    simpa using this
theorem scan_of_cells {W : World} {b : Nat} {u : ByteArray} {cs : Array Value} {t : TypeId} (h : W.heap[b]? = some (.cells cs t (0, 0))) (hc : ScanCells u cs) : IsScan W b u :=
  ⟨lt_of_block h, by rw [cell_of_heap h]; exact hc.2.2.1, fun c h2 => by rw [cell_of_heap h]; exact hc.2.2.2 c h2⟩
end Go.Proofs.YtkcbdlnoobjmbaaDoor
