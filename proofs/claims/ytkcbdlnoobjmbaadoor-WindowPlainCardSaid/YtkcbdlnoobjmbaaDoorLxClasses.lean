/-
  The lexer's table of classes.
-/
import Derived.Test.YtkcbdlnoobjmbaaDoorLxSet
import Derived.Laws.Rows
import Derived.Laws.Tables
namespace Go.Proofs.YtkcbdlnoobjmbaaDoor
open Go.RowKit Go.Cz Go.Cz.Lx
set_option linter.unusedSimpArgs false
set_option linter.unusedVariables false
attribute [local go_sem] bs_size bs_extract bs_append bs_toList
attribute [local irreducible] cList
theorem storeCells_row {P : Program} (w : World) (g : Nat) (t : TypeId) (old cells : Array Value) (hg : w.heap[g]? = some (.cells old t (0, 0))) (ho : old.size = cells.size) (h1 : cells.all (·.oneCell') = true) :
    (storeCells ⟨g, 0, none⟩ cells.toList).run P w = .ok () (w.setRow g cells) := by
  have := run_storeCells_from (P := P) g t cells.toList 0 old w hg (by simp; omega) (fun v hv => (Array.all_eq_true_iff_forall_mem.1 h1) v (by simpa using hv))
  rw [this]
  simp [ho]
/-- A step of the table's making. -/
theorem TabNext {w W W' : World} {g h : Nat} {cs cs' : Array Value} (H : TabAt W g cs ∧ Mod [h, g] w W ∧ ∃ cs, TabAt W h cs) (hne : h ≠ g) (ht : TabAt W' g cs') (hm : Mod [g] W W') : Hid (TabAt W' g cs' ∧ Mod [h, g] w W' ∧ ∃ cs, TabAt W' h cs) := by
  obtain ⟨h1, h2, cs0, h3, h4⟩ := H
  exact ⟨ht, h2.then hm (by simp), cs0, hm.heap h3 (by simpa using hne), h4⟩
set_option maxRecDepth 100000 in
set_option maxHeartbeats 2000000 in
theorem classes_c (w : World) : Calls Tryd.prog 48 #[] w fun e w' => e = .returned (.agg clsTab) ∧ Below w.heap.size w w' := by
  have hi1 : (Tryd.prog.info? 82).map (·.size) = some 256 := by kernel_rfl
  go_enter Tryd.func48, Tryd.ntmps48
  go_wp2_with fail
  obtain ⟨W, hW⟩ : ∃ W, W = (w.alloc (.cells Tryd.zeroCells82 82)).alloc (.cells Tryd.zeroCells82 82) := ⟨_, rfl⟩
  have HT : Hid (TabAt W (w.heap.size + 1) Tryd.zeroCells82 ∧ Mod [w.heap.size, w.heap.size + 1] w W ∧ ∃ cs, TabAt W w.heap.size cs) := by
    refine ⟨⟨?_, zero_size⟩, ?_, Tryd.zeroCells82, ?_, zero_size⟩
    · rw [hW]; exact new_heap _ _ _ (by simp)
    · rw [hW]; exact ((Mod.refl _ _).alloc _).alloc _
    · rw [hW, Below.heap_alloc _ _ _ (by simp)]; exact new_heap _ _ _ rfl
  rw [← hW]
  clear hW
  go_at_call 56
  refine (set_c (w.heap.size + 1) _ [97, 98, 99, 100, 101, 102, 103, 104, 105, 106, 107, 108, 109, 110, 111, 112, 113, 114, 115, 116, 117, 118, 119, 120, 121, 122, 65, 66, 67, 68, 69, 70, 71, 72, 73, 74, 75, 76, 77, 78, 79, 80, 81, 82, 83, 84, 85, 86, 87, 88, 89, 90] 3 _ (by decide) HT.out.1).mono ?_
  rintro e W0 ⟨rfl, ht, hm⟩
  replace HT := TabNext HT.out (by omega) ht hm
  clear ht hm
  go_wp2_with fail
  go_at_call 56
  refine (set_c (w.heap.size + 1) _ [48, 49, 50, 51, 52, 53, 54, 55, 56, 57] 4 _ (by decide) HT.out.1).mono ?_
  rintro e W1 ⟨rfl, ht, hm⟩
  replace HT := TabNext HT.out (by omega) ht hm
  clear ht hm
  go_wp2_with fail
  go_at_call 56
  refine (set_c (w.heap.size + 1) _ [95] 5 _ (by decide) HT.out.1).mono ?_
  rintro e W2 ⟨rfl, ht, hm⟩
  replace HT := TabNext HT.out (by omega) ht hm
  clear ht hm
  go_wp2_with fail
  go_at_call 56
  refine (set_c (w.heap.size + 1) _ [32, 9, 10] 1 _ (by decide) HT.out.1).mono ?_
  rintro e W3 ⟨rfl, ht, hm⟩
  replace HT := TabNext HT.out (by omega) ht hm
  clear ht hm
  go_wp2_with fail
  go_at_call 56
  refine (set_c (w.heap.size + 1) _ [35] 2 _ (by decide) HT.out.1).mono ?_
  rintro e W4 ⟨rfl, ht, hm⟩
  replace HT := TabNext HT.out (by omega) ht hm
  clear ht hm
  go_wp2_with fail
  go_at_call 56
  refine (set_c (w.heap.size + 1) _ [34] 6 _ (by decide) HT.out.1).mono ?_
  rintro e W5 ⟨rfl, ht, hm⟩
  replace HT := TabNext HT.out (by omega) ht hm
  clear ht hm
  go_wp2_with fail
  go_at_call 56
  refine (set_c (w.heap.size + 1) _ [33] 7 _ (by decide) HT.out.1).mono ?_
  rintro e W6 ⟨rfl, ht, hm⟩
  replace HT := TabNext HT.out (by omega) ht hm
  clear ht hm
  go_wp2_with fail
  go_at_call 56
  refine (set_c (w.heap.size + 1) _ [60, 62] 8 _ (by decide) HT.out.1).mono ?_
  rintro e W7 ⟨rfl, ht, hm⟩
  replace HT := TabNext HT.out (by omega) ht hm
  clear ht hm
  go_wp2_with fail
  go_at_call 56
  refine (set_c (w.heap.size + 1) _ [59, 44, 46, 58, 40, 41, 91, 93, 123, 125, 61, 43, 45] 9 _ (by decide) HT.out.1).mono ?_
  rintro e W8 ⟨rfl, ht, hm⟩
  replace HT := TabNext HT.out (by omega) ht hm
  clear ht hm
  rw [tab_eq] at HT
  obtain ⟨cs0, hc0⟩ := HT.out.2.2
  go_wp2_with fail
  refine wp_load_row 82 (.tmp 1) rfl (w.heap.size + 1) rfl 82 clsTab (0, 0) _ HT.out.1.1 Tryd.underlying82 rfl (by rw [clsTab_size]; exact hi1) ?_
  go_wp2_with fail
  have hst := storeCells_row (P := Tryd.prog) W8 w.heap.size 82 cs0 clsTab hc0.1 (by rw [clsTab_size]; exact hc0.2) clsTab_one
  rw [hst]
  clear hst
  simp only [Result.andThen_ok]
  go_wp2_with fail
  refine bodyPost_ret (v := .agg clsTab) ?_ ?_ ⟨rfl, ?_⟩
  · exact results_cell_row (fn := Tryd.f48) (p := 0) (ty := 82) (by rfl) _ _ w.heap.size 82 clsTab (0, 0) _ (by rfl) (setRow_heap _ _ _ _ _ _ hc0.1) Tryd.underlying82 rfl (by rw [clsTab_size]; exact hi1)
  · rfl
  have hm := HT.out.2.1
  have hm2 : Mod [w.heap.size, w.heap.size + 1] w (W8.setRow w.heap.size clsTab) := hm.then (S' := [w.heap.size]) ⟨rfl, rfl, rfl, by simp, fun k _ hk => setRow_other _ _ _ _ (by simpa using hk)⟩ (by simp)
  exact ⟨hm2.os, hm2.tape, hm2.output, hm2.size, fun k hk => hm2.block k hk (by simp; omega)⟩
end Go.Proofs.YtkcbdlnoobjmbaaDoor
