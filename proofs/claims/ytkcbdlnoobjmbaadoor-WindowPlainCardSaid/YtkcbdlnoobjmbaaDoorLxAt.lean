/-
  The lexer's 'at', 'while', 'gap'.
-/
import Derived.Test.YtkcbdlnoobjmbaaDoorLxClasses

namespace Go.Proofs.YtkcbdlnoobjmbaaDoor
open Go.RowKit Go.Cz Go.Cz.Lx
set_option linter.unusedSimpArgs false
set_option linter.unusedVariables false
attribute [local go_sem] bs_size bs_extract bs_append bs_toList
attribute [local irreducible] cList
/-- A scanner in memory: its text, and the class of each byte. -/
structure IsScan (w : World) (b : Nat) (u : ByteArray) : Prop where
  lt : b < w.heap.size
  text : w.cell? ⟨b, 0, none⟩ = some (.string u)
  tab : ∀ c : Nat, c < 256 → w.cell? ⟨b, 1 + c, none⟩ = some (.int .i64 (cls (UInt8.ofNat c) : Int))
theorem IsScan.below {w w' : World} {b : Nat} {u : ByteArray} (h : IsScan w b u) (hb : Below w.heap.size w w') : IsScan w' b u :=
  ⟨Nat.lt_of_lt_of_le h.lt hb.size, (hb.cell (p := ⟨b, 0, none⟩) h.lt).trans h.text, fun c hc => (hb.cell (p := ⟨b, 1 + c, none⟩) h.lt).trans (h.tab c hc)⟩
theorem atL_bs {l : List UInt8} {i : Nat} (h : i < (bs l).size) : atL l i = cls (bs l)[i] := by
  rw [atL_some (by simpa [bs_size] using h)]
  rfl
set_option maxHeartbeats 2000000 in
theorem at_c (b : Nat) (l : List UInt8) (i : Nat) (w : World) (hl : l.length ≤ 20000) (hi : i ≤ 40000) (hs : IsScan w b (bs l)) :
    Calls Tryd.prog 58 #[.pointer (some ⟨b, 0, none⟩), .int .i64 (i : Int)] w fun e w' => e = .returned (.int .i64 (atL l i : Int)) ∧ Below w.heap.size w w' := by
  have hz := hs.lt
  have c0 := hs.text
  by_cases h : i < l.length
  · have HA : Hid (∃ h : i < (bs l).size, atL l i = cls (bs l)[i]) := ⟨by rw [bs_size]; exact h, atL_bs (by rw [bs_size]; exact h)⟩
    have HT := Lib.hid hs.tab
    have hsz : (bs l).size ≤ 20000 := by rw [bs_size]; exact hl
    clear hs h hl
    generalize bs l = u at *
    obtain ⟨k, hk⟩ := HA.out
    have Hk := Lib.hid hk
    clear hk HA
    obtain ⟨c, hc⟩ : ∃ c, u[i].toNat = c := ⟨_, rfl⟩
    have hc2 : c < 256 := by rw [← hc]; exact UInt8.toNat_lt _
    have c1 := HT.out c hc2
    have Hc : Hid (u[i] = UInt8.ofNat c) := by show _ = _; rw [← hc]; simp
    rw [← Hc.out, ← Hk.out] at c1
    clear HT
    go_enter Tryd.func58, Tryd.ntmps58
    go_wp2_with fail
    refine wp_region_can [] (List.range 12) (by kernel_rfl) (by kernel_rfl) ?_
    iterate 12 (refine cl_do rfl rfl rfl rfl (fun _ _ => ?_); go_wp2_with fail)
    refine cl_nil ?_
    go_wp2_with fail
    go_ret
    exact ⟨rfl, (Below.refl _ _).drew⟩
  · have HA : Hid (atL l i = 0) := atL_none (by omega)
    have h2 : (bs l).size ≤ i := by rw [bs_size]; omega
    have hsz : (bs l).size ≤ 20000 := by rw [bs_size]; exact hl
    clear hs h hl
    generalize bs l = u at *
    go_enter Tryd.func58, Tryd.ntmps58
    go_wp2_with fail
    go_ret
    exact ⟨by rw [HA.out]; rfl, Below.refl _ _⟩
end Go.Proofs.YtkcbdlnoobjmbaaDoor
