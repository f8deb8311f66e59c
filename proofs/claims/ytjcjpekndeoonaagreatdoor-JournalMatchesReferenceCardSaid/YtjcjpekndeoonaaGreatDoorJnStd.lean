/-
  What a law knows of the library's variables; numbers as texts.
-/
import Derived.Test.YtjcjpekndeoonaaGreatDoorShelf
import Derived.Test.YtjcjpekndeoonaaGreatDoorJnTake
import Derived.Lib.ItoaMem
import Derived.Lib.ItoaLen
import Derived.Lib.TrailingZeros
import Derived.Lib.AppendIntMem
namespace Go.Proofs.YtjcjpekndeoonaaGreatDoor
open Go.RowKit Go.Cz Go.Cz.Jn
set_option linter.unusedSimpArgs false
set_option linter.unusedVariables false
structure Std (W : World) : Prop where
  tab : Lib.TabIs Tryz.prog W "internal/strconv.uint64pow10" .u64 Lib.pow10Tab
  syn : ∃ t p, W.var? Tryz.prog "strconv.ErrSyntax" = some #[.iface t p]
  rng : ∃ t p, W.var? Tryz.prog "strconv.ErrRange" = some #[.iface t p]
  tz : Lib.TabIs Tryz.prog W "math/bits.deBruijn64tab" .u8 (Lib.deBruijn64tab.map Int.ofNat)
theorem var_below {w w' : World} {n : String} {g : Nat} {cs : Array Value} (hg : Tryz.prog.globalNamed n = some g) (h : w.var? Tryz.prog n = some cs) (hb : Below w.heap.size w w') : w'.var? Tryz.prog n = some cs := by
  unfold World.var? at h ⊢
  rw [hg] at h ⊢
  simp only [Option.bind_some] at h ⊢
  have hlt : g < w.heap.size := by
    rcases Nat.lt_or_ge g w.heap.size with h' | h'
    · exact h'
    · rw [Array.getElem?_eq_none h'] at h; cases h
  rw [hb.block g hlt]
  exact h
theorem g_tab : Tryz.prog.globalNamed "internal/strconv.uint64pow10" = some 3 := by kernel_rfl
theorem g_syn : Tryz.prog.globalNamed "strconv.ErrSyntax" = some 0 := by kernel_rfl
theorem g_rng : Tryz.prog.globalNamed "strconv.ErrRange" = some 1 := by kernel_rfl
theorem g_tz : Tryz.prog.globalNamed "math/bits.deBruijn64tab" = some 5 := by kernel_rfl
theorem Std.below {w w' : World} (h : Std w) (hb : Below w.heap.size w w') : Std w' := by
  refine ⟨var_below g_tab h.tab hb, ?_, ?_, var_below g_tz h.tz hb⟩
  · obtain ⟨t, p, h1⟩ := h.syn; exact ⟨t, p, var_below g_syn h1 hb⟩
  · obtain ⟨t, p, h1⟩ := h.rng; exact ⟨t, p, var_below g_rng h1 hb⟩
/-- The table's sixteenth power's cell. -/
theorem Std.cell4 {w : World} (h : Std w) : w.cell? ⟨5, 15, none⟩ = some (.int .u8 4) := by
  have h1 := h.tz
  unfold Lib.TabIs World.var? at h1
  rw [g_tz] at h1
  simp only [Option.bind_some] at h1
  unfold World.cell?
  cases ho : w.heap[5]? with
  | none => rw [ho] at h1; cases h1
  | some o =>
    rw [ho] at h1
    cases o with
    | cells cs t fr =>
      simp only [Option.some.injEq] at h1 ⊢
      subst h1
      rfl
    | _ => cases h1
theorem Itoa_c (n : Nat) (w : World) (hn : n ≤ 1000000000) (hs : Std w) : Calls Tryz.prog 74 #[.int .i64 (n : Int)] w fun e w' => e = .returned (.string (bs (Lib.decDigits n))) ∧ Below w.heap.size w w' := by
  refine (Tryz.strconv_Itoa (n : Int) (by omega) (by omega) w hs.tab).mono ?_
  rintro e w' ⟨rfl, k, os, rfl⟩
  exact ⟨by rw [Lib.itoa_nonneg]; rfl, Lib.below_grow _ w (Nat.le_refl _) k os⟩
end Go.Proofs.YtjcjpekndeoonaaGreatDoor
