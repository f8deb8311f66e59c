/-
  The lexer's table of classes: a class for some bytes.
-/
import Derived.Test.YtkcbdlnoobjmbaaDoorLxModel
import Derived.Test.YtkcbdlnoobjmbaaDoorProg
import Derived.Test.YtkcbdlnoobjmbaaDoorKit2
import Derived.Deep.LoopGhost
import Derived.Deep.DeepCutAuto
import Derived.IntWalk
import Derived.Laws.Rows
import Derived.Laws.Tables
namespace Go.Proofs.YtkcbdlnoobjmbaaDoor
open Go.RowKit Go.Cz Go.Cz.Lx
set_option linter.unusedSimpArgs false
set_option linter.unusedVariables false
attribute [local go_sem] bs_size bs_extract bs_append bs_toList
attribute [local irreducible] cList
/-- The table behind some bytes that have got a class. -/
def setTab (cs : Array Value) (k : Int) (l : List UInt8) : Array Value := l.foldl (fun a c => a.setIfInBounds c.toNat (.int .i64 k)) cs
theorem setTab_size (k : Int) : ∀ (l : List UInt8) (cs : Array Value), (setTab cs k l).size = cs.size
  | [], cs => rfl
  | c :: l, cs => by
    show (setTab (cs.setIfInBounds c.toNat (.int .i64 k)) k l).size = _
    rw [setTab_size k l]
    simp
theorem setTab_snoc (cs : Array Value) (k : Int) (l : List UInt8) (c : UInt8) : setTab cs k (l ++ [c]) = (setTab cs k l).setIfInBounds c.toNat (.int .i64 k) := by simp [setTab]
/-- A table of 256 cells in block g. -/
def TabAt (w : World) (g : Nat) (cs : Array Value) : Prop := w.heap[g]? = some (.cells cs 82 (0, 0)) ∧ cs.size = 256
set_option maxHeartbeats 2000000 in
theorem set_c (g : Nat) (cs : Array Value) (l : List UInt8) (k : Int) (w : World) (hl : l.length ≤ 1000) (hg : TabAt w g cs) :
    Calls Tryd.prog 56 #[.string (bs l), .int .i64 k, .pointer (some ⟨g, 0, none⟩)] w fun e w' => e = .returned (.tuple #[]) ∧ TabAt w' g (setTab cs k l) ∧ Mod [g] w w' := by
  obtain ⟨u, hu⟩ : ∃ u, u = bs l := ⟨_, rfl⟩
  rw [← hu]
  have hsz : u.size = l.length := by rw [hu, bs_size]
  have hs0 : u.size ≤ 1000 := by omega
  have HG := Lib.hid hg
  have HU := Lib.hid (And.intro hu hsz)
  clear hg hu hsz hl
  go_enter Tryd.func56, Tryd.ntmps56
  go_wp2_with fail
  go_loopg [5] u.size (fun gk i wr => ∃ j : Nat, gk = u.size - j ∧ j ≤ u.size ∧ i = .int .i64 (j : Int) ∧ Hid (TabAt wr g (setTab cs k (l.take j)) ∧ Mod [g] w wr))
  case atStart => exact ⟨0, rfl, Nat.zero_le _, rfl, HG.out, Mod.refl _ _⟩
  case round =>
    rename_i J1 K1 hJ1 hK1
    clear HG
    obtain ⟨j, rfl, hj, rfl, hw⟩ := hrel
    by_cases hlt : j < u.size
    · obtain ⟨b, hb⟩ : ∃ b, u[j].toNat = b := ⟨_, rfl⟩
      have hb2 : b < 256 := by rw [← hb]; exact UInt8.toNat_lt _
      have hz := lt_of_block hw.out.1.1
      obtain ⟨v0, c0⟩ : ∃ v0, wr.cell? ⟨g, b, none⟩ = some v0 := ⟨_, by rw [cell_of_heap hw.out.1.1]; exact Array.getElem?_eq_getElem (by rw [hw.out.1.2]; exact hb2)⟩
      have f0 : wr.frozen? ⟨g, b, none⟩ = false := free_of_heap hw.out.1.1
      have HN : Hid (TabAt (wr.setCell ⟨g, b, none⟩ (.int .i64 k)) g (setTab cs k (l.take (j + 1))) ∧ Mod [g] w (wr.setCell ⟨g, b, none⟩ (.int .i64 k))) := by
        obtain ⟨h1, h2⟩ := HU.out
        subst h1
        have hjl : j < l.length := by omega
        replace hb : l[j].toNat = b := hb
        refine ⟨⟨?_, ?_⟩, hw.out.2.setCell (.inl (by simp)) _⟩
        · rw [List.take_succ_eq_append_getElem hjl, setTab_snoc, hb]
          exact setCell_heap hw.out.1.1 _
        · rw [setTab_size]; rw [← setTab_size k (l.take j)]; exact hw.out.1.2
      clear hw
      go_wp2_with fail
      go_roundg (u.size - (j + 1))
      case measure => omega
      case rel => exact ⟨j + 1, rfl, by omega, by go_num, HN⟩
    · obtain rfl : j = u.size := by omega
      clear hJ1 hK1
      have He : Hid (TabAt wr g (setTab cs k l) ∧ Mod [g] w wr) := by
        have h2 := hw.out
        rw [List.take_of_length_le (by have := HU.out.2; omega)] at h2
        exact h2
      clear hw
      go_wp2_with fail
      go_end0
      exact ⟨rfl, He.out⟩
/-- The table: the class of each byte. -/
def clsTab : Array Value := ((List.range 256).map fun c => Value.int .i64 (cls (UInt8.ofNat c) : Int)).toArray
theorem clsTab_size : clsTab.size = 256 := by simp [clsTab]
theorem clsTab_at {c : Nat} (h : c < 256) : clsTab[c]? = some (.int .i64 (cls (UInt8.ofNat c) : Int)) := by simp [clsTab, h]
theorem tab_eq : setTab (setTab (setTab (setTab (setTab (setTab (setTab (setTab (setTab (Tryd.zeroCells82) 3 [97, 98, 99, 100, 101, 102, 103, 104, 105, 106, 107, 108, 109, 110, 111, 112, 113, 114, 115, 116, 117, 118, 119, 120, 121, 122, 65, 66, 67, 68, 69, 70, 71, 72, 73, 74, 75, 76, 77, 78, 79, 80, 81, 82, 83, 84, 85, 86, 87, 88, 89, 90]) 4 [48, 49, 50, 51, 52, 53, 54, 55, 56, 57]) 5 [95]) 1 [32, 9, 10]) 2 [35]) 6 [34]) 7 [33]) 8 [60, 62]) 9 [59, 44, 46, 58, 40, 41, 91, 93, 123, 125, 61, 43, 45] = clsTab := by kernel_rfl
theorem zero_size : (Tryd.zeroCells82).size = 256 := by kernel_rfl
theorem clsTab_one : clsTab.all (·.oneCell') = true := by kernel_rfl
end Go.Proofs.YtkcbdlnoobjmbaaDoor
