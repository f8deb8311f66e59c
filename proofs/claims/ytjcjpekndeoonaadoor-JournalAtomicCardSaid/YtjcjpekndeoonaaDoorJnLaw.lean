/-
  What the journal's laws share: a journal that can not be opened.
-/
import Derived.Test.YtjcjpekndeoonaaDoorJnFilled
namespace Go.Proofs.YtjcjpekndeoonaaDoor
open Go.RowKit Go.Cz Go.Cz.Jn
set_option linter.unusedSimpArgs false
set_option linter.unusedVariables false
attribute [local go_sem] bs_size bs_extract bs_append bs_toList
attribute [local irreducible] cList cPlan
theorem open_few {n : Nat} (h : n < 3) : (openB (Dk.fresh n)).2.1 = 1 := by
  rw [open_err (c := 1) (by unfold findB; rw [if_neg (by simp [Dk.fresh]), if_pos (by simpa [Dk.fresh] using h)])]
def FbP (w0 : World) (ps : List Piece) (e : Ending) (w' : World) : Prop := ∃ v, (v = none ∨ ∃ b, v = some ⟨b, 0, none⟩) ∧ e = .returned (.tuple #[.pointer v, .pointer none, .slice none 0 0]) ∧ Owns w0 w' ps
set_option maxRecDepth 10000 in
set_option maxHeartbeats 4000000 in
theorem filledBad_c {w0 w : World} {ps : List Piece} (s : Int) (x : Option Addr) (n c : Nat) (h : Owns w0 w ps) (h3 : s < 3) (hs : Std w0) :
    Calls Tryd.prog 10 #[.int .i64 s, .slice x n c] w (FbP w0 ps) := by
  have HS := Lib.hid hs
  have HO := Lib.hid h
  clear h hs
  go_enter Tryd.func10, Tryd.ntmps10
  go_wp2_with fail
  go_at_call 19
  by_cases h1 : s < 1
  · refine (New_bad s _ (.inl h1)).mono ?_
    rintro e w1 ⟨rfl, hw⟩
    rw [hw]
    clear hw w1
    go_wp2_with fail
    go_at_call 15
    refine (OpenNil_c _).mono ?_
    rintro e w2 ⟨rfl, hw⟩
    rw [hw]
    clear hw w2
    go_wp2_with fail
    go_ret3
    exact ⟨none, .inl rfl, rfl, HO.out⟩
  · obtain ⟨m, rfl⟩ : ∃ m : Nat, s = (m : Int) := ⟨s.toNat, by omega⟩
    refine (Owns.new m HO.out (by omega) (by omega)).mono ?_
    rintro e w1 ⟨db, rfl, ho⟩
    have HB := Lib.hid (open_few (n := m) (by omega))
    replace HO := Lib.hid ho
    clear ho
    go_wp2_with fail
    go_at_call 15
    refine (Open_c HO.out (by simp [Dk.fresh]) HS.out).mono ?_
    intro e w2 ho
    obtain ⟨rfl, ho2⟩ := open_bad ho HB.out (by decide)
    replace HO := Lib.hid ho2.pop
    clear ho ho2
    go_wp2_with fail
    go_ret3
    exact ⟨some ⟨db, 0, none⟩, .inr ⟨db, rfl⟩, rfl, HO.out⟩
end Go.Proofs.YtjcjpekndeoonaaDoor
