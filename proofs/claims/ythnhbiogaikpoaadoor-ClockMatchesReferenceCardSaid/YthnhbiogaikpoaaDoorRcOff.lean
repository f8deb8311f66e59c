/-
  The reference clock's 'Is' and 'Offset': what they return.
-/
import Derived.Test.YthnhbiogaikpoaaDoorRcModel
import Derived.Test.YthnhbiogaikpoaaDoorClEnv
namespace Go.Proofs.YthnhbiogaikpoaaDoor
open Go.RowKit Go.Cz Go.Cz.Ck
set_option linter.unusedSimpArgs false
set_option linter.unusedVariables false
attribute [local go_sem] bs_size bs_extract bs_append bs_toList
attribute [local irreducible] cList
set_option maxHeartbeats 1000000 in
theorem rIs_c (t : Int) (w : World) : Calls Tryd.prog 28 #[.int .i64 t] w fun e w' => e = .returned (.bool (instB t)) ∧ w' = w := by
  by_cases h0 : 0 ≤ t
  · by_cases h1 : t ≤ 144001439
    · have He : Hid (instB t = true) := instB_true.2 ⟨h0, h1⟩
      go_enter Tryd.func28, Tryd.ntmps28
      go_wp2
      go_ret
      exact ⟨by rw [He.out]; rfl, rfl⟩
    · have He : Hid (instB t = false) := instB_false.2 (by omega)
      go_enter Tryd.func28, Tryd.ntmps28
      go_wp2
      go_ret
      exact ⟨by rw [He.out]; rfl, rfl⟩
  · have He : Hid (instB t = false) := instB_false.2 (by omega)
    go_enter Tryd.func28, Tryd.ntmps28
    go_wp2
    go_ret
    exact ⟨by rw [He.out]; rfl, rfl⟩
theorem roff_snoc (t : Int) : ∀ (l : List Shift) (o : Int) (s : Shift), roff t (l ++ [s]) o = if s.1 ≤ t then s.2 else roff t l o
  | [], _, _ => rfl
  | a :: l, o, s => by simpa [roff] using roff_snoc t l (if a.1 ≤ t then a.2 else o) s
theorem roff_take {t : Int} {l : List Shift} {j : Nat} {s : Shift} (h : l[j]? = some s) : roff t (l.take (j + 1)) 0 = if s.1 ≤ t then s.2 else roff t (l.take j) 0 := by
  obtain ⟨h1, h2⟩ := List.getElem?_eq_some_iff.1 h
  rw [List.take_succ_eq_append_getElem h1, h2, roff_snoc]
set_option maxHeartbeats 2000000 in
theorem rOffset_c (x : Option Addr) (n c : Nat) (l : List Shift) (t : Int) (w : World) (hx : IsShifts w x n l) :
    Calls Tryd.prog 29 #[.agg #[.slice x n c], .int .i64 t] w fun e w' => e = .returned (.int .i64 (roff t l 0)) ∧ Below w.heap.size w w' := by
  have hln := hx.1
  have hn := hx.2.1
  obtain ⟨B, hB⟩ : ∃ B, B = w.heap.size := ⟨_, rfl⟩
  have HE : Hid (ZE w (w.alloc (.cells #[.slice x n c] 24)) B x n c l) := by
    subst hB
    have hb : Below w.heap.size w (w.alloc (.cells #[.slice x n c] 24)) := (Below.refl _ _).alloc (by omega) _
    exact ⟨hb, Bk.new _ _ _, hx.below hb⟩
  have Hln := Lib.hid hln
  clear hx hln
  go_enter Tryd.func29, Tryd.ntmps29
  go_wp2_with fail
  rw [← hB] at *
  clear hB
  go_loopg [5, 6] n (fun gk o i wr => ∃ k : Nat, gk = n - k ∧ k ≤ n ∧ i = .int .i64 (k : Int) ∧ Hid (o = .int .i64 (roff t (l.take k) 0)) ∧ Hid (ZE w wr B x n c l))
  case atStart => exact ⟨0, rfl, Nat.zero_le _, rfl, rfl, HE⟩
  case round =>
    rename_i J1 K1 hJ1 hK1
    clear HE
    obtain ⟨k, rfl, hk, rfl, ho, hw⟩ := hrel
    obtain ⟨-, lz, cz⟩ := hw.out.next (Below.refl _ _)
    by_cases hlt : k < n
    · obtain ⟨g, off, s, rfl, i1, hg, c0, c1⟩ := hw.out.sh.at hlt
      have Hs := Lib.hid (roff_take (t := t) i1)
      obtain ⟨s1, s2⟩ := s
      dsimp only at c0 c1 Hs
      clear i1
      by_cases hd : s1 ≤ t
      · rw [if_pos hd] at Hs
        go_wp2_with fail
        go_roundg (n - (k + 1))
        case measure => omega
        case rel => exact ⟨k + 1, rfl, by omega, by go_num, by rw [Hs.out]; rfl, hw⟩
      · rw [if_neg hd] at Hs
        go_wp2_with fail
        go_roundg (n - (k + 1))
        case measure => omega
        case rel => exact ⟨k + 1, rfl, by omega, by go_num, by rw [Hs.out]; exact ho, hw⟩
    · obtain rfl : k = n := by omega
      clear hJ1 hK1
      have ho2 := ho.out
      rw [List.take_of_length_le (by rw [Hln.out]; exact Nat.le_refl _)] at ho2
      have Ho := Lib.hid ho2
      clear ho ho2
      go_wp2_with fail
      go_ret
      exact ⟨by first | (rw [Ho.out]; rfl) | exact congrArg Ending.returned Ho.out, hw.out.below⟩
end Go.Proofs.YthnhbiogaikpoaaDoor
