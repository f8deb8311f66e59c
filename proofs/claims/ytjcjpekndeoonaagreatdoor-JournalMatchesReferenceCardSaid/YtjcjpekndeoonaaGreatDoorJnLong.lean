/-
  Whether a record is too long: slices.ContainsFunc with Append's first function.
-/
import Derived.Test.YtjcjpekndeoonaaGreatDoorJnParse
namespace Go.Cz.Jn
theorem longB_take {l : List Bytes} {k : Nat} (h : ∀ j s, j < k → l[j]? = some s → ¬ 20000 < s.length) (hk : l.length ≤ k) : longB l = false := by
  unfold longB
  rw [List.any_eq_false]
  intro s hs
  obtain ⟨j, hj⟩ := List.getElem?_of_mem hs
  have hlt := (List.getElem?_eq_some_iff.1 hj).1
  have := h j s (by omega) hj
  simpa using this
theorem longB_yes {l : List Bytes} {k : Nat} {s : Bytes} (h : l[k]? = some s) (hs : 20000 < s.length) : longB l = true := by
  unfold longB
  rw [List.any_eq_true]
  exact ⟨s, List.mem_of_getElem? h, by simpa using hs⟩
end Go.Cz.Jn
namespace Go.Proofs.YtjcjpekndeoonaaGreatDoor
open Go.RowKit Go.Cz Go.Cz.Jn
set_option linter.unusedSimpArgs false
set_option linter.unusedVariables false
attribute [local go_sem] bs_size bs_extract bs_append bs_toList
attribute [local irreducible] cList cPlan
theorem long1_c (s : Bytes) (w : World) : Calls Tryz.prog 45 #[.string (bs s)] w fun e w' => e = .returned (.bool (decide (20000 < (s.length : Int)))) ∧ w' = w := by
  go_enter Tryz.func45, Tryz.ntmps45
  go_wp2_with fail
  go_ret
  exact ⟨rfl, rfl⟩
set_option maxRecDepth 10000 in
set_option maxHeartbeats 4000000 in
theorem idxf_c (x : Option Addr) (n c : Nat) (l : List Bytes) (w : World) (h : IsTexts w x n l) (hn : n ≤ 1000000000) :
    Calls Tryz.prog 79 #[.slice x n c, .func (.func 45) #[] #[]] w fun e w' => (∃ i : Int, e = .returned (.int .i64 i) ∧ (0 ≤ i ↔ longB l = true)) ∧ w' = w := by
  have HI := Lib.hid h
  have hlen := h.len
  clear h
  go_enter Tryz.func79, Tryz.ntmps79
  go_wp2_with fail
  go_loopg [8] n (fun gk i wr => ∃ k : Nat, gk = n - k ∧ k ≤ n ∧ i = .int .i64 (k : Int) ∧ wr = w ∧ Hid (∀ j s, j < k → l[j]? = some s → ¬ 20000 < s.length))
  case atStart => exact ⟨0, rfl, Nat.zero_le _, rfl, rfl, fun j s hj => by omega⟩
  case round =>
    rename_i J1 K1 hJ1 hK1
    obtain ⟨k, rfl, hk, rfl, rfl, HP⟩ := hrel
    by_cases hlt : k < n
    · obtain ⟨b, off, s, rfl, hs, hb, cs⟩ := HI.out.get hlt
      have HSs := Lib.hid hs
      clear hs
      go_wp2_with fail
      refine (long1_c s _).mono ?_
      rintro e w2 ⟨rfl, hw⟩
      rw [hw]
      clear hw w2
      by_cases hl : 20000 < s.length
      · have hd : (20000 : Int) < (s.length : Int) := by omega
        have HY : Hid (longB l = true) := longB_yes HSs.out hl
        clear hJ1 hK1
        go_wp2_with fail
        go_ret
        exact ⟨⟨(k : Int), rfl, by rw [HY.out]; simp⟩, rfl⟩
      · have hd : ¬ (20000 : Int) < (s.length : Int) := by omega
        have hd2 : (s.length : Int) ≤ 20000 := by omega
        have HP2 : Hid (∀ j s, j < k + 1 → l[j]? = some s → ¬ 20000 < s.length) := by
          intro j s' hj hs'
          by_cases hjk : j = k
          · subst hjk
            rw [HSs.out] at hs'
            cases hs'
            exact hl
          · exact HP.out j s' (by omega) hs'
        clear HP
        go_wp2_with fail
        go_roundg (n - (k + 1))
        case measure => omega
        case rel => exact ⟨k + 1, rfl, by omega, by go_num, rfl, HP2⟩
    · have HY : Hid (longB l = false) := longB_take HP.out (by omega)
      clear hJ1 hK1 HP
      go_wp2_with fail
      go_ret
      exact ⟨⟨-1, rfl, by rw [HY.out]; simp⟩, rfl⟩
set_option maxHeartbeats 1000000 in
theorem long_c (x : Option Addr) (n c : Nat) (l : List Bytes) (w : World) (h : IsTexts w x n l) (hn : n ≤ 1000000000) :
    Calls Tryz.prog 44 #[.slice x n c, .func (.func 45) #[] #[]] w fun e w' => e = .returned (.bool (longB l)) ∧ w' = w := by
  have HC := Lib.hid (idxf_c x n c l w h hn)
  clear h
  go_enter Tryz.func44, Tryz.ntmps44
  go_wp2_with fail
  go_at_call 79
  refine HC.out.mono ?_
  rintro e w1 ⟨⟨i, rfl, hi⟩, rfl⟩
  have HI := Lib.hid hi
  clear HC hi
  go_wp2_with fail
  go_ret
  refine ⟨?_, rfl⟩
  show Ending.returned (.bool (decide (0 ≤ i))) = _
  congr 2
  rw [Bool.eq_iff_iff, ← HI.out]
  simp
end Go.Proofs.YtjcjpekndeoonaaGreatDoor
