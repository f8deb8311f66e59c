/-
  Zones in memory; 'instant', 'Valid'.
-/
import Derived.Test.YtakadfdnhlfijaaGreatDoorClModel
import Derived.Test.YtakadfdnhlfijaaGreatDoorProg
import Derived.IntWalk
import Derived.Test.YtakadfdnhlfijaaGreatDoorBase
import Derived.Deep.LoopGhost
import Derived.Deep.DeepCutAuto
namespace Go.Proofs.YtakadfdnhlfijaaGreatDoor
open Go.RowKit Go.Cz Go.Cz.Ck
set_option linter.unusedSimpArgs false
set_option linter.unusedVariables false
attribute [local go_sem] bs_size bs_extract bs_append bs_toList
attribute [local irreducible] cList

/-- A slice of shifts that can be read. -/
def IsShifts (w : World) (x : Option Addr) (n : Nat) (l : List Shift) : Prop :=
  l.length = n ∧ n ≤ 9223372036854775807 ∧ (n = 0 ∨ ∃ g off, x = some ⟨g, off, none⟩ ∧ g < w.heap.size ∧ ∀ (j : Nat) (s : Shift), l[j]? = some s →
    w.cell? ⟨g, off + j * 2, none⟩ = some (.int .i64 s.1) ∧ w.cell? ⟨g, off + j * 2 + 1, none⟩ = some (.int .i64 s.2))
theorem IsShifts.below {w w' : World} {x : Option Addr} {n : Nat} {l : List Shift} (h : IsShifts w x n l) (hb : Below w.heap.size w w') : IsShifts w' x n l := by
  obtain ⟨h1, h2, h3⟩ := h
  refine ⟨h1, h2, ?_⟩
  rcases h3 with h3 | ⟨g, off, h4, h5, h6⟩
  · exact .inl h3
  · refine .inr ⟨g, off, h4, Nat.lt_of_lt_of_le h5 hb.size, fun j a ha => ?_⟩
    simpa only [hb.cell (p := ⟨g, _, none⟩) h5] using h6 j a ha
theorem IsShifts.at {w : World} {x : Option Addr} {n : Nat} {l : List Shift} (h : IsShifts w x n l) {j : Nat} (hj : j < n) : ∃ g off s, x = some ⟨g, off, none⟩ ∧ l[j]? = some s ∧ g < w.heap.size ∧
    w.cell? ⟨g, off + j * 2, none⟩ = some (.int .i64 s.1) ∧ w.cell? ⟨g, off + j * 2 + 1, none⟩ = some (.int .i64 s.2) := by
  obtain ⟨h1, h2, h3⟩ := h
  rcases h3 with h3 | ⟨g, off, rfl, h4, h5⟩
  · omega
  · exact ⟨g, off, l[j], rfl, List.getElem?_eq_getElem (by omega), h4, h5 j _ (List.getElem?_eq_getElem (by omega))⟩
set_option maxHeartbeats 1000000 in
theorem instant_c (t : Int) (w : World) : Calls Tryz.prog 69 #[.int .i64 t] w fun e w' => e = .returned (.bool (instB t)) ∧ w' = w := by
  by_cases h0 : 0 ≤ t
  · by_cases h1 : t ≤ 144001439
    · have He : Hid (instB t = true) := instB_true.2 ⟨h0, h1⟩
      go_enter Tryz.func69, Tryz.ntmps69
      go_wp2
      go_ret
      exact ⟨by rw [He.out]; rfl, rfl⟩
    · have He : Hid (instB t = false) := instB_false.2 (by omega)
      go_enter Tryz.func69, Tryz.ntmps69
      go_wp2
      go_ret
      exact ⟨by rw [He.out]; rfl, rfl⟩
  · have He : Hid (instB t = false) := instB_false.2 (by omega)
    go_enter Tryz.func69, Tryz.ntmps69
    go_wp2
    go_ret
    exact ⟨by rw [He.out]; rfl, rfl⟩
set_option maxRecDepth 5000 in
set_option maxHeartbeats 2000000 in
theorem Valid_c (x : Option Addr) (n c : Nat) (l : List Shift) (w : World) (hx : IsShifts w x n l) :
    Calls Tryz.prog 40 #[.agg #[.slice x n c]] w fun e w' => e = .returned (.bool (validB l)) ∧ Below w.heap.size w w' := by
  have hn := hx.2.1
  have hln := hx.1
  have Hx := Lib.hid hx
  have HF : Hid (∀ (j : Nat) (la : Int) (s : Shift), vgo 0 (-1) l = vgo j la (l.drop j) → l[j]? = some s → shiftOk j la s = false → validB l = false) := fun j la s h1 h2 h3 => by
    unfold validB; rw [h1, vgo_drop h2, h3]; rfl
  have HT : Hid (∀ (j : Nat) (la : Int) (s : Shift), vgo 0 (-1) l = vgo j la (l.drop j) → l[j]? = some s → shiftOk j la s = true → vgo 0 (-1) l = vgo (j + 1) s.1 (l.drop (j + 1))) := fun j la s h1 h2 h3 => by
    rw [h1, vgo_drop h2, h3]; rfl
  have HE : Hid (∀ la : Int, vgo 0 (-1) l = vgo n la (l.drop n) → validB l = (decide (0 < n) && decide (n ≤ 20))) := fun la h => by
    unfold validB; rw [h, List.drop_of_length_le (by omega), hln]; rfl
  have Hln := Lib.hid hln
  clear hx hln
  go_enter Tryz.func40, Tryz.ntmps40
  go_wp2_with fail
  have H0 : Hid (Below w.heap.size w (w.alloc (.cells #[.slice x n c] 66)) ∧ (w.alloc (.cells #[.slice x n c] 66)).heap[w.heap.size]? = some (.cells #[.slice x n c] 66 (0, 0))) := ⟨by repeat (first | exact Below.refl _ _ | (refine Below.drew ?_) | (refine Below.alloc ?_ (by (try simp only [World.size_alloc, World.size_setCell, World.size_drew] at *); omega) _) | (refine Below.setCell ?_ (by (try simp only [World.size_alloc, World.size_setCell, World.size_drew] at *); omega) _)), new_heap _ _ _ rfl⟩
  go_loopg [3, 10] n (fun gk la i wr => ∃ (j : Nat) (a : Int), gk = n - j ∧ j ≤ n ∧ i = .int .i64 j ∧ la = .int .i64 a ∧ Hid (vgo 0 (-1) l = vgo j a (l.drop j)) ∧ Hid (Below w.heap.size w wr ∧ wr.heap[w.heap.size]? = some (.cells #[.slice x n c] 66 (0, 0))))
  case atStart => exact ⟨0, -1, rfl, Nat.zero_le _, rfl, rfl, rfl, H0⟩
  case round =>
    rename_i J1 K1 hJ1 hK1
    clear H0
    obtain ⟨j, a, rfl, hj, rfl, rfl, hv, hw⟩ := hrel
    by_cases hlt : j < n
    · obtain ⟨g, off, s, rfl, hs, hg, c0, c1⟩ := (Hx.out.below hw.out.1).at hlt
      obtain ⟨s1, s2⟩ := s
      dsimp only at c0 c1
      have Hs := Lib.hid hs
      clear hs
      have HI := Lib.hid (instant_c s1)
      have hz := lt_of_block hw.out.2
      have hw1 : Below w.heap.size w (wr.alloc (.cells #[.int .i64 s1, .int .i64 s2] 89)) := hw.out.1.alloc hw.out.1.size _
      have hw2 : (wr.alloc (.cells #[.int .i64 s1, .int .i64 s2] 89)).heap[w.heap.size]? = some (.cells #[.slice (some ⟨g, off, none⟩) n c] 66 (0, 0)) := (Below.heap_alloc wr _ _ hz).trans hw.out.2
      have HW := Lib.hid (And.intro hw1 hw2)
      clear hw1 hw2 hz
      by_cases hj0 : 0 < j
      · by_cases hB : s1 ≤ a
        · have HBAD : shiftOk j a (s1, s2) = false := by simp [shiftOk]; omega
          have He := Lib.hid (HF.out j a (s1, s2) hv.out Hs.out HBAD)
          clear hv HF HT HE HBAD
          go_wp2_with fail
          go_ret
          exact ⟨by rw [He.out]; rfl, HW.out.1⟩
        by_cases hC : instB s1 = true
        · rw [hC] at HI
          by_cases hD : s2 < -840
          · have HBAD : shiftOk j a (s1, s2) = false := by simp [shiftOk]; omega
            have He := Lib.hid (HF.out j a (s1, s2) hv.out Hs.out HBAD)
            clear hv HF HT HE HBAD hC
            go_wp2_with fail
            go_at_call 69
            refine (HI.out _).mono ?_
            rintro e w1 ⟨rfl, rfl⟩
            go_wp2_with fail
            go_ret
            exact ⟨by rw [He.out]; rfl, HW.out.1⟩
          by_cases hE : 840 < s2
          · have HBAD : shiftOk j a (s1, s2) = false := by simp [shiftOk]; omega
            have He := Lib.hid (HF.out j a (s1, s2) hv.out Hs.out HBAD)
            clear hv HF HT HE HBAD hC
            go_wp2_with fail
            go_at_call 69
            refine (HI.out _).mono ?_
            rintro e w1 ⟨rfl, rfl⟩
            go_wp2_with fail
            go_ret
            exact ⟨by rw [He.out]; rfl, HW.out.1⟩
          have HOK := Lib.hid (HT.out j a (s1, s2) hv.out Hs.out (by simp [shiftOk, hC]; omega))
          clear hv HF HT HE hC
          go_wp2_with fail
          go_at_call 69
          refine (HI.out _).mono ?_
          rintro e w1 ⟨rfl, rfl⟩
          go_wp2_with fail
          go_roundg (n - (j + 1))
          case measure => omega
          case rel => exact ⟨j + 1, s1, rfl, by omega, by go_num, rfl, HOK.out, HW.out⟩
        · have hC' : instB s1 = false := by simpa using hC
          rw [hC'] at HI
          have HBAD : shiftOk j a (s1, s2) = false := by simp [shiftOk, hC']
          have He := Lib.hid (HF.out j a (s1, s2) hv.out Hs.out HBAD)
          clear hv HF HT HE HBAD hC hC'
          go_wp2_with fail
          go_at_call 69
          refine (HI.out _).mono ?_
          rintro e w1 ⟨rfl, rfl⟩
          go_wp2_with fail
          go_ret
          exact ⟨by rw [He.out]; rfl, HW.out.1⟩
      · by_cases hf : s1 = 0
        · have hf' : (s1 == 0) = true := by simp [hf]
          clear hf
          have hj1 : j ≤ 0 := by omega
          by_cases hB : s1 ≤ a
          · have HBAD : shiftOk j a (s1, s2) = false := by simp [shiftOk, hf']; omega
            have He := Lib.hid (HF.out j a (s1, s2) hv.out Hs.out HBAD)
            clear hv HF HT HE HBAD
            go_wp2_with fail
            go_ret
            exact ⟨by rw [He.out]; rfl, HW.out.1⟩
          by_cases hC : instB s1 = true
          · rw [hC] at HI
            by_cases hD : s2 < -840
            · have HBAD : shiftOk j a (s1, s2) = false := by simp [shiftOk, hf']; omega
              have He := Lib.hid (HF.out j a (s1, s2) hv.out Hs.out HBAD)
              clear hv HF HT HE HBAD hC
              go_wp2_with fail
              go_at_call 69
              refine (HI.out _).mono ?_
              rintro e w1 ⟨rfl, rfl⟩
              go_wp2_with fail
              go_ret
              exact ⟨by rw [He.out]; rfl, HW.out.1⟩
            by_cases hE : 840 < s2
            · have HBAD : shiftOk j a (s1, s2) = false := by simp [shiftOk, hf']; omega
              have He := Lib.hid (HF.out j a (s1, s2) hv.out Hs.out HBAD)
              clear hv HF HT HE HBAD hC
              go_wp2_with fail
              go_at_call 69
              refine (HI.out _).mono ?_
              rintro e w1 ⟨rfl, rfl⟩
              go_wp2_with fail
              go_ret
              exact ⟨by rw [He.out]; rfl, HW.out.1⟩
            have HOK := Lib.hid (HT.out j a (s1, s2) hv.out Hs.out (by simp [shiftOk, hC, hf']; omega))
            clear hv HF HT HE hC
            go_wp2_with fail
            go_at_call 69
            refine (HI.out _).mono ?_
            rintro e w1 ⟨rfl, rfl⟩
            go_wp2_with fail
            go_roundg (n - (j + 1))
            case measure => omega
            case rel => exact ⟨j + 1, s1, rfl, by omega, by go_num, rfl, HOK.out, HW.out⟩
          · have hC' : instB s1 = false := by simpa using hC
            rw [hC'] at HI
            have HBAD : shiftOk j a (s1, s2) = false := by simp [shiftOk, hC']
            have He := Lib.hid (HF.out j a (s1, s2) hv.out Hs.out HBAD)
            clear hv HF HT HE HBAD hC hC'
            go_wp2_with fail
            go_at_call 69
            refine (HI.out _).mono ?_
            rintro e w1 ⟨rfl, rfl⟩
            go_wp2_with fail
            go_ret
            exact ⟨by rw [He.out]; rfl, HW.out.1⟩
        · have hf' : (s1 == 0) = false := by simp [hf]
          have HBAD : shiftOk j a (s1, s2) = false := by simp [shiftOk, hf', hj0]
          have He := Lib.hid (HF.out j a (s1, s2) hv.out Hs.out HBAD)
          have hj1 : j ≤ 0 := by omega
          clear hv HF HT HE HBAD
          go_wp2_with fail
          go_ret
          exact ⟨by rw [He.out]; rfl, HW.out.1⟩
    · obtain rfl : j = n := by omega
      clear hJ1 hK1
      have hz := lt_of_block hw.out.2
      have c0 : wr.cell? ⟨w.heap.size, 0, none⟩ = some (.slice x j c) := by rw [cell_of_heap hw.out.2]; simp
      have He := Lib.hid (HE.out a hv.out)
      by_cases h0 : 0 < j
      · go_wp2_with fail
        go_ret
        refine ⟨?_, hw.out.1⟩
        rw [He.out]
        simp [go_sem, h0]
        omega
      · go_wp2_with fail
        go_ret
        refine ⟨?_, hw.out.1⟩
        rw [He.out]
        simp [go_sem, h0]
end Go.Proofs.YtakadfdnhlfijaaGreatDoor
