/-
  The laws' helpers: 'Begin', 'Few', 'earlier', 'sample', 'head'.
-/
import Derived.Test.YthnhbiogaikpoaaDoorClInst
import Derived.Test.YthnhbiogaikpoaaDoorClParse
namespace Go.Proofs.YthnhbiogaikpoaaDoor
open Go.RowKit Go.Cz Go.Cz.Ck
set_option linter.unusedSimpArgs false
set_option linter.unusedVariables false
attribute [local go_sem] bs_size bs_extract bs_append bs_toList
attribute [local irreducible] cList

set_option maxHeartbeats 1000000 in
theorem Begin_c (x : Option Addr) (m c : Nat) (l : List Shift) (day : Int) (w : World) (hx : IsShifts w x m l) :
    Calls Tryd.prog 17 #[.agg #[.slice x m c], .int .i64 day] w (InsPost w (instF l day 0).1 (instF l day 0).2) := by
  have HI := Lib.hid fun (W : World) (hb : Below w.heap.size w W) => Instant_c x m c l day 0 W (hx.below hb)
  clear hx
  go_enter Tryd.func17, Tryd.ntmps17
  go_wp2_with fail
  go_at_call 15
  refine (HI.out _ (by repeat (first | exact Below.refl _ _ | (refine Below.drew ?_) | (refine Below.alloc ?_ (by (try simp only [World.size_alloc, World.size_setCell, World.size_drew] at *); omega) _) | (refine Below.setCell ?_ (by (try simp only [World.size_alloc, World.size_setCell, World.size_drew] at *); omega) _)))).mono ?_
  rintro e w1 ⟨rfl, hb1⟩
  have Hb : Hid (Below w.heap.size w w1) := by show Below _ _ _; repeat (first | exact Below.refl _ _ | (refine Below.trans ?_ (hb1.mono (by have z0 := hb1.size; (try simp only [World.size_alloc, World.size_setCell, World.size_drew] at *); omega))) | (refine Below.drew ?_) | (refine Below.alloc ?_ (by have z0 := hb1.size; (try simp only [World.size_alloc, World.size_setCell, World.size_drew] at *); omega) _) | (refine Below.setCell ?_ (by have z0 := hb1.size; (try simp only [World.size_alloc, World.size_setCell, World.size_drew] at *); omega) _))
  clear hb1
  go_wp2_with fail
  go_ret2
  exact ⟨rfl, Hb.out⟩
def fewB (n : Nat) (k : Int) : Bool := decide ((n : Int) ≤ k)
set_option maxHeartbeats 1000000 in
theorem Few_c (x : Option Addr) (m c : Nat) (k : Int) (w : World) :
    Calls Tryd.prog 12 #[.agg #[.slice x m c], .int .i64 k] w fun e w' => e = .returned (.bool (fewB m k)) ∧ Below w.heap.size w w' := by
  go_enter Tryd.func12, Tryd.ntmps12
  go_wp2_with fail
  go_ret
  exact ⟨rfl, by repeat (first | exact Below.refl _ _ | (refine Below.drew ?_) | (refine Below.alloc ?_ (by (try simp only [World.size_alloc, World.size_setCell, World.size_drew] at *); omega) _) | (refine Below.setCell ?_ (by (try simp only [World.size_alloc, World.size_setCell, World.size_drew] at *); omega) _))⟩
def earlierB (a b c d : Int) : Bool := decide (a < c) || (a == c && decide (b < d))
set_option maxHeartbeats 1000000 in
theorem earlier_c (a b c d : Int) (w : World) :
    Calls Tryd.prog 24 #[.int .i64 a, .int .i64 b, .int .i64 c, .int .i64 d] w fun e w' => e = .returned (.bool (earlierB a b c d)) ∧ w' = w := by
  by_cases h1 : a < c
  · have He : Hid (earlierB a b c d = true) := by simp [Hid, earlierB, h1]
    go_enter Tryd.func24, Tryd.ntmps24
    go_wp2_with fail
    go_ret
    exact ⟨by rw [He.out]; rfl, rfl⟩
  · by_cases h2 : a = c
    · have h2' : (a == c) = true := by simp [h2]
      have He : Hid (earlierB a b c d = decide (b < d)) := by simp [Hid, earlierB, h2]
      have h3 : c ≤ a := by omega
      clear h2
      go_enter Tryd.func24, Tryd.ntmps24
      go_wp2_with fail
      go_ret
      exact ⟨by rw [He.out]; rfl, rfl⟩
    · have h2' : (a == c) = false := by simp [h2]
      have He : Hid (earlierB a b c d = false) := by simp [Hid, earlierB, h1, h2]
      clear h2
      go_enter Tryd.func24, Tryd.ntmps24
      go_wp2_with fail
      go_ret
      exact ⟨by rw [He.out]; rfl, rfl⟩
def zs : List Shift := [(0, 60), (10000, 120)]
set_option maxHeartbeats 1000000 in
theorem sample_c (w : World) : Calls Tryd.prog 25 #[] w fun e w' => ∃ g, e = .returned (.agg #[.slice (some ⟨g, 0, none⟩) 2 2]) ∧ Below w.heap.size w w' ∧ IsShifts w' (some ⟨g, 0, none⟩) 2 zs := by
  have Hend : Hid (∀ w', w' = (w.alloc (.cells #[.slice (some ⟨w.heap.size + 1, 0, none⟩) 2 2] 24)).alloc (.cells #[.int .i64 0, .int .i64 60, .int .i64 10000, .int .i64 120] 40) → Below w.heap.size w w' ∧ IsShifts w' (some ⟨w.heap.size + 1, 0, none⟩) 2 zs) := by
    rintro w' rfl
    refine ⟨by repeat (first | exact Below.refl _ _ | (refine Below.drew ?_) | (refine Below.alloc ?_ (by (try simp only [World.size_alloc, World.size_setCell, World.size_drew] at *); omega) _) | (refine Below.setCell ?_ (by (try simp only [World.size_alloc, World.size_setCell, World.size_drew] at *); omega) _)), rfl, by omega, .inr ⟨w.heap.size + 1, 0, rfl, by simp, ?_⟩⟩
    have hh : ((w.alloc (.cells #[.slice (some ⟨w.heap.size + 1, 0, none⟩) 2 2] 24)).alloc (.cells #[.int .i64 0, .int .i64 60, .int .i64 10000, .int .i64 120] 40)).heap[w.heap.size + 1]? = some (.cells #[.int .i64 0, .int .i64 60, .int .i64 10000, .int .i64 120] 40 (0, 0)) := new_heap _ _ _ (by simp)
    intro j s hj
    rw [cell_of_heap hh, cell_of_heap hh]
    rcases j with _ | _ | j
    · simp [zs] at hj; subst hj; simp
    · simp [zs] at hj; subst hj; simp
    · simp [zs] at hj
  go_enter Tryd.func25, Tryd.ntmps25
  go_wp2_with fail
  refine bodyPost_ret (v := .agg #[.slice (some ⟨w.heap.size + 1, 0, none⟩) 2 2]) ?_ rfl ⟨_, rfl, Hend.out _ rfl⟩
  simp [results, Tryd.results25, go_sem]
theorem v_zs : validB zs = true := by decide +kernel
theorem v_l1 : localF zs 9999 = (6, 1419, 0) := by decide +kernel
theorem v_l2 : localF zs 10000 = (7, 40, 0) := by decide +kernel
theorem v_i1 : instF zs 7 0 = (10000, 0) := by decide +kernel
theorem v_i2 : instF zs 1 0 = (1380, 0) := by decide +kernel
theorem v_i3 : instF zs 0 0 = (0, 0) := by decide +kernel
theorem v_t : textF 17705 = ([49, 50, 47, 48, 55, 58, 48, 53], 0) := by
  unfold textF textL twoL
  rw [if_pos (by decide)]
  simp [Lib.decDigits_one, Lib.decDigits_two]
theorem v_p1 : parseF [49, 50, 47, 48, 55, 58, 48, 53] = (17705, 0) := by
  have h : parseF [49, 50, 47, 48, 55, 58, 48, 53] = if textF 17705 = ([49, 50, 47, 48, 55, 58, 48, 53], 0) then (17705, 0) else (0, 5) := parseF_yes (a := 12) (b := 7) (c := 5) (by decide +kernel) (by decide +kernel) (by decide +kernel)
  rw [h, if_pos v_t]
theorem v_p2 : parseF [49, 50, 47, 55, 58, 48, 53] = (0, 5) := by
  have h : parseF [49, 50, 47, 55, 58, 48, 53] = if textF 17705 = ([49, 50, 47, 55, 58, 48, 53], 0) then (17705, 0) else (0, 5) := parseF_yes (a := 12) (b := 7) (c := 5) (by decide +kernel) (by decide +kernel) (by decide +kernel)
  rw [h, if_neg (by rw [v_t]; decide)]
end Go.Proofs.YthnhbiogaikpoaaDoor
