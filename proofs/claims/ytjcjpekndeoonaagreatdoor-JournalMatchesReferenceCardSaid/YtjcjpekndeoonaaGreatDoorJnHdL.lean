/-
  The example of the journal's laws: what each call answers.
-/
import Derived.Test.YtjcjpekndeoonaaGreatDoorJnSame
namespace Go.Cz.Jn
set_option linter.unusedSimpArgs false
set_option linter.unusedVariables false
def hrs : List Bytes := [[97], [98, 99]]
def hm0 : Dk.Dm := Dk.fresh 6
def hj0 : Jm := ⟨6, 0, [], false⟩
def hm1 : Dk.Dm := (appendB hm0 hj0 hrs).1
def hj1 : Jm := (appendB hm0 hj0 hrs).2.2
def hm2 : Dk.Dm := Dk.rot hm1 0 5 1
def hm3 : Dk.Dm := (openB hm2).1
def hm4 : Dk.Dm := Dk.rot hm3 2 40 1
theorem h_inv0 : Inv hm0 hj0 := inv_fresh (by decide) (by decide)
theorem h_app : appendB hm0 hj0 hrs = (hm1, 0, hj1) ∧ Inv hm1 hj1 := by
  have h := h_inv0.append (rs := hrs) (by decide) (by decide +kernel) (by decide)
  have e : appendB hm0 hj0 hrs = (hm1, 0, hj1) := by
    unfold hm1 hj1
    rw [h.1]
  refine ⟨e, ?_⟩
  have h2 := h.2
  rw [h.1] at e
  simp only [Prod.mk.injEq, true_and] at e
  rw [← e.1, ← e.2]
  exact h2
theorem h_j1 : hj1.sectors = 6 ∧ hj1.count = 1 ∧ hj1.recs = hrs ∧ hj1.broken = false := by decide +kernel
theorem h_full : appendB hm1 hj1 [List.replicate 200 0] = (hm1, 28, hj1) := by
  unfold appendB
  rw [if_neg (by rw [h_j1.2.2.2]; decide), if_neg (by decide +kernel), if_pos (by unfold Jm.room; rw [h_j1.1, h_j1.2.1]; decide +kernel)]
theorem long_rep (n : Nat) : longB [List.replicate n 0] = decide (20000 < n) := by simp [longB]
theorem h_long : appendB hm1 hj1 [List.replicate 20001 0] = (hm1, 2, hj1) := by
  unfold appendB
  rw [if_neg (by rw [h_j1.2.2.2]; decide), if_pos (by rw [long_rep]; decide)]
theorem calm_back {m : Dk.Dm} (h : Calm m) (a b : Int) : Dk.start (Dk.fail m a b) = m := by
  obtain ⟨st, q, off, al⟩ := m
  obtain ⟨h1, h2, h3, -⟩ := h
  dsimp only at h1 h2 h3
  subst h1 h2 h3
  unfold Dk.fail Dk.start
  simp [Dk.settle]
theorem h_open2 : (openB hm2).2.1 = 0 ∧ (openB hm2).2.2.recs = hrs := by decide +kernel
theorem h_open4 : (openB hm4).2.1 = 27 := by decide +kernel
theorem h_open6 : (openB (Dk.fresh 2)).2.1 = 1 := by decide +kernel
theorem h_q : hm1.q.length ≤ 1000 ∧ hm2.q.length ≤ 1000 ∧ hm4.q.length ≤ 1000 := by decide +kernel
end Go.Cz.Jn
namespace Go.Proofs.YtjcjpekndeoonaaGreatDoor
open Go.RowKit Go.Cz Go.Cz.Jn
set_option linter.unusedSimpArgs false
set_option linter.unusedVariables false
attribute [local go_sem] bs_size bs_extract bs_append bs_toList
set_option maxRecDepth 10000 in
theorem text_c (n : Nat) (w : World) (h1 : n ≤ 1000000) : Calls Tryz.prog 31 #[.int .i64 (n : Int)] w fun e w' => e = .returned (.string (bs (List.replicate n 0))) ∧ Below w.heap.size w w' := by
  have hz : (madeCells #[Value.int .u8 0] n) = (bcells (List.replicate n 0)).toArray := by
    apply Array.ext
    · simp [madeCells, bcells]
    · intro i h1 h2
      simp [madeCells, bcells, Nat.mod_one]
  go_enter Tryz.func31, Tryz.ntmps31
  go_wp2_with (refine wpList_plain rfl fun K hK => wp_make (.tmp 3) (.tmp 3) 56 (by rfl) 5 (.int .u8 0) 1 1 Tryz.underlying56 info_byte n n (by rfl) (by rfl) (by omega) (by omega) (by omega) ?_)
  rw [run_convert_text (P := Tryz.prog) (w.alloc (.cells (bcells (List.replicate n 0)).toArray 5)) 56 5 9 Tryz.underlying56 (by kernel_rfl) (by kernel_rfl) w.heap.size 0 n n (List.replicate n 0) 5 (0, 0) (new_heap w _ _ rfl) (by simp)]
  go_wp2_with fail
  go_ret
  exact ⟨by simp, (Below.refl _ _).alloc (Nat.le_refl _) _⟩
end Go.Proofs.YtjcjpekndeoonaaGreatDoor
