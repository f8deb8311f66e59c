/-
  The laws' 'reached'.
-/
import Derived.Test.YtkcbdlnoobjmbaaDoorWnLaw
namespace Go.Cz.Wn
open Go.Cz.Ck
/-- Whether the local time at an instant is not earlier than a day. -/
def reachB (l : List Shift) (t d : Int) : Bool := validB l && (instB t && decide (d * 1440 ≤ t + off l t))
theorem reach_true {l : List Shift} {t d : Int} (h : validB l = true) (h1 : 0 ≤ t) (h2 : t ≤ 144001439) (h3 : d * 1440 ≤ t + off l t) : reachB l t d = true := by
  unfold reachB; rw [h, instB_true.2 ⟨h1, h2⟩, decide_eq_true h3]; rfl
theorem reach_false {l : List Shift} {t d : Int} (h : 0 ≤ t → t ≤ 144001439 → t + off l t < d * 1440) : reachB l t d = false := by
  cases hr : reachB l t d
  · rfl
  · exfalso
    simp only [reachB, Bool.and_eq_true, decide_eq_true_eq] at hr
    obtain ⟨-, h1, h2⟩ := hr
    obtain ⟨h3, h4⟩ := instB_true.1 h1
    have := h h3 h4
    omega
theorem reach_inv {l : List Shift} {t d : Int} (h : reachB l t d = true) : 0 ≤ t ∧ t ≤ 144001439 ∧ d * 1440 ≤ t + off l t := by
  simp only [reachB, Bool.and_eq_true, decide_eq_true_eq] at h
  obtain ⟨-, h1, h2⟩ := h
  obtain ⟨h3, h4⟩ := instB_true.1 h1
  exact ⟨h3, h4, h2⟩
theorem reach_local {l : List Shift} {t d a b e : Int} (h : localF l t = (a, b, e)) : reachB l t d = (e == 0 && decide (d ≤ a)) := by
  unfold localF at h
  cases hv : validB l
  · rw [hv] at h
    simp only [Bool.false_and, Bool.false_eq_true, if_false, Prod.mk.injEq] at h
    obtain ⟨rfl, rfl, rfl⟩ := h
    unfold reachB; rw [hv]; rfl
  cases hi : instB t
  · rw [hv, hi] at h
    simp only [Bool.and_false, Bool.false_eq_true, if_false, Prod.mk.injEq] at h
    obtain ⟨rfl, rfl, rfl⟩ := h
    unfold reachB; rw [hv, hi]; rfl
  rw [hv, hi, if_pos (by rfl)] at h
  simp only [Prod.mk.injEq] at h
  obtain ⟨rfl, -, rfl⟩ := h
  unfold reachB
  rw [hv, hi]
  simp only [Bool.true_and, beq_self_eq_true]
  rw [Bool.eq_iff_iff, decide_eq_true_iff, decide_eq_true_iff]
  omega
end Go.Cz.Wn
namespace Go.Proofs.YtkcbdlnoobjmbaaDoor
open Go.RowKit Go.Cz Go.Cz.Ck Go.Cz.Wn
set_option linter.unusedSimpArgs false
set_option linter.unusedVariables false
attribute [local go_sem] bs_size bs_extract bs_append bs_toList
attribute [local irreducible] cList
set_option maxHeartbeats 1000000 in
theorem reached_c (x : Option Addr) (n c : Nat) (l : List Shift) (t d : Int) (w : World) (hx : IsShifts w x n l) :
    Calls Tryd.prog 20 #[.agg #[.slice x n c], .int .i64 t, .int .i64 d] w fun e w' => e = .returned (.bool (reachB l t d)) ∧ Below w.heap.size w w' := by
  obtain ⟨B, hB⟩ : ∃ B, B = w.heap.size := ⟨_, rfl⟩
  have HE : Hid (ZE w (w.alloc (.cells #[.slice x n c] 29)) B x n c l) := by
    subst hB
    have hb : Below w.heap.size w (w.alloc (.cells #[.slice x n c] 29)) := (Below.refl _ _).alloc (by omega) _
    exact ⟨hb, Bk.new _ _ _, hx.below hb⟩
  clear hx
  rcases hI : localF l t with ⟨a, b, e1⟩
  have HI := Lib.hid hI
  have HR := Lib.hid (reach_local (d := d) hI)
  clear hI
  go_enter Tryd.func20, Tryd.ntmps20
  go_wp2_with fail
  go_at_call 21
  refine (Local_c x n c l t _ HE.out.sh).mono ?_
  rintro e W2 ⟨rfl, hb⟩
  rw [HI.out]
  replace HE := (HE.out.next hb).1
  clear hb HI
  by_cases h0 : e1 = 0
  · have h1 : (e1 == 0) = true := by simp [h0]
    obtain ⟨q, hq⟩ : ∃ q, q = decide (d ≤ a) := ⟨_, rfl⟩
    have He : Hid (reachB l t d = q) := by show _ = _; rw [HR.out, h1, hq]; rfl
    have hq2 : decide (d ≤ a) = q := hq.symm
    clear HR h0 hq
    go_wp2_with fail
    go_ret
    exact ⟨by rw [He.out]; rfl, HE.out.below⟩
  · have h1 : (e1 == 0) = false := by simp [h0]
    have He : Hid (reachB l t d = false) := by show _ = _; rw [HR.out, h1]; rfl
    clear HR h0
    go_wp2_with fail
    go_ret
    exact ⟨by rw [He.out]; rfl, HE.out.below⟩
end Go.Proofs.YtkcbdlnoobjmbaaDoor
