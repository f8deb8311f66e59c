/-
  The reference clock's 'Local', given what its 'Valid' returns.
-/
import Derived.Test.YthnhbiogaikpoaaDoorRcPlain
import Derived.Test.YthnhbiogaikpoaaDoorRcOff
namespace Go.Proofs.YthnhbiogaikpoaaDoor
open Go.RowKit Go.Cz Go.Cz.Ck
set_option linter.unusedSimpArgs false
set_option linter.unusedVariables false
attribute [local go_sem] bs_size bs_extract bs_append bs_toList
attribute [local irreducible] cList
/-- What is to be shown of the reference's 'Valid'. -/
def RValid : Prop := ∀ (x : Option Addr) (n c : Nat) (l : List Shift) (w : World), IsShifts w x n l →
    Calls Tryd.prog 23 #[.agg #[.slice x n c]] w fun e w' => e = .returned (.bool (validB l)) ∧ Below w.heap.size w w'
set_option maxHeartbeats 2000000 in
theorem rLocal_c (hV : RValid) (x : Option Addr) (n c : Nat) (l : List Shift) (t : Int) (w : World) (hx : IsShifts w x n l) :
    Calls Tryd.prog 14 #[.agg #[.slice x n c], .int .i64 t] w fun e w' => e = .returned (.tuple #[.int .i64 (localF l t).1, .int .i64 (localF l t).2.1, .int .i64 (localF l t).2.2]) ∧ Below w.heap.size w w' := by
  obtain ⟨B, hB⟩ : ∃ B, B = w.heap.size := ⟨_, rfl⟩
  have HE : Hid (ZE w (w.alloc (.cells #[.slice x n c] 24)) B x n c l) := by
    subst hB
    have hb : Below w.heap.size w (w.alloc (.cells #[.slice x n c] 24)) := (Below.refl _ _).alloc (by omega) _
    exact ⟨hb, Bk.new _ _ _, hx.below hb⟩
  have HV := Lib.hid hV
  clear hx hV
  go_enter Tryd.func14, Tryd.ntmps14
  go_wp2_with fail
  rw [← hB] at *
  clear hB
  obtain ⟨W1, hW1⟩ : ∃ W1, W1 = w.alloc (.cells #[.slice x n c] 24) := ⟨_, rfl⟩
  rw [← hW1] at HE ⊢
  clear hW1
  go_at_call 23
  refine (HV.out x n c l W1 HE.out.sh).mono ?_
  rintro e W2 ⟨rfl, hb⟩
  obtain ⟨HE, lz, cz⟩ := HE.out.next hb
  clear hb HV
  cases hv : validB l
  · have HL : Hid (localF l t = (0, 0, 1)) := by show localF l t = _; unfold localF; rw [hv]; rfl
    clear hv
    go_wp2_with fail
    refine bodyPost_ret (results_tmp3 rfl _ _ _) (by rfl) ⟨?_, HE.out.below⟩
    rw [HL.out]; rfl
  go_wp2_with fail
  go_at_call 28
  refine (rIs_c t W2).mono ?_
  rintro e W3 ⟨rfl, hb⟩
  obtain rfl : W3 = W2 := hb
  cases hi : instB t
  · have HL : Hid (localF l t = (0, 0, 1)) := by show localF l t = _; unfold localF; rw [hv, hi]; rfl
    clear hv hi
    go_wp2_with fail
    refine bodyPost_ret (results_tmp3 rfl _ _ _) (by rfl) ⟨?_, HE.out.below⟩
    rw [HL.out]; rfl
  obtain ⟨t1, t2⟩ := instB_true.1 hi
  have HL := Lib.hid (rlocal hv t1 t2)
  have ho := off_range hv t
  rw [← roff_off hv t1 t2] at ho
  obtain ⟨o, ho2⟩ : ∃ o, o = roff t l 0 := ⟨_, rfl⟩
  rw [← ho2] at ho HL
  have Ho := Lib.hid ho2.symm
  obtain ⟨o1, o2⟩ := ho
  clear hv hi ho2
  go_wp2_with fail
  go_at_call 29
  refine (rOffset_c x n c l t W3 HE.out.sh).mono ?_
  rintro e W4 ⟨rfl, hb⟩
  rw [Ho.out]
  clear lz cz
  obtain ⟨HE, lz, cz⟩ := HE.out.next hb
  clear hb
  go_wp2_with fail
  refine bodyPost_ret (results_tmp3 rfl _ _ _) (by rfl) ⟨?_, HE.out.below⟩
  rw [HL.out]; rfl
end Go.Proofs.YthnhbiogaikpoaaDoor
