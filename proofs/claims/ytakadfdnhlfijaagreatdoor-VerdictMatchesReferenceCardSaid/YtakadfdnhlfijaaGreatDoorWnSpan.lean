/-
  The windows' 'Span' and 'Applies'.
-/
import Derived.Test.YtakadfdnhlfijaaGreatDoorWnDated
namespace Go.Proofs.YtakadfdnhlfijaaGreatDoor
open Go.RowKit Go.Cz Go.Cz.Ck Go.Cz.Wn
set_option linter.unusedSimpArgs false
set_option linter.unusedVariables false
attribute [local go_sem] bs_size bs_extract bs_append bs_toList
attribute [local irreducible] cList
/-- What a walk over a measure and a zone carries. -/
structure WE (w W : World) (B : Nat) (m : Ms) (x : Option Addr) (n c : Nat) (l : List Shift) : Prop where
  below : Below w.heap.size w W
  mb : Bk W B m.v 46
  zb : Bk W (B + 1) #[.slice x n c] 66
  sh : IsShifts W x n l
theorem WE.next {w W W' : World} {B : Nat} {m : Ms} {x : Option Addr} {n c : Nat} {l : List Shift} (h : WE w W B m x n c l) (hb : Below W.heap.size W W') : Hid (WE w W' B m x n c l) ∧ B < W'.heap.size ∧ B + 1 < W'.heap.size ∧
    W'.cell? ⟨B + 1, 0, none⟩ = some (.slice x n c) ∧ W'.cell? ⟨B, 9, none⟩ = some (.int .i64 m.fr) ∧ W'.cell? ⟨B, 10, none⟩ = some (.int .i64 m.un) ∧ W'.cell? ⟨B, 11, none⟩ = some (.int .i64 m.wi) := by
  have h1 := h.mb.below hb
  have h2 := h.zb.below hb
  exact ⟨⟨h.below.trans (hb.mono h.below.size), h1, h2, h.sh.below hb⟩, h1.lt, h2.lt, by rw [h2.cell]; rfl, by rw [h1.cell]; rfl, by rw [h1.cell]; rfl, by rw [h1.cell]; rfl⟩
theorem WE.start (w : World) (m : Ms) (x : Option Addr) (n c : Nat) (l : List Shift) (hx : IsShifts w x n l) : WE w ((w.alloc (.cells m.v 46)).alloc (.cells #[.slice x n c] 66)) w.heap.size m x n c l := by
  have hb : Below w.heap.size w ((w.alloc (.cells m.v 46)).alloc (.cells #[.slice x n c] 66)) := ((Below.refl _ _).alloc (by omega) _).alloc (by simp) _
  refine ⟨hb, (Bk.new _ _ _).alloc _, ?_, hx.below hb⟩
  have := Bk.new (w.alloc (.cells m.v 46)) #[.slice x n c] 66
  simpa using this
set_option maxHeartbeats 4000000 in
theorem Span_c (m : Ms) (x : Option Addr) (n c : Nat) (l : List Shift) (w : World) (hx : IsShifts w x n l) :
    Calls Tryz.prog 55 #[.agg m.v, .agg #[.slice x n c]] w fun e w' => e = .returned (.tuple #[.int .i64 (spanF l m.kind m.fr m.un m.wi).1, .int .i64 (spanF l m.kind m.fr m.un m.wi).2.1, .int .i64 (spanF l m.kind m.fr m.un m.wi).2.2]) ∧ Below w.heap.size w w' := by
  obtain ⟨B, hB⟩ : ∃ B, B = w.heap.size := ⟨_, rfl⟩
  have HE : Hid (WE w ((w.alloc (.cells m.v 46)).alloc (.cells #[.slice x n c] 66)) B m x n c l) := by rw [hB]; exact WE.start w m x n c l hx
  clear hx
  obtain ⟨id, auth, kind, target, op, name, cmp, num, ka, kn, kc, fr, un, wi⟩ := m
  dsimp only [Ms.v] at HE ⊢
  go_enter Tryz.func55, Tryz.ntmps55
  go_wp2_with fail
  rw [← hB] at *
  clear hB
  go_at_call 50
  refine (dated_c ⟨id, auth, kind, target, op, name, cmp, num, ka, kn, kc, fr, un, wi⟩ _).mono ?_
  rintro e W2 ⟨rfl, hb⟩
  dsimp only
  (try clear z1 z2 cz c9 c10 c11)
  obtain ⟨HE, z1, z2, cz, c9, c10, c11⟩ := HE.out.next hb
  dsimp only at c9 c10 c11
  clear hb
  cases hd : datedB kind fr un wi
  · have He : Hid (spanF l kind fr un wi = (0, 0, 1)) := by show _ = _; unfold spanF; rw [hd]; rfl
    clear hd
    go_wp2_with fail
    refine bodyPost_ret (results_tmp3 rfl _ _ _) (by rfl) ⟨?_, HE.out.below⟩
    rw [He.out]
    rfl
  go_wp2_with fail
  go_at_call 40
  refine (Valid_c x n c l W2 HE.out.sh).mono ?_
  rintro e W3 ⟨rfl, hb⟩
  (try clear z1 z2 cz c9 c10 c11)
  obtain ⟨HE, z1, z2, cz, c9, c10, c11⟩ := HE.out.next hb
  dsimp only at c9 c10 c11
  clear hb
  cases hv : validB l
  · have He : Hid (spanF l kind fr un wi = (0, 0, 1)) := by show _ = _; unfold spanF; rw [hd, hv]; rfl
    clear hd hv
    go_wp2_with fail
    refine bodyPost_ret (results_tmp3 rfl _ _ _) (by rfl) ⟨?_, HE.out.below⟩
    rw [He.out]
    rfl
  have HD := Lib.hid hd
  have HV := Lib.hid hv
  have hsp : spanF l kind fr un wi = if (instF l fr 0).2 = 0 then ((instF l fr 0).1, if un < 0 then -1 else beginF l un, 0) else (0, 0, 10) := by unfold spanF; rw [hd, hv]; rfl
  rcases hI : instF l fr 0 with ⟨t1, e1⟩
  rw [hI] at hsp
  have HI := Lib.hid hI
  have HS := Lib.hid hsp
  clear hd hv hI hsp
  go_wp2_with fail
  go_at_call 57
  refine (Begin_c x n c l fr W3 HE.out.sh).mono ?_
  rintro e W4 ⟨rfl, hb⟩
  rw [HI.out]
  (try clear z1 z2 cz c9 c10 c11)
  obtain ⟨HE, z1, z2, cz, c9, c10, c11⟩ := HE.out.next hb
  dsimp only at c9 c10 c11
  clear hb
  by_cases h1 : e1 = 0
  · have h1f : (e1 != 0) = false := by simp [h1]
    have HS2 := HS.out
    rw [if_pos h1] at HS2
    have HS3 := Lib.hid HS2
    clear HS HS2 h1
    rcases hI : instF l un 0 with ⟨t2, e2⟩
    have HI2 := Lib.hid hI
    clear hI
    go_wp2_with fail
    go_at_call 57
    refine (Begin_c x n c l un W4 HE.out.sh).mono ?_
    rintro e W5 ⟨rfl, hb⟩
    rw [HI2.out]
    (try clear z1 z2 cz c9 c10 c11)
    obtain ⟨HE, z1, z2, cz, c9, c10, c11⟩ := HE.out.next hb
    dsimp only at c9 c10 c11
    clear hb
    by_cases hun : un < 0
    · have He : Hid (spanF l kind fr un wi = (t1, -1, 0)) := by show _ = _; rw [HS3.out, if_pos hun]
      have hun1 : decide (un < 0) = true := decide_eq_true hun
      go_wp2_with fail
      refine bodyPost_ret (results_tmp3 rfl _ _ _) (by rfl) ⟨?_, HE.out.below⟩
      rw [He.out]
      rfl
    have hun1 : decide (un < 0) = false := decide_eq_false hun
    by_cases h2 : e2 = 0
    · have He : Hid (spanF l kind fr un wi = (t1, t2, 0)) := by show _ = _; rw [HS3.out, if_neg hun]; unfold beginF; rw [HI2.out, if_pos h2]
      have h2f : (e2 != 0) = false := by simp [h2]
      clear h2 hun
      go_wp2_with fail
      refine bodyPost_ret (results_tmp3 rfl _ _ _) (by rfl) ⟨?_, HE.out.below⟩
      rw [He.out]
      rfl
    · have He : Hid (spanF l kind fr un wi = (t1, -1, 0)) := by show _ = _; rw [HS3.out, if_neg hun]; unfold beginF; rw [HI2.out, if_neg h2]
      have h2f : (e2 != 0) = true := by simp [h2]
      clear h2 hun
      go_wp2_with fail
      refine bodyPost_ret (results_tmp3 rfl _ _ _) (by rfl) ⟨?_, HE.out.below⟩
      rw [He.out]
      rfl
  · have h1f : (e1 != 0) = true := by simp [h1]
    have He : Hid (spanF l kind fr un wi = (0, 0, 10)) := by show _ = _; rw [HS.out, if_neg h1]
    clear h1
    go_wp2_with fail
    refine bodyPost_ret (results_tmp3 rfl _ _ _) (by rfl) ⟨?_, HE.out.below⟩
    rw [He.out]
    rfl
end Go.Proofs.YtakadfdnhlfijaaGreatDoor
