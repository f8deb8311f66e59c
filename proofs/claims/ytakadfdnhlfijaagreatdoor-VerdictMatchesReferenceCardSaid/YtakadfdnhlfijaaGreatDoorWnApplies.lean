/-
  The windows' 'Applies'.
-/
import Derived.Test.YtakadfdnhlfijaaGreatDoorWnSpan
namespace Go.Proofs.YtakadfdnhlfijaaGreatDoor
open Go.RowKit Go.Cz Go.Cz.Ck Go.Cz.Wn
set_option linter.unusedSimpArgs false
set_option linter.unusedVariables false
attribute [local go_sem] bs_size bs_extract bs_append bs_toList
attribute [local irreducible] cList
set_option maxHeartbeats 4000000 in
theorem Applies_c (m : Ms) (x : Option Addr) (n c : Nat) (l : List Shift) (signed now : Int) (w : World) (hx : IsShifts w x n l) :
    Calls Tryz.prog 30 #[.agg m.v, .agg #[.slice x n c], .int .i64 signed, .int .i64 now] w fun e w' => e = .returned (.bool (appliesF l m.kind m.fr m.un m.wi signed now)) ∧ Below w.heap.size w w' := by
  obtain ⟨B, hB⟩ : ∃ B, B = w.heap.size := ⟨_, rfl⟩
  have HE : Hid (WE w ((w.alloc (.cells m.v 46)).alloc (.cells #[.slice x n c] 66)) B m x n c l) := by rw [hB]; exact WE.start w m x n c l hx
  clear hx
  obtain ⟨id, auth, kind, target, op, name, cmp, num, ka, kn, kc, fr, un, wi⟩ := m
  dsimp only [Ms.v] at HE ⊢
  rcases hS : spanF l kind fr un wi with ⟨S1, S2, S3⟩
  have HS := Lib.hid hS
  clear hS
  go_enter Tryz.func30, Tryz.ntmps30
  go_wp2_with fail
  rw [← hB] at *
  clear hB
  go_at_call 55
  refine (Span_c ⟨id, auth, kind, target, op, name, cmp, num, ka, kn, kc, fr, un, wi⟩ x n c l _ HE.out.sh).mono ?_
  rintro e W2 ⟨rfl, hb⟩
  dsimp only
  rw [HS.out]
  (try clear z1 z2 cz c9 c10 c11)
  obtain ⟨HE, z1, z2, cz, c9, c10, c11⟩ := HE.out.next hb
  dsimp only at c9 c10 c11
  clear hb
  by_cases h3 : S3 = 0
  · subst h3
    have hz := span_zero (l := l) (kind := kind) (fr := fr) (un := un) (wi := wi) (by rw [HS.out])
    obtain ⟨hdt, hv, -⟩ := hz
    obtain ⟨d1, d2, d3, d4, -, -⟩ := dated_in hdt
    have HV := Lib.hid hv
    clear hdt hv
    cases hs : instB signed
    · have He := Lib.hid (applies_no (now := now) HS.out (.inr (.inl hs)))
      have Hs := Lib.hid hs
      clear hs
      go_wp2_with fail
      go_at_call 56
      refine (isInstant_c signed _).mono ?_
      rintro e W3 ⟨rfl, rfl⟩
      rw [Hs.out]
      go_wp2_with fail
      go_ret
      exact ⟨by rw [He.out]; rfl, HE.out.below⟩
    have Hs := Lib.hid hs
    cases hn : instB now
    · have He := Lib.hid (applies_no (signed := signed) HS.out (.inr (.inr (.inl hn))))
      have Hn := Lib.hid hn
      clear hs hn
      go_wp2_with fail
      go_at_call 56
      refine (isInstant_c signed _).mono ?_
      rintro e W3 ⟨rfl, rfl⟩
      rw [Hs.out]
      go_wp2_with fail
      go_at_call 56
      refine (isInstant_c now _).mono ?_
      rintro e W3 ⟨rfl, rfl⟩
      rw [Hn.out]
      go_wp2_with fail
      go_ret
      exact ⟨by rw [He.out]; rfl, HE.out.below⟩
    have Hn := Lib.hid hn
    clear hs hn
    by_cases h4 : now < S1
    · have He := Lib.hid (applies_no (signed := signed) HS.out (.inr (.inr (.inr (.inl h4)))))
      have h4b : decide (now < S1) = true := decide_eq_true h4
      go_wp2_with fail
      go_at_call 56
      refine (isInstant_c signed _).mono ?_
      rintro e W3 ⟨rfl, rfl⟩
      rw [Hs.out]
      go_wp2_with fail
      go_at_call 56
      refine (isInstant_c now _).mono ?_
      rintro e W3 ⟨rfl, rfl⟩
      rw [Hn.out]
      go_wp2_with fail
      go_ret
      exact ⟨by rw [He.out]; rfl, HE.out.below⟩
    have h4b : decide (now < S1) = false := decide_eq_false h4
    by_cases h5 : 0 ≤ S2 ∧ S2 ≤ now
    · have He := Lib.hid (applies_no (signed := signed) HS.out (.inr (.inr (.inr (.inr h5)))))
      obtain ⟨h51, h52⟩ := h5
      have h5b : decide (0 ≤ S2) = true := decide_eq_true h51
      have h5c : decide (S2 ≤ now) = true := decide_eq_true h52
      go_wp2_with fail
      go_at_call 56
      refine (isInstant_c signed _).mono ?_
      rintro e W3 ⟨rfl, rfl⟩
      rw [Hs.out]
      go_wp2_with fail
      go_at_call 56
      refine (isInstant_c now _).mono ?_
      rintro e W3 ⟨rfl, rfl⟩
      rw [Hn.out]
      go_wp2_with fail
      go_ret
      exact ⟨by rw [He.out]; rfl, HE.out.below⟩
    have hap := applies_ok HS.out Hs.out Hn.out (by omega) (by omega)
    have HA := Lib.hid hap
    clear hap
    have h5b : (decide (0 ≤ S2) && decide (S2 ≤ now)) = false := by simp; omega
    by_cases h6 : S1 ≤ signed
    · have He : Hid (appliesF l kind fr un wi signed now = true) := by show _ = _; rw [HA.out, decide_eq_true h6]; rfl
      have h6b : decide (S1 ≤ signed) = true := decide_eq_true h6
      by_cases h7 : 0 ≤ S2
      · have h7b : decide (S2 ≤ now) = false := decide_eq_false (by omega)
        clear h5 h5b
        go_wp2_with fail
        go_at_call 56
        refine (isInstant_c signed _).mono ?_
        rintro e W3 ⟨rfl, rfl⟩
        rw [Hs.out]
        go_wp2_with fail
        go_at_call 56
        refine (isInstant_c now _).mono ?_
        rintro e W3 ⟨rfl, rfl⟩
        rw [Hn.out]
        go_wp2_with fail
        go_ret
        exact ⟨by rw [He.out]; rfl, HE.out.below⟩
      · clear h5 h5b
        go_wp2_with fail
        go_at_call 56
        refine (isInstant_c signed _).mono ?_
        rintro e W3 ⟨rfl, rfl⟩
        rw [Hs.out]
        go_wp2_with fail
        go_at_call 56
        refine (isInstant_c now _).mono ?_
        rintro e W3 ⟨rfl, rfl⟩
        rw [Hn.out]
        go_wp2_with fail
        go_ret
        exact ⟨by rw [He.out]; rfl, HE.out.below⟩
    rcases hI : instF l (fr + wi) 0 with ⟨t, e1⟩
    have HI := Lib.hid hI
    clear hI
    have h6b : decide (S1 ≤ signed) = false := decide_eq_false h6
    obtain ⟨q, hq⟩ : ∃ q, q = (e1 == 0 && decide (t ≤ now)) := ⟨_, rfl⟩
    have He : Hid (appliesF l kind fr un wi signed now = q) := by
      show _ = _
      rw [HA.out, decide_eq_false h6, hq]
      have hi := inst_ok HV.out (fr + wi)
      rw [HI.out] at hi
      unfold beginF
      rw [HI.out]
      dsimp only at hi ⊢
      rcases hi with ⟨e0, e2, -⟩ | ⟨e0, e2⟩
      · subst e0
        simp [e2]
      · subst e0
        simp
    have Hq := Lib.hid hq
    clear hq
    by_cases h7 : 0 ≤ S2
    all_goals
      (try have h7b : decide (S2 ≤ now) = false := decide_eq_false (by omega))
      clear h5 h5b
      go_wp2_with fail
      go_at_call 56
      refine (isInstant_c signed _).mono ?_
      rintro e W3 ⟨rfl, rfl⟩
      rw [Hs.out]
      go_wp2_with fail
      go_at_call 56
      refine (isInstant_c now _).mono ?_
      rintro e W3 ⟨rfl, rfl⟩
      rw [Hn.out]
      go_wp2_with fail
      go_at_call 57
      refine (Begin_c x n c l (fr + wi) _ HE.out.sh).mono ?_
      rintro e W4 ⟨rfl, hb⟩
      rw [HI.out]
      (try clear z1 z2 cz c9 c10 c11)
      obtain ⟨HE, z1, z2, cz, c9, c10, c11⟩ := HE.out.next hb
      dsimp only at c9 c10 c11
      clear hb
      by_cases h8 : e1 = 0
      · have h8b : (e1 == 0) = true := by simp [h8]
        have hq2 := Hq.out
        rw [h8b, Bool.true_and] at hq2
        have hq3 : decide (t ≤ now) = q := hq2.symm
        clear hq2 h8
        go_wp2_with fail
        go_ret
        exact ⟨by rw [He.out]; rfl, HE.out.below⟩
      · have h8b : (e1 == 0) = false := by simp [h8]
        have hq2 := Hq.out
        rw [h8b, Bool.false_and] at hq2
        subst hq2
        clear h8
        go_wp2_with fail
        go_ret
        exact ⟨by rw [He.out]; rfl, HE.out.below⟩
  · have He := Lib.hid (applies_no (signed := signed) (now := now) HS.out (.inl h3))
    have h3b : (S3 != 0) = true := by simp [h3]
    clear h3
    go_wp2_with fail
    go_ret
    exact ⟨by rw [He.out]; rfl, HE.out.below⟩
end Go.Proofs.YtakadfdnhlfijaaGreatDoor
