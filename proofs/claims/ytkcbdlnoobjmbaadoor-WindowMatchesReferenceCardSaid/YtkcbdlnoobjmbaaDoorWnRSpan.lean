/-
  The reference's 'Span' and 'Applies' for windows.
-/
import Derived.Test.YtkcbdlnoobjmbaaDoorWnSpan
import Derived.Test.YtkcbdlnoobjmbaaDoorWnRDated
namespace Go.Proofs.YtkcbdlnoobjmbaaDoor
open Go.RowKit Go.Cz Go.Cz.Ck Go.Cz.Wn
set_option linter.unusedSimpArgs false
set_option linter.unusedVariables false
attribute [local go_sem] bs_size bs_extract bs_append bs_toList
attribute [local irreducible] cList
set_option maxHeartbeats 4000000 in
theorem rSpan_c (m : Ms) (x : Option Addr) (n c : Nat) (l : List Shift) (w : World) (hx : IsShifts w x n l) :
    Calls Tryd.prog 12 #[.agg m.v, .agg #[.slice x n c]] w fun e w' => e = .returned (.tuple #[.int .i64 (spanF l m.kind m.fr m.un m.wi).1, .int .i64 (spanF l m.kind m.fr m.un m.wi).2.1, .int .i64 (spanF l m.kind m.fr m.un m.wi).2.2]) ∧ Below w.heap.size w w' := by
  obtain ⟨B, hB⟩ : ∃ B, B = w.heap.size := ⟨_, rfl⟩
  have HE : Hid (WE w ((w.alloc (.cells m.v 26)).alloc (.cells #[.slice x n c] 29)) B m x n c l) := by rw [hB]; exact WE.start w m x n c l hx
  clear hx
  obtain ⟨id, auth, kind, target, op, name, cmp, num, ka, kn, kc, fr, un, wi⟩ := m
  dsimp only [Ms.v] at HE ⊢
  go_enter Tryd.func12, Tryd.ntmps12
  go_wp2_with fail
  rw [← hB] at *
  clear hB
  go_at_call 24
  refine (rDated_c ⟨id, auth, kind, target, op, name, cmp, num, ka, kn, kc, fr, un, wi⟩ _).mono ?_
  rintro e W2 ⟨rfl, hb⟩
  dsimp only
  (try clear z1 z2 cz c9 c10 c11)
  obtain ⟨HE, z1, z2, cz, c9, c10, c11⟩ := HE.out.next hb
  dsimp only at c9 c10 c11
  clear hb
  cases hd : datedB kind fr un wi
  · have He : Hid (spanF l kind fr un wi = (0, 0, 1)) := by show _ = _; unfold spanF; rw [hd]; rfl
    clear hd
    go_wp2_with fail
    refine bodyPost_ret (results_tmp3 rfl _ _ _) (by rfl) ⟨?_, HE.out.below⟩
    rw [He.out]
    rfl
  go_wp2_with fail
  go_at_call 25
  refine (rValid_c x n c l W2 HE.out.sh).mono ?_
  rintro e W3 ⟨rfl, hb⟩
  (try clear z1 z2 cz c9 c10 c11)
  obtain ⟨HE, z1, z2, cz, c9, c10, c11⟩ := HE.out.next hb
  dsimp only at c9 c10 c11
  clear hb
  cases hv : validB l
  · have He : Hid (spanF l kind fr un wi = (0, 0, 1)) := by show _ = _; unfold spanF; rw [hd, hv]; rfl
    clear hd hv
    go_wp2_with fail
    refine bodyPost_ret (results_tmp3 rfl _ _ _) (by rfl) ⟨?_, HE.out.below⟩
    rw [He.out]
    rfl
  have hsp : spanF l kind fr un wi = if (instF l fr 0).2 = 0 then ((instF l fr 0).1, if un < 0 then -1 else beginF l un, 0) else (0, 0, 10) := by unfold spanF; rw [hd, hv]; rfl
  obtain ⟨bf, hbf⟩ : ∃ bf, bf = beginF l fr := ⟨_, rfl⟩
  have hsp2 : spanF l kind fr un wi = if bf < 0 then (0, 0, 10) else (bf, if un < 0 then -1 else beginF l un, 0) := by
    rw [hsp, hbf]
    unfold beginF
    rcases inst_ok hv fr with ⟨h1, h2, h3⟩ | ⟨h1, h2⟩
    · rw [if_pos h1, if_pos h1, if_neg (show ¬ (instF l fr 0).1 < 0 by omega)]
    · have h3 : ¬ (instF l fr 0).2 = 0 := by omega
      rw [if_neg h3, if_neg h3, if_pos (show (-1 : Int) < 0 by omega)]
  have HB := Lib.hid hbf.symm
  have HS := Lib.hid hsp2
  clear hd hv hbf hsp hsp2
  go_wp2_with fail
  go_at_call 26
  refine (rBegin_c x n c l fr W3 HE.out.sh).mono ?_
  rintro e W4 ⟨rfl, hb⟩
  rw [HB.out]
  (try clear z1 z2 cz c9 c10 c11)
  obtain ⟨HE, z1, z2, cz, c9, c10, c11⟩ := HE.out.next hb
  dsimp only at c9 c10 c11
  clear hb
  by_cases h1 : bf < 0
  · have He : Hid (spanF l kind fr un wi = (0, 0, 10)) := by show _ = _; rw [HS.out, if_pos h1]
    have h1f : decide (bf < 0) = true := decide_eq_true h1
    go_wp2_with fail
    refine bodyPost_ret (results_tmp3 rfl _ _ _) (by rfl) ⟨?_, HE.out.below⟩
    rw [He.out]
    rfl
  have HS2 := HS.out
  rw [if_neg h1] at HS2
  have HS3 := Lib.hid HS2
  have h1f : decide (bf < 0) = false := decide_eq_false h1
  clear HS HS2
  by_cases hun : un < 0
  · have He : Hid (spanF l kind fr un wi = (bf, -1, 0)) := by show _ = _; rw [HS3.out, if_pos hun]
    have hun1 : decide (0 ≤ un) = false := decide_eq_false (by omega)
    go_wp2_with fail
    refine bodyPost_ret (results_tmp3 rfl _ _ _) (by rfl) ⟨?_, HE.out.below⟩
    rw [He.out]
    rfl
  have hun1 : decide (0 ≤ un) = true := decide_eq_true (by omega)
  obtain ⟨bu, hbu⟩ : ∃ bu, bu = beginF l un := ⟨_, rfl⟩
  have He : Hid (spanF l kind fr un wi = (bf, bu, 0)) := by show _ = _; rw [HS3.out, if_neg hun, hbu]
  have HBU := Lib.hid hbu.symm
  clear hbu
  go_wp2_with fail
  go_at_call 26
  refine (rBegin_c x n c l un W4 HE.out.sh).mono ?_
  rintro e W5 ⟨rfl, hb⟩
  rw [HBU.out]
  (try clear z1 z2 cz c9 c10 c11)
  obtain ⟨HE, z1, z2, cz, c9, c10, c11⟩ := HE.out.next hb
  dsimp only at c9 c10 c11
  clear hb
  go_wp2_with fail
  refine bodyPost_ret (results_tmp3 rfl _ _ _) (by rfl) ⟨?_, HE.out.below⟩
  rw [He.out]
  rfl
set_option maxHeartbeats 4000000 in
theorem rApplies_c (m : Ms) (x : Option Addr) (n c : Nat) (l : List Shift) (signed now : Int) (w : World) (hx : IsShifts w x n l) :
    Calls Tryd.prog 14 #[.agg m.v, .agg #[.slice x n c], .int .i64 signed, .int .i64 now] w fun e w' => e = .returned (.bool (appliesF l m.kind m.fr m.un m.wi signed now)) ∧ Below w.heap.size w w' := by
  obtain ⟨B, hB⟩ : ∃ B, B = w.heap.size := ⟨_, rfl⟩
  have HE : Hid (WE w ((w.alloc (.cells m.v 26)).alloc (.cells #[.slice x n c] 29)) B m x n c l) := by rw [hB]; exact WE.start w m x n c l hx
  clear hx
  obtain ⟨id, auth, kind, target, op, name, cmp, num, ka, kn, kc, fr, un, wi⟩ := m
  dsimp only [Ms.v] at HE ⊢
  rcases hS : spanF l kind fr un wi with ⟨S1, S2, S3⟩
  have HS := Lib.hid hS
  clear hS
  go_enter Tryd.func14, Tryd.ntmps14
  go_wp2_with fail
  rw [← hB] at *
  clear hB
  go_at_call 12
  refine (rSpan_c ⟨id, auth, kind, target, op, name, cmp, num, ka, kn, kc, fr, un, wi⟩ x n c l _ HE.out.sh).mono ?_
  rintro e W2 ⟨rfl, hb⟩
  dsimp only
  rw [HS.out]
  (try clear z1 z2 cz c9 c10 c11)
  obtain ⟨HE, z1, z2, cz, c9, c10, c11⟩ := HE.out.next hb
  dsimp only at c9 c10 c11
  clear hb
  by_cases h3 : S3 = 0
  · subst h3
    have hz := span_zero (l := l) (kind := kind) (fr := fr) (un := un) (wi := wi) (by rw [HS.out])
    obtain ⟨hdt, hv, -⟩ := hz
    obtain ⟨d1, d2, d3, d4, -, -⟩ := dated_in hdt
    have HV := Lib.hid hv
    clear hdt hv
    cases hs : instB signed
    · have He := Lib.hid (applies_no (now := now) HS.out (.inr (.inl hs)))
      have Hs := Lib.hid hs
      clear hs
      go_wp2_with fail
      go_at_call 28
      refine (rIs_c signed _).mono ?_
      rintro e W3 ⟨rfl, rfl⟩
      rw [Hs.out]
      go_wp2_with fail
      go_ret
      exact ⟨by rw [He.out]; rfl, HE.out.below⟩
    have Hs := Lib.hid hs
    cases hn : instB now
    · have He := Lib.hid (applies_no (signed := signed) HS.out (.inr (.inr (.inl hn))))
      have Hn := Lib.hid hn
      clear hs hn
      go_wp2_with fail
      go_at_call 28
      refine (rIs_c signed _).mono ?_
      rintro e W3 ⟨rfl, rfl⟩
      rw [Hs.out]
      go_wp2_with fail
      go_at_call 28
      refine (rIs_c now _).mono ?_
      rintro e W3 ⟨rfl, rfl⟩
      rw [Hn.out]
      go_wp2_with fail
      go_ret
      exact ⟨by rw [He.out]; rfl, HE.out.below⟩
    have Hn := Lib.hid hn
    clear hs hn
    by_cases h4 : now < S1
    · have He := Lib.hid (applies_no (signed := signed) HS.out (.inr (.inr (.inr (.inl h4)))))
      have h4b : decide (now < S1) = true := decide_eq_true h4
      go_wp2_with fail
      go_at_call 28
      refine (rIs_c signed _).mono ?_
      rintro e W3 ⟨rfl, rfl⟩
      rw [Hs.out]
      go_wp2_with fail
      go_at_call 28
      refine (rIs_c now _).mono ?_
      rintro e W3 ⟨rfl, rfl⟩
      rw [Hn.out]
      go_wp2_with fail
      go_ret
      exact ⟨by rw [He.out]; rfl, HE.out.below⟩
    have h4b : decide (now < S1) = false := decide_eq_false h4
    by_cases h5 : 0 ≤ S2 ∧ S2 ≤ now
    · have He := Lib.hid (applies_no (signed := signed) HS.out (.inr (.inr (.inr (.inr h5)))))
      obtain ⟨h51, h52⟩ := h5
      have h5b : decide (0 ≤ S2) = true := decide_eq_true h51
      have h5c : decide (S2 ≤ now) = true := decide_eq_true h52
      go_wp2_with fail
      go_at_call 28
      refine (rIs_c signed _).mono ?_
      rintro e W3 ⟨rfl, rfl⟩
      rw [Hs.out]
      go_wp2_with fail
      go_at_call 28
      refine (rIs_c now _).mono ?_
      rintro e W3 ⟨rfl, rfl⟩
      rw [Hn.out]
      go_wp2_with fail
      go_ret
      exact ⟨by rw [He.out]; rfl, HE.out.below⟩
    have hap := applies_ok HS.out Hs.out Hn.out (by omega) (by omega)
    have HA := Lib.hid hap
    clear hap
    have h5b : (decide (0 ≤ S2) && decide (S2 ≤ now)) = false := by simp; omega
    obtain ⟨bw, hbw⟩ : ∃ bw, bw = beginF l (fr + wi) := ⟨_, rfl⟩
    rw [← hbw] at HA
    have HBW := Lib.hid hbw.symm
    clear hbw
    by_cases h7 : 0 ≤ S2
    all_goals
      (try have h7b : decide (S2 ≤ now) = false := decide_eq_false (by omega))
      clear h5 h5b
      go_wp2_with fail
      go_at_call 28
      refine (rIs_c signed _).mono ?_
      rintro e W3 ⟨rfl, rfl⟩
      rw [Hs.out]
      go_wp2_with fail
      go_at_call 28
      refine (rIs_c now _).mono ?_
      rintro e W3 ⟨rfl, rfl⟩
      rw [Hn.out]
      go_wp2_with fail
      go_at_call 26
      refine (rBegin_c x n c l (fr + wi) _ HE.out.sh).mono ?_
      rintro e W4 ⟨rfl, hb⟩
      rw [HBW.out]
      (try clear z1 z2 cz c9 c10 c11)
      obtain ⟨HE, z1, z2, cz, c9, c10, c11⟩ := HE.out.next hb
      dsimp only at c9 c10 c11
      clear hb
      by_cases h6 : S1 ≤ signed
      · have He : Hid (appliesF l kind fr un wi signed now = true) := by show _ = _; rw [HA.out, decide_eq_true h6]; rfl
        have h6b : decide (S1 ≤ signed) = true := decide_eq_true h6
        go_wp2_with fail
        go_ret
        exact ⟨by rw [He.out]; rfl, HE.out.below⟩
      have h6b : decide (S1 ≤ signed) = false := decide_eq_false h6
      by_cases h8 : 0 ≤ bw
      · have h8b : decide (0 ≤ bw) = true := decide_eq_true h8
        obtain ⟨q, hq⟩ : ∃ q, q = decide (bw ≤ now) := ⟨_, rfl⟩
        have He : Hid (appliesF l kind fr un wi signed now = q) := by show _ = _; rw [HA.out, h6b, h8b, hq]; rfl
        have hq2 : decide (bw ≤ now) = q := hq.symm
        clear hq
        go_wp2_with fail
        go_ret
        exact ⟨by rw [He.out]; rfl, HE.out.below⟩
      · have h8b : decide (0 ≤ bw) = false := decide_eq_false h8
        have He : Hid (appliesF l kind fr un wi signed now = false) := by show _ = _; rw [HA.out, h6b, h8b]; rfl
        go_wp2_with fail
        go_ret
        exact ⟨by rw [He.out]; rfl, HE.out.below⟩
  · have He := Lib.hid (applies_no (signed := signed) (now := now) HS.out (.inl h3))
    have h3b : (S3 != 0) = true := by simp [h3]
    clear h3
    go_wp2_with fail
    go_ret
    exact ⟨by rw [He.out]; rfl, HE.out.below⟩
end Go.Proofs.YtkcbdlnoobjmbaaDoor
