/-
  'WindowWinds': the walk.
-/
import Derived.Test.YtkcbdlnoobjmbaaDoorWnLaw
namespace Go.Proofs.YtkcbdlnoobjmbaaDoor
open Go.RowKit Go.Cz Go.Cz.Ck Go.Cz.Wn
set_option linter.unusedSimpArgs false
set_option linter.unusedVariables false
attribute [local go_sem] bs_size bs_extract bs_append bs_toList
attribute [local irreducible] cList
theorem winds_law {l : List Shift} {kind fr un wi signed now S1 S2 t e : Int} (h : spanF l kind fr un wi = (S1, S2, 0)) (hI : instF l (fr + wi) 0 = (t, e)) (s1 : 0 ≤ signed) (s2 : signed ≤ 144001439) (n1 : S1 ≤ now) (n2 : now ≤ 144001439) (h4 : ¬ (0 ≤ S2 ∧ S2 ≤ now)) :
    (S1 ≤ signed → appliesF l kind fr un wi signed now = true) ∧ (¬ S1 ≤ signed → appliesF l kind fr un wi signed now = (e == 0 && decide (t ≤ now)) ∧ (wi ≤ 0 → appliesF l kind fr un wi signed now = true)) ∧ 0 ≤ fr ∧ fr ≤ 100000 ∧ 0 ≤ wi ∧ wi ≤ 400 := by
  obtain ⟨hd, hv, h0, e1, e2⟩ := span_zero (l := l) (kind := kind) (fr := fr) (un := un) (wi := wi) (by rw [h])
  obtain ⟨d1, d2, d3, d4, -, -⟩ := dated_in hd
  rw [h] at e1 e2
  dsimp only at e1 e2
  have hS : 0 ≤ S1 := by
    rcases inst_ok hv fr with ⟨q1, q2, q3⟩ | ⟨q1, q2⟩
    · omega
    · omega
  have ha := applies_ok (signed := signed) (now := now) h (instB_true.2 ⟨s1, s2⟩) (instB_true.2 ⟨by omega, n2⟩) n1 (by omega)
  have hb : (decide (0 ≤ beginF l (fr + wi)) && decide (beginF l (fr + wi) ≤ now)) = (e == 0 && decide (t ≤ now)) := by
    have hi := inst_ok hv (fr + wi)
    unfold beginF
    rw [hI] at hi ⊢
    dsimp only at hi ⊢
    rcases hi with ⟨q1, q2, -⟩ | ⟨q1, q2⟩
    · subst q1; simp [q2]
    · subst q1; simp
  refine ⟨fun hs => by rw [ha, decide_eq_true hs]; rfl, fun hs => ⟨by rw [ha, decide_eq_false hs, Bool.false_or, hb], fun hw => ?_⟩, d1, d2, d3, d4⟩
  have hw0 : wi = 0 := by omega
  rw [ha, hb]
  rw [hw0, Int.add_zero] at hI
  rw [hI] at h0 e1
  dsimp only at h0 e1
  subst h0
  rw [decide_eq_true (show t ≤ now by omega)]
  simp
set_option maxRecDepth 10000 in
set_option maxHeartbeats 4000000 in
theorem WindowWinds_walk0 (w : World) (m : Ms) (x : Option Addr) (n c : Nat) (l : List Shift) (hx : IsShifts w x n l) (signed now : Int) :
    Calls Tryd.prog 5 #[.agg m.v, .agg #[.slice x n c], .int .i64 signed, .int .i64 now] w fun e w' => e = .returned (.bool true) ∧ Below w.heap.size w w' := by
  obtain ⟨B, hB⟩ : ∃ B, B = w.heap.size := ⟨_, rfl⟩
  have HE : Hid (WE w ((w.alloc (.cells m.v 26)).alloc (.cells #[.slice x n c] 29)) B m x n c l) := by rw [hB]; exact WE.start w m x n c l hx
  clear hx



  obtain ⟨id, auth, kind, target, op, name, cmp, num, ka, kn, kc, fr, un, wi⟩ := m

  dsimp only [Ms.v] at HE ⊢
  go_enter Tryd.func5, Tryd.ntmps5
  go_wp2_with fail
  rw [← hB] at *
  clear hB
  obtain ⟨W1, hW1⟩ : ∃ W1, W1 = (w.alloc (.cells #[.string id, .string auth, .int .i64 kind, .string target, .int .i64 op, .string name, .int .i64 cmp, .int .i64 num, .slice ka kn kc, .int .i64 fr, .int .i64 un, .int .i64 wi] 26)).alloc (.cells #[.slice x n c] 29) := ⟨_, rfl⟩
  rw [← hW1] at HE ⊢
  clear hW1
  go_at_call 10
  refine (head_c W1).mono ?_
  rintro e W2 ⟨rfl, hb⟩
  (try clear z1 z2 cz n0 n1 n2 n3 n4 n5 n6 n7 n8 n9 n10 n11)
  replace HE := Lib.hid (HE.out.keep hb)
  clear hb
  obtain ⟨z1, z2, cz, n0, n1, n2, n3, n4, n5, n6, n7, n8, n9, n10, n11⟩ := HE.out.cells
  dsimp only at n0 n1 n2 n3 n4 n5 n6 n7 n8 n9 n10 n11
  by_cases h25 : 25 < n
  · go_wp2_with fail
    go_ret
    exact ⟨rfl, HE.out.below⟩
  go_wp2_with fail
  go_at_call 13
  refine (Applies_c ⟨id, auth, kind, target, op, name, cmp, num, ka, kn, kc, fr, un, wi⟩ x n c l signed now W2 HE.out.sh).mono ?_
  rintro e W3 ⟨rfl, hb⟩
  dsimp only
  obtain ⟨A, hA⟩ : ∃ A, A = appliesF l kind fr un wi signed now := ⟨_, rfl⟩
  rw [← hA]
  have HA := Lib.hid hA
  clear hA
  (try clear z1 z2 cz n0 n1 n2 n3 n4 n5 n6 n7 n8 n9 n10 n11)
  replace HE := Lib.hid (HE.out.keep hb)
  clear hb
  obtain ⟨z1, z2, cz, n0, n1, n2, n3, n4, n5, n6, n7, n8, n9, n10, n11⟩ := HE.out.cells
  dsimp only at n0 n1 n2 n3 n4 n5 n6 n7 n8 n9 n10 n11
  rcases hS : spanF l kind fr un wi with ⟨S1, S2, S3⟩
  have HS := Lib.hid hS
  clear hS
  go_wp2_with fail
  go_at_call 11
  refine (Span_c ⟨id, auth, kind, target, op, name, cmp, num, ka, kn, kc, fr, un, wi⟩ x n c l W3 HE.out.sh).mono ?_
  rintro e W4 ⟨rfl, hb⟩
  dsimp only
  rw [HS.out]
  (try clear z1 z2 cz n0 n1 n2 n3 n4 n5 n6 n7 n8 n9 n10 n11)
  replace HE := Lib.hid (HE.out.keep hb)
  clear hb
  obtain ⟨z1, z2, cz, n0, n1, n2, n3, n4, n5, n6, n7, n8, n9, n10, n11⟩ := HE.out.cells
  dsimp only at n0 n1 n2 n3 n4 n5 n6 n7 n8 n9 n10 n11
  by_cases h3 : S3 = 0
  · have q3 : (S3 != 0) = false := by simp [h3]
    by_cases s1 : signed < 0
    · have q4 : decide (signed < 0) = true := decide_eq_true s1
      have hA2 : A = false := HA.out.trans (applies_no HS.out (.inr (.inl (instB_false.2 (.inl s1)))))
      subst hA2
      clear HA HS
      go_wp2_with fail
      go_ret
      exact ⟨rfl, HE.out.below⟩
    have q4 : decide (signed < 0) = false := decide_eq_false s1
    by_cases s2 : 144001439 < signed
    · have q5 : decide (144001439 < signed) = true := decide_eq_true s2
      have hA2 : A = false := HA.out.trans (applies_no HS.out (.inr (.inl (instB_false.2 (.inr s2)))))
      subst hA2
      clear HA HS
      go_wp2_with fail
      go_ret
      exact ⟨rfl, HE.out.below⟩
    have q5 : decide (144001439 < signed) = false := decide_eq_false s2
    by_cases n1 : now < S1
    · have q6 : decide (now < S1) = true := decide_eq_true n1
      have hA2 : A = false := HA.out.trans (applies_no HS.out (.inr (.inr (.inr (.inl n1)))))
      subst hA2
      clear HA HS
      go_wp2_with fail
      go_ret
      exact ⟨rfl, HE.out.below⟩
    have q6 : decide (now < S1) = false := decide_eq_false n1
    by_cases n2 : 144001439 < now
    · have q7 : decide (144001439 < now) = true := decide_eq_true n2
      have hA2 : A = false := HA.out.trans (applies_no HS.out (.inr (.inr (.inl (instB_false.2 (.inr n2))))))
      subst hA2
      clear HA HS
      go_wp2_with fail
      go_ret
      exact ⟨rfl, HE.out.below⟩
    have q7 : decide (144001439 < now) = false := decide_eq_false n2
    by_cases k1 : 0 ≤ S2 ∧ S2 ≤ now
    · obtain ⟨k11, k12⟩ := k1
      have q8 : decide (0 ≤ S2) = true := decide_eq_true k11
      have q9 : decide (S2 ≤ now) = true := decide_eq_true k12
      have hA2 : A = false := HA.out.trans (applies_no HS.out (.inr (.inr (.inr (.inr ⟨k11, k12⟩)))))
      subst hA2
      clear HA HS
      go_wp2_with fail
      go_ret
      exact ⟨rfl, HE.out.below⟩
    rcases hI : instF l (fr + wi) 0 with ⟨t, e1⟩
    have hl := winds_law (signed := signed) (now := now) (h3 ▸ HS.out) hI (by omega) (by omega) (by omega) (by omega) k1
    have HI := Lib.hid hI
    obtain ⟨l1, l2, d1, d2, d3, d4⟩ := hl
    rw [← HA.out] at l1 l2
    have L1 := Lib.hid l1
    have L2 := Lib.hid l2
    clear hI l1 l2 HA HS h3
    by_cases k2 : 0 ≤ S2
    all_goals
      (try have q8 : decide (0 ≤ S2) = true := decide_eq_true k2)
      (try have q9 : decide (S2 ≤ now) = false := decide_eq_false (by omega))
      (try have q10 : decide (0 ≤ S2) = false := decide_eq_false k2)
      clear k1
      by_cases k3 : S1 ≤ signed
      · have hA2 := L1.out k3
        subst hA2
        have q11 : decide (S1 ≤ signed) = true := decide_eq_true k3
        clear L1 L2
        go_wp2_with fail
        go_ret
        exact ⟨rfl, HE.out.below⟩
      have q11 : decide (S1 ≤ signed) = false := decide_eq_false k3
      obtain ⟨hA2, hA3⟩ := L2.out k3
      have HA2 := Lib.hid hA2
      have HA3 := Lib.hid hA3
      clear L1 L2 hA2 hA3
      go_wp2_with fail
      go_at_call 19
      refine (Begin_c x n c l (fr + wi) W4 HE.out.sh).mono ?_
      rintro e W5 ⟨rfl, hb⟩
      rw [HI.out]
      (try clear z1 z2 cz n0 n1 n2 n3 n4 n5 n6 n7 n8 n9 n10 n11)
      replace HE := Lib.hid (HE.out.keep hb)
      clear hb
      obtain ⟨z1, z2, cz, n0, n1, n2, n3, n4, n5, n6, n7, n8, n9, n10, n11⟩ := HE.out.cells
      dsimp only at n0 n1 n2 n3 n4 n5 n6 n7 n8 n9 n10 n11
      by_cases k4 : e1 = 0
      · have q12 : (e1 == 0) = true := by simp [k4]
        have hq := HA2.out
        rw [q12, Bool.true_and] at hq
        have q13 : decide (t ≤ now) = A := hq.symm
        by_cases k5 : 0 < wi
        · have q14 : decide (0 < wi) = true := decide_eq_true k5
          clear hq k4 HA3 HA2
          cases A
          · go_wp2_with fail
            go_ret
            exact ⟨rfl, HE.out.below⟩
          · go_wp2_with fail
            go_ret
            exact ⟨rfl, HE.out.below⟩
        · have q14 : decide (0 < wi) = false := decide_eq_false k5
          have hA4 := HA3.out (by omega)
          subst hA4
          clear hq k4 HA3 HA2
          go_wp2_with fail
          go_ret
          exact ⟨rfl, HE.out.below⟩
      · have q12 : (e1 == 0) = false := by simp [k4]
        have hq := HA2.out
        rw [q12, Bool.false_and] at hq
        subst hq
        by_cases k5 : 0 < wi
        · have q14 : decide (0 < wi) = true := decide_eq_true k5
          clear k4 HA3 HA2
          go_wp2_with fail
          go_ret
          exact ⟨rfl, HE.out.below⟩
        · exact absurd (HA3.out (by omega)) (by simp)
  · have q3 : (S3 != 0) = true := by simp [h3]
    have hA2 : A = false := HA.out.trans (applies_no HS.out (.inl h3))
    subst hA2
    clear HA HS h3
    go_wp2_with fail
    go_ret
    exact ⟨rfl, HE.out.below⟩
theorem WindowWinds_walk (w : World) (m : Ms) (x : Option Addr) (n c : Nat) (l : List Shift) (hx : IsShifts w x n l) (signed : Int) (ws : (Lit.int .i64 signed).wf = true) (now : Int) (wn : (Lit.int .i64 now).wf = true) :
    Calls Tryd.prog 5 #[.agg m.v, .agg #[.slice x n c], .int .i64 signed, .int .i64 now] w fun e w' => e = .returned (.bool true) ∧ Below w.heap.size w w' := WindowWinds_walk0 w m x n c l hx signed now
end Go.Proofs.YtkcbdlnoobjmbaaDoor
