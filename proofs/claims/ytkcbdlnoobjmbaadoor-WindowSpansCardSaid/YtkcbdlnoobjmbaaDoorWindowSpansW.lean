/-
  'WindowSpans': the walk.
-/
import Derived.Test.YtkcbdlnoobjmbaaDoorWnReach
namespace Go.Proofs.YtkcbdlnoobjmbaaDoor
open Go.RowKit Go.Cz Go.Cz.Ck Go.Cz.Wn
set_option linter.unusedSimpArgs false
set_option linter.unusedVariables false
attribute [local go_sem] bs_size bs_extract bs_append bs_toList
attribute [local irreducible] cList
/-- What a span is, by the local times. -/
theorem spans_no {l : List Shift} {kind fr un wi S1 S2 S3 : Int} (h : spanF l kind fr un wi = (S1, S2, S3)) (h3 : S3 ≠ 0) (t : Int) : S1 = 0 ∧ S2 = 0 ∧ (S3 = 10 → reachB l t fr = false) := by
  unfold spanF at h
  cases hd : (datedB kind fr un wi && validB l)
  · rw [hd] at h
    simp only [Bool.false_eq_true, if_false, Prod.mk.injEq] at h
    obtain ⟨rfl, rfl, rfl⟩ := h
    exact ⟨rfl, rfl, fun h => by omega⟩
  · rw [hd, if_pos rfl] at h
    by_cases h0 : (instF l fr 0).2 = 0
    · rw [if_pos h0] at h
      simp only [Prod.mk.injEq] at h
      exact absurd h.2.2.symm h3
    · rw [if_neg h0] at h
      simp only [Prod.mk.injEq] at h
      obtain ⟨rfl, rfl, rfl⟩ := h
      rw [Bool.and_eq_true] at hd
      refine ⟨rfl, rfl, fun _ => ?_⟩
      rcases inst_law hd.2 (d := fr) (m := 0) (by omega) (by omega) with ⟨h1, -⟩ | ⟨-, -, h1⟩
      · exact absurd h1 h0
      · exact reach_false fun h2 h4 => by have := h1 t h2 h4; omega
theorem spans_yes {l : List Shift} {kind fr un wi S1 S2 : Int} (h : spanF l kind fr un wi = (S1, S2, 0)) (t : Int) : reachB l S1 fr = true ∧ (0 < S1 → reachB l (S1 - 1) fr = false) ∧ (reachB l t fr = true → S1 ≤ t) ∧ 0 ≤ S1 ∧ S1 ≤ 144001439 ∧
    (0 ≤ S2 → fr < un ∧ reachB l S2 un = true ∧ (reachB l t un = true → S2 ≤ t)) ∧ (S2 < 0 → S2 = -1 ∧ (un ≠ -1 → reachB l t un = false)) := by
  obtain ⟨hd, hv, h0, e1, e2⟩ := span_zero (l := l) (kind := kind) (fr := fr) (un := un) (wi := wi) (by rw [h])
  rw [h] at e1 e2
  dsimp only at e1 e2
  obtain ⟨d1, -, -, -, d5, -⟩ := dated_in hd
  rcases inst_law hv (d := fr) (m := 0) (by omega) (by omega) with ⟨-, k2, k3, k4, k5⟩ | ⟨k1, -⟩
  · rw [← e1] at k2 k3 k4 k5
    refine ⟨reach_true hv k2 k3 (by omega), fun hp => reach_false fun h2 h3 => by have := k5 _ h2 (by omega); omega, fun hr => ?_, k2, k3, fun hs => ?_, fun hs => ?_⟩
    · obtain ⟨r1, r2, r3⟩ := reach_inv hr
      rcases Int.lt_or_le t S1 with q | q
      · have := k5 t r1 q; omega
      · exact q
    · have hu : ¬ un < 0 := fun hu => by rw [if_pos hu] at e2; omega
      rw [if_neg hu] at e2
      unfold beginF at e2
      rcases inst_law hv (d := un) (m := 0) (by omega) (by omega) with ⟨q1, q2, q3, q4, q5⟩ | ⟨q1, -⟩
      · rw [if_pos q1] at e2
        rw [← e2] at q2 q3 q4 q5
        refine ⟨by omega, reach_true hv q2 q3 (by omega), fun hr => ?_⟩
        obtain ⟨r1, r2, r3⟩ := reach_inv hr
        rcases Int.lt_or_le t S2 with q | q
        · have := q5 t r1 q; omega
        · exact q
      · rw [if_neg (by omega)] at e2; omega
    · by_cases hu : un < 0
      · rw [if_pos hu] at e2
        exact ⟨e2, fun hn => by omega⟩
      · rw [if_neg hu] at e2
        unfold beginF at e2
        rcases inst_law hv (d := un) (m := 0) (by omega) (by omega) with ⟨q1, q2, -⟩ | ⟨q1, -, q2⟩
        · rw [if_pos q1] at e2; omega
        · rw [if_neg (by omega)] at e2
          exact ⟨e2, fun _ => reach_false fun h2 h3 => by have := q2 t h2 h3; omega⟩
  · omega
set_option maxRecDepth 10000 in
set_option maxHeartbeats 4000000 in
theorem WindowSpans_walk0 (w : World) (m : Ms) (x : Option Addr) (n c : Nat) (l : List Shift) (hx : IsShifts w x n l) (t : Int) :
    Calls Tryd.prog 8 #[.agg m.v, .agg #[.slice x n c], .int .i64 t] w fun e w' => e = .returned (.bool true) ∧ Below w.heap.size w w' := by
  obtain ⟨B, hB⟩ : ∃ B, B = w.heap.size := ⟨_, rfl⟩
  have HE : Hid (WE w ((w.alloc (.cells m.v 26)).alloc (.cells #[.slice x n c] 29)) B m x n c l) := by rw [hB]; exact WE.start w m x n c l hx
  clear hx



  obtain ⟨id, auth, kind, target, op, name, cmp, num, ka, kn, kc, fr, un, wi⟩ := m

  dsimp only [Ms.v] at HE ⊢
  go_enter Tryd.func8, Tryd.ntmps8
  go_wp2_with fail
  rw [← hB] at *
  clear hB
  obtain ⟨W1, hW1⟩ : ∃ W1, W1 = (w.alloc (.cells #[.string id, .string auth, .int .i64 kind, .string target, .int .i64 op, .string name, .int .i64 cmp, .int .i64 num, .slice ka kn kc, .int .i64 fr, .int .i64 un, .int .i64 wi] 26)).alloc (.cells #[.slice x n c] 29) := ⟨_, rfl⟩
  rw [← hW1] at HE ⊢
  clear hW1
  go_at_call 10
  refine (head_c W1).mono ?_
  rintro e W2 ⟨rfl, hb⟩
  (try clear z1 z2 cz n0 n1 n2 n3 n4 n5 n6 n7 n8 n9 n10 n11)
  replace HE := Lib.hid (HE.out.keep hb)
  clear hb
  obtain ⟨z1, z2, cz, n0, n1, n2, n3, n4, n5, n6, n7, n8, n9, n10, n11⟩ := HE.out.cells
  dsimp only at n0 n1 n2 n3 n4 n5 n6 n7 n8 n9 n10 n11
  by_cases h25 : 25 < n
  · go_wp2_with fail
    go_ret
    exact ⟨rfl, HE.out.below⟩
  rcases hS : spanF l kind fr un wi with ⟨S1, S2, S3⟩
  have HS := Lib.hid hS
  clear hS
  go_wp2_with fail
  go_at_call 11
  refine (Span_c ⟨id, auth, kind, target, op, name, cmp, num, ka, kn, kc, fr, un, wi⟩ x n c l W2 HE.out.sh).mono ?_
  rintro e W3 ⟨rfl, hb⟩
  dsimp only
  rw [HS.out]
  (try clear z1 z2 cz n0 n1 n2 n3 n4 n5 n6 n7 n8 n9 n10 n11)
  replace HE := Lib.hid (HE.out.keep hb)
  clear hb
  obtain ⟨z1, z2, cz, n0, n1, n2, n3, n4, n5, n6, n7, n8, n9, n10, n11⟩ := HE.out.cells
  dsimp only at n0 n1 n2 n3 n4 n5 n6 n7 n8 n9 n10 n11
  by_cases h3 : S3 = 0
  · have q3 : (S3 != 0) = false := by simp [h3]
    obtain ⟨r1, r2, r3, s1, s2, r4, r5⟩ := spans_yes (h3 ▸ HS.out) t
    have R1 := Lib.hid r1
    have R2 := Lib.hid r2
    have R3 := Lib.hid r3
    have R4 := Lib.hid r4
    have R5 := Lib.hid r5
    clear r1 r2 r3 r4 r5 h3 HS
    obtain ⟨qt, hqt⟩ : ∃ q, q = reachB l t fr := ⟨_, rfl⟩
    rw [← hqt] at R3
    have Hqt := Lib.hid hqt.symm
    obtain ⟨qu, hqu⟩ : ∃ q, q = reachB l t un := ⟨_, rfl⟩
    rw [← hqu] at R4 R5
    have Hqu := Lib.hid hqu.symm
    clear hqt hqu
    have hlt : (qt && decide (t < S1)) = false := by
      cases qt
      · rfl
      · rw [Bool.true_and]; exact decide_eq_false (by have := R3.out rfl; omega)
    have HLT := Lib.hid hlt
    clear hlt
    have HP : Hid (0 < S1 → reachB l (S1 - 1) fr = false) := R2.out
    by_cases hp : 0 < S1
    · have R2p := Lib.hid (R2.out hp)
      have p1 : decide (0 < S1) = true := decide_eq_true hp
      cases qt
      · by_cases hs2 : 0 ≤ S2
        · have q6 : decide (0 ≤ S2) = true := decide_eq_true hs2
          obtain ⟨r41, r42, r43⟩ := R4.out hs2
          have R4a := Lib.hid r42
          have q7 : decide (fr < un) = true := decide_eq_true r41
          cases qu
          · clear r42 r43 R2 R3 R4 R5 HP HLT
            go_wp2_with fail
            go_at_call 20
            refine (reached_c x n c l _ _ _ HE.out.sh).mono ?_
            rintro e W9 ⟨rfl, hb⟩
            (try rw [R1.out])
            (try rw [R2p.out])
            (try rw [Hqt.out])
            (try rw [R4a.out])
            (try rw [Hqu.out])
            (try clear z1 z2 cz n0 n1 n2 n3 n4 n5 n6 n7 n8 n9 n10 n11)
            replace HE := Lib.hid (HE.out.keep hb)
            clear hb
            obtain ⟨z1, z2, cz, n0, n1, n2, n3, n4, n5, n6, n7, n8, n9, n10, n11⟩ := HE.out.cells
            dsimp only at n0 n1 n2 n3 n4 n5 n6 n7 n8 n9 n10 n11
            go_wp2_with fail
            go_at_call 20
            refine (reached_c x n c l _ _ _ HE.out.sh).mono ?_
            rintro e W9 ⟨rfl, hb⟩
            (try rw [R1.out])
            (try rw [R2p.out])
            (try rw [Hqt.out])
            (try rw [R4a.out])
            (try rw [Hqu.out])
            (try clear z1 z2 cz n0 n1 n2 n3 n4 n5 n6 n7 n8 n9 n10 n11)
            replace HE := Lib.hid (HE.out.keep hb)
            clear hb
            obtain ⟨z1, z2, cz, n0, n1, n2, n3, n4, n5, n6, n7, n8, n9, n10, n11⟩ := HE.out.cells
            dsimp only at n0 n1 n2 n3 n4 n5 n6 n7 n8 n9 n10 n11
            go_wp2_with fail
            (try (go_at_call 20; refine (reached_c x n c l _ _ _ HE.out.sh).mono ?_; rintro e W9 ⟨rfl, hb⟩; (try rw [R1.out]); (try rw [R2p.out]); (try rw [Hqt.out]); (try rw [R4a.out]); (try rw [Hqu.out]); clear z1 z2 cz n0 n1 n2 n3 n4 n5 n6 n7 n8 n9 n10 n11; replace HE := Lib.hid (HE.out.keep hb); clear hb; obtain ⟨z1, z2, cz, n0, n1, n2, n3, n4, n5, n6, n7, n8, n9, n10, n11⟩ := HE.out.cells; dsimp only at n0 n1 n2 n3 n4 n5 n6 n7 n8 n9 n10 n11; go_wp2_with fail))
            (try (go_at_call 20; refine (reached_c x n c l _ _ _ HE.out.sh).mono ?_; rintro e W9 ⟨rfl, hb⟩; (try rw [R1.out]); (try rw [R2p.out]); (try rw [Hqt.out]); (try rw [R4a.out]); (try rw [Hqu.out]); clear z1 z2 cz n0 n1 n2 n3 n4 n5 n6 n7 n8 n9 n10 n11; replace HE := Lib.hid (HE.out.keep hb); clear hb; obtain ⟨z1, z2, cz, n0, n1, n2, n3, n4, n5, n6, n7, n8, n9, n10, n11⟩ := HE.out.cells; dsimp only at n0 n1 n2 n3 n4 n5 n6 n7 n8 n9 n10 n11; go_wp2_with fail))
            (try (go_at_call 20; refine (reached_c x n c l _ _ _ HE.out.sh).mono ?_; rintro e W9 ⟨rfl, hb⟩; (try rw [R1.out]); (try rw [R2p.out]); (try rw [Hqt.out]); (try rw [R4a.out]); (try rw [Hqu.out]); clear z1 z2 cz n0 n1 n2 n3 n4 n5 n6 n7 n8 n9 n10 n11; replace HE := Lib.hid (HE.out.keep hb); clear hb; obtain ⟨z1, z2, cz, n0, n1, n2, n3, n4, n5, n6, n7, n8, n9, n10, n11⟩ := HE.out.cells; dsimp only at n0 n1 n2 n3 n4 n5 n6 n7 n8 n9 n10 n11; go_wp2_with fail))
            go_ret
            exact ⟨rfl, HE.out.below⟩
          · have q8 : decide (S2 ≤ t) = true := decide_eq_true (r43 rfl)
            clear r42 r43 R2 R3 R4 R5 HP HLT
            go_wp2_with fail
            go_at_call 20
            refine (reached_c x n c l _ _ _ HE.out.sh).mono ?_
            rintro e W9 ⟨rfl, hb⟩
            (try rw [R1.out])
            (try rw [R2p.out])
            (try rw [Hqt.out])
            (try rw [R4a.out])
            (try rw [Hqu.out])
            (try clear z1 z2 cz n0 n1 n2 n3 n4 n5 n6 n7 n8 n9 n10 n11)
            replace HE := Lib.hid (HE.out.keep hb)
            clear hb
            obtain ⟨z1, z2, cz, n0, n1, n2, n3, n4, n5, n6, n7, n8, n9, n10, n11⟩ := HE.out.cells
            dsimp only at n0 n1 n2 n3 n4 n5 n6 n7 n8 n9 n10 n11
            go_wp2_with fail
            go_at_call 20
            refine (reached_c x n c l _ _ _ HE.out.sh).mono ?_
            rintro e W9 ⟨rfl, hb⟩
            (try rw [R1.out])
            (try rw [R2p.out])
            (try rw [Hqt.out])
            (try rw [R4a.out])
            (try rw [Hqu.out])
            (try clear z1 z2 cz n0 n1 n2 n3 n4 n5 n6 n7 n8 n9 n10 n11)
            replace HE := Lib.hid (HE.out.keep hb)
            clear hb
            obtain ⟨z1, z2, cz, n0, n1, n2, n3, n4, n5, n6, n7, n8, n9, n10, n11⟩ := HE.out.cells
            dsimp only at n0 n1 n2 n3 n4 n5 n6 n7 n8 n9 n10 n11
            go_wp2_with fail
            (try (go_at_call 20; refine (reached_c x n c l _ _ _ HE.out.sh).mono ?_; rintro e W9 ⟨rfl, hb⟩; (try rw [R1.out]); (try rw [R2p.out]); (try rw [Hqt.out]); (try rw [R4a.out]); (try rw [Hqu.out]); clear z1 z2 cz n0 n1 n2 n3 n4 n5 n6 n7 n8 n9 n10 n11; replace HE := Lib.hid (HE.out.keep hb); clear hb; obtain ⟨z1, z2, cz, n0, n1, n2, n3, n4, n5, n6, n7, n8, n9, n10, n11⟩ := HE.out.cells; dsimp only at n0 n1 n2 n3 n4 n5 n6 n7 n8 n9 n10 n11; go_wp2_with fail))
            (try (go_at_call 20; refine (reached_c x n c l _ _ _ HE.out.sh).mono ?_; rintro e W9 ⟨rfl, hb⟩; (try rw [R1.out]); (try rw [R2p.out]); (try rw [Hqt.out]); (try rw [R4a.out]); (try rw [Hqu.out]); clear z1 z2 cz n0 n1 n2 n3 n4 n5 n6 n7 n8 n9 n10 n11; replace HE := Lib.hid (HE.out.keep hb); clear hb; obtain ⟨z1, z2, cz, n0, n1, n2, n3, n4, n5, n6, n7, n8, n9, n10, n11⟩ := HE.out.cells; dsimp only at n0 n1 n2 n3 n4 n5 n6 n7 n8 n9 n10 n11; go_wp2_with fail))
            (try (go_at_call 20; refine (reached_c x n c l _ _ _ HE.out.sh).mono ?_; rintro e W9 ⟨rfl, hb⟩; (try rw [R1.out]); (try rw [R2p.out]); (try rw [Hqt.out]); (try rw [R4a.out]); (try rw [Hqu.out]); clear z1 z2 cz n0 n1 n2 n3 n4 n5 n6 n7 n8 n9 n10 n11; replace HE := Lib.hid (HE.out.keep hb); clear hb; obtain ⟨z1, z2, cz, n0, n1, n2, n3, n4, n5, n6, n7, n8, n9, n10, n11⟩ := HE.out.cells; dsimp only at n0 n1 n2 n3 n4 n5 n6 n7 n8 n9 n10 n11; go_wp2_with fail))
            go_ret
            exact ⟨rfl, HE.out.below⟩
        · have q6 : decide (0 ≤ S2) = false := decide_eq_false hs2
          obtain ⟨r51, r52⟩ := R5.out (by omega)
          have q7 : (S2 == -1) = true := by simp [r51]
          have R4a := Lib.hid (rfl : (0 : Nat) = 0)
          by_cases hun : un = -1
          · have q8 : (un == -1) = true := by simp [hun]
            clear r51 r52 R2 R3 R4 R5 HP HLT hun
            go_wp2_with fail
            go_at_call 20
            refine (reached_c x n c l _ _ _ HE.out.sh).mono ?_
            rintro e W9 ⟨rfl, hb⟩
            (try rw [R1.out])
            (try rw [R2p.out])
            (try rw [Hqt.out])
            (try rw [R4a.out])
            (try rw [Hqu.out])
            (try clear z1 z2 cz n0 n1 n2 n3 n4 n5 n6 n7 n8 n9 n10 n11)
            replace HE := Lib.hid (HE.out.keep hb)
            clear hb
            obtain ⟨z1, z2, cz, n0, n1, n2, n3, n4, n5, n6, n7, n8, n9, n10, n11⟩ := HE.out.cells
            dsimp only at n0 n1 n2 n3 n4 n5 n6 n7 n8 n9 n10 n11
            go_wp2_with fail
            go_at_call 20
            refine (reached_c x n c l _ _ _ HE.out.sh).mono ?_
            rintro e W9 ⟨rfl, hb⟩
            (try rw [R1.out])
            (try rw [R2p.out])
            (try rw [Hqt.out])
            (try rw [R4a.out])
            (try rw [Hqu.out])
            (try clear z1 z2 cz n0 n1 n2 n3 n4 n5 n6 n7 n8 n9 n10 n11)
            replace HE := Lib.hid (HE.out.keep hb)
            clear hb
            obtain ⟨z1, z2, cz, n0, n1, n2, n3, n4, n5, n6, n7, n8, n9, n10, n11⟩ := HE.out.cells
            dsimp only at n0 n1 n2 n3 n4 n5 n6 n7 n8 n9 n10 n11
            go_wp2_with fail
            (try (go_at_call 20; refine (reached_c x n c l _ _ _ HE.out.sh).mono ?_; rintro e W9 ⟨rfl, hb⟩; (try rw [R1.out]); (try rw [R2p.out]); (try rw [Hqt.out]); (try rw [R4a.out]); (try rw [Hqu.out]); clear z1 z2 cz n0 n1 n2 n3 n4 n5 n6 n7 n8 n9 n10 n11; replace HE := Lib.hid (HE.out.keep hb); clear hb; obtain ⟨z1, z2, cz, n0, n1, n2, n3, n4, n5, n6, n7, n8, n9, n10, n11⟩ := HE.out.cells; dsimp only at n0 n1 n2 n3 n4 n5 n6 n7 n8 n9 n10 n11; go_wp2_with fail))
            (try (go_at_call 20; refine (reached_c x n c l _ _ _ HE.out.sh).mono ?_; rintro e W9 ⟨rfl, hb⟩; (try rw [R1.out]); (try rw [R2p.out]); (try rw [Hqt.out]); (try rw [R4a.out]); (try rw [Hqu.out]); clear z1 z2 cz n0 n1 n2 n3 n4 n5 n6 n7 n8 n9 n10 n11; replace HE := Lib.hid (HE.out.keep hb); clear hb; obtain ⟨z1, z2, cz, n0, n1, n2, n3, n4, n5, n6, n7, n8, n9, n10, n11⟩ := HE.out.cells; dsimp only at n0 n1 n2 n3 n4 n5 n6 n7 n8 n9 n10 n11; go_wp2_with fail))
            (try (go_at_call 20; refine (reached_c x n c l _ _ _ HE.out.sh).mono ?_; rintro e W9 ⟨rfl, hb⟩; (try rw [R1.out]); (try rw [R2p.out]); (try rw [Hqt.out]); (try rw [R4a.out]); (try rw [Hqu.out]); clear z1 z2 cz n0 n1 n2 n3 n4 n5 n6 n7 n8 n9 n10 n11; replace HE := Lib.hid (HE.out.keep hb); clear hb; obtain ⟨z1, z2, cz, n0, n1, n2, n3, n4, n5, n6, n7, n8, n9, n10, n11⟩ := HE.out.cells; dsimp only at n0 n1 n2 n3 n4 n5 n6 n7 n8 n9 n10 n11; go_wp2_with fail))
            go_ret
            exact ⟨rfl, HE.out.below⟩
          · have q8 : (un == -1) = false := by simp [hun]
            have hq := r52 hun
            subst hq
            clear r51 r52 R2 R3 R4 R5 HP HLT hun
            go_wp2_with fail
            go_at_call 20
            refine (reached_c x n c l _ _ _ HE.out.sh).mono ?_
            rintro e W9 ⟨rfl, hb⟩
            (try rw [R1.out])
            (try rw [R2p.out])
            (try rw [Hqt.out])
            (try rw [R4a.out])
            (try rw [Hqu.out])
            (try clear z1 z2 cz n0 n1 n2 n3 n4 n5 n6 n7 n8 n9 n10 n11)
            replace HE := Lib.hid (HE.out.keep hb)
            clear hb
            obtain ⟨z1, z2, cz, n0, n1, n2, n3, n4, n5, n6, n7, n8, n9, n10, n11⟩ := HE.out.cells
            dsimp only at n0 n1 n2 n3 n4 n5 n6 n7 n8 n9 n10 n11
            go_wp2_with fail
            go_at_call 20
            refine (reached_c x n c l _ _ _ HE.out.sh).mono ?_
            rintro e W9 ⟨rfl, hb⟩
            (try rw [R1.out])
            (try rw [R2p.out])
            (try rw [Hqt.out])
            (try rw [R4a.out])
            (try rw [Hqu.out])
            (try clear z1 z2 cz n0 n1 n2 n3 n4 n5 n6 n7 n8 n9 n10 n11)
            replace HE := Lib.hid (HE.out.keep hb)
            clear hb
            obtain ⟨z1, z2, cz, n0, n1, n2, n3, n4, n5, n6, n7, n8, n9, n10, n11⟩ := HE.out.cells
            dsimp only at n0 n1 n2 n3 n4 n5 n6 n7 n8 n9 n10 n11
            go_wp2_with fail
            (try (go_at_call 20; refine (reached_c x n c l _ _ _ HE.out.sh).mono ?_; rintro e W9 ⟨rfl, hb⟩; (try rw [R1.out]); (try rw [R2p.out]); (try rw [Hqt.out]); (try rw [R4a.out]); (try rw [Hqu.out]); clear z1 z2 cz n0 n1 n2 n3 n4 n5 n6 n7 n8 n9 n10 n11; replace HE := Lib.hid (HE.out.keep hb); clear hb; obtain ⟨z1, z2, cz, n0, n1, n2, n3, n4, n5, n6, n7, n8, n9, n10, n11⟩ := HE.out.cells; dsimp only at n0 n1 n2 n3 n4 n5 n6 n7 n8 n9 n10 n11; go_wp2_with fail))
            (try (go_at_call 20; refine (reached_c x n c l _ _ _ HE.out.sh).mono ?_; rintro e W9 ⟨rfl, hb⟩; (try rw [R1.out]); (try rw [R2p.out]); (try rw [Hqt.out]); (try rw [R4a.out]); (try rw [Hqu.out]); clear z1 z2 cz n0 n1 n2 n3 n4 n5 n6 n7 n8 n9 n10 n11; replace HE := Lib.hid (HE.out.keep hb); clear hb; obtain ⟨z1, z2, cz, n0, n1, n2, n3, n4, n5, n6, n7, n8, n9, n10, n11⟩ := HE.out.cells; dsimp only at n0 n1 n2 n3 n4 n5 n6 n7 n8 n9 n10 n11; go_wp2_with fail))
            (try (go_at_call 20; refine (reached_c x n c l _ _ _ HE.out.sh).mono ?_; rintro e W9 ⟨rfl, hb⟩; (try rw [R1.out]); (try rw [R2p.out]); (try rw [Hqt.out]); (try rw [R4a.out]); (try rw [Hqu.out]); clear z1 z2 cz n0 n1 n2 n3 n4 n5 n6 n7 n8 n9 n10 n11; replace HE := Lib.hid (HE.out.keep hb); clear hb; obtain ⟨z1, z2, cz, n0, n1, n2, n3, n4, n5, n6, n7, n8, n9, n10, n11⟩ := HE.out.cells; dsimp only at n0 n1 n2 n3 n4 n5 n6 n7 n8 n9 n10 n11; go_wp2_with fail))
            go_ret
            exact ⟨rfl, HE.out.below⟩
      · have q5 : decide (t < S1) = false := decide_eq_false (by have := R3.out rfl; omega)
        by_cases hs2 : 0 ≤ S2
        · have q6 : decide (0 ≤ S2) = true := decide_eq_true hs2
          obtain ⟨r41, r42, r43⟩ := R4.out hs2
          have R4a := Lib.hid r42
          have q7 : decide (fr < un) = true := decide_eq_true r41
          cases qu
          · clear r42 r43 R2 R3 R4 R5 HP HLT
            go_wp2_with fail
            go_at_call 20
            refine (reached_c x n c l _ _ _ HE.out.sh).mono ?_
            rintro e W9 ⟨rfl, hb⟩
            (try rw [R1.out])
            (try rw [R2p.out])
            (try rw [Hqt.out])
            (try rw [R4a.out])
            (try rw [Hqu.out])
            (try clear z1 z2 cz n0 n1 n2 n3 n4 n5 n6 n7 n8 n9 n10 n11)
            replace HE := Lib.hid (HE.out.keep hb)
            clear hb
            obtain ⟨z1, z2, cz, n0, n1, n2, n3, n4, n5, n6, n7, n8, n9, n10, n11⟩ := HE.out.cells
            dsimp only at n0 n1 n2 n3 n4 n5 n6 n7 n8 n9 n10 n11
            go_wp2_with fail
            go_at_call 20
            refine (reached_c x n c l _ _ _ HE.out.sh).mono ?_
            rintro e W9 ⟨rfl, hb⟩
            (try rw [R1.out])
            (try rw [R2p.out])
            (try rw [Hqt.out])
            (try rw [R4a.out])
            (try rw [Hqu.out])
            (try clear z1 z2 cz n0 n1 n2 n3 n4 n5 n6 n7 n8 n9 n10 n11)
            replace HE := Lib.hid (HE.out.keep hb)
            clear hb
            obtain ⟨z1, z2, cz, n0, n1, n2, n3, n4, n5, n6, n7, n8, n9, n10, n11⟩ := HE.out.cells
            dsimp only at n0 n1 n2 n3 n4 n5 n6 n7 n8 n9 n10 n11
            go_wp2_with fail
            (try (go_at_call 20; refine (reached_c x n c l _ _ _ HE.out.sh).mono ?_; rintro e W9 ⟨rfl, hb⟩; (try rw [R1.out]); (try rw [R2p.out]); (try rw [Hqt.out]); (try rw [R4a.out]); (try rw [Hqu.out]); clear z1 z2 cz n0 n1 n2 n3 n4 n5 n6 n7 n8 n9 n10 n11; replace HE := Lib.hid (HE.out.keep hb); clear hb; obtain ⟨z1, z2, cz, n0, n1, n2, n3, n4, n5, n6, n7, n8, n9, n10, n11⟩ := HE.out.cells; dsimp only at n0 n1 n2 n3 n4 n5 n6 n7 n8 n9 n10 n11; go_wp2_with fail))
            (try (go_at_call 20; refine (reached_c x n c l _ _ _ HE.out.sh).mono ?_; rintro e W9 ⟨rfl, hb⟩; (try rw [R1.out]); (try rw [R2p.out]); (try rw [Hqt.out]); (try rw [R4a.out]); (try rw [Hqu.out]); clear z1 z2 cz n0 n1 n2 n3 n4 n5 n6 n7 n8 n9 n10 n11; replace HE := Lib.hid (HE.out.keep hb); clear hb; obtain ⟨z1, z2, cz, n0, n1, n2, n3, n4, n5, n6, n7, n8, n9, n10, n11⟩ := HE.out.cells; dsimp only at n0 n1 n2 n3 n4 n5 n6 n7 n8 n9 n10 n11; go_wp2_with fail))
            (try (go_at_call 20; refine (reached_c x n c l _ _ _ HE.out.sh).mono ?_; rintro e W9 ⟨rfl, hb⟩; (try rw [R1.out]); (try rw [R2p.out]); (try rw [Hqt.out]); (try rw [R4a.out]); (try rw [Hqu.out]); clear z1 z2 cz n0 n1 n2 n3 n4 n5 n6 n7 n8 n9 n10 n11; replace HE := Lib.hid (HE.out.keep hb); clear hb; obtain ⟨z1, z2, cz, n0, n1, n2, n3, n4, n5, n6, n7, n8, n9, n10, n11⟩ := HE.out.cells; dsimp only at n0 n1 n2 n3 n4 n5 n6 n7 n8 n9 n10 n11; go_wp2_with fail))
            go_ret
            exact ⟨rfl, HE.out.below⟩
          · have q8 : decide (S2 ≤ t) = true := decide_eq_true (r43 rfl)
            clear r42 r43 R2 R3 R4 R5 HP HLT
            go_wp2_with fail
            go_at_call 20
            refine (reached_c x n c l _ _ _ HE.out.sh).mono ?_
            rintro e W9 ⟨rfl, hb⟩
            (try rw [R1.out])
            (try rw [R2p.out])
            (try rw [Hqt.out])
            (try rw [R4a.out])
            (try rw [Hqu.out])
            (try clear z1 z2 cz n0 n1 n2 n3 n4 n5 n6 n7 n8 n9 n10 n11)
            replace HE := Lib.hid (HE.out.keep hb)
            clear hb
            obtain ⟨z1, z2, cz, n0, n1, n2, n3, n4, n5, n6, n7, n8, n9, n10, n11⟩ := HE.out.cells
            dsimp only at n0 n1 n2 n3 n4 n5 n6 n7 n8 n9 n10 n11
            go_wp2_with fail
            go_at_call 20
            refine (reached_c x n c l _ _ _ HE.out.sh).mono ?_
            rintro e W9 ⟨rfl, hb⟩
            (try rw [R1.out])
            (try rw [R2p.out])
            (try rw [Hqt.out])
            (try rw [R4a.out])
            (try rw [Hqu.out])
            (try clear z1 z2 cz n0 n1 n2 n3 n4 n5 n6 n7 n8 n9 n10 n11)
            replace HE := Lib.hid (HE.out.keep hb)
            clear hb
            obtain ⟨z1, z2, cz, n0, n1, n2, n3, n4, n5, n6, n7, n8, n9, n10, n11⟩ := HE.out.cells
            dsimp only at n0 n1 n2 n3 n4 n5 n6 n7 n8 n9 n10 n11
            go_wp2_with fail
            (try (go_at_call 20; refine (reached_c x n c l _ _ _ HE.out.sh).mono ?_; rintro e W9 ⟨rfl, hb⟩; (try rw [R1.out]); (try rw [R2p.out]); (try rw [Hqt.out]); (try rw [R4a.out]); (try rw [Hqu.out]); clear z1 z2 cz n0 n1 n2 n3 n4 n5 n6 n7 n8 n9 n10 n11; replace HE := Lib.hid (HE.out.keep hb); clear hb; obtain ⟨z1, z2, cz, n0, n1, n2, n3, n4, n5, n6, n7, n8, n9, n10, n11⟩ := HE.out.cells; dsimp only at n0 n1 n2 n3 n4 n5 n6 n7 n8 n9 n10 n11; go_wp2_with fail))
            (try (go_at_call 20; refine (reached_c x n c l _ _ _ HE.out.sh).mono ?_; rintro e W9 ⟨rfl, hb⟩; (try rw [R1.out]); (try rw [R2p.out]); (try rw [Hqt.out]); (try rw [R4a.out]); (try rw [Hqu.out]); clear z1 z2 cz n0 n1 n2 n3 n4 n5 n6 n7 n8 n9 n10 n11; replace HE := Lib.hid (HE.out.keep hb); clear hb; obtain ⟨z1, z2, cz, n0, n1, n2, n3, n4, n5, n6, n7, n8, n9, n10, n11⟩ := HE.out.cells; dsimp only at n0 n1 n2 n3 n4 n5 n6 n7 n8 n9 n10 n11; go_wp2_with fail))
            (try (go_at_call 20; refine (reached_c x n c l _ _ _ HE.out.sh).mono ?_; rintro e W9 ⟨rfl, hb⟩; (try rw [R1.out]); (try rw [R2p.out]); (try rw [Hqt.out]); (try rw [R4a.out]); (try rw [Hqu.out]); clear z1 z2 cz n0 n1 n2 n3 n4 n5 n6 n7 n8 n9 n10 n11; replace HE := Lib.hid (HE.out.keep hb); clear hb; obtain ⟨z1, z2, cz, n0, n1, n2, n3, n4, n5, n6, n7, n8, n9, n10, n11⟩ := HE.out.cells; dsimp only at n0 n1 n2 n3 n4 n5 n6 n7 n8 n9 n10 n11; go_wp2_with fail))
            go_ret
            exact ⟨rfl, HE.out.below⟩
        · have q6 : decide (0 ≤ S2) = false := decide_eq_false hs2
          obtain ⟨r51, r52⟩ := R5.out (by omega)
          have q7 : (S2 == -1) = true := by simp [r51]
          have R4a := Lib.hid (rfl : (0 : Nat) = 0)
          by_cases hun : un = -1
          · have q8 : (un == -1) = true := by simp [hun]
            clear r51 r52 R2 R3 R4 R5 HP HLT hun
            go_wp2_with fail
            go_at_call 20
            refine (reached_c x n c l _ _ _ HE.out.sh).mono ?_
            rintro e W9 ⟨rfl, hb⟩
            (try rw [R1.out])
            (try rw [R2p.out])
            (try rw [Hqt.out])
            (try rw [R4a.out])
            (try rw [Hqu.out])
            (try clear z1 z2 cz n0 n1 n2 n3 n4 n5 n6 n7 n8 n9 n10 n11)
            replace HE := Lib.hid (HE.out.keep hb)
            clear hb
            obtain ⟨z1, z2, cz, n0, n1, n2, n3, n4, n5, n6, n7, n8, n9, n10, n11⟩ := HE.out.cells
            dsimp only at n0 n1 n2 n3 n4 n5 n6 n7 n8 n9 n10 n11
            go_wp2_with fail
            go_at_call 20
            refine (reached_c x n c l _ _ _ HE.out.sh).mono ?_
            rintro e W9 ⟨rfl, hb⟩
            (try rw [R1.out])
            (try rw [R2p.out])
            (try rw [Hqt.out])
            (try rw [R4a.out])
            (try rw [Hqu.out])
            (try clear z1 z2 cz n0 n1 n2 n3 n4 n5 n6 n7 n8 n9 n10 n11)
            replace HE := Lib.hid (HE.out.keep hb)
            clear hb
            obtain ⟨z1, z2, cz, n0, n1, n2, n3, n4, n5, n6, n7, n8, n9, n10, n11⟩ := HE.out.cells
            dsimp only at n0 n1 n2 n3 n4 n5 n6 n7 n8 n9 n10 n11
            go_wp2_with fail
            (try (go_at_call 20; refine (reached_c x n c l _ _ _ HE.out.sh).mono ?_; rintro e W9 ⟨rfl, hb⟩; (try rw [R1.out]); (try rw [R2p.out]); (try rw [Hqt.out]); (try rw [R4a.out]); (try rw [Hqu.out]); clear z1 z2 cz n0 n1 n2 n3 n4 n5 n6 n7 n8 n9 n10 n11; replace HE := Lib.hid (HE.out.keep hb); clear hb; obtain ⟨z1, z2, cz, n0, n1, n2, n3, n4, n5, n6, n7, n8, n9, n10, n11⟩ := HE.out.cells; dsimp only at n0 n1 n2 n3 n4 n5 n6 n7 n8 n9 n10 n11; go_wp2_with fail))
            (try (go_at_call 20; refine (reached_c x n c l _ _ _ HE.out.sh).mono ?_; rintro e W9 ⟨rfl, hb⟩; (try rw [R1.out]); (try rw [R2p.out]); (try rw [Hqt.out]); (try rw [R4a.out]); (try rw [Hqu.out]); clear z1 z2 cz n0 n1 n2 n3 n4 n5 n6 n7 n8 n9 n10 n11; replace HE := Lib.hid (HE.out.keep hb); clear hb; obtain ⟨z1, z2, cz, n0, n1, n2, n3, n4, n5, n6, n7, n8, n9, n10, n11⟩ := HE.out.cells; dsimp only at n0 n1 n2 n3 n4 n5 n6 n7 n8 n9 n10 n11; go_wp2_with fail))
            (try (go_at_call 20; refine (reached_c x n c l _ _ _ HE.out.sh).mono ?_; rintro e W9 ⟨rfl, hb⟩; (try rw [R1.out]); (try rw [R2p.out]); (try rw [Hqt.out]); (try rw [R4a.out]); (try rw [Hqu.out]); clear z1 z2 cz n0 n1 n2 n3 n4 n5 n6 n7 n8 n9 n10 n11; replace HE := Lib.hid (HE.out.keep hb); clear hb; obtain ⟨z1, z2, cz, n0, n1, n2, n3, n4, n5, n6, n7, n8, n9, n10, n11⟩ := HE.out.cells; dsimp only at n0 n1 n2 n3 n4 n5 n6 n7 n8 n9 n10 n11; go_wp2_with fail))
            go_ret
            exact ⟨rfl, HE.out.below⟩
          · have q8 : (un == -1) = false := by simp [hun]
            have hq := r52 hun
            subst hq
            clear r51 r52 R2 R3 R4 R5 HP HLT hun
            go_wp2_with fail
            go_at_call 20
            refine (reached_c x n c l _ _ _ HE.out.sh).mono ?_
            rintro e W9 ⟨rfl, hb⟩
            (try rw [R1.out])
            (try rw [R2p.out])
            (try rw [Hqt.out])
            (try rw [R4a.out])
            (try rw [Hqu.out])
            (try clear z1 z2 cz n0 n1 n2 n3 n4 n5 n6 n7 n8 n9 n10 n11)
            replace HE := Lib.hid (HE.out.keep hb)
            clear hb
            obtain ⟨z1, z2, cz, n0, n1, n2, n3, n4, n5, n6, n7, n8, n9, n10, n11⟩ := HE.out.cells
            dsimp only at n0 n1 n2 n3 n4 n5 n6 n7 n8 n9 n10 n11
            go_wp2_with fail
            go_at_call 20
            refine (reached_c x n c l _ _ _ HE.out.sh).mono ?_
            rintro e W9 ⟨rfl, hb⟩
            (try rw [R1.out])
            (try rw [R2p.out])
            (try rw [Hqt.out])
            (try rw [R4a.out])
            (try rw [Hqu.out])
            (try clear z1 z2 cz n0 n1 n2 n3 n4 n5 n6 n7 n8 n9 n10 n11)
            replace HE := Lib.hid (HE.out.keep hb)
            clear hb
            obtain ⟨z1, z2, cz, n0, n1, n2, n3, n4, n5, n6, n7, n8, n9, n10, n11⟩ := HE.out.cells
            dsimp only at n0 n1 n2 n3 n4 n5 n6 n7 n8 n9 n10 n11
            go_wp2_with fail
            (try (go_at_call 20; refine (reached_c x n c l _ _ _ HE.out.sh).mono ?_; rintro e W9 ⟨rfl, hb⟩; (try rw [R1.out]); (try rw [R2p.out]); (try rw [Hqt.out]); (try rw [R4a.out]); (try rw [Hqu.out]); clear z1 z2 cz n0 n1 n2 n3 n4 n5 n6 n7 n8 n9 n10 n11; replace HE := Lib.hid (HE.out.keep hb); clear hb; obtain ⟨z1, z2, cz, n0, n1, n2, n3, n4, n5, n6, n7, n8, n9, n10, n11⟩ := HE.out.cells; dsimp only at n0 n1 n2 n3 n4 n5 n6 n7 n8 n9 n10 n11; go_wp2_with fail))
            (try (go_at_call 20; refine (reached_c x n c l _ _ _ HE.out.sh).mono ?_; rintro e W9 ⟨rfl, hb⟩; (try rw [R1.out]); (try rw [R2p.out]); (try rw [Hqt.out]); (try rw [R4a.out]); (try rw [Hqu.out]); clear z1 z2 cz n0 n1 n2 n3 n4 n5 n6 n7 n8 n9 n10 n11; replace HE := Lib.hid (HE.out.keep hb); clear hb; obtain ⟨z1, z2, cz, n0, n1, n2, n3, n4, n5, n6, n7, n8, n9, n10, n11⟩ := HE.out.cells; dsimp only at n0 n1 n2 n3 n4 n5 n6 n7 n8 n9 n10 n11; go_wp2_with fail))
            (try (go_at_call 20; refine (reached_c x n c l _ _ _ HE.out.sh).mono ?_; rintro e W9 ⟨rfl, hb⟩; (try rw [R1.out]); (try rw [R2p.out]); (try rw [Hqt.out]); (try rw [R4a.out]); (try rw [Hqu.out]); clear z1 z2 cz n0 n1 n2 n3 n4 n5 n6 n7 n8 n9 n10 n11; replace HE := Lib.hid (HE.out.keep hb); clear hb; obtain ⟨z1, z2, cz, n0, n1, n2, n3, n4, n5, n6, n7, n8, n9, n10, n11⟩ := HE.out.cells; dsimp only at n0 n1 n2 n3 n4 n5 n6 n7 n8 n9 n10 n11; go_wp2_with fail))
            go_ret
            exact ⟨rfl, HE.out.below⟩
    · have R2p := Lib.hid (rfl : (0 : Nat) = 0)
      have p1 : decide (0 < S1) = false := decide_eq_false hp
      cases qt
      · by_cases hs2 : 0 ≤ S2
        · have q6 : decide (0 ≤ S2) = true := decide_eq_true hs2
          obtain ⟨r41, r42, r43⟩ := R4.out hs2
          have R4a := Lib.hid r42
          have q7 : decide (fr < un) = true := decide_eq_true r41
          cases qu
          · clear r42 r43 R2 R3 R4 R5 HP HLT
            go_wp2_with fail
            go_at_call 20
            refine (reached_c x n c l _ _ _ HE.out.sh).mono ?_
            rintro e W9 ⟨rfl, hb⟩
            (try rw [R1.out])
            (try rw [R2p.out])
            (try rw [Hqt.out])
            (try rw [R4a.out])
            (try rw [Hqu.out])
            (try clear z1 z2 cz n0 n1 n2 n3 n4 n5 n6 n7 n8 n9 n10 n11)
            replace HE := Lib.hid (HE.out.keep hb)
            clear hb
            obtain ⟨z1, z2, cz, n0, n1, n2, n3, n4, n5, n6, n7, n8, n9, n10, n11⟩ := HE.out.cells
            dsimp only at n0 n1 n2 n3 n4 n5 n6 n7 n8 n9 n10 n11
            go_wp2_with fail
            go_at_call 20
            refine (reached_c x n c l _ _ _ HE.out.sh).mono ?_
            rintro e W9 ⟨rfl, hb⟩
            (try rw [R1.out])
            (try rw [R2p.out])
            (try rw [Hqt.out])
            (try rw [R4a.out])
            (try rw [Hqu.out])
            (try clear z1 z2 cz n0 n1 n2 n3 n4 n5 n6 n7 n8 n9 n10 n11)
            replace HE := Lib.hid (HE.out.keep hb)
            clear hb
            obtain ⟨z1, z2, cz, n0, n1, n2, n3, n4, n5, n6, n7, n8, n9, n10, n11⟩ := HE.out.cells
            dsimp only at n0 n1 n2 n3 n4 n5 n6 n7 n8 n9 n10 n11
            go_wp2_with fail
            (try (go_at_call 20; refine (reached_c x n c l _ _ _ HE.out.sh).mono ?_; rintro e W9 ⟨rfl, hb⟩; (try rw [R1.out]); (try rw [R2p.out]); (try rw [Hqt.out]); (try rw [R4a.out]); (try rw [Hqu.out]); clear z1 z2 cz n0 n1 n2 n3 n4 n5 n6 n7 n8 n9 n10 n11; replace HE := Lib.hid (HE.out.keep hb); clear hb; obtain ⟨z1, z2, cz, n0, n1, n2, n3, n4, n5, n6, n7, n8, n9, n10, n11⟩ := HE.out.cells; dsimp only at n0 n1 n2 n3 n4 n5 n6 n7 n8 n9 n10 n11; go_wp2_with fail))
            (try (go_at_call 20; refine (reached_c x n c l _ _ _ HE.out.sh).mono ?_; rintro e W9 ⟨rfl, hb⟩; (try rw [R1.out]); (try rw [R2p.out]); (try rw [Hqt.out]); (try rw [R4a.out]); (try rw [Hqu.out]); clear z1 z2 cz n0 n1 n2 n3 n4 n5 n6 n7 n8 n9 n10 n11; replace HE := Lib.hid (HE.out.keep hb); clear hb; obtain ⟨z1, z2, cz, n0, n1, n2, n3, n4, n5, n6, n7, n8, n9, n10, n11⟩ := HE.out.cells; dsimp only at n0 n1 n2 n3 n4 n5 n6 n7 n8 n9 n10 n11; go_wp2_with fail))
            (try (go_at_call 20; refine (reached_c x n c l _ _ _ HE.out.sh).mono ?_; rintro e W9 ⟨rfl, hb⟩; (try rw [R1.out]); (try rw [R2p.out]); (try rw [Hqt.out]); (try rw [R4a.out]); (try rw [Hqu.out]); clear z1 z2 cz n0 n1 n2 n3 n4 n5 n6 n7 n8 n9 n10 n11; replace HE := Lib.hid (HE.out.keep hb); clear hb; obtain ⟨z1, z2, cz, n0, n1, n2, n3, n4, n5, n6, n7, n8, n9, n10, n11⟩ := HE.out.cells; dsimp only at n0 n1 n2 n3 n4 n5 n6 n7 n8 n9 n10 n11; go_wp2_with fail))
            go_ret
            exact ⟨rfl, HE.out.below⟩
          · have q8 : decide (S2 ≤ t) = true := decide_eq_true (r43 rfl)
            clear r42 r43 R2 R3 R4 R5 HP HLT
            go_wp2_with fail
            go_at_call 20
            refine (reached_c x n c l _ _ _ HE.out.sh).mono ?_
            rintro e W9 ⟨rfl, hb⟩
            (try rw [R1.out])
            (try rw [R2p.out])
            (try rw [Hqt.out])
            (try rw [R4a.out])
            (try rw [Hqu.out])
            (try clear z1 z2 cz n0 n1 n2 n3 n4 n5 n6 n7 n8 n9 n10 n11)
            replace HE := Lib.hid (HE.out.keep hb)
            clear hb
            obtain ⟨z1, z2, cz, n0, n1, n2, n3, n4, n5, n6, n7, n8, n9, n10, n11⟩ := HE.out.cells
            dsimp only at n0 n1 n2 n3 n4 n5 n6 n7 n8 n9 n10 n11
            go_wp2_with fail
            go_at_call 20
            refine (reached_c x n c l _ _ _ HE.out.sh).mono ?_
            rintro e W9 ⟨rfl, hb⟩
            (try rw [R1.out])
            (try rw [R2p.out])
            (try rw [Hqt.out])
            (try rw [R4a.out])
            (try rw [Hqu.out])
            (try clear z1 z2 cz n0 n1 n2 n3 n4 n5 n6 n7 n8 n9 n10 n11)
            replace HE := Lib.hid (HE.out.keep hb)
            clear hb
            obtain ⟨z1, z2, cz, n0, n1, n2, n3, n4, n5, n6, n7, n8, n9, n10, n11⟩ := HE.out.cells
            dsimp only at n0 n1 n2 n3 n4 n5 n6 n7 n8 n9 n10 n11
            go_wp2_with fail
            (try (go_at_call 20; refine (reached_c x n c l _ _ _ HE.out.sh).mono ?_; rintro e W9 ⟨rfl, hb⟩; (try rw [R1.out]); (try rw [R2p.out]); (try rw [Hqt.out]); (try rw [R4a.out]); (try rw [Hqu.out]); clear z1 z2 cz n0 n1 n2 n3 n4 n5 n6 n7 n8 n9 n10 n11; replace HE := Lib.hid (HE.out.keep hb); clear hb; obtain ⟨z1, z2, cz, n0, n1, n2, n3, n4, n5, n6, n7, n8, n9, n10, n11⟩ := HE.out.cells; dsimp only at n0 n1 n2 n3 n4 n5 n6 n7 n8 n9 n10 n11; go_wp2_with fail))
            (try (go_at_call 20; refine (reached_c x n c l _ _ _ HE.out.sh).mono ?_; rintro e W9 ⟨rfl, hb⟩; (try rw [R1.out]); (try rw [R2p.out]); (try rw [Hqt.out]); (try rw [R4a.out]); (try rw [Hqu.out]); clear z1 z2 cz n0 n1 n2 n3 n4 n5 n6 n7 n8 n9 n10 n11; replace HE := Lib.hid (HE.out.keep hb); clear hb; obtain ⟨z1, z2, cz, n0, n1, n2, n3, n4, n5, n6, n7, n8, n9, n10, n11⟩ := HE.out.cells; dsimp only at n0 n1 n2 n3 n4 n5 n6 n7 n8 n9 n10 n11; go_wp2_with fail))
            (try (go_at_call 20; refine (reached_c x n c l _ _ _ HE.out.sh).mono ?_; rintro e W9 ⟨rfl, hb⟩; (try rw [R1.out]); (try rw [R2p.out]); (try rw [Hqt.out]); (try rw [R4a.out]); (try rw [Hqu.out]); clear z1 z2 cz n0 n1 n2 n3 n4 n5 n6 n7 n8 n9 n10 n11; replace HE := Lib.hid (HE.out.keep hb); clear hb; obtain ⟨z1, z2, cz, n0, n1, n2, n3, n4, n5, n6, n7, n8, n9, n10, n11⟩ := HE.out.cells; dsimp only at n0 n1 n2 n3 n4 n5 n6 n7 n8 n9 n10 n11; go_wp2_with fail))
            go_ret
            exact ⟨rfl, HE.out.below⟩
        · have q6 : decide (0 ≤ S2) = false := decide_eq_false hs2
          obtain ⟨r51, r52⟩ := R5.out (by omega)
          have q7 : (S2 == -1) = true := by simp [r51]
          have R4a := Lib.hid (rfl : (0 : Nat) = 0)
          by_cases hun : un = -1
          · have q8 : (un == -1) = true := by simp [hun]
            clear r51 r52 R2 R3 R4 R5 HP HLT hun
            go_wp2_with fail
            go_at_call 20
            refine (reached_c x n c l _ _ _ HE.out.sh).mono ?_
            rintro e W9 ⟨rfl, hb⟩
            (try rw [R1.out])
            (try rw [R2p.out])
            (try rw [Hqt.out])
            (try rw [R4a.out])
            (try rw [Hqu.out])
            (try clear z1 z2 cz n0 n1 n2 n3 n4 n5 n6 n7 n8 n9 n10 n11)
            replace HE := Lib.hid (HE.out.keep hb)
            clear hb
            obtain ⟨z1, z2, cz, n0, n1, n2, n3, n4, n5, n6, n7, n8, n9, n10, n11⟩ := HE.out.cells
            dsimp only at n0 n1 n2 n3 n4 n5 n6 n7 n8 n9 n10 n11
            go_wp2_with fail
            go_at_call 20
            refine (reached_c x n c l _ _ _ HE.out.sh).mono ?_
            rintro e W9 ⟨rfl, hb⟩
            (try rw [R1.out])
            (try rw [R2p.out])
            (try rw [Hqt.out])
            (try rw [R4a.out])
            (try rw [Hqu.out])
            (try clear z1 z2 cz n0 n1 n2 n3 n4 n5 n6 n7 n8 n9 n10 n11)
            replace HE := Lib.hid (HE.out.keep hb)
            clear hb
            obtain ⟨z1, z2, cz, n0, n1, n2, n3, n4, n5, n6, n7, n8, n9, n10, n11⟩ := HE.out.cells
            dsimp only at n0 n1 n2 n3 n4 n5 n6 n7 n8 n9 n10 n11
            go_wp2_with fail
            (try (go_at_call 20; refine (reached_c x n c l _ _ _ HE.out.sh).mono ?_; rintro e W9 ⟨rfl, hb⟩; (try rw [R1.out]); (try rw [R2p.out]); (try rw [Hqt.out]); (try rw [R4a.out]); (try rw [Hqu.out]); clear z1 z2 cz n0 n1 n2 n3 n4 n5 n6 n7 n8 n9 n10 n11; replace HE := Lib.hid (HE.out.keep hb); clear hb; obtain ⟨z1, z2, cz, n0, n1, n2, n3, n4, n5, n6, n7, n8, n9, n10, n11⟩ := HE.out.cells; dsimp only at n0 n1 n2 n3 n4 n5 n6 n7 n8 n9 n10 n11; go_wp2_with fail))
            (try (go_at_call 20; refine (reached_c x n c l _ _ _ HE.out.sh).mono ?_; rintro e W9 ⟨rfl, hb⟩; (try rw [R1.out]); (try rw [R2p.out]); (try rw [Hqt.out]); (try rw [R4a.out]); (try rw [Hqu.out]); clear z1 z2 cz n0 n1 n2 n3 n4 n5 n6 n7 n8 n9 n10 n11; replace HE := Lib.hid (HE.out.keep hb); clear hb; obtain ⟨z1, z2, cz, n0, n1, n2, n3, n4, n5, n6, n7, n8, n9, n10, n11⟩ := HE.out.cells; dsimp only at n0 n1 n2 n3 n4 n5 n6 n7 n8 n9 n10 n11; go_wp2_with fail))
            (try (go_at_call 20; refine (reached_c x n c l _ _ _ HE.out.sh).mono ?_; rintro e W9 ⟨rfl, hb⟩; (try rw [R1.out]); (try rw [R2p.out]); (try rw [Hqt.out]); (try rw [R4a.out]); (try rw [Hqu.out]); clear z1 z2 cz n0 n1 n2 n3 n4 n5 n6 n7 n8 n9 n10 n11; replace HE := Lib.hid (HE.out.keep hb); clear hb; obtain ⟨z1, z2, cz, n0, n1, n2, n3, n4, n5, n6, n7, n8, n9, n10, n11⟩ := HE.out.cells; dsimp only at n0 n1 n2 n3 n4 n5 n6 n7 n8 n9 n10 n11; go_wp2_with fail))
            go_ret
            exact ⟨rfl, HE.out.below⟩
          · have q8 : (un == -1) = false := by simp [hun]
            have hq := r52 hun
            subst hq
            clear r51 r52 R2 R3 R4 R5 HP HLT hun
            go_wp2_with fail
            go_at_call 20
            refine (reached_c x n c l _ _ _ HE.out.sh).mono ?_
            rintro e W9 ⟨rfl, hb⟩
            (try rw [R1.out])
            (try rw [R2p.out])
            (try rw [Hqt.out])
            (try rw [R4a.out])
            (try rw [Hqu.out])
            (try clear z1 z2 cz n0 n1 n2 n3 n4 n5 n6 n7 n8 n9 n10 n11)
            replace HE := Lib.hid (HE.out.keep hb)
            clear hb
            obtain ⟨z1, z2, cz, n0, n1, n2, n3, n4, n5, n6, n7, n8, n9, n10, n11⟩ := HE.out.cells
            dsimp only at n0 n1 n2 n3 n4 n5 n6 n7 n8 n9 n10 n11
            go_wp2_with fail
            go_at_call 20
            refine (reached_c x n c l _ _ _ HE.out.sh).mono ?_
            rintro e W9 ⟨rfl, hb⟩
            (try rw [R1.out])
            (try rw [R2p.out])
            (try rw [Hqt.out])
            (try rw [R4a.out])
            (try rw [Hqu.out])
            (try clear z1 z2 cz n0 n1 n2 n3 n4 n5 n6 n7 n8 n9 n10 n11)
            replace HE := Lib.hid (HE.out.keep hb)
            clear hb
            obtain ⟨z1, z2, cz, n0, n1, n2, n3, n4, n5, n6, n7, n8, n9, n10, n11⟩ := HE.out.cells
            dsimp only at n0 n1 n2 n3 n4 n5 n6 n7 n8 n9 n10 n11
            go_wp2_with fail
            (try (go_at_call 20; refine (reached_c x n c l _ _ _ HE.out.sh).mono ?_; rintro e W9 ⟨rfl, hb⟩; (try rw [R1.out]); (try rw [R2p.out]); (try rw [Hqt.out]); (try rw [R4a.out]); (try rw [Hqu.out]); clear z1 z2 cz n0 n1 n2 n3 n4 n5 n6 n7 n8 n9 n10 n11; replace HE := Lib.hid (HE.out.keep hb); clear hb; obtain ⟨z1, z2, cz, n0, n1, n2, n3, n4, n5, n6, n7, n8, n9, n10, n11⟩ := HE.out.cells; dsimp only at n0 n1 n2 n3 n4 n5 n6 n7 n8 n9 n10 n11; go_wp2_with fail))
            (try (go_at_call 20; refine (reached_c x n c l _ _ _ HE.out.sh).mono ?_; rintro e W9 ⟨rfl, hb⟩; (try rw [R1.out]); (try rw [R2p.out]); (try rw [Hqt.out]); (try rw [R4a.out]); (try rw [Hqu.out]); clear z1 z2 cz n0 n1 n2 n3 n4 n5 n6 n7 n8 n9 n10 n11; replace HE := Lib.hid (HE.out.keep hb); clear hb; obtain ⟨z1, z2, cz, n0, n1, n2, n3, n4, n5, n6, n7, n8, n9, n10, n11⟩ := HE.out.cells; dsimp only at n0 n1 n2 n3 n4 n5 n6 n7 n8 n9 n10 n11; go_wp2_with fail))
            (try (go_at_call 20; refine (reached_c x n c l _ _ _ HE.out.sh).mono ?_; rintro e W9 ⟨rfl, hb⟩; (try rw [R1.out]); (try rw [R2p.out]); (try rw [Hqt.out]); (try rw [R4a.out]); (try rw [Hqu.out]); clear z1 z2 cz n0 n1 n2 n3 n4 n5 n6 n7 n8 n9 n10 n11; replace HE := Lib.hid (HE.out.keep hb); clear hb; obtain ⟨z1, z2, cz, n0, n1, n2, n3, n4, n5, n6, n7, n8, n9, n10, n11⟩ := HE.out.cells; dsimp only at n0 n1 n2 n3 n4 n5 n6 n7 n8 n9 n10 n11; go_wp2_with fail))
            go_ret
            exact ⟨rfl, HE.out.below⟩
      · have q5 : decide (t < S1) = false := decide_eq_false (by have := R3.out rfl; omega)
        by_cases hs2 : 0 ≤ S2
        · have q6 : decide (0 ≤ S2) = true := decide_eq_true hs2
          obtain ⟨r41, r42, r43⟩ := R4.out hs2
          have R4a := Lib.hid r42
          have q7 : decide (fr < un) = true := decide_eq_true r41
          cases qu
          · clear r42 r43 R2 R3 R4 R5 HP HLT
            go_wp2_with fail
            go_at_call 20
            refine (reached_c x n c l _ _ _ HE.out.sh).mono ?_
            rintro e W9 ⟨rfl, hb⟩
            (try rw [R1.out])
            (try rw [R2p.out])
            (try rw [Hqt.out])
            (try rw [R4a.out])
            (try rw [Hqu.out])
            (try clear z1 z2 cz n0 n1 n2 n3 n4 n5 n6 n7 n8 n9 n10 n11)
            replace HE := Lib.hid (HE.out.keep hb)
            clear hb
            obtain ⟨z1, z2, cz, n0, n1, n2, n3, n4, n5, n6, n7, n8, n9, n10, n11⟩ := HE.out.cells
            dsimp only at n0 n1 n2 n3 n4 n5 n6 n7 n8 n9 n10 n11
            go_wp2_with fail
            go_at_call 20
            refine (reached_c x n c l _ _ _ HE.out.sh).mono ?_
            rintro e W9 ⟨rfl, hb⟩
            (try rw [R1.out])
            (try rw [R2p.out])
            (try rw [Hqt.out])
            (try rw [R4a.out])
            (try rw [Hqu.out])
            (try clear z1 z2 cz n0 n1 n2 n3 n4 n5 n6 n7 n8 n9 n10 n11)
            replace HE := Lib.hid (HE.out.keep hb)
            clear hb
            obtain ⟨z1, z2, cz, n0, n1, n2, n3, n4, n5, n6, n7, n8, n9, n10, n11⟩ := HE.out.cells
            dsimp only at n0 n1 n2 n3 n4 n5 n6 n7 n8 n9 n10 n11
            go_wp2_with fail
            (try (go_at_call 20; refine (reached_c x n c l _ _ _ HE.out.sh).mono ?_; rintro e W9 ⟨rfl, hb⟩; (try rw [R1.out]); (try rw [R2p.out]); (try rw [Hqt.out]); (try rw [R4a.out]); (try rw [Hqu.out]); clear z1 z2 cz n0 n1 n2 n3 n4 n5 n6 n7 n8 n9 n10 n11; replace HE := Lib.hid (HE.out.keep hb); clear hb; obtain ⟨z1, z2, cz, n0, n1, n2, n3, n4, n5, n6, n7, n8, n9, n10, n11⟩ := HE.out.cells; dsimp only at n0 n1 n2 n3 n4 n5 n6 n7 n8 n9 n10 n11; go_wp2_with fail))
            (try (go_at_call 20; refine (reached_c x n c l _ _ _ HE.out.sh).mono ?_; rintro e W9 ⟨rfl, hb⟩; (try rw [R1.out]); (try rw [R2p.out]); (try rw [Hqt.out]); (try rw [R4a.out]); (try rw [Hqu.out]); clear z1 z2 cz n0 n1 n2 n3 n4 n5 n6 n7 n8 n9 n10 n11; replace HE := Lib.hid (HE.out.keep hb); clear hb; obtain ⟨z1, z2, cz, n0, n1, n2, n3, n4, n5, n6, n7, n8, n9, n10, n11⟩ := HE.out.cells; dsimp only at n0 n1 n2 n3 n4 n5 n6 n7 n8 n9 n10 n11; go_wp2_with fail))
            (try (go_at_call 20; refine (reached_c x n c l _ _ _ HE.out.sh).mono ?_; rintro e W9 ⟨rfl, hb⟩; (try rw [R1.out]); (try rw [R2p.out]); (try rw [Hqt.out]); (try rw [R4a.out]); (try rw [Hqu.out]); clear z1 z2 cz n0 n1 n2 n3 n4 n5 n6 n7 n8 n9 n10 n11; replace HE := Lib.hid (HE.out.keep hb); clear hb; obtain ⟨z1, z2, cz, n0, n1, n2, n3, n4, n5, n6, n7, n8, n9, n10, n11⟩ := HE.out.cells; dsimp only at n0 n1 n2 n3 n4 n5 n6 n7 n8 n9 n10 n11; go_wp2_with fail))
            go_ret
            exact ⟨rfl, HE.out.below⟩
          · have q8 : decide (S2 ≤ t) = true := decide_eq_true (r43 rfl)
            clear r42 r43 R2 R3 R4 R5 HP HLT
            go_wp2_with fail
            go_at_call 20
            refine (reached_c x n c l _ _ _ HE.out.sh).mono ?_
            rintro e W9 ⟨rfl, hb⟩
            (try rw [R1.out])
            (try rw [R2p.out])
            (try rw [Hqt.out])
            (try rw [R4a.out])
            (try rw [Hqu.out])
            (try clear z1 z2 cz n0 n1 n2 n3 n4 n5 n6 n7 n8 n9 n10 n11)
            replace HE := Lib.hid (HE.out.keep hb)
            clear hb
            obtain ⟨z1, z2, cz, n0, n1, n2, n3, n4, n5, n6, n7, n8, n9, n10, n11⟩ := HE.out.cells
            dsimp only at n0 n1 n2 n3 n4 n5 n6 n7 n8 n9 n10 n11
            go_wp2_with fail
            go_at_call 20
            refine (reached_c x n c l _ _ _ HE.out.sh).mono ?_
            rintro e W9 ⟨rfl, hb⟩
            (try rw [R1.out])
            (try rw [R2p.out])
            (try rw [Hqt.out])
            (try rw [R4a.out])
            (try rw [Hqu.out])
            (try clear z1 z2 cz n0 n1 n2 n3 n4 n5 n6 n7 n8 n9 n10 n11)
            replace HE := Lib.hid (HE.out.keep hb)
            clear hb
            obtain ⟨z1, z2, cz, n0, n1, n2, n3, n4, n5, n6, n7, n8, n9, n10, n11⟩ := HE.out.cells
            dsimp only at n0 n1 n2 n3 n4 n5 n6 n7 n8 n9 n10 n11
            go_wp2_with fail
            (try (go_at_call 20; refine (reached_c x n c l _ _ _ HE.out.sh).mono ?_; rintro e W9 ⟨rfl, hb⟩; (try rw [R1.out]); (try rw [R2p.out]); (try rw [Hqt.out]); (try rw [R4a.out]); (try rw [Hqu.out]); clear z1 z2 cz n0 n1 n2 n3 n4 n5 n6 n7 n8 n9 n10 n11; replace HE := Lib.hid (HE.out.keep hb); clear hb; obtain ⟨z1, z2, cz, n0, n1, n2, n3, n4, n5, n6, n7, n8, n9, n10, n11⟩ := HE.out.cells; dsimp only at n0 n1 n2 n3 n4 n5 n6 n7 n8 n9 n10 n11; go_wp2_with fail))
            (try (go_at_call 20; refine (reached_c x n c l _ _ _ HE.out.sh).mono ?_; rintro e W9 ⟨rfl, hb⟩; (try rw [R1.out]); (try rw [R2p.out]); (try rw [Hqt.out]); (try rw [R4a.out]); (try rw [Hqu.out]); clear z1 z2 cz n0 n1 n2 n3 n4 n5 n6 n7 n8 n9 n10 n11; replace HE := Lib.hid (HE.out.keep hb); clear hb; obtain ⟨z1, z2, cz, n0, n1, n2, n3, n4, n5, n6, n7, n8, n9, n10, n11⟩ := HE.out.cells; dsimp only at n0 n1 n2 n3 n4 n5 n6 n7 n8 n9 n10 n11; go_wp2_with fail))
            (try (go_at_call 20; refine (reached_c x n c l _ _ _ HE.out.sh).mono ?_; rintro e W9 ⟨rfl, hb⟩; (try rw [R1.out]); (try rw [R2p.out]); (try rw [Hqt.out]); (try rw [R4a.out]); (try rw [Hqu.out]); clear z1 z2 cz n0 n1 n2 n3 n4 n5 n6 n7 n8 n9 n10 n11; replace HE := Lib.hid (HE.out.keep hb); clear hb; obtain ⟨z1, z2, cz, n0, n1, n2, n3, n4, n5, n6, n7, n8, n9, n10, n11⟩ := HE.out.cells; dsimp only at n0 n1 n2 n3 n4 n5 n6 n7 n8 n9 n10 n11; go_wp2_with fail))
            go_ret
            exact ⟨rfl, HE.out.below⟩
        · have q6 : decide (0 ≤ S2) = false := decide_eq_false hs2
          obtain ⟨r51, r52⟩ := R5.out (by omega)
          have q7 : (S2 == -1) = true := by simp [r51]
          have R4a := Lib.hid (rfl : (0 : Nat) = 0)
          by_cases hun : un = -1
          · have q8 : (un == -1) = true := by simp [hun]
            clear r51 r52 R2 R3 R4 R5 HP HLT hun
            go_wp2_with fail
            go_at_call 20
            refine (reached_c x n c l _ _ _ HE.out.sh).mono ?_
            rintro e W9 ⟨rfl, hb⟩
            (try rw [R1.out])
            (try rw [R2p.out])
            (try rw [Hqt.out])
            (try rw [R4a.out])
            (try rw [Hqu.out])
            (try clear z1 z2 cz n0 n1 n2 n3 n4 n5 n6 n7 n8 n9 n10 n11)
            replace HE := Lib.hid (HE.out.keep hb)
            clear hb
            obtain ⟨z1, z2, cz, n0, n1, n2, n3, n4, n5, n6, n7, n8, n9, n10, n11⟩ := HE.out.cells
            dsimp only at n0 n1 n2 n3 n4 n5 n6 n7 n8 n9 n10 n11
            go_wp2_with fail
            go_at_call 20
            refine (reached_c x n c l _ _ _ HE.out.sh).mono ?_
            rintro e W9 ⟨rfl, hb⟩
            (try rw [R1.out])
            (try rw [R2p.out])
            (try rw [Hqt.out])
            (try rw [R4a.out])
            (try rw [Hqu.out])
            (try clear z1 z2 cz n0 n1 n2 n3 n4 n5 n6 n7 n8 n9 n10 n11)
            replace HE := Lib.hid (HE.out.keep hb)
            clear hb
            obtain ⟨z1, z2, cz, n0, n1, n2, n3, n4, n5, n6, n7, n8, n9, n10, n11⟩ := HE.out.cells
            dsimp only at n0 n1 n2 n3 n4 n5 n6 n7 n8 n9 n10 n11
            go_wp2_with fail
            (try (go_at_call 20; refine (reached_c x n c l _ _ _ HE.out.sh).mono ?_; rintro e W9 ⟨rfl, hb⟩; (try rw [R1.out]); (try rw [R2p.out]); (try rw [Hqt.out]); (try rw [R4a.out]); (try rw [Hqu.out]); clear z1 z2 cz n0 n1 n2 n3 n4 n5 n6 n7 n8 n9 n10 n11; replace HE := Lib.hid (HE.out.keep hb); clear hb; obtain ⟨z1, z2, cz, n0, n1, n2, n3, n4, n5, n6, n7, n8, n9, n10, n11⟩ := HE.out.cells; dsimp only at n0 n1 n2 n3 n4 n5 n6 n7 n8 n9 n10 n11; go_wp2_with fail))
            (try (go_at_call 20; refine (reached_c x n c l _ _ _ HE.out.sh).mono ?_; rintro e W9 ⟨rfl, hb⟩; (try rw [R1.out]); (try rw [R2p.out]); (try rw [Hqt.out]); (try rw [R4a.out]); (try rw [Hqu.out]); clear z1 z2 cz n0 n1 n2 n3 n4 n5 n6 n7 n8 n9 n10 n11; replace HE := Lib.hid (HE.out.keep hb); clear hb; obtain ⟨z1, z2, cz, n0, n1, n2, n3, n4, n5, n6, n7, n8, n9, n10, n11⟩ := HE.out.cells; dsimp only at n0 n1 n2 n3 n4 n5 n6 n7 n8 n9 n10 n11; go_wp2_with fail))
            (try (go_at_call 20; refine (reached_c x n c l _ _ _ HE.out.sh).mono ?_; rintro e W9 ⟨rfl, hb⟩; (try rw [R1.out]); (try rw [R2p.out]); (try rw [Hqt.out]); (try rw [R4a.out]); (try rw [Hqu.out]); clear z1 z2 cz n0 n1 n2 n3 n4 n5 n6 n7 n8 n9 n10 n11; replace HE := Lib.hid (HE.out.keep hb); clear hb; obtain ⟨z1, z2, cz, n0, n1, n2, n3, n4, n5, n6, n7, n8, n9, n10, n11⟩ := HE.out.cells; dsimp only at n0 n1 n2 n3 n4 n5 n6 n7 n8 n9 n10 n11; go_wp2_with fail))
            go_ret
            exact ⟨rfl, HE.out.below⟩
          · have q8 : (un == -1) = false := by simp [hun]
            have hq := r52 hun
            subst hq
            clear r51 r52 R2 R3 R4 R5 HP HLT hun
            go_wp2_with fail
            go_at_call 20
            refine (reached_c x n c l _ _ _ HE.out.sh).mono ?_
            rintro e W9 ⟨rfl, hb⟩
            (try rw [R1.out])
            (try rw [R2p.out])
            (try rw [Hqt.out])
            (try rw [R4a.out])
            (try rw [Hqu.out])
            (try clear z1 z2 cz n0 n1 n2 n3 n4 n5 n6 n7 n8 n9 n10 n11)
            replace HE := Lib.hid (HE.out.keep hb)
            clear hb
            obtain ⟨z1, z2, cz, n0, n1, n2, n3, n4, n5, n6, n7, n8, n9, n10, n11⟩ := HE.out.cells
            dsimp only at n0 n1 n2 n3 n4 n5 n6 n7 n8 n9 n10 n11
            go_wp2_with fail
            go_at_call 20
            refine (reached_c x n c l _ _ _ HE.out.sh).mono ?_
            rintro e W9 ⟨rfl, hb⟩
            (try rw [R1.out])
            (try rw [R2p.out])
            (try rw [Hqt.out])
            (try rw [R4a.out])
            (try rw [Hqu.out])
            (try clear z1 z2 cz n0 n1 n2 n3 n4 n5 n6 n7 n8 n9 n10 n11)
            replace HE := Lib.hid (HE.out.keep hb)
            clear hb
            obtain ⟨z1, z2, cz, n0, n1, n2, n3, n4, n5, n6, n7, n8, n9, n10, n11⟩ := HE.out.cells
            dsimp only at n0 n1 n2 n3 n4 n5 n6 n7 n8 n9 n10 n11
            go_wp2_with fail
            (try (go_at_call 20; refine (reached_c x n c l _ _ _ HE.out.sh).mono ?_; rintro e W9 ⟨rfl, hb⟩; (try rw [R1.out]); (try rw [R2p.out]); (try rw [Hqt.out]); (try rw [R4a.out]); (try rw [Hqu.out]); clear z1 z2 cz n0 n1 n2 n3 n4 n5 n6 n7 n8 n9 n10 n11; replace HE := Lib.hid (HE.out.keep hb); clear hb; obtain ⟨z1, z2, cz, n0, n1, n2, n3, n4, n5, n6, n7, n8, n9, n10, n11⟩ := HE.out.cells; dsimp only at n0 n1 n2 n3 n4 n5 n6 n7 n8 n9 n10 n11; go_wp2_with fail))
            (try (go_at_call 20; refine (reached_c x n c l _ _ _ HE.out.sh).mono ?_; rintro e W9 ⟨rfl, hb⟩; (try rw [R1.out]); (try rw [R2p.out]); (try rw [Hqt.out]); (try rw [R4a.out]); (try rw [Hqu.out]); clear z1 z2 cz n0 n1 n2 n3 n4 n5 n6 n7 n8 n9 n10 n11; replace HE := Lib.hid (HE.out.keep hb); clear hb; obtain ⟨z1, z2, cz, n0, n1, n2, n3, n4, n5, n6, n7, n8, n9, n10, n11⟩ := HE.out.cells; dsimp only at n0 n1 n2 n3 n4 n5 n6 n7 n8 n9 n10 n11; go_wp2_with fail))
            (try (go_at_call 20; refine (reached_c x n c l _ _ _ HE.out.sh).mono ?_; rintro e W9 ⟨rfl, hb⟩; (try rw [R1.out]); (try rw [R2p.out]); (try rw [Hqt.out]); (try rw [R4a.out]); (try rw [Hqu.out]); clear z1 z2 cz n0 n1 n2 n3 n4 n5 n6 n7 n8 n9 n10 n11; replace HE := Lib.hid (HE.out.keep hb); clear hb; obtain ⟨z1, z2, cz, n0, n1, n2, n3, n4, n5, n6, n7, n8, n9, n10, n11⟩ := HE.out.cells; dsimp only at n0 n1 n2 n3 n4 n5 n6 n7 n8 n9 n10 n11; go_wp2_with fail))
            go_ret
            exact ⟨rfl, HE.out.below⟩
  · have q3 : (S3 != 0) = true := by simp [h3]
    obtain ⟨e1, e2, e3⟩ := spans_no HS.out h3 t
    subst e1 e2
    have E3 := Lib.hid e3
    clear e3 HS
    by_cases h10 : S3 = 10
    · have q10 : (S3 != 10) = false := by simp [h10]
      have R := Lib.hid (E3.out h10)
      clear h10 h3 E3
      go_wp2_with fail
      go_at_call 20
      refine (reached_c x n c l (t) fr _ HE.out.sh).mono ?_
      rintro e W9 ⟨rfl, hb⟩
      rw [R.out]
      (try clear z1 z2 cz n0 n1 n2 n3 n4 n5 n6 n7 n8 n9 n10 n11)
      replace HE := Lib.hid (HE.out.keep hb)
      clear hb
      obtain ⟨z1, z2, cz, n0, n1, n2, n3, n4, n5, n6, n7, n8, n9, n10, n11⟩ := HE.out.cells
      dsimp only at n0 n1 n2 n3 n4 n5 n6 n7 n8 n9 n10 n11
      go_wp2_with fail
      go_ret
      exact ⟨rfl, HE.out.below⟩
    · have q10 : (S3 != 10) = true := by simp [h10]
      clear h10 h3 E3
      go_wp2_with fail
      go_ret
      exact ⟨rfl, HE.out.below⟩
theorem WindowSpans_walk (w : World) (m : Ms) (x : Option Addr) (n c : Nat) (l : List Shift) (hx : IsShifts w x n l) (t : Int) (wt : (Lit.int .i64 t).wf = true) :
    Calls Tryd.prog 8 #[.agg m.v, .agg #[.slice x n c], .int .i64 t] w fun e w' => e = .returned (.bool true) ∧ Below w.heap.size w w' := WindowSpans_walk0 w m x n c l hx t
end Go.Proofs.YtkcbdlnoobjmbaaDoor
