/-
  'WindowLater': the walk.
-/
import Derived.Test.YtkcbdlnoobjmbaaDoorWnLaw
namespace Go.Proofs.YtkcbdlnoobjmbaaDoor
open Go.RowKit Go.Cz Go.Cz.Ck Go.Cz.Wn
set_option linter.unusedSimpArgs false
set_option linter.unusedVariables false
attribute [local go_sem] bs_size bs_extract bs_append bs_toList
attribute [local irreducible] cList
/-- A day before another one does not begin later. -/
theorem begin_mono {l : List Shift} (h : validB l = true) {a b : Int} (hab : a ≤ b) (hb : 0 ≤ beginF l b) : 0 ≤ beginF l a ∧ beginF l a ≤ beginF l b := by
  have ha := inst_law h (d := a) (m := 0) (by omega) (by omega)
  have hb' := inst_law h (d := b) (m := 0) (by omega) (by omega)
  unfold beginF at hb ⊢
  rcases hb' with ⟨b1, b2, b3, b4, -⟩ | ⟨b1, b2, -⟩
  · rw [if_pos b1]
    rcases ha with ⟨a1, a2, a3, a4, a5⟩ | ⟨a1, a2, a5⟩
    · rw [if_pos a1]
      refine ⟨a2, ?_⟩
      rcases Int.lt_or_le (instF l b 0).1 (instF l a 0).1 with hlt | hle
      · have := a5 _ b2 hlt
        omega
      · exact hle
    · have := a5 _ b2 b3
      omega
  · rw [if_neg (by omega)] at hb
    omega
/-- What it takes to apply. -/
theorem applies_iff {l : List Shift} {kind fr un wi signed now : Int} : appliesF l kind fr un wi signed now = true ↔ ((datedB kind fr un wi = true ∧ validB l = true ∧ (instF l fr 0).2 = 0) ∧ instB signed = true ∧ instB now = true ∧ (instF l fr 0).1 ≤ now ∧
    (un < 0 ∨ beginF l un < 0 ∨ now < beginF l un) ∧ ((instF l fr 0).1 ≤ signed ∨ (0 ≤ beginF l (fr + wi) ∧ beginF l (fr + wi) ≤ now))) := by
  rcases hS : spanF l kind fr un wi with ⟨S1, S2, S3⟩
  by_cases h3 : S3 = 0
  · subst h3
    obtain ⟨hd, hv, h0, e1, e2⟩ := span_zero (l := l) (kind := kind) (fr := fr) (un := un) (wi := wi) (by rw [hS])
    rw [hS] at e1 e2
    dsimp only at e1 e2
    rw [← e1]
    have hq : (un < 0 ∨ beginF l un < 0 ∨ now < beginF l un) ↔ (S2 < 0 ∨ now < S2) := by
      rw [e2]
      by_cases hu : un < 0
      · rw [if_pos hu]; constructor
        · intro _; left; omega
        · intro _; left; exact hu
      · rw [if_neg hu]; constructor
        · rintro (h | h)
          · exact absurd h hu
          · exact h
        · exact .inr
    rw [hq]
    constructor
    · intro h
      rcases s1 : instB signed with _ | _
      · rw [applies_no hS (.inr (.inl s1))] at h; cases h
      rcases n1 : instB now with _ | _
      · rw [applies_no hS (.inr (.inr (.inl n1)))] at h; cases h
      rcases Int.lt_or_le now S1 with n2 | n2
      · rw [applies_no hS (.inr (.inr (.inr (.inl n2))))] at h; cases h
      by_cases k1 : 0 ≤ S2 ∧ S2 ≤ now
      · rw [applies_no hS (.inr (.inr (.inr (.inr k1))))] at h; cases h
      rw [applies_ok hS s1 n1 n2 (by omega)] at h
      simp only [Bool.or_eq_true, Bool.and_eq_true, decide_eq_true_eq] at h
      exact ⟨⟨hd, hv, h0⟩, rfl, rfl, n2, by omega, h⟩
    · rintro ⟨-, s1, n1, n2, k1, k2⟩
      rw [applies_ok hS s1 n1 n2 k1]
      simp only [Bool.or_eq_true, Bool.and_eq_true, decide_eq_true_eq]
      exact k2
  · constructor
    · intro h
      rw [applies_no hS (.inl h3)] at h; cases h
    · rintro ⟨⟨hd, hv, h0⟩, -⟩
      exfalso
      unfold spanF at hS
      rw [hd, hv, if_pos (by simp), if_pos h0] at hS
      injection hS with _ hS
      injection hS with _ hS
      exact h3 hS.symm
theorem later1 {l : List Shift} {kind fr un wi signed now until0 : Int} (hd : datedB kind fr un wi = true) (h : appliesF l kind fr un wi signed now = false) (hu : until0 ≠ -1) (hc : un = -1 ∨ until0 < un) : appliesF l kind fr until0 wi signed now = false := by
  cases h2 : appliesF l kind fr until0 wi signed now
  · rfl
  · exfalso
    obtain ⟨⟨a1, a2, a3⟩, a4, a5, a6, a7, a8⟩ := applies_iff.1 h2
    have d1 := dated_in a1
    have d2 := dated_in hd
    have : appliesF l kind fr un wi signed now = true := applies_iff.2 ⟨⟨hd, a2, a3⟩, a4, a5, a6, by
      rcases hc with hc | hc
      · left; omega
      · rcases Int.lt_or_le (beginF l un) 0 with q | q
        · exact .inr (.inl q)
        · obtain ⟨m1, m2⟩ := begin_mono a2 (Int.le_of_lt hc) q
          right; right; omega, a8⟩
    rw [this] at h; cases h
theorem later2 {l : List Shift} {kind fr un wi signed now later : Int} (h : appliesF l kind fr un wi signed now = true) (h1 : signed ≤ later) (h2 : later ≤ 144001439) : appliesF l kind fr un wi later now = true := by
  obtain ⟨a0, a4, a5, a6, a7, a8⟩ := applies_iff.1 h
  have := instB_true.1 a4
  exact applies_iff.2 ⟨a0, instB_true.2 ⟨by omega, h2⟩, a5, a6, a7, by
    rcases a8 with a8 | a8
    · left; omega
    · exact .inr a8⟩
theorem later3 {l : List Shift} {kind fr un wi signed now : Int} (h : appliesF l kind fr un wi signed now = true) : appliesF l kind fr (-1) wi signed now = true := by
  obtain ⟨⟨a1, a2, a3⟩, a4, a5, a6, a7, a8⟩ := applies_iff.1 h
  refine applies_iff.2 ⟨⟨?_, a2, a3⟩, a4, a5, a6, .inl (by omega), a8⟩
  simp only [datedB, Bool.and_eq_true, Bool.or_eq_true] at a1 ⊢
  exact ⟨a1.1, a1.2.1, a1.2.2.1, a1.2.2.2.1, .inl (by simp)⟩
theorem span_dated {l : List Shift} {kind fr un wi S1 S2 : Int} (h : spanF l kind fr un wi = (S1, S2, 0)) : datedB kind fr un wi = true := (span_zero (l := l) (kind := kind) (fr := fr) (un := un) (wi := wi) (by rw [h])).1
set_option maxRecDepth 10000 in
set_option maxHeartbeats 4000000 in
theorem WindowLater_walk0 (w : World) (m : Ms) (x : Option Addr) (n c : Nat) (l : List Shift) (hx : IsShifts w x n l) (signed later now until0 : Int) :
    Calls Tryd.prog 6 #[.agg m.v, .agg #[.slice x n c], .int .i64 signed, .int .i64 later, .int .i64 now, .int .i64 until0] w fun e w' => e = .returned (.bool true) ∧ Below w.heap.size w w' := by
  obtain ⟨B, hB⟩ : ∃ B, B = w.heap.size := ⟨_, rfl⟩
  have HE : Hid (WE w ((w.alloc (.cells m.v 26)).alloc (.cells #[.slice x n c] 29)) B m x n c l) := by rw [hB]; exact WE.start w m x n c l hx
  clear hx



  obtain ⟨id, auth, kind, target, op, name, cmp, num, ka, kn, kc, fr, un, wi⟩ := m

  dsimp only [Ms.v] at HE ⊢
  go_enter Tryd.func6, Tryd.ntmps6
  go_wp2_with fail
  rw [← hB] at *
  clear hB
  obtain ⟨W1, hW1⟩ : ∃ W1, W1 = (w.alloc (.cells #[.string id, .string auth, .int .i64 kind, .string target, .int .i64 op, .string name, .int .i64 cmp, .int .i64 num, .slice ka kn kc, .int .i64 fr, .int .i64 un, .int .i64 wi] 26)).alloc (.cells #[.slice x n c] 29) := ⟨_, rfl⟩
  rw [← hW1] at HE ⊢
  clear hW1
  go_at_call 10
  refine (head_c W1).mono ?_
  rintro e W2 ⟨rfl, hb⟩
  (try clear z1 z2 cz n0 n1 n2 n3 n4 n5 n6 n7 n8 n9 n10 n11)
  replace HE := Lib.hid (HE.out.keep hb)
  clear hb
  obtain ⟨z1, z2, cz, n0, n1, n2, n3, n4, n5, n6, n7, n8, n9, n10, n11⟩ := HE.out.cells
  dsimp only at n0 n1 n2 n3 n4 n5 n6 n7 n8 n9 n10 n11
  by_cases h25 : 25 < n
  · go_wp2_with fail
    go_ret
    exact ⟨rfl, HE.out.below⟩
  by_cases h26 : later < signed
  · have q1 : decide (later < signed) = true := decide_eq_true h26
    go_wp2_with fail
    go_ret
    exact ⟨rfl, HE.out.below⟩
  have q1 : decide (later < signed) = false := decide_eq_false h26
  by_cases h27 : 144001439 < later
  · have q2 : decide (144001439 < later) = true := decide_eq_true h27
    go_wp2_with fail
    go_ret
    exact ⟨rfl, HE.out.below⟩
  have q2 : decide (144001439 < later) = false := decide_eq_false h27
  go_wp2_with fail
  go_at_call 13
  refine (Applies_c ⟨id, auth, kind, target, op, name, cmp, num, ka, kn, kc, fr, un, wi⟩ x n c l signed now W2 HE.out.sh).mono ?_
  rintro e W3 ⟨rfl, hb⟩
  dsimp only
  (try clear z1 z2 cz n0 n1 n2 n3 n4 n5 n6 n7 n8 n9 n10 n11)
  replace HE := Lib.hid (HE.out.keep hb)
  clear hb
  obtain ⟨z1, z2, cz, n0, n1, n2, n3, n4, n5, n6, n7, n8, n9, n10, n11⟩ := HE.out.cells
  dsimp only at n0 n1 n2 n3 n4 n5 n6 n7 n8 n9 n10 n11
  cases hA : appliesF l kind fr un wi signed now
  · have HA := Lib.hid hA
    clear hA
    rcases hS : spanF l kind fr un wi with ⟨S1, S2, S3⟩
    have HS := Lib.hid hS
    clear hS
    go_wp2_with fail
    go_at_call 11
    refine (Span_c ⟨id, auth, kind, target, op, name, cmp, num, ka, kn, kc, fr, un, wi⟩ x n c l W3 HE.out.sh).mono ?_
    rintro e W4 ⟨rfl, hb⟩
    dsimp only
    rw [HS.out]
    (try clear z1 z2 cz n0 n1 n2 n3 n4 n5 n6 n7 n8 n9 n10 n11)
    replace HE := Lib.hid (HE.out.keep hb)
    clear hb
    obtain ⟨z1, z2, cz, n0, n1, n2, n3, n4, n5, n6, n7, n8, n9, n10, n11⟩ := HE.out.cells
    dsimp only at n0 n1 n2 n3 n4 n5 n6 n7 n8 n9 n10 n11
    by_cases h3 : S3 = 0
    · have q3 : (S3 != 0) = false := by simp [h3]
      have HD := Lib.hid (span_dated (h3 ▸ HS.out))
      clear h3
      by_cases hc : un = -1 ∨ until0 < un
      · by_cases hm1 : until0 = -1
        · have q4 : (until0 == -1) = true := by simp [hm1]
          clear hm1
          by_cases hu1 : un = -1
          · have q5 : (un == -1) = true := by simp [hu1]
            clear hc hu1
            go_wp2_with fail
            go_ret
            exact ⟨rfl, (HE.out.keep (show Below _ _ _ from (Below.refl _ _).alloc (Nat.le_refl _) _)).below⟩
          · have q5 : (un == -1) = false := by simp [hu1]
            have q6 : decide (until0 < un) = true := decide_eq_true (by omega)
            clear hc hu1
            go_wp2_with fail
            go_ret
            exact ⟨rfl, (HE.out.keep (show Below _ _ _ from (Below.refl _ _).alloc (Nat.le_refl _) _)).below⟩
        · have q4 : (until0 == -1) = false := by simp [hm1]
          have HL := Lib.hid (later1 HD.out HA.out hm1 hc)
          clear hm1
          by_cases hu1 : un = -1
          all_goals
            (try have q5 : (un == -1) = true := by simp [hu1])
            (try have q5 : (un == -1) = false := by simp [hu1])
            (try have q6 : decide (until0 < un) = true := decide_eq_true (by omega))
            clear hc hu1
            go_wp2_with fail
            go_at_call 13
            refine (Applies_c ⟨id, auth, kind, target, op, name, cmp, num, ka, kn, kc, fr, until0, wi⟩ x n c l signed now _ (HE.out.keep (show Below _ _ _ from (Below.refl _ _).alloc (Nat.le_refl _) _)).sh).mono ?_
            rintro e W5 ⟨rfl, hb⟩
            dsimp only
            rw [HL.out]
            have HB := Lib.hid (HE.out.below.trans ((show Below W4.heap.size W4 W5 from ((Below.refl _ _).alloc (Nat.le_refl _) _).trans (hb.mono (by simp))).mono HE.out.below.size))
            clear hb
            go_wp2_with fail
            go_ret
            exact ⟨rfl, HB.out⟩
      · have q5 : (un == -1) = false := by simp; omega
        have q6 : decide (until0 < un) = false := decide_eq_false (by omega)
        by_cases hm1 : until0 = -1
        · have q4 : (until0 == -1) = true := by simp [hm1]
          clear hm1 hc
          go_wp2_with fail
          go_ret
          exact ⟨rfl, (HE.out.keep (show Below _ _ _ from (Below.refl _ _).alloc (Nat.le_refl _) _)).below⟩
        · have q4 : (until0 == -1) = false := by simp [hm1]
          by_cases hne : un = until0
          · subst hne
            clear hm1 hc
            go_wp2_with fail
            go_at_call 13
            refine (Applies_c ⟨id, auth, kind, target, op, name, cmp, num, ka, kn, kc, fr, un, wi⟩ x n c l signed now _ (HE.out.keep (show Below _ _ _ from (Below.refl _ _).alloc (Nat.le_refl _) _)).sh).mono ?_
            rintro e W5 ⟨rfl, hb⟩
            dsimp only
            rw [HA.out]
            have HB := Lib.hid (HE.out.below.trans ((show Below W4.heap.size W4 W5 from ((Below.refl _ _).alloc (Nat.le_refl _) _).trans (hb.mono (by simp))).mono HE.out.below.size))
            clear hb
            go_wp2_with fail
            go_ret
            exact ⟨rfl, HB.out⟩
          · have q7 : (un != until0) = true := by simp [hne]
            clear hm1 hc hne
            go_wp2_with fail
            go_ret
            exact ⟨rfl, (HE.out.keep (show Below _ _ _ from (Below.refl _ _).alloc (Nat.le_refl _) _)).below⟩
    · have q3 : (S3 != 0) = true := by simp [h3]
      clear h3
      go_wp2_with fail
      go_ret
      exact ⟨rfl, HE.out.below⟩
  · have HA2 := Lib.hid (later2 hA (by omega) (by omega) (later := later))
    have HA3 := Lib.hid (later3 hA)
    clear hA
    go_wp2_with fail
    go_at_call 13
    refine (Applies_c ⟨id, auth, kind, target, op, name, cmp, num, ka, kn, kc, fr, un, wi⟩ x n c l later now _ (HE.out.keep (show Below _ _ _ from (Below.refl _ _).alloc (Nat.le_refl _) _)).sh).mono ?_
    rintro e W5 ⟨rfl, hb⟩
    dsimp only
    rw [HA2.out]
    have bk := (Bk.new W3 #[.string id, .string auth, .int .i64 kind, .string target, .int .i64 op, .string name, .int .i64 cmp, .int .i64 num, .slice ka kn kc, .int .i64 fr, .int .i64 (-1), .int .i64 wi] 26).below hb
    have zb := bk.lt
    have p0 : W5.cell? ⟨W3.heap.size, 0, none⟩ = some (.string id) := by rw [bk.cell]; rfl
    have p1 : W5.cell? ⟨W3.heap.size, 1, none⟩ = some (.string auth) := by rw [bk.cell]; rfl
    have p2 : W5.cell? ⟨W3.heap.size, 2, none⟩ = some (.int .i64 kind) := by rw [bk.cell]; rfl
    have p3 : W5.cell? ⟨W3.heap.size, 3, none⟩ = some (.string target) := by rw [bk.cell]; rfl
    have p4 : W5.cell? ⟨W3.heap.size, 4, none⟩ = some (.int .i64 op) := by rw [bk.cell]; rfl
    have p5 : W5.cell? ⟨W3.heap.size, 5, none⟩ = some (.string name) := by rw [bk.cell]; rfl
    have p6 : W5.cell? ⟨W3.heap.size, 6, none⟩ = some (.int .i64 cmp) := by rw [bk.cell]; rfl
    have p7 : W5.cell? ⟨W3.heap.size, 7, none⟩ = some (.int .i64 num) := by rw [bk.cell]; rfl
    have p8 : W5.cell? ⟨W3.heap.size, 8, none⟩ = some (.slice ka kn kc) := by rw [bk.cell]; rfl
    have p9 : W5.cell? ⟨W3.heap.size, 9, none⟩ = some (.int .i64 fr) := by rw [bk.cell]; rfl
    have p10 : W5.cell? ⟨W3.heap.size, 10, none⟩ = some (.int .i64 (-1)) := by rw [bk.cell]; rfl
    have p11 : W5.cell? ⟨W3.heap.size, 11, none⟩ = some (.int .i64 wi) := by rw [bk.cell]; rfl
    clear bk
    have hba : Below W3.heap.size W3 (W3.alloc (.cells #[.string id, .string auth, .int .i64 kind, .string target, .int .i64 op, .string name, .int .i64 cmp, .int .i64 num, .slice ka kn kc, .int .i64 fr, .int .i64 (-1), .int .i64 wi] 26)) := (Below.refl _ _).alloc (Nat.le_refl _) _
    have hb3 := hba.trans (hb.mono hba.size)
    clear hba hb
    have hb := hb3
    clear hb3
    (try clear z1 z2 cz n0 n1 n2 n3 n4 n5 n6 n7 n8 n9 n10 n11)
    replace HE := Lib.hid (HE.out.keep hb)
    clear hb
    obtain ⟨z1, z2, cz, n0, n1, n2, n3, n4, n5, n6, n7, n8, n9, n10, n11⟩ := HE.out.cells
    dsimp only at n0 n1 n2 n3 n4 n5 n6 n7 n8 n9 n10 n11
    go_wp2_with fail
    go_at_call 13
    refine (Applies_c ⟨id, auth, kind, target, op, name, cmp, num, ka, kn, kc, fr, -1, wi⟩ x n c l signed now W5 HE.out.sh).mono ?_
    rintro e W6 ⟨rfl, hb⟩
    dsimp only
    rw [HA3.out]
    have HB := Lib.hid (HE.out.below.trans (hb.mono HE.out.below.size))
    clear hb
    go_wp2_with fail
    go_ret
    exact ⟨rfl, HB.out⟩
theorem WindowLater_walk (w : World) (m : Ms) (x : Option Addr) (n c : Nat) (l : List Shift) (hx : IsShifts w x n l) (signed : Int) (ws : (Lit.int .i64 signed).wf = true) (later : Int) (wl : (Lit.int .i64 later).wf = true) (now : Int) (wn : (Lit.int .i64 now).wf = true) (until0 : Int) (wu : (Lit.int .i64 until0).wf = true) :
    Calls Tryd.prog 6 #[.agg m.v, .agg #[.slice x n c], .int .i64 signed, .int .i64 later, .int .i64 now, .int .i64 until0] w fun e w' => e = .returned (.bool true) ∧ Below w.heap.size w w' := WindowLater_walk0 w m x n c l hx signed later now until0
end Go.Proofs.YtkcbdlnoobjmbaaDoor
