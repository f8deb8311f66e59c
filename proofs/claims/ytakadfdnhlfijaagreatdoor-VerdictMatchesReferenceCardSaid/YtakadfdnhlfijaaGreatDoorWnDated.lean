/-
  The windows' 'isDay', 'isInstant', 'dated', and the reference's 'day', 'Dated'.
-/
import Derived.Test.YtakadfdnhlfijaaGreatDoorWnModel
import Derived.Test.YtakadfdnhlfijaaGreatDoorClBegin
namespace Go.Proofs.YtakadfdnhlfijaaGreatDoor
open Go.RowKit Go.Cz Go.Cz.Ck Go.Cz.Wn
set_option linter.unusedSimpArgs false
set_option linter.unusedVariables false
attribute [local go_sem] bs_size bs_extract bs_append bs_toList
attribute [local irreducible] cList
set_option maxHeartbeats 1000000 in
theorem isDay_c (n : Int) (w : World) : Calls Tryz.prog 75 #[.int .i64 n] w fun e w' => e = .returned (.bool (dayB n)) ∧ w' = w := by
  by_cases h0 : 0 ≤ n
  · by_cases h1 : n ≤ 100000
    · have He : Hid (dayB n = true) := dayB_true.2 ⟨h0, h1⟩
      go_enter Tryz.func75, Tryz.ntmps75
      go_wp2
      go_ret
      exact ⟨by rw [He.out]; rfl, rfl⟩
    · have He : Hid (dayB n = false) := dayB_false.2 (by omega)
      go_enter Tryz.func75, Tryz.ntmps75
      go_wp2
      go_ret
      exact ⟨by rw [He.out]; rfl, rfl⟩
  · have He : Hid (dayB n = false) := dayB_false.2 (by omega)
    go_enter Tryz.func75, Tryz.ntmps75
    go_wp2
    go_ret
    exact ⟨by rw [He.out]; rfl, rfl⟩
set_option maxHeartbeats 1000000 in
theorem isInstant_c (n : Int) (w : World) : Calls Tryz.prog 56 #[.int .i64 n] w fun e w' => e = .returned (.bool (instB n)) ∧ w' = w := by
  by_cases h0 : 0 ≤ n
  · by_cases h1 : n ≤ 144001439
    · have He : Hid (instB n = true) := instB_true.2 ⟨h0, h1⟩
      go_enter Tryz.func56, Tryz.ntmps56
      go_wp2
      go_ret
      exact ⟨by rw [He.out]; rfl, rfl⟩
    · have He : Hid (instB n = false) := instB_false.2 (by omega)
      go_enter Tryz.func56, Tryz.ntmps56
      go_wp2
      go_ret
      exact ⟨by rw [He.out]; rfl, rfl⟩
  · have He : Hid (instB n = false) := instB_false.2 (by omega)
    go_enter Tryz.func56, Tryz.ntmps56
    go_wp2
    go_ret
    exact ⟨by rw [He.out]; rfl, rfl⟩
set_option maxHeartbeats 1000000 in
theorem rday_c (n : Int) (w : World) : Calls Tryz.prog 126 #[.int .i64 n] w fun e w' => e = .returned (.bool (dayB n)) ∧ w' = w := by
  by_cases h0 : 0 ≤ n
  · by_cases h1 : n ≤ 100000
    · have He : Hid (dayB n = true) := dayB_true.2 ⟨h0, h1⟩
      go_enter Tryz.func126, Tryz.ntmps126
      go_wp2
      go_ret
      exact ⟨by rw [He.out]; rfl, rfl⟩
    · have He : Hid (dayB n = false) := dayB_false.2 (by omega)
      go_enter Tryz.func126, Tryz.ntmps126
      go_wp2
      go_ret
      exact ⟨by rw [He.out]; rfl, rfl⟩
  · have He : Hid (dayB n = false) := dayB_false.2 (by omega)
    go_enter Tryz.func126, Tryz.ntmps126
    go_wp2
    go_ret
    exact ⟨by rw [He.out]; rfl, rfl⟩
set_option maxHeartbeats 4000000 in
theorem dated_c (m : Ms) (w : World) : Calls Tryz.prog 50 #[.agg m.v] w fun e w' => e = .returned (.bool (datedB m.kind m.fr m.un m.wi)) ∧ Below w.heap.size w w' := by
  obtain ⟨id, auth, kind, target, op, name, cmp, num, ka, kn, kc, fr, un, wi⟩ := m
  dsimp only [Ms.v]
  cases h1 : dayB fr
  · have He : Hid (datedB kind fr un wi = false) := by show _ = _; simp [datedB, h1]
    have H1 := Lib.hid h1
    clear h1
    go_enter Tryz.func50, Tryz.ntmps50
    go_wp2_with fail
    go_at_call 75
    refine (isDay_c fr _).mono ?_
    rintro e w1 ⟨rfl, rfl⟩
    rw [H1.out]
    go_wp2_with fail
    go_ret
    exact ⟨by rw [He.out]; rfl, (Below.refl _ _).alloc (Nat.le_refl _) _⟩
  have H1 := Lib.hid h1
  by_cases h2 : wi < 0
  · have He : Hid (datedB kind fr un wi = false) := by show _ = _; simp [datedB]; omega
    clear h1
    go_enter Tryz.func50, Tryz.ntmps50
    go_wp2_with fail
    go_at_call 75
    refine (isDay_c fr _).mono ?_
    rintro e w1 ⟨rfl, rfl⟩
    rw [H1.out]
    go_wp2_with fail
    go_ret
    exact ⟨by rw [He.out]; rfl, (Below.refl _ _).alloc (Nat.le_refl _) _⟩
  by_cases h3 : 400 < wi
  · have He : Hid (datedB kind fr un wi = false) := by show _ = _; simp [datedB]; omega
    clear h1
    go_enter Tryz.func50, Tryz.ntmps50
    go_wp2_with fail
    go_at_call 75
    refine (isDay_c fr _).mono ?_
    rintro e w1 ⟨rfl, rfl⟩
    rw [H1.out]
    go_wp2_with fail
    go_ret
    exact ⟨by rw [He.out]; rfl, (Below.refl _ _).alloc (Nat.le_refl _) _⟩
  have h2f : decide (wi < 0) = false := decide_eq_false h2
  have h3f : decide (400 < wi) = false := decide_eq_false h3
  cases hk : (decide (wi ≤ 0) || kind == 1)
  · have He : Hid (datedB kind fr un wi = false) := by show _ = _; simp only [datedB, hk]; simp
    simp only [Bool.or_eq_false_iff, decide_eq_false_iff_not] at hk
    obtain ⟨hk1, hk2⟩ := hk
    have hk3 : decide (0 < wi) = true := decide_eq_true (by omega)
    have hk4 : (kind != 1) = true := by simpa using hk2
    clear h1 hk1 hk2
    go_enter Tryz.func50, Tryz.ntmps50
    go_wp2_with fail
    go_at_call 75
    refine (isDay_c fr _).mono ?_
    rintro e w1 ⟨rfl, rfl⟩
    rw [H1.out]
    go_wp2_with fail
    go_ret
    exact ⟨by rw [He.out]; rfl, (Below.refl _ _).alloc (Nat.le_refl _) _⟩
  have HK := Lib.hid hk
  by_cases hu : un = -1
  · have He : Hid (datedB kind fr un wi = true) := by
      have h4 : 0 ≤ wi := by omega
      have h5 : wi ≤ 400 := by omega
      have h6 : (un == -1) = true := by simp [hu]
      show _ = _
      simp only [datedB, HK.out, h1, decide_eq_true h4, decide_eq_true h5, h6]
      rfl
    have hu1 : (un == -1) = true := by simp [hu]
    clear h1 hu hk
    by_cases hw : 0 < wi
    · have hk4 : (kind != 1) = false := by
        have := HK.out
        rw [decide_eq_false (by omega), Bool.false_or] at this
        simpa using this
      go_enter Tryz.func50, Tryz.ntmps50
      go_wp2_with fail
      go_at_call 75
      refine (isDay_c fr _).mono ?_
      rintro e w1 ⟨rfl, rfl⟩
      rw [H1.out]
      go_wp2_with fail
      go_ret
      exact ⟨by rw [He.out]; rfl, (Below.refl _ _).alloc (Nat.le_refl _) _⟩
    · go_enter Tryz.func50, Tryz.ntmps50
      go_wp2_with fail
      go_at_call 75
      refine (isDay_c fr _).mono ?_
      rintro e w1 ⟨rfl, rfl⟩
      rw [H1.out]
      go_wp2_with fail
      go_ret
      exact ⟨by rw [He.out]; rfl, (Below.refl _ _).alloc (Nat.le_refl _) _⟩
  have hu1 : (un == -1) = false := by simp [hu]
  cases hd : dayB un
  · have He : Hid (datedB kind fr un wi = false) := by show _ = _; simp only [datedB, hd, hu1]; simp
    have HD := Lib.hid hd
    clear h1 hu hk hd
    by_cases hw : 0 < wi
    · have hk4 : (kind != 1) = false := by
        have := HK.out
        rw [decide_eq_false (by omega), Bool.false_or] at this
        simpa using this
      go_enter Tryz.func50, Tryz.ntmps50
      go_wp2_with fail
      go_at_call 75
      refine (isDay_c fr _).mono ?_
      rintro e w1 ⟨rfl, rfl⟩
      rw [H1.out]
      go_wp2_with fail
      go_at_call 75
      refine (isDay_c un _).mono ?_
      rintro e w1 ⟨rfl, rfl⟩
      rw [HD.out]
      go_wp2_with fail
      go_ret
      exact ⟨by rw [He.out]; rfl, (Below.refl _ _).alloc (Nat.le_refl _) _⟩
    · go_enter Tryz.func50, Tryz.ntmps50
      go_wp2_with fail
      go_at_call 75
      refine (isDay_c fr _).mono ?_
      rintro e w1 ⟨rfl, rfl⟩
      rw [H1.out]
      go_wp2_with fail
      go_at_call 75
      refine (isDay_c un _).mono ?_
      rintro e w1 ⟨rfl, rfl⟩
      rw [HD.out]
      go_wp2_with fail
      go_ret
      exact ⟨by rw [He.out]; rfl, (Below.refl _ _).alloc (Nat.le_refl _) _⟩
  obtain ⟨q, hq⟩ : ∃ q, q = decide (fr < un) := ⟨_, rfl⟩
  have He : Hid (datedB kind fr un wi = q) := by
    have h4 : 0 ≤ wi := by omega
    have h5 : wi ≤ 400 := by omega
    show _ = _
    simp only [datedB, HK.out, h1, hd, hu1, decide_eq_true h4, decide_eq_true h5, hq]
    simp
  have HD := Lib.hid hd
  have hq2 : decide (fr < un) = q := hq.symm
  clear h1 hu hk hd hq
  by_cases hw : 0 < wi
  · have hk4 : (kind != 1) = false := by
      have := HK.out
      rw [decide_eq_false (by omega), Bool.false_or] at this
      simpa using this
    go_enter Tryz.func50, Tryz.ntmps50
    go_wp2_with fail
    go_at_call 75
    refine (isDay_c fr _).mono ?_
    rintro e w1 ⟨rfl, rfl⟩
    rw [H1.out]
    go_wp2_with fail
    go_at_call 75
    refine (isDay_c un _).mono ?_
    rintro e w1 ⟨rfl, rfl⟩
    rw [HD.out]
    go_wp2_with fail
    go_ret
    exact ⟨by rw [He.out]; rfl, (Below.refl _ _).alloc (Nat.le_refl _) _⟩
  · go_enter Tryz.func50, Tryz.ntmps50
    go_wp2_with fail
    go_at_call 75
    refine (isDay_c fr _).mono ?_
    rintro e w1 ⟨rfl, rfl⟩
    rw [H1.out]
    go_wp2_with fail
    go_at_call 75
    refine (isDay_c un _).mono ?_
    rintro e w1 ⟨rfl, rfl⟩
    rw [HD.out]
    go_wp2_with fail
    go_ret
    exact ⟨by rw [He.out]; rfl, (Below.refl _ _).alloc (Nat.le_refl _) _⟩
end Go.Proofs.YtakadfdnhlfijaaGreatDoor
