/-
  The reference's 'Dated' and 'Begin'.
-/
import Derived.Test.YtkcbdlnoobjmbaaDoorWnDated
import Derived.Test.YtkcbdlnoobjmbaaDoorRcInst
namespace Go.Proofs.YtkcbdlnoobjmbaaDoor
open Go.RowKit Go.Cz Go.Cz.Ck Go.Cz.Wn
set_option linter.unusedSimpArgs false
set_option linter.unusedVariables false
attribute [local go_sem] bs_size bs_extract bs_append bs_toList
attribute [local irreducible] cList
set_option maxHeartbeats 4000000 in
theorem rDated_c (m : Ms) (w : World) : Calls Tryd.prog 24 #[.agg m.v] w fun e w' => e = .returned (.bool (datedB m.kind m.fr m.un m.wi)) ∧ Below w.heap.size w w' := by
  obtain ⟨id, auth, kind, target, op, name, cmp, num, ka, kn, kc, fr, un, wi⟩ := m
  dsimp only [Ms.v]
  cases h1 : dayB fr
  · have He : Hid (datedB kind fr un wi = false) := by show _ = _; simp [datedB, h1]
    have H1 := Lib.hid h1
    clear h1
    go_enter Tryd.func24, Tryd.ntmps24
    go_wp2_with fail
    go_at_call 40
    refine (rday_c fr _).mono ?_
    rintro e w1 ⟨rfl, rfl⟩
    rw [H1.out]
    go_wp2_with fail
    go_ret
    exact ⟨by rw [He.out]; rfl, (Below.refl _ _).alloc (Nat.le_refl _) _⟩
  have H1 := Lib.hid h1
  clear h1
  by_cases hu : un = -1
  · have HU : Hid ((un == -1 || (dayB un && decide (fr < un))) = true) := by show _ = _; simp [hu]
    have hu1 : (un != -1) = false := by simp [hu]
    clear hu
    by_cases hw0 : wi = 0
    · have He : Hid (datedB kind fr un wi = true) := by
        show _ = _
        simp only [datedB, H1.out, HU.out, hw0]
        simp
      have hw1 : (wi == 0) = true := by simp [hw0]
      clear hw0
      go_enter Tryd.func24, Tryd.ntmps24
      go_wp2_with fail
      go_at_call 40
      refine (rday_c fr _).mono ?_
      rintro e w1 ⟨rfl, rfl⟩
      rw [H1.out]
      go_wp2_with fail
      go_ret
      exact ⟨by rw [He.out]; rfl, (Below.refl _ _).alloc (Nat.le_refl _) _⟩
    have hw1 : (wi == 0) = false := by simp [hw0]
    by_cases hk : kind = 1
    · have hk1 : (kind == 1) = true := by simp [hk]
      by_cases hwp : 0 < wi
      · have hwp1 : decide (0 < wi) = true := decide_eq_true hwp
        obtain ⟨q, hq⟩ : ∃ q, q = decide (wi ≤ 400) := ⟨_, rfl⟩
        have He : Hid (datedB kind fr un wi = q) := by
          show _ = _
          simp only [datedB, H1.out, HU.out, hk1, hq]
          rw [decide_eq_true (show 0 ≤ wi by omega)]
          simp
        have hq2 : decide (wi ≤ 400) = q := hq.symm
        clear hw0 hk hq
        go_enter Tryd.func24, Tryd.ntmps24
        go_wp2_with fail
        go_at_call 40
        refine (rday_c fr _).mono ?_
        rintro e w1 ⟨rfl, rfl⟩
        rw [H1.out]
        go_wp2_with fail
        go_ret
        exact ⟨by rw [He.out]; rfl, (Below.refl _ _).alloc (Nat.le_refl _) _⟩
      · have He : Hid (datedB kind fr un wi = false) := by
          show _ = _
          have : decide (0 ≤ wi) = false := decide_eq_false (by omega)
          simp [datedB, this]
        have hwp1 : decide (0 < wi) = false := decide_eq_false hwp
        clear hw0 hk
        go_enter Tryd.func24, Tryd.ntmps24
        go_wp2_with fail
        go_at_call 40
        refine (rday_c fr _).mono ?_
        rintro e w1 ⟨rfl, rfl⟩
        rw [H1.out]
        go_wp2_with fail
        go_ret
        exact ⟨by rw [He.out]; rfl, (Below.refl _ _).alloc (Nat.le_refl _) _⟩
    · have hk1 : (kind == 1) = false := by simp [hk]
      have He : Hid (datedB kind fr un wi = false) := by
        show _ = _
        by_cases h : 0 ≤ wi
        · have : decide (wi ≤ 0) = false := decide_eq_false (by omega)
          simp [datedB, hk1, this]
        · have : decide (0 ≤ wi) = false := decide_eq_false (by omega)
          simp [datedB, this]
      clear hw0 hk
      go_enter Tryd.func24, Tryd.ntmps24
      go_wp2_with fail
      go_at_call 40
      refine (rday_c fr _).mono ?_
      rintro e w1 ⟨rfl, rfl⟩
      rw [H1.out]
      go_wp2_with fail
      go_ret
      exact ⟨by rw [He.out]; rfl, (Below.refl _ _).alloc (Nat.le_refl _) _⟩
  have hu1 : (un != -1) = true := by simp [hu]
  have hu2 : (un == -1) = false := by simp [hu]
  cases hd : dayB un
  · have He : Hid (datedB kind fr un wi = false) := by show _ = _; simp only [datedB, hd, hu2]; simp
    have HD := Lib.hid hd
    clear hu hd
    go_enter Tryd.func24, Tryd.ntmps24
    go_wp2_with fail
    go_at_call 40
    refine (rday_c fr _).mono ?_
    rintro e w1 ⟨rfl, rfl⟩
    rw [H1.out]
    go_wp2_with fail
    go_at_call 40
    refine (rday_c un _).mono ?_
    rintro e w1 ⟨rfl, rfl⟩
    rw [HD.out]
    go_wp2_with fail
    go_ret
    exact ⟨by rw [He.out]; rfl, (Below.refl _ _).alloc (Nat.le_refl _) _⟩
  by_cases hle : un ≤ fr
  · have He : Hid (datedB kind fr un wi = false) := by
      have : decide (fr < un) = false := decide_eq_false (by omega)
      show _ = _; simp only [datedB, this, hu2]; simp
    have HD := Lib.hid hd
    have hle1 : decide (un ≤ fr) = true := decide_eq_true hle
    clear hu hd
    go_enter Tryd.func24, Tryd.ntmps24
    go_wp2_with fail
    go_at_call 40
    refine (rday_c fr _).mono ?_
    rintro e w1 ⟨rfl, rfl⟩
    rw [H1.out]
    go_wp2_with fail
    go_at_call 40
    refine (rday_c un _).mono ?_
    rintro e w1 ⟨rfl, rfl⟩
    rw [HD.out]
    go_wp2_with fail
    go_ret
    exact ⟨by rw [He.out]; rfl, (Below.refl _ _).alloc (Nat.le_refl _) _⟩
  have HU : Hid ((un == -1 || (dayB un && decide (fr < un))) = true) := by
    show _ = _
    rw [hd, decide_eq_true (by omega)]
    simp
  have HD := Lib.hid hd
  have hle1 : decide (un ≤ fr) = false := decide_eq_false hle
  clear hu hd
  by_cases hw0 : wi = 0
  · have He : Hid (datedB kind fr un wi = true) := by
      show _ = _
      simp only [datedB, H1.out, HU.out, hw0]
      simp
    have hw1 : (wi == 0) = true := by simp [hw0]
    clear hw0
    go_enter Tryd.func24, Tryd.ntmps24
    go_wp2_with fail
    go_at_call 40
    refine (rday_c fr _).mono ?_
    rintro e w1 ⟨rfl, rfl⟩
    rw [H1.out]
    go_wp2_with fail
    go_at_call 40
    refine (rday_c un _).mono ?_
    rintro e w1 ⟨rfl, rfl⟩
    rw [HD.out]
    go_wp2_with fail
    go_ret
    exact ⟨by rw [He.out]; rfl, (Below.refl _ _).alloc (Nat.le_refl _) _⟩
  have hw1 : (wi == 0) = false := by simp [hw0]
  by_cases hk : kind = 1
  · have hk1 : (kind == 1) = true := by simp [hk]
    by_cases hwp : 0 < wi
    · have hwp1 : decide (0 < wi) = true := decide_eq_true hwp
      obtain ⟨q, hq⟩ : ∃ q, q = decide (wi ≤ 400) := ⟨_, rfl⟩
      have He : Hid (datedB kind fr un wi = q) := by
        show _ = _
        simp only [datedB, H1.out, HU.out, hk1, hq]
        rw [decide_eq_true (show 0 ≤ wi by omega)]
        simp
      have hq2 : decide (wi ≤ 400) = q := hq.symm
      clear hw0 hk hq
      go_enter Tryd.func24, Tryd.ntmps24
      go_wp2_with fail
      go_at_call 40
      refine (rday_c fr _).mono ?_
      rintro e w1 ⟨rfl, rfl⟩
      rw [H1.out]
      go_wp2_with fail
      go_at_call 40
      refine (rday_c un _).mono ?_
      rintro e w1 ⟨rfl, rfl⟩
      rw [HD.out]
      go_wp2_with fail
      go_ret
      exact ⟨by rw [He.out]; rfl, (Below.refl _ _).alloc (Nat.le_refl _) _⟩
    · have He : Hid (datedB kind fr un wi = false) := by
        show _ = _
        have : decide (0 ≤ wi) = false := decide_eq_false (by omega)
        simp [datedB, this]
      have hwp1 : decide (0 < wi) = false := decide_eq_false hwp
      clear hw0 hk
      go_enter Tryd.func24, Tryd.ntmps24
      go_wp2_with fail
      go_at_call 40
      refine (rday_c fr _).mono ?_
      rintro e w1 ⟨rfl, rfl⟩
      rw [H1.out]
      go_wp2_with fail
      go_at_call 40
      refine (rday_c un _).mono ?_
      rintro e w1 ⟨rfl, rfl⟩
      rw [HD.out]
      go_wp2_with fail
      go_ret
      exact ⟨by rw [He.out]; rfl, (Below.refl _ _).alloc (Nat.le_refl _) _⟩
  · have hk1 : (kind == 1) = false := by simp [hk]
    have He : Hid (datedB kind fr un wi = false) := by
      show _ = _
      by_cases h : 0 ≤ wi
      · have : decide (wi ≤ 0) = false := decide_eq_false (by omega)
        simp [datedB, hk1, this]
      · have : decide (0 ≤ wi) = false := decide_eq_false (by omega)
        simp [datedB, this]
    clear hw0 hk
    go_enter Tryd.func24, Tryd.ntmps24
    go_wp2_with fail
    go_at_call 40
    refine (rday_c fr _).mono ?_
    rintro e w1 ⟨rfl, rfl⟩
    rw [H1.out]
    go_wp2_with fail
    go_at_call 40
    refine (rday_c un _).mono ?_
    rintro e w1 ⟨rfl, rfl⟩
    rw [HD.out]
    go_wp2_with fail
    go_ret
    exact ⟨by rw [He.out]; rfl, (Below.refl _ _).alloc (Nat.le_refl _) _⟩
set_option maxHeartbeats 1000000 in
theorem rBegin_c (x : Option Addr) (n c : Nat) (l : List Shift) (day : Int) (w : World) (hx : IsShifts w x n l) :
    Calls Tryd.prog 26 #[.agg #[.slice x n c], .int .i64 day] w fun e w' => e = .returned (.int .i64 (beginF l day)) ∧ Below w.heap.size w w' := by
  obtain ⟨B, hB⟩ : ∃ B, B = w.heap.size := ⟨_, rfl⟩
  have HE : Hid (ZE w (w.alloc (.cells #[.slice x n c] 29)) B x n c l) := by
    subst hB
    have hb : Below w.heap.size w (w.alloc (.cells #[.slice x n c] 29)) := (Below.refl _ _).alloc (by omega) _
    exact ⟨hb, Bk.new _ _ _, hx.below hb⟩
  clear hx
  rcases hI : instF l day 0 with ⟨t, e⟩
  have HI := Lib.hid hI
  clear hI
  go_enter Tryd.func26, Tryd.ntmps26
  go_wp2_with fail
  go_at_call 41
  refine (rInstant_c x n c l day 0 _ HE.out.sh).mono ?_
  rintro e W2 ⟨rfl, hb⟩
  rw [HI.out]
  replace HE := (HE.out.next hb).1
  clear hb
  by_cases h0 : e = 0
  · have He : Hid (beginF l day = t) := by show _ = _; unfold beginF; rw [HI.out, if_pos h0]
    have h1 : (e != 0) = false := by simp [h0]
    clear HI h0
    go_wp2_with fail
    go_ret
    exact ⟨by rw [He.out]; rfl, HE.out.below⟩
  · have He : Hid (beginF l day = -1) := by show _ = _; unfold beginF; rw [HI.out, if_neg h0]
    have h1 : (e != 0) = true := by simp [h0]
    clear HI h0
    go_wp2_with fail
    go_ret
    exact ⟨by rw [He.out]; rfl, HE.out.below⟩
end Go.Proofs.YtkcbdlnoobjmbaaDoor
