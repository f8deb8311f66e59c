/-
  The reference clock's 'Valid': what it returns.
-/
import Derived.Test.YtkcbdlnoobjmbaaDoorRcPlain
import Derived.Test.YtkcbdlnoobjmbaaDoorRcIs
namespace Go.Cz.Ck
theorem rv_len {l : List Shift} (h : ¬ (1 ≤ l.length ∧ l.length ≤ 20)) : validB l = false := by
  cases hv : validB l with
  | false => rfl
  | true => exact absurd (valid_len hv) h
/-- What the reference's loop has seen before shift k: the shift before it. -/
def lastF (l : List Shift) (k : Nat) : Int := if k = 0 then -1 else (l.getD (k - 1) (0, 0)).1
theorem lastF_succ {l : List Shift} {k : Nat} {s : Shift} (h : l[k]? = some s) : lastF l (k + 1) = s.1 := by
  unfold lastF
  rw [if_neg (by omega), Nat.add_sub_cancel, List.getD_eq_getElem?_getD, h]
  rfl
def RInv (l : List Shift) (k : Nat) : Prop := vgo 0 (-1) l = vgo k (lastF l k) (l.drop k) ∧ (0 < k → 0 ≤ lastF l k)
theorem rinv_bad {l : List Shift} {k : Nat} {s : Shift} (hi : RInv l k) (h : l[k]? = some s) (hb : shiftOk k (lastF l k) s = false) : validB l = false := by
  unfold validB; rw [hi.1, vgo_drop h, hb]; rfl
theorem rinv_ok {l : List Shift} {k : Nat} {s : Shift} (hi : RInv l k) (h : l[k]? = some s) (hb : shiftOk k (lastF l k) s = true) : RInv l (k + 1) := by
  refine ⟨by rw [hi.1, vgo_drop h, hb, lastF_succ h]; rfl, fun _ => ?_⟩
  rw [lastF_succ h]
  simp only [shiftOk, Bool.and_eq_true, instB_true] at hb
  omega
theorem rinv_end {l : List Shift} {n : Nat} (hi : RInv l n) (hn : l.length = n) (h1 : 1 ≤ n) (h2 : n ≤ 20) : validB l = true := by
  unfold validB; rw [hi.1, List.drop_of_length_le (by omega), hn]
  simp [vgo]
  omega
end Go.Cz.Ck
namespace Go.Proofs.YtkcbdlnoobjmbaaDoor
open Go.RowKit Go.Cz Go.Cz.Ck
set_option linter.unusedSimpArgs false
set_option linter.unusedVariables false
attribute [local go_sem] bs_size bs_extract bs_append bs_toList
attribute [local irreducible] cList
/-- What is to be shown of the reference's 'Valid'. -/
def RValid : Prop := ∀ (x : Option Addr) (n c : Nat) (l : List Shift) (w : World), IsShifts w x n l →
    Calls Tryd.prog 25 #[.agg #[.slice x n c]] w fun e w' => e = .returned (.bool (validB l)) ∧ Below w.heap.size w w'
set_option maxRecDepth 5000 in
set_option maxHeartbeats 4000000 in
theorem rValid_c : RValid := by
  intro x n c l w hx
  have hln := hx.1
  have hn := hx.2.1
  obtain ⟨B, hB⟩ : ∃ B, B = w.heap.size := ⟨_, rfl⟩
  have HE : Hid (ZE w (w.alloc (.cells #[.slice x n c] 29)) B x n c l) := by
    subst hB
    have hb : Below w.heap.size w (w.alloc (.cells #[.slice x n c] 29)) := (Below.refl _ _).alloc (by omega) _
    exact ⟨hb, Bk.new _ _ _, hx.below hb⟩
  have Hln := Lib.hid hln
  clear hx hln
  by_cases h1 : n < 1
  · have He : Hid (validB l = false) := rv_len (by have := Hln.out; omega)
    go_enter Tryd.func25, Tryd.ntmps25
    go_wp2_with fail
    go_ret
    exact ⟨by rw [He.out]; rfl, by subst hB; exact HE.out.below⟩
  by_cases h2 : 20 < n
  · have He : Hid (validB l = false) := rv_len (by have := Hln.out; omega)
    go_enter Tryd.func25, Tryd.ntmps25
    go_wp2_with fail
    go_ret
    exact ⟨by rw [He.out]; rfl, by subst hB; exact HE.out.below⟩
  obtain ⟨g, off, s, rfl, hs, hg, c0, c1⟩ := HE.out.sh.at (j := 0) (by omega)
  obtain ⟨s1, s2⟩ := s
  dsimp only at c0 c1
  rw [Nat.zero_mul, Nat.add_zero] at c0
  clear c1
  by_cases hz : s1 = 0
  · subst hz
    have H0 : Hid (l[0]? = some (0, s2)) := Lib.hid hs
    have HI : Hid (RInv l 0) := ⟨rfl, fun h => by omega⟩
    clear hs
    go_enter Tryd.func25, Tryd.ntmps25
    go_wp2_with fail
    rw [← hB] at *
    clear hB c0 hg
    go_loopg [3] n (fun gk i wr => ∃ k : Nat, gk = n - k ∧ k ≤ n ∧ i = .int .i64 (k : Int) ∧ Hid (RInv l k) ∧ Hid (ZE w wr B (some ⟨g, off, none⟩) n c l))
    case atStart => exact ⟨0, rfl, Nat.zero_le _, rfl, HI, HE⟩
    case round =>
      rename_i J1 K1 hJ1 hK1
      clear HE HI
      obtain ⟨k, rfl, hk, rfl, hv, hw⟩ := hrel
      obtain ⟨-, lz, cz⟩ := hw.out.next (Below.refl _ _)
      by_cases hlt : k < n
      · obtain ⟨g', off', s, he, hs, hg, c0, c1⟩ := hw.out.sh.at hlt
        simp only [Option.some.injEq, Addr.mk.injEq] at he
        obtain ⟨rfl, rfl, -⟩ := he
        obtain ⟨s1, s2⟩ := s
        dsimp only at c0 c1
        have Hs := Lib.hid hs
        clear hs
        go_wp2_with fail
        rcases k with _ | k
        · have hs0 : s1 = 0 := by
            have h1 := Hs.out
            rw [H0.out] at h1
            simp only [Option.some.injEq, Prod.mk.injEq] at h1
            exact h1.1.symm
          subst hs0
          have HW : Hid (ZE w (wr.alloc (.cells #[.int .i64 0, .int .i64 s2] 50)).drew B (some ⟨g, off, none⟩) n c l) := (hw.out.next ((Below.refl _ _).alloc (Nat.le_refl _) _).drew).1
          by_cases hC : s2 < -840
          · have hCt : decide (s2 < -840) = true := decide_eq_true hC
            have He : Hid (validB l = false) := rinv_bad hv.out Hs.out (by simp [shiftOk, lastF, instB]; omega)
            clear hv hw Hs
            refine wp_region_can [] (List.range 29) (by kernel_rfl) (by kernel_rfl) ?_
            iterate 29 (first | (refine cl_do rfl rfl rfl rfl (fun _ _ => ?_); go_wp2_with fail) | (refine cl_yes rfl rfl rfl rfl rfl (fun _ _ => ?_); go_wp2_with fail) | (refine cl_no rfl rfl rfl ?_; go_simp))
            refine cl_nil ?_
            go_wp2_with fail
            go_ret
            exact ⟨by rw [He.out]; rfl, HW.out.below⟩
          have hCf : decide (s2 < -840) = false := decide_eq_false hC
          by_cases hD : 840 < s2
          · have hDt : decide (840 < s2) = true := decide_eq_true hD
            have He : Hid (validB l = false) := rinv_bad hv.out Hs.out (by simp [shiftOk, lastF, instB]; omega)
            clear hv hw Hs
            refine wp_region_can [] (List.range 29) (by kernel_rfl) (by kernel_rfl) ?_
            iterate 29 (first | (refine cl_do rfl rfl rfl rfl (fun _ _ => ?_); go_wp2_with fail) | (refine cl_yes rfl rfl rfl rfl rfl (fun _ _ => ?_); go_wp2_with fail) | (refine cl_no rfl rfl rfl ?_; go_simp))
            refine cl_nil ?_
            go_wp2_with fail
            go_ret
            exact ⟨by rw [He.out]; rfl, HW.out.below⟩
          have hDf : decide (840 < s2) = false := decide_eq_false hD
          have He : Hid (RInv l (0 + 1)) := rinv_ok hv.out Hs.out (by simp [shiftOk, lastF, instB]; omega)
          clear hv hw Hs
          refine wp_region_can [] (List.range 29) (by kernel_rfl) (by kernel_rfl) ?_
          iterate 29 (first | (refine cl_do rfl rfl rfl rfl (fun _ _ => ?_); go_wp2_with fail) | (refine cl_yes rfl rfl rfl rfl rfl (fun _ _ => ?_); go_wp2_with fail) | (refine cl_no rfl rfl rfl ?_; go_simp))
          refine cl_nil ?_
          go_wp2_with fail
          go_roundg (n - (0 + 1))
          case measure => omega
          case rel => exact ⟨0 + 1, rfl, by omega, by go_num, He, HW⟩
        · obtain ⟨g'', off'', p, he, hp, -, d0, -⟩ := hw.out.sh.at (j := k) (by omega)
          simp only [Option.some.injEq, Addr.mk.injEq] at he
          obtain ⟨rfl, rfl, -⟩ := he
          obtain ⟨p1, p2⟩ := p
          dsimp only at d0
          have HP : Hid (lastF l (k + 1) = p1) := Lib.hid (lastF_succ hp)
          have HQ : Hid (0 ≤ p1) := by have := hv.out.2 (by omega); rw [HP.out] at this; exact this
          clear hp
          have HW : Hid (ZE w (wr.alloc (.cells #[.int .i64 s1, .int .i64 s2] 50)).drew B (some ⟨g, off, none⟩) n c l) := (hw.out.next ((Below.refl _ _).alloc (Nat.le_refl _) _).drew).1
          by_cases hA : s1 ≤ p1
          · have hAt : decide (s1 ≤ p1) = true := decide_eq_true hA
            have He : Hid (validB l = false) := rinv_bad hv.out Hs.out (by have := HP.out; simp [shiftOk, this]; omega)
            clear hv hw Hs
            refine wp_region_can [] (List.range 29) (by kernel_rfl) (by kernel_rfl) ?_
            iterate 29 (first | (refine cl_do rfl rfl rfl rfl (fun _ _ => ?_); go_wp2_with fail) | (refine cl_yes rfl rfl rfl rfl rfl (fun _ _ => ?_); go_wp2_with fail) | (refine cl_no rfl rfl rfl ?_; go_simp))
            refine cl_nil ?_
            go_wp2_with fail
            go_ret
            exact ⟨by rw [He.out]; rfl, HW.out.below⟩
          have hAf : decide (s1 ≤ p1) = false := decide_eq_false hA
          by_cases hB : 144001439 < s1
          · have hBt : decide (144001439 < s1) = true := decide_eq_true hB
            have He : Hid (validB l = false) := rinv_bad hv.out Hs.out (by simp [shiftOk, instB]; omega)
            clear hv hw Hs
            refine wp_region_can [] (List.range 29) (by kernel_rfl) (by kernel_rfl) ?_
            iterate 29 (first | (refine cl_do rfl rfl rfl rfl (fun _ _ => ?_); go_wp2_with fail) | (refine cl_yes rfl rfl rfl rfl rfl (fun _ _ => ?_); go_wp2_with fail) | (refine cl_no rfl rfl rfl ?_; go_simp))
            refine cl_nil ?_
            go_wp2_with fail
            go_ret
            exact ⟨by rw [He.out]; rfl, HW.out.below⟩
          have hBf : decide (144001439 < s1) = false := decide_eq_false hB
          by_cases hC : s2 < -840
          · have hCt : decide (s2 < -840) = true := decide_eq_true hC
            have He : Hid (validB l = false) := rinv_bad hv.out Hs.out (by simp [shiftOk]; omega)
            clear hv hw Hs
            refine wp_region_can [] (List.range 29) (by kernel_rfl) (by kernel_rfl) ?_
            iterate 29 (first | (refine cl_do rfl rfl rfl rfl (fun _ _ => ?_); go_wp2_with fail) | (refine cl_yes rfl rfl rfl rfl rfl (fun _ _ => ?_); go_wp2_with fail) | (refine cl_no rfl rfl rfl ?_; go_simp))
            refine cl_nil ?_
            go_wp2_with fail
            go_ret
            exact ⟨by rw [He.out]; rfl, HW.out.below⟩
          have hCf : decide (s2 < -840) = false := decide_eq_false hC
          by_cases hD : 840 < s2
          · have hDt : decide (840 < s2) = true := decide_eq_true hD
            have He : Hid (validB l = false) := rinv_bad hv.out Hs.out (by simp [shiftOk]; omega)
            clear hv hw Hs
            refine wp_region_can [] (List.range 29) (by kernel_rfl) (by kernel_rfl) ?_
            iterate 29 (first | (refine cl_do rfl rfl rfl rfl (fun _ _ => ?_); go_wp2_with fail) | (refine cl_yes rfl rfl rfl rfl rfl (fun _ _ => ?_); go_wp2_with fail) | (refine cl_no rfl rfl rfl ?_; go_simp))
            refine cl_nil ?_
            go_wp2_with fail
            go_ret
            exact ⟨by rw [He.out]; rfl, HW.out.below⟩
          have hDf : decide (840 < s2) = false := decide_eq_false hD
          have He : Hid (RInv l (k + 1 + 1)) := rinv_ok hv.out Hs.out (by have := HP.out; have := HQ.out; simp [shiftOk, instB, HP.out]; omega)
          clear hv hw Hs
          refine wp_region_can [] (List.range 29) (by kernel_rfl) (by kernel_rfl) ?_
          iterate 29 (first | (refine cl_do rfl rfl rfl rfl (fun _ _ => ?_); go_wp2_with fail) | (refine cl_yes rfl rfl rfl rfl rfl (fun _ _ => ?_); go_wp2_with fail) | (refine cl_no rfl rfl rfl ?_; go_simp))
          refine cl_nil ?_
          go_wp2_with fail
          go_roundg (n - (k + 1 + 1))
          case measure => omega
          case rel => exact ⟨k + 1 + 1, rfl, by omega, by go_num, He, HW⟩
      · obtain rfl : k = n := by omega
        clear hJ1 hK1
        have He := Lib.hid (rinv_end hv.out Hln.out (by omega) (by omega))
        go_wp2_with fail
        go_ret
        exact ⟨by rw [He.out]; rfl, hw.out.below⟩
  · have He : Hid (validB l = false) := by
      have := rinv_bad (l := l) (k := 0) ⟨rfl, fun h => by omega⟩ hs (by simp [shiftOk, hz])
      exact this
    have hz1 : (s1 != 0) = true := by simp [hz]
    clear hs hz
    go_enter Tryd.func25, Tryd.ntmps25
    go_wp2_with fail
    go_ret
    exact ⟨by rw [He.out]; rfl, by subst hB; exact HE.out.below⟩
end Go.Proofs.YtkcbdlnoobjmbaaDoor
