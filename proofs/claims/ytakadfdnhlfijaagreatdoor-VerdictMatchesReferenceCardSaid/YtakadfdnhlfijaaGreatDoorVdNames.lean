/-
  Names: the verdicts' own 'isName'.
-/
import Derived.Test.YtakadfdnhlfijaaGreatDoorFmFact
namespace Go.Proofs.YtakadfdnhlfijaaGreatDoor
open Go.RowKit Go.Cz Go.Cz.Lx Go.Cz.Fo
set_option linter.unusedSimpArgs false
set_option linter.unusedVariables false
attribute [local go_sem] bs_size bs_extract bs_append bs_toList
attribute [local irreducible] cList cPlan
set_option maxHeartbeats 4000000 in
theorem isNameV_c (l : List UInt8) (w : World) (hl : l.length ≤ 140737488355328) : Calls Tryz.prog 39 #[.string (bs l)] w fun e w' => e = .returned (.bool (nameB l)) ∧ w' = w := by
  obtain ⟨u, hu⟩ : ∃ u, u = bs l := ⟨_, rfl⟩
  have hus : u.size = l.length := by rw [hu, bs_size]
  have hget : ∀ (i : Nat) (h : i < u.size) (h2 : i < l.length), u[i]'h = l[i]'h2 := by
    subst hu; intro i h h2; rfl
  have HU := Lib.hid hget
  have Htl : Hid (u.toList = l) := by show _ = _; rw [hu, bs_toList]
  rw [← hu]
  clear hget hu
  obtain ⟨N, hN⟩ : ∃ N, N = l.length := ⟨_, rfl⟩
  rw [← hN] at hus hl
  have HN := Lib.hid hN
  clear hN
  go_enter Tryz.func39, Tryz.ntmps39
  go_wp2_with fail
  go_loopg [8] N (fun gk i wr => ∃ k : Nat, gk = N - k ∧ k ≤ N ∧ i = .int .i64 (k : Int) ∧ wr = w ∧ Hid (upto l k))
  case atStart => exact ⟨0, rfl, Nat.zero_le _, rfl, rfl, ⟨by simp, fun h => absurd h (by omega)⟩⟩
  case round =>
    rename_i J1 K1 hJ1 hK1
    obtain ⟨k, rfl, hk, rfl, rfl, HU2⟩ := hrel
    by_cases hlt : k < N
    · have kl : k < u.size := by omega
      have hkl : k < l.length := by have := HN.out; omega
      obtain ⟨c, hc⟩ : ∃ c, c = l[k] := ⟨_, rfl⟩
      have hcu : u[k] = c := by rw [HU.out k kl hkl, hc]
      have Hc : Hid (l[k]? = some c) := by show _ = _; rw [List.getElem?_eq_getElem hkl, hc]
      clear hc hkl
      have H3 := all_bytes (p := fun c => (97 ≤ (c.toNat : Int) ∧ (c.toNat : Int) ≤ 122) ∨ (65 ≤ (c.toNat : Int) ∧ (c.toNat : Int) ≤ 90) → wordB c = true ∧ cls c = 3) (by decide +kernel) c
      have H4 := all_bytes (p := fun c => (48 ≤ (c.toNat : Int) ∧ (c.toNat : Int) ≤ 57) ∨ (c.toNat : Int) = 95 → wordB c = true ∧ ¬ cls c = 3) (by decide +kernel) c
      have H5 := all_bytes (p := fun c => ¬ ((97 ≤ (c.toNat : Int) ∧ (c.toNat : Int) ≤ 122) ∨ (65 ≤ (c.toNat : Int) ∧ (c.toNat : Int) ≤ 90) ∨ (48 ≤ (c.toNat : Int) ∧ (c.toNat : Int) ≤ 57) ∨ (c.toNat : Int) = 95) → wordB c = false) (by decide +kernel) c
      have HC : Hid ((97 ≤ (c.toNat : Int) ∧ (c.toNat : Int) ≤ 122) ∨ (65 ≤ (c.toNat : Int) ∧ (c.toNat : Int) ≤ 90) → wordB c = true ∧ cls c = 3) := Lib.hid H3
      have HD : Hid ((48 ≤ (c.toNat : Int) ∧ (c.toNat : Int) ≤ 57) ∨ (c.toNat : Int) = 95 → wordB c = true ∧ ¬ cls c = 3) := Lib.hid H4
      have HX : Hid (¬ ((97 ≤ (c.toNat : Int) ∧ (c.toNat : Int) ≤ 122) ∨ (65 ≤ (c.toNat : Int) ∧ (c.toNat : Int) ≤ 90) ∨ (48 ≤ (c.toNat : Int) ∧ (c.toNat : Int) ≤ 57) ∨ (c.toNat : Int) = 95) → wordB c = false) := Lib.hid H5
      clear H3 H4 H5
      by_cases a1 : 97 ≤ (c.toNat : Int)
      · have b1 : 48 ≤ (c.toNat : Int) := by omega
        have b2 : ¬ (c.toNat : Int) ≤ 57 := by omega
        have b3 : ((c.toNat : Int) == 95) = false := by simp; omega
        have b4 : ((c.toNat : Int) != 95) = true := by rw [bne, b3]; rfl
        by_cases a2 : (c.toNat : Int) ≤ 122
        · obtain ⟨h1, h2⟩ : wordB c = true ∧ cls c = 3 := HC.out (.inl ⟨a1, a2⟩)
          have HV : Hid (upto l (k + 1)) := upto_next HU2.out Hc.out h1 fun _ => h2
          clear h1 h2 HC HD HX
          go_wp2_with fail
          go_roundg (N - (k + 1))
          case measure => omega
          case rel => exact ⟨k + 1, rfl, by omega, by go_num, rfl, HV⟩
        · have a3 : 65 ≤ (c.toNat : Int) := by omega
          have a4 : ¬ (c.toNat : Int) ≤ 90 := by omega
          have HE : Hid (nameB l = false) := upto_bad Hc.out (.inl (HX.out (by omega)))
          clear HC HD HX
          by_cases hk0 : k = 0
          · subst hk0
            clear hJ1 hK1
            go_wp2_with fail
            go_ret
            exact ⟨by rw [HE.out]; rfl, rfl⟩
          · have hk1 : ((k : Int) == 0) = false := by simp; omega
            clear hJ1 hK1 hk0
            go_wp2_with fail
            go_ret
            exact ⟨by rw [HE.out]; rfl, rfl⟩
      by_cases a3 : 65 ≤ (c.toNat : Int)
      · have b1 : 48 ≤ (c.toNat : Int) := by omega
        have b2 : ¬ (c.toNat : Int) ≤ 57 := by omega
        by_cases a4 : (c.toNat : Int) ≤ 90
        · have b3 : ((c.toNat : Int) == 95) = false := by simp; omega
          have b4 : ((c.toNat : Int) != 95) = true := by rw [bne, b3]; rfl
          obtain ⟨h1, h2⟩ : wordB c = true ∧ cls c = 3 := HC.out (.inr ⟨a3, a4⟩)
          have HV : Hid (upto l (k + 1)) := upto_next HU2.out Hc.out h1 fun _ => h2
          clear h1 h2 HC HD HX
          go_wp2_with fail
          go_roundg (N - (k + 1))
          case measure => omega
          case rel => exact ⟨k + 1, rfl, by omega, by go_num, rfl, HV⟩
        by_cases e : (c.toNat : Int) = 95
        · have b3 : ((c.toNat : Int) == 95) = true := by simpa using e
          have b4 : ((c.toNat : Int) != 95) = false := by rw [bne, b3]; rfl
          obtain ⟨h1, h2⟩ : wordB c = true ∧ ¬ cls c = 3 := HD.out (.inr e)
          clear e
          by_cases hk0 : k = 0
          · have HE : Hid (nameB l = false) := upto_bad Hc.out (.inr ⟨hk0, h2⟩)
            subst hk0
            clear h1 h2 HC HD HX hJ1 hK1
            go_wp2_with fail
            go_ret
            exact ⟨by rw [HE.out]; rfl, rfl⟩
          · have HV : Hid (upto l (k + 1)) := upto_next HU2.out Hc.out h1 fun h => absurd h hk0
            have hk1 : ((k : Int) == 0) = false := by simp; omega
            clear h1 h2 HC HD HX hk0
            go_wp2_with fail
            go_roundg (N - (k + 1))
            case measure => omega
            case rel => exact ⟨k + 1, rfl, by omega, by go_num, rfl, HV⟩
        · have b3 : ((c.toNat : Int) == 95) = false := by simpa using e
          have b4 : ((c.toNat : Int) != 95) = true := by rw [bne, b3]; rfl
          have HE : Hid (nameB l = false) := upto_bad Hc.out (.inl (HX.out (by omega)))
          clear HC HD HX
          by_cases hk0 : k = 0
          · subst hk0
            clear hJ1 hK1
            go_wp2_with fail
            go_ret
            exact ⟨by rw [HE.out]; rfl, rfl⟩
          · have hk1 : ((k : Int) == 0) = false := by simp; omega
            clear hJ1 hK1 hk0
            go_wp2_with fail
            go_ret
            exact ⟨by rw [HE.out]; rfl, rfl⟩
      have b3 : ((c.toNat : Int) == 95) = false := by simp; omega
      have b4 : ((c.toNat : Int) != 95) = true := by rw [bne, b3]; rfl
      by_cases b1 : 48 ≤ (c.toNat : Int)
      · by_cases b2 : (c.toNat : Int) ≤ 57
        · obtain ⟨h1, h2⟩ : wordB c = true ∧ ¬ cls c = 3 := HD.out (.inl ⟨b1, b2⟩)
          by_cases hk0 : k = 0
          · have HE : Hid (nameB l = false) := upto_bad Hc.out (.inr ⟨hk0, h2⟩)
            subst hk0
            clear h1 h2 HC HD HX hJ1 hK1
            go_wp2_with fail
            go_ret
            exact ⟨by rw [HE.out]; rfl, rfl⟩
          · have HV : Hid (upto l (k + 1)) := upto_next HU2.out Hc.out h1 fun h => absurd h hk0
            have hk1 : ((k : Int) == 0) = false := by simp; omega
            clear h1 h2 HC HD HX hk0
            go_wp2_with fail
            go_roundg (N - (k + 1))
            case measure => omega
            case rel => exact ⟨k + 1, rfl, by omega, by go_num, rfl, HV⟩
        · have HE : Hid (nameB l = false) := upto_bad Hc.out (.inl (HX.out (by omega)))
          clear HC HD HX
          by_cases hk0 : k = 0
          · subst hk0
            clear hJ1 hK1
            go_wp2_with fail
            go_ret
            exact ⟨by rw [HE.out]; rfl, rfl⟩
          · have hk1 : ((k : Int) == 0) = false := by simp; omega
            clear hJ1 hK1 hk0
            go_wp2_with fail
            go_ret
            exact ⟨by rw [HE.out]; rfl, rfl⟩
      · have HE : Hid (nameB l = false) := upto_bad Hc.out (.inl (HX.out (by omega)))
        clear HC HD HX
        by_cases hk0 : k = 0
        · subst hk0
          clear hJ1 hK1
          go_wp2_with fail
          go_ret
          exact ⟨by rw [HE.out]; rfl, rfl⟩
        · have hk1 : ((k : Int) == 0) = false := by simp; omega
          clear hJ1 hK1 hk0
          go_wp2_with fail
          go_ret
          exact ⟨by rw [HE.out]; rfl, rfl⟩
    · obtain rfl : k = N := by omega
      have HE : Hid (nameB l = (decide (0 < k) && decide (k ≤ 24))) := by
        show _ = _
        have := HU2.out
        rw [HN.out] at this ⊢
        exact upto_end this
      clear hJ1 hK1 hlt
      by_cases h0 : k = 0
      · have hs : u.toList = [] := by rw [Htl.out]; exact List.length_eq_zero_iff.1 (by rw [← HN.out]; exact h0)
        subst h0
        go_wp2_with fail
        go_ret
        exact ⟨by rw [HE.out]; rfl, rfl⟩
      · have hs : ¬ u.toList = [] := fun e => h0 (by rw [HN.out, ← Htl.out, e]; rfl)
        go_wp2_with fail
        go_ret
        exact ⟨congrArg (fun b => Ending.returned (Value.bool b)) (show (!u.toList.isEmpty && decide ((k : Int) ≤ 24)) = nameB l by
          have e : u.toList.isEmpty = false := by simpa using hs
          rw [HE.out, e, decide_eq_true (p := 0 < k) (by omega), Bool.not_false, Bool.true_and, Bool.true_and, Bool.eq_iff_iff]
          simp
          omega), rfl⟩
end Go.Proofs.YtakadfdnhlfijaaGreatDoor
