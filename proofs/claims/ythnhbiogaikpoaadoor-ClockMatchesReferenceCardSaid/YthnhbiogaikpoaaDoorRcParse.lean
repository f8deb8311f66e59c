/-
  The reference's 'Parse': what it returns.
-/
import Derived.Test.YthnhbiogaikpoaaDoorRcDec
import Derived.Test.YthnhbiogaikpoaaDoorRcTexts
import Derived.IntWalk
namespace Go.Proofs.YthnhbiogaikpoaaDoor
open Go.RowKit Go.Cz Go.Cz.Ck
set_option linter.unusedSimpArgs false
set_option linter.unusedVariables false
attribute [local go_sem] bs_size bs_extract bs_append bs_toList
attribute [local irreducible] cList
theorem take_dig {l : List UInt8} {k : Nat} (h : k < l.length) (hd : ∀ c ∈ l.take k, digB c) (hk : digB l[k]) : (∀ c ∈ l.take (k + 1), digB c) ∧ dayV (l.take (k + 1)) = 10 * dayV (l.take k) + (l[k].toNat - 48) := by
  rw [List.take_succ_eq_append_getElem h, dayV_snoc]
  refine ⟨fun c hc => ?_, rfl⟩
  rcases List.mem_append.1 hc with hc | hc
  · exact hd c hc
  · simp at hc; subst hc; exact hk
theorem bs_get {l : List UInt8} {u : ByteArray} (hu : u = bs l) (k : Nat) (h : k < u.size) : ∃ h2 : k < l.length, u[k] = l[k] := by
  subst hu
  exact ⟨by simpa [bs_size] using h, rfl⟩
set_option maxRecDepth 5000 in
set_option maxHeartbeats 4000000 in
theorem rParse_c (l : List UInt8) (w : World) (hl : l.length ≤ 140737488355328) : Calls Tryd.prog 21 #[.string (bs l)] w fun e w' => e = .returned (.tuple #[.int .i64 (parseF l).1, .int .i64 (parseF l).2]) ∧ Below w.heap.size w w' := by
  obtain ⟨u, hu⟩ : ∃ u, u = bs l := ⟨_, rfl⟩
  rw [← hu]
  have hsz : u.size = l.length := by rw [hu, bs_size]
  have hs0 : u.size ≤ 140737488355328 := by omega
  by_cases h1 : u.size < 7
  · have HL := Lib.hid (rp_len (l := l) (.inl (by omega)))
    clear hu hsz hl
    go_enter Tryd.func21, Tryd.ntmps21
    go_wp2_with fail
    go_ret2
    exact ⟨by rw [HL.out]; rfl, Below.refl _ _⟩
  by_cases h2 : 12 < u.size
  · have HL := Lib.hid (rp_len (l := l) (.inr (by omega)))
    clear hu hsz hl
    go_enter Tryd.func21, Tryd.ntmps21
    go_wp2_with fail
    go_ret2
    exact ⟨by rw [HL.out]; rfl, Below.refl _ _⟩
  obtain ⟨K, hK⟩ : ∃ K, u.size = K + 6 := ⟨u.size - 6, by omega⟩
  have hKi : (u.size : Int) - 6 = (K : Int) := by omega
  have hK1 : 1 ≤ K := by omega
  have hK2 : K ≤ 6 := by omega
  have Hu := Lib.hid hu
  have HK := Lib.hid (And.intro hK (hsz.symm.trans hK))
  have HKi := Lib.hid hKi
  clear hu hsz hl hK hKi
  go_enter Tryd.func21, Tryd.ntmps21
  go_wp2_with fail
  rw [HKi.out]
  go_loopg [5, 6] K (fun gk d i wr => ∃ k : Nat, gk = K - k ∧ wr = w ∧ k ≤ K ∧ i = .int .i64 (k : Int) ∧ d = .int .i64 (dayV (l.take k) : Int) ∧ Hid (∀ c ∈ l.take k, digB c))
  case atStart => exact ⟨0, rfl, rfl, Nat.zero_le _, rfl, rfl, Lib.hid (by simp)⟩
  case round =>
    rename_i J1 K1 hJ1 hK1'
    obtain ⟨k, rfl, rfl, hk, rfl, rfl, hv⟩ := hrel
    have hD := dayV_lt k (l.take k) (by rw [List.length_take]; have := HK.out.2; omega) hv.out (by omega)
    by_cases hlt : k < K
    · have kl : k < u.size := by have := HK.out.1; omega
      obtain ⟨kl2, hg⟩ := bs_get Hu.out k kl
      obtain ⟨b, hb⟩ : ∃ b, u[k].toNat = b := ⟨_, rfl⟩
      by_cases hb1 : b < 48
      · have HL := Lib.hid (rp_day (l := l) (i := k) (by have := HK.out.2; omega) (by rw [← hg]; unfold digB; omega))
        clear hg
        have hbt : decide ((b : Int) < 48) = true := decide_eq_true (by omega)
        go_wp2_with fail
        go_ret2
        exact ⟨by rw [HL.out]; rfl, Below.refl _ _⟩
      have hbt : decide ((b : Int) < 48) = false := decide_eq_false (by omega)
      by_cases hb2 : 57 < b
      · have HL := Lib.hid (rp_day (l := l) (i := k) (by have := HK.out.2; omega) (by rw [← hg]; unfold digB; omega))
        clear hg
        have hbt2 : decide (57 < (b : Int)) = true := decide_eq_true (by omega)
        go_wp2_with fail
        go_ret2
        exact ⟨by rw [HL.out]; rfl, Below.refl _ _⟩
      have hbt2 : decide (57 < (b : Int)) = false := decide_eq_false (by omega)
      obtain ⟨n1, n2⟩ := take_dig kl2 hv.out (by rw [← hg]; unfold digB; omega)
      have N1 := Lib.hid n1
      have N2 : Hid ((dayV (l.take (k + 1)) : Int) = 10 * (dayV (l.take k) : Int) + ((b : Int) - 48)) := by show _ = _; rw [n2, ← hg, hb]; omega
      have hb3 : 48 ≤ (b : Int) := by omega
      have hb4 : (b : Int) ≤ 57 := by omega
      clear n1 n2 hg hv
      go_wp2_with fail
      go_roundg (K - (k + 1))
      case measure => omega
      case rel => exact ⟨k + 1, rfl, rfl, by omega, by go_num, by rw [N2.out], N1⟩
    · obtain rfl : k = K := by omega
      clear hJ1 hK1'
      obtain ⟨D, hD0⟩ : ∃ D, dayV (l.take k) = D := ⟨_, rfl⟩
      rw [hD0] at hD ⊢
      have HD := Lib.hid hD0
      clear hD0 hv
      go_wp2_with fail
      go_loopg [7] 5 (fun gk i wx => ∃ j : Nat, gk = 6 - j ∧ wx = wr ∧ 1 ≤ j ∧ j ≤ 6 ∧ i = .int .i64 (j : Int) ∧ Hid (∀ m : Nat, 1 ≤ m → m < j → m ≠ 3 → ∃ h : k + m < u.size, digB u[k + m]))
      case atStart => exact ⟨1, rfl, rfl, by omega, by omega, rfl, Lib.hid (fun m _ _ => by omega)⟩
      case round =>
        rename_i J1 K1 hJ1 hK1'
        obtain ⟨j, rfl, rfl, hj1, hj6, rfl, hv⟩ := hrel
        by_cases hj : j < 6
        · by_cases h3 : j = 3
          · subst h3
            have Hv : Hid (∀ m : Nat, 1 ≤ m → m < 3 + 1 → m ≠ 3 → ∃ h : k + m < u.size, digB u[k + m]) := Lib.hid fun m g1 g2 g3 => hv.out m g1 (by omega) g3
            clear hv
            go_wp2_with fail
            go_roundg (6 - (3 + 1))
            case measure => omega
            case rel => exact ⟨3 + 1, rfl, rfl, by omega, by omega, by go_num, Hv⟩
          · have h3t : ((j : Int) != 3) = true := by simp; omega
            have kl : k + j < u.size := by have := HK.out.1; omega
            obtain ⟨kl2, hg⟩ := bs_get Hu.out (k + j) kl
            obtain ⟨b, hb⟩ : ∃ b, u[k + j].toNat = b := ⟨_, rfl⟩
            have Hr := Lib.hid fun (hd : ¬ digB (l[l.length - 6 + j]'(by have := HK.out.2; omega))) => rp_rest (by have := HK.out.2; omega) (by have := HK.out.2; omega) (by omega) hd
            have He : Hid (l.length - 6 + j = k + j) := by show _ = _; have := HK.out.2; omega
            by_cases hb1 : b < 48
            · have HL := Lib.hid (Hr.out (by simp only [He.out]; rw [← hg]; unfold digB; omega))
              clear hg Hr
              have hbt : decide ((b : Int) < 48) = true := decide_eq_true (by omega)
              go_wp2_with fail
              go_ret2
              exact ⟨by rw [HL.out]; rfl, Below.refl _ _⟩
            have hbt : decide ((b : Int) < 48) = false := decide_eq_false (by omega)
            by_cases hb2 : 57 < b
            · have HL := Lib.hid (Hr.out (by simp only [He.out]; rw [← hg]; unfold digB; omega))
              clear hg Hr
              have hbt2 : decide (57 < (b : Int)) = true := decide_eq_true (by omega)
              go_wp2_with fail
              go_ret2
              exact ⟨by rw [HL.out]; rfl, Below.refl _ _⟩
            have hbt2 : decide (57 < (b : Int)) = false := decide_eq_false (by omega)
            have Hv : Hid (∀ m : Nat, 1 ≤ m → m < j + 1 → m ≠ 3 → ∃ h : k + m < u.size, digB u[k + m]) := Lib.hid fun m g1 g2 g3 => by
              by_cases hm : m = j
              · subst hm; exact ⟨kl, by unfold digB; omega⟩
              · exact hv.out m g1 (by omega) g3
            clear hv hg Hr
            go_wp2_with fail
            go_roundg (6 - (j + 1))
            case measure => omega
            case rel => exact ⟨j + 1, rfl, rfl, by omega, by omega, by go_num, Hv⟩
        · obtain rfl : j = 6 := by omega
          clear hJ1 hK1'
          obtain ⟨k1, q1⟩ := hv.out 1 (by omega) (by omega) (by omega)
          obtain ⟨k2, q2⟩ := hv.out 2 (by omega) (by omega) (by omega)
          obtain ⟨k4, q4⟩ := hv.out 4 (by omega) (by omega) (by omega)
          obtain ⟨k5, q5⟩ := hv.out 5 (by omega) (by omega) (by omega)
          obtain ⟨z1, g1⟩ := bs_get Hu.out _ k1
          obtain ⟨z2, g2⟩ := bs_get Hu.out _ k2
          obtain ⟨z4, g4⟩ := bs_get Hu.out _ k4
          obtain ⟨z5, g5⟩ := bs_get Hu.out _ k5
          clear hv
          have hend := rp_end (l := l) (k := k) (HK.out.2.symm) _ rfl
          simp only [List.getD_eq_getElem?_getD, List.getElem?_eq_getElem (show k + 1 < l.length by have := HK.out.2; omega), List.getElem?_eq_getElem (show k + 2 < l.length by have := HK.out.2; omega), List.getElem?_eq_getElem (show k + 4 < l.length by have := HK.out.2; omega), List.getElem?_eq_getElem (show k + 5 < l.length by have := HK.out.2; omega), Option.getD_some] at hend
          rw [← g1, ← g2, ← g4, ← g5, HD.out] at hend
          unfold digB at q1 q2 q4 q5
          obtain ⟨b1, e1⟩ : ∃ b, u[k + 1].toNat = b := ⟨_, rfl⟩
          obtain ⟨b2, e2⟩ : ∃ b, u[k + 2].toNat = b := ⟨_, rfl⟩
          obtain ⟨b4, e4⟩ : ∃ b, u[k + 4].toNat = b := ⟨_, rfl⟩
          obtain ⟨b5, e5⟩ : ∃ b, u[k + 5].toNat = b := ⟨_, rfl⟩
          rw [e1, e2, e4, e5] at hend
          rw [e1] at q1
          rw [e2] at q2
          rw [e4] at q4
          rw [e5] at q5
          obtain ⟨q11, q12⟩ := q1
          obtain ⟨q21, q22⟩ := q2
          obtain ⟨q41, q42⟩ := q4
          obtain ⟨q51, q52⟩ := q5
          have r1 : 48 ≤ (b1 : Int) := by omega
          have r2 : 48 ≤ (b2 : Int) := by omega
          have r4 : 48 ≤ (b4 : Int) := by omega
          have r5 : 48 ≤ (b5 : Int) := by omega
          have s1 : (b1 : Int) ≤ 57 := by omega
          have s2 : (b2 : Int) ≤ 57 := by omega
          have s4 : (b4 : Int) ≤ 57 := by omega
          have s5 : (b5 : Int) ≤ 57 := by omega
          obtain ⟨T, hT⟩ : ∃ T : Int, T = (D : Int) * 1440 + 60 * (10 * ((b1 : Int) - 48) + ((b2 : Int) - 48)) + 10 * ((b4 : Int) - 48) + ((b5 : Int) - 48) := ⟨_, rfl⟩
          have hTn : ((D * 1440 + 60 * (10 * (b1 - 48) + (b2 - 48)) + 10 * (b4 - 48) + (b5 - 48) : Nat) : Int) = T := by omega
          rw [hTn] at hend
          have Hend := Lib.hid hend
          have HT := Lib.hid hT
          clear hend hT hTn g1 g2 g4 g5 z1 z2 z4 z5 q11 q12 q21 q22 q41 q42 q51 q52
          go_wp2_with fail
          refine wp_region_can [] (List.range 34) (by kernel_rfl) (by kernel_rfl) ?_
          iterate 34 (refine cl_do rfl rfl rfl rfl (fun _ _ => ?_); go_wp2_with fail)
          refine cl_nil ?_
          clear e1 e2 e4 e5
          rw [← HT.out]
          clear HT r1 r2 r4 r5 s1 s2 s4 s5
          have hb : Below wr.heap.size wr wr.drew := (Below.refl _ _).drew
          have Hb := Lib.hid hb
          clear hb
          go_wp2_with fail
          go_at_call 19
          refine (rText_c T _).mono ?_
          rintro e w2 ⟨rfl, rfl⟩
          rcases hF : textF T with ⟨l2, c2⟩
          rw [hF] at Hend
          by_cases hc : c2 = 0
          · subst hc
            by_cases hl2 : l2 = l
            · subst hl2
              have He : Hid (parseF l2 = (T, 0)) := Hend.out.trans (if_pos rfl)
              clear hF Hend
              dsimp only
              rw [← Hu.out]
              go_wp2_with fail
              go_ret2
              exact ⟨by rw [He.out]; rfl, Hb.out⟩
            · have He : Hid (parseF l = (0, 5)) := Hend.out.trans (if_neg fun h => hl2 (by injection h))
              clear hF Hend
              dsimp only
              obtain ⟨v, hv⟩ : ∃ v, v = bs l2 := ⟨_, rfl⟩
              rw [← hv]
              have hne : (v.toList == u.toList) = false := by
                rw [hv, Hu.out, bs_toList, bs_toList]
                exact beq_eq_false_iff_ne.2 hl2
              clear hv hl2
              go_wp2_with fail
              go_ret2
              exact ⟨by rw [He.out]; rfl, Hb.out⟩
          · have He : Hid (parseF l = (0, 5)) := Hend.out.trans (if_neg fun h => hc (by injection h))
            have hc2 : (c2 != 0) = true := by simp [hc]
            clear hF Hend hc
            dsimp only
            go_wp2_with fail
            go_ret2
            exact ⟨by rw [He.out]; rfl, Hb.out⟩
end Go.Proofs.YthnhbiogaikpoaaDoor
