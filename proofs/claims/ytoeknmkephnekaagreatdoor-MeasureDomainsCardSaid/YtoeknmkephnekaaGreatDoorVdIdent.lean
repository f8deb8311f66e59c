/-
  Names: the measures' 'identifier'.
-/
import Derived.Test.YtoeknmkephnekaaGreatDoorFmFact
namespace Go.Proofs.YtoeknmkephnekaaGreatDoor
open Go.RowKit Go.Cz Go.Cz.Lx Go.Cz.Fo
set_option linter.unusedSimpArgs false
set_option linter.unusedVariables false
attribute [local go_sem] bs_size bs_extract bs_append bs_toList
attribute [local irreducible] cList cPlan
set_option maxHeartbeats 4000000 in
theorem identM_c (l : List UInt8) (w : World) (hl : l.length ≤ 140737488355328) : Calls Tryz.prog 69 #[.string (bs l)] w fun e w' => e = .returned (.bool (nameB l)) ∧ Below w.heap.size w w' := by
  obtain ⟨u, hu⟩ : ∃ u, u = bs l := ⟨_, rfl⟩
  have hus : u.size = l.length := by rw [hu, bs_size]
  have hget : ∀ (i : Nat) (h : i < u.size) (h2 : i < l.length), u[i]'h = l[i]'h2 := by
    subst hu; intro i h h2; rfl
  have HU := Lib.hid hget
  have Htl : Hid (u.toList = l) := by show _ = _; rw [hu, bs_toList]
  rw [← hu]
  clear hget hu
  obtain ⟨N, hN⟩ : ∃ N, N = l.length := ⟨_, rfl⟩
  rw [← hN] at hus hl
  have HN := Lib.hid hN
  clear hN
  go_enter Tryz.func69, Tryz.ntmps69
  go_wp2_with fail
  go_loopg [9] N (fun gk i wr => ∃ k : Nat, gk = N - k ∧ k ≤ N ∧ i = .int .i64 (k : Int) ∧ Hid (Below w.heap.size w wr) ∧ Hid (upto l k))
  case atStart => exact ⟨0, rfl, Nat.zero_le _, rfl, Lib.hid (Below.refl _ _), ⟨by simp, fun h => absurd h (by omega)⟩⟩
  case round =>
    rename_i J1 K1 hJ1 hK1
    obtain ⟨k, rfl, hk, rfl, HB, HU2⟩ := hrel
    by_cases hlt : k < N
    · have kl : k < u.size := by omega
      have hkl : k < l.length := by have := HN.out; omega
      obtain ⟨c, hc⟩ : ∃ c, c = l[k] := ⟨_, rfl⟩
      have hcu : u[k] = c := by rw [HU.out k kl hkl, hc]
      have Hc : Hid (l[k]? = some c) := by show _ = _; rw [List.getElem?_eq_getElem hkl, hc]
      clear hc hkl
      obtain ⟨m, hm⟩ : ∃ m, m = bits BinOp.or IntKind.u8 (c.toNat : Int) 32 := ⟨_, rfl⟩
      have hm0 : 0 ≤ m ∧ m ≤ 255 := by rw [hm]; exact all_bytes (p := fun c => 0 ≤ bits BinOp.or IntKind.u8 (c.toNat : Int) 32 ∧ bits BinOp.or IntKind.u8 (c.toNat : Int) 32 ≤ 255) (by decide +kernel) c
      have HC : Hid (97 ≤ m ∧ m ≤ 122 → wordB c = true ∧ cls c = 3) := by
        rw [hm]
        exact Lib.hid (all_bytes (p := fun c => 97 ≤ bits BinOp.or IntKind.u8 (c.toNat : Int) 32 ∧ bits BinOp.or IntKind.u8 (c.toNat : Int) 32 ≤ 122 → wordB c = true ∧ cls c = 3) (by decide +kernel) c)
      have HD : Hid ((48 ≤ (c.toNat : Int) ∧ (c.toNat : Int) ≤ 57) ∨ (c.toNat : Int) = 95 → wordB c = true) := Lib.hid (all_bytes (p := fun c => (48 ≤ (c.toNat : Int) ∧ (c.toNat : Int) ≤ 57) ∨ (c.toNat : Int) = 95 → wordB c = true) (by decide +kernel) c)
      have HX : Hid (¬ (97 ≤ m ∧ m ≤ 122) → cls c ≠ 3) := by
        rw [hm]
        exact Lib.hid (all_bytes (p := fun c => ¬ (97 ≤ bits BinOp.or IntKind.u8 (c.toNat : Int) 32 ∧ bits BinOp.or IntKind.u8 (c.toNat : Int) 32 ≤ 122) → cls c ≠ 3) (by decide +kernel) c)
      have HY : Hid (¬ (97 ≤ m ∧ m ≤ 122) → ¬ ((48 ≤ (c.toNat : Int) ∧ (c.toNat : Int) ≤ 57) ∨ (c.toNat : Int) = 95) → wordB c = false) := by
        rw [hm]
        exact Lib.hid (all_bytes (p := fun c => ¬ (97 ≤ bits BinOp.or IntKind.u8 (c.toNat : Int) 32 ∧ bits BinOp.or IntKind.u8 (c.toNat : Int) 32 ≤ 122) → ¬ ((48 ≤ (c.toNat : Int) ∧ (c.toNat : Int) ≤ 57) ∨ (c.toNat : Int) = 95) → wordB c = false) (by decide +kernel) c)
      go_wp2_with fail
      rw [← hm]
      clear hm
      refine wp_region_can [] (List.range 24) (by decide +kernel) (by decide +kernel) ?_
      by_cases a1 : 97 ≤ m
      · by_cases a2 : m ≤ 122
        · obtain ⟨h1, h2⟩ := HC.out ⟨a1, a2⟩
          have e1 := decide_eq_true a1
          have e2 := decide_eq_true a2
          by_cases b1 : 48 ≤ (c.toNat : Int)
          · by_cases b2 : (c.toNat : Int) ≤ 57
            · have b3 : ((c.toNat : Int) == 95) = false := by simp; omega
              have f1 := decide_eq_true b1
              have f2 := decide_eq_true b2
              have HV : Hid (upto l (k + 1)) := upto_next HU2.out Hc.out h1 fun _ => h2
              clear h1 h2 HC HD HX HY
              iterate 24 (first | (refine cl_do rfl rfl rfl rfl (fun _ _ => ?_); go_wp2_with fail; try simp only [e1, e2, f1, f2]) | (refine cl_yes rfl rfl rfl rfl (by first | rfl | simp [okB, lenV, plainV, Act.eval]) (fun _ _ => ?_); go_wp2_with fail; try simp only [e1, e2, f1, f2]) | (refine cl_no rfl rfl rfl ?_; go_simp))
              refine cl_nil ?_
              go_wp2_with fail
              go_roundg (N - (k + 1))
              case measure => omega
              case rel => exact ⟨k + 1, rfl, by omega, by go_num, HB.out.drew, HV⟩
            · have f1 := decide_eq_true b1
              have f2 := decide_eq_false b2
              by_cases e : (c.toNat : Int) = 95
              · have b3 : ((c.toNat : Int) == 95) = true := by simpa using e
                have HV : Hid (upto l (k + 1)) := upto_next HU2.out Hc.out h1 fun _ => h2
                clear h1 h2 HC HD HX HY
                iterate 24 (first | (refine cl_do rfl rfl rfl rfl (fun _ _ => ?_); go_wp2_with fail; try simp only [e1, e2, f1, f2]) | (refine cl_yes rfl rfl rfl rfl (by first | rfl | simp [okB, lenV, plainV, Act.eval]) (fun _ _ => ?_); go_wp2_with fail; try simp only [e1, e2, f1, f2]) | (refine cl_no rfl rfl rfl ?_; go_simp))
                refine cl_nil ?_
                go_wp2_with fail
                go_roundg (N - (k + 1))
                case measure => omega
                case rel => exact ⟨k + 1, rfl, by omega, by go_num, HB.out.drew, HV⟩
              · have b3 : ((c.toNat : Int) == 95) = false := by simpa using e
                have HV : Hid (upto l (k + 1)) := upto_next HU2.out Hc.out h1 fun _ => h2
                clear h1 h2 HC HD HX HY
                iterate 24 (first | (refine cl_do rfl rfl rfl rfl (fun _ _ => ?_); go_wp2_with fail; try simp only [e1, e2, f1, f2]) | (refine cl_yes rfl rfl rfl rfl (by first | rfl | simp [okB, lenV, plainV, Act.eval]) (fun _ _ => ?_); go_wp2_with fail; try simp only [e1, e2, f1, f2]) | (refine cl_no rfl rfl rfl ?_; go_simp))
                refine cl_nil ?_
                go_wp2_with fail
                go_roundg (N - (k + 1))
                case measure => omega
                case rel => exact ⟨k + 1, rfl, by omega, by go_num, HB.out.drew, HV⟩
          · have b3 : ((c.toNat : Int) == 95) = false := by simp; omega
            have f1 := decide_eq_false b1
            have f2 : True := trivial
            have HV : Hid (upto l (k + 1)) := upto_next HU2.out Hc.out h1 fun _ => h2
            clear h1 h2 HC HD HX HY
            iterate 24 (first | (refine cl_do rfl rfl rfl rfl (fun _ _ => ?_); go_wp2_with fail; try simp only [e1, e2, f1, f2]) | (refine cl_yes rfl rfl rfl rfl (by first | rfl | simp [okB, lenV, plainV, Act.eval]) (fun _ _ => ?_); go_wp2_with fail; try simp only [e1, e2, f1, f2]) | (refine cl_no rfl rfl rfl ?_; go_simp))
            refine cl_nil ?_
            go_wp2_with fail
            go_roundg (N - (k + 1))
            case measure => omega
            case rel => exact ⟨k + 1, rfl, by omega, by go_num, HB.out.drew, HV⟩
        · have HN2 : Hid (¬ (97 ≤ m ∧ m ≤ 122)) := by show ¬ _; omega
          have e1 := decide_eq_true a1
          have e2 := decide_eq_false a2
          by_cases b1 : 48 ≤ (c.toNat : Int)
          · by_cases b2 : (c.toNat : Int) ≤ 57
            · have b3 : ((c.toNat : Int) == 95) = false := by simp; omega
              have f1 := decide_eq_true b1
              have f2 := decide_eq_true b2
              have h1 := HD.out (.inl ⟨b1, b2⟩)
              have h2 := HX.out HN2.out
              by_cases hk0 : k = 0
              · have HE : Hid (nameB l = false) := upto_bad Hc.out (.inr ⟨hk0, h2⟩)
                subst hk0
                clear h1 h2 HC HD HX HY hJ1 hK1
                iterate 24 (first | (refine cl_do rfl rfl rfl rfl (fun _ _ => ?_); go_wp2_with fail; try simp only [e1, e2, f1, f2]) | (refine cl_yes rfl rfl rfl rfl (by first | rfl | simp [okB, lenV, plainV, Act.eval]) (fun _ _ => ?_); go_wp2_with fail; try simp only [e1, e2, f1, f2]) | (refine cl_no rfl rfl rfl ?_; go_simp))
                refine cl_nil ?_
                go_wp2_with fail
                go_ret
                exact ⟨by rw [HE.out]; rfl, HB.out.drew⟩
              · have HV : Hid (upto l (k + 1)) := upto_next HU2.out Hc.out h1 fun h => absurd h hk0
                have hk1 : ((k : Int) == 0) = false := by simp; omega
                clear h1 h2 HC HD HX HY hk0
                iterate 24 (first | (refine cl_do rfl rfl rfl rfl (fun _ _ => ?_); go_wp2_with fail; try simp only [e1, e2, f1, f2]) | (refine cl_yes rfl rfl rfl rfl (by first | rfl | simp [okB, lenV, plainV, Act.eval]) (fun _ _ => ?_); go_wp2_with fail; try simp only [e1, e2, f1, f2]) | (refine cl_no rfl rfl rfl ?_; go_simp))
                refine cl_nil ?_
                go_wp2_with fail
                go_roundg (N - (k + 1))
                case measure => omega
                case rel => exact ⟨k + 1, rfl, by omega, by go_num, HB.out.drew, HV⟩
            · have f1 := decide_eq_true b1
              have f2 := decide_eq_false b2
              by_cases e : (c.toNat : Int) = 95
              · have b3 : ((c.toNat : Int) == 95) = true := by simpa using e
                have h1 := HD.out (.inr e)
                have h2 := HX.out HN2.out
                by_cases hk0 : k = 0
                · have HE : Hid (nameB l = false) := upto_bad Hc.out (.inr ⟨hk0, h2⟩)
                  subst hk0
                  clear h1 h2 HC HD HX HY hJ1 hK1
                  iterate 24 (first | (refine cl_do rfl rfl rfl rfl (fun _ _ => ?_); go_wp2_with fail; try simp only [e1, e2, f1, f2]) | (refine cl_yes rfl rfl rfl rfl (by first | rfl | simp [okB, lenV, plainV, Act.eval]) (fun _ _ => ?_); go_wp2_with fail; try simp only [e1, e2, f1, f2]) | (refine cl_no rfl rfl rfl ?_; go_simp))
                  refine cl_nil ?_
                  go_wp2_with fail
                  go_ret
                  exact ⟨by rw [HE.out]; rfl, HB.out.drew⟩
                · have HV : Hid (upto l (k + 1)) := upto_next HU2.out Hc.out h1 fun h => absurd h hk0
                  have hk1 : ((k : Int) == 0) = false := by simp; omega
                  clear h1 h2 HC HD HX HY hk0
                  iterate 24 (first | (refine cl_do rfl rfl rfl rfl (fun _ _ => ?_); go_wp2_with fail; try simp only [e1, e2, f1, f2]) | (refine cl_yes rfl rfl rfl rfl (by first | rfl | simp [okB, lenV, plainV, Act.eval]) (fun _ _ => ?_); go_wp2_with fail; try simp only [e1, e2, f1, f2]) | (refine cl_no rfl rfl rfl ?_; go_simp))
                  refine cl_nil ?_
                  go_wp2_with fail
                  go_roundg (N - (k + 1))
                  case measure => omega
                  case rel => exact ⟨k + 1, rfl, by omega, by go_num, HB.out.drew, HV⟩
              · have b3 : ((c.toNat : Int) == 95) = false := by simpa using e
                have HE : Hid (nameB l = false) := upto_bad Hc.out (.inl (HY.out HN2.out (by omega)))
                clear HC HD HX HY
                by_cases hk0 : k = 0
                · subst hk0
                  clear hJ1 hK1
                  iterate 24 (first | (refine cl_do rfl rfl rfl rfl (fun _ _ => ?_); go_wp2_with fail; try simp only [e1, e2, f1, f2]) | (refine cl_yes rfl rfl rfl rfl (by first | rfl | simp [okB, lenV, plainV, Act.eval]) (fun _ _ => ?_); go_wp2_with fail; try simp only [e1, e2, f1, f2]) | (refine cl_no rfl rfl rfl ?_; go_simp))
                  refine cl_nil ?_
                  go_wp2_with fail
                  go_ret
                  exact ⟨by rw [HE.out]; rfl, HB.out.drew⟩
                · have hk1 : ((k : Int) == 0) = false := by simp; omega
                  clear hJ1 hK1 hk0
                  iterate 24 (first | (refine cl_do rfl rfl rfl rfl (fun _ _ => ?_); go_wp2_with fail; try simp only [e1, e2, f1, f2]) | (refine cl_yes rfl rfl rfl rfl (by first | rfl | simp [okB, lenV, plainV, Act.eval]) (fun _ _ => ?_); go_wp2_with fail; try simp only [e1, e2, f1, f2]) | (refine cl_no rfl rfl rfl ?_; go_simp))
                  refine cl_nil ?_
                  go_wp2_with fail
                  go_ret
                  exact ⟨by rw [HE.out]; rfl, HB.out.drew⟩
          · have b3 : ((c.toNat : Int) == 95) = false := by simp; omega
            have f1 := decide_eq_false b1
            have f2 : True := trivial
            have HE : Hid (nameB l = false) := upto_bad Hc.out (.inl (HY.out HN2.out (by omega)))
            clear HC HD HX HY
            by_cases hk0 : k = 0
            · subst hk0
              clear hJ1 hK1
              iterate 24 (first | (refine cl_do rfl rfl rfl rfl (fun _ _ => ?_); go_wp2_with fail; try simp only [e1, e2, f1, f2]) | (refine cl_yes rfl rfl rfl rfl (by first | rfl | simp [okB, lenV, plainV, Act.eval]) (fun _ _ => ?_); go_wp2_with fail; try simp only [e1, e2, f1, f2]) | (refine cl_no rfl rfl rfl ?_; go_simp))
              refine cl_nil ?_
              go_wp2_with fail
              go_ret
              exact ⟨by rw [HE.out]; rfl, HB.out.drew⟩
            · have hk1 : ((k : Int) == 0) = false := by simp; omega
              clear hJ1 hK1 hk0
              iterate 24 (first | (refine cl_do rfl rfl rfl rfl (fun _ _ => ?_); go_wp2_with fail; try simp only [e1, e2, f1, f2]) | (refine cl_yes rfl rfl rfl rfl (by first | rfl | simp [okB, lenV, plainV, Act.eval]) (fun _ _ => ?_); go_wp2_with fail; try simp only [e1, e2, f1, f2]) | (refine cl_no rfl rfl rfl ?_; go_simp))
              refine cl_nil ?_
              go_wp2_with fail
              go_ret
              exact ⟨by rw [HE.out]; rfl, HB.out.drew⟩
      · have HN2 : Hid (¬ (97 ≤ m ∧ m ≤ 122)) := by show ¬ _; omega
        have e1 := decide_eq_false a1
        have e2 : True := trivial
        by_cases b1 : 48 ≤ (c.toNat : Int)
        · by_cases b2 : (c.toNat : Int) ≤ 57
          · have b3 : ((c.toNat : Int) == 95) = false := by simp; omega
            have f1 := decide_eq_true b1
            have f2 := decide_eq_true b2
            have h1 := HD.out (.inl ⟨b1, b2⟩)
            have h2 := HX.out HN2.out
            by_cases hk0 : k = 0
            · have HE : Hid (nameB l = false) := upto_bad Hc.out (.inr ⟨hk0, h2⟩)
              subst hk0
              clear h1 h2 HC HD HX HY hJ1 hK1
              iterate 24 (first | (refine cl_do rfl rfl rfl rfl (fun _ _ => ?_); go_wp2_with fail; try simp only [e1, e2, f1, f2]) | (refine cl_yes rfl rfl rfl rfl (by first | rfl | simp [okB, lenV, plainV, Act.eval]) (fun _ _ => ?_); go_wp2_with fail; try simp only [e1, e2, f1, f2]) | (refine cl_no rfl rfl rfl ?_; go_simp))
              refine cl_nil ?_
              go_wp2_with fail
              go_ret
              exact ⟨by rw [HE.out]; rfl, HB.out.drew⟩
            · have HV : Hid (upto l (k + 1)) := upto_next HU2.out Hc.out h1 fun h => absurd h hk0
              have hk1 : ((k : Int) == 0) = false := by simp; omega
              clear h1 h2 HC HD HX HY hk0
              iterate 24 (first | (refine cl_do rfl rfl rfl rfl (fun _ _ => ?_); go_wp2_with fail; try simp only [e1, e2, f1, f2]) | (refine cl_yes rfl rfl rfl rfl (by first | rfl | simp [okB, lenV, plainV, Act.eval]) (fun _ _ => ?_); go_wp2_with fail; try simp only [e1, e2, f1, f2]) | (refine cl_no rfl rfl rfl ?_; go_simp))
              refine cl_nil ?_
              go_wp2_with fail
              go_roundg (N - (k + 1))
              case measure => omega
              case rel => exact ⟨k + 1, rfl, by omega, by go_num, HB.out.drew, HV⟩
          · have f1 := decide_eq_true b1
            have f2 := decide_eq_false b2
            by_cases e : (c.toNat : Int) = 95
            · have b3 : ((c.toNat : Int) == 95) = true := by simpa using e
              have h1 := HD.out (.inr e)
              have h2 := HX.out HN2.out
              by_cases hk0 : k = 0
              · have HE : Hid (nameB l = false) := upto_bad Hc.out (.inr ⟨hk0, h2⟩)
                subst hk0
                clear h1 h2 HC HD HX HY hJ1 hK1
                iterate 24 (first | (refine cl_do rfl rfl rfl rfl (fun _ _ => ?_); go_wp2_with fail; try simp only [e1, e2, f1, f2]) | (refine cl_yes rfl rfl rfl rfl (by first | rfl | simp [okB, lenV, plainV, Act.eval]) (fun _ _ => ?_); go_wp2_with fail; try simp only [e1, e2, f1, f2]) | (refine cl_no rfl rfl rfl ?_; go_simp))
                refine cl_nil ?_
                go_wp2_with fail
                go_ret
                exact ⟨by rw [HE.out]; rfl, HB.out.drew⟩
              · have HV : Hid (upto l (k + 1)) := upto_next HU2.out Hc.out h1 fun h => absurd h hk0
                have hk1 : ((k : Int) == 0) = false := by simp; omega
                clear h1 h2 HC HD HX HY hk0
                iterate 24 (first | (refine cl_do rfl rfl rfl rfl (fun _ _ => ?_); go_wp2_with fail; try simp only [e1, e2, f1, f2]) | (refine cl_yes rfl rfl rfl rfl (by first | rfl | simp [okB, lenV, plainV, Act.eval]) (fun _ _ => ?_); go_wp2_with fail; try simp only [e1, e2, f1, f2]) | (refine cl_no rfl rfl rfl ?_; go_simp))
                refine cl_nil ?_
                go_wp2_with fail
                go_roundg (N - (k + 1))
                case measure => omega
                case rel => exact ⟨k + 1, rfl, by omega, by go_num, HB.out.drew, HV⟩
            · have b3 : ((c.toNat : Int) == 95) = false := by simpa using e
              have HE : Hid (nameB l = false) := upto_bad Hc.out (.inl (HY.out HN2.out (by omega)))
              clear HC HD HX HY
              by_cases hk0 : k = 0
              · subst hk0
                clear hJ1 hK1
                iterate 24 (first | (refine cl_do rfl rfl rfl rfl (fun _ _ => ?_); go_wp2_with fail; try simp only [e1, e2, f1, f2]) | (refine cl_yes rfl rfl rfl rfl (by first | rfl | simp [okB, lenV, plainV, Act.eval]) (fun _ _ => ?_); go_wp2_with fail; try simp only [e1, e2, f1, f2]) | (refine cl_no rfl rfl rfl ?_; go_simp))
                refine cl_nil ?_
                go_wp2_with fail
                go_ret
                exact ⟨by rw [HE.out]; rfl, HB.out.drew⟩
              · have hk1 : ((k : Int) == 0) = false := by simp; omega
                clear hJ1 hK1 hk0
                iterate 24 (first | (refine cl_do rfl rfl rfl rfl (fun _ _ => ?_); go_wp2_with fail; try simp only [e1, e2, f1, f2]) | (refine cl_yes rfl rfl rfl rfl (by first | rfl | simp [okB, lenV, plainV, Act.eval]) (fun _ _ => ?_); go_wp2_with fail; try simp only [e1, e2, f1, f2]) | (refine cl_no rfl rfl rfl ?_; go_simp))
                refine cl_nil ?_
                go_wp2_with fail
                go_ret
                exact ⟨by rw [HE.out]; rfl, HB.out.drew⟩
        · have b3 : ((c.toNat : Int) == 95) = false := by simp; omega
          have f1 := decide_eq_false b1
          have f2 : True := trivial
          have HE : Hid (nameB l = false) := upto_bad Hc.out (.inl (HY.out HN2.out (by omega)))
          clear HC HD HX HY
          by_cases hk0 : k = 0
          · subst hk0
            clear hJ1 hK1
            iterate 24 (first | (refine cl_do rfl rfl rfl rfl (fun _ _ => ?_); go_wp2_with fail; try simp only [e1, e2, f1, f2]) | (refine cl_yes rfl rfl rfl rfl (by first | rfl | simp [okB, lenV, plainV, Act.eval]) (fun _ _ => ?_); go_wp2_with fail; try simp only [e1, e2, f1, f2]) | (refine cl_no rfl rfl rfl ?_; go_simp))
            refine cl_nil ?_
            go_wp2_with fail
            go_ret
            exact ⟨by rw [HE.out]; rfl, HB.out.drew⟩
          · have hk1 : ((k : Int) == 0) = false := by simp; omega
            clear hJ1 hK1 hk0
            iterate 24 (first | (refine cl_do rfl rfl rfl rfl (fun _ _ => ?_); go_wp2_with fail; try simp only [e1, e2, f1, f2]) | (refine cl_yes rfl rfl rfl rfl (by first | rfl | simp [okB, lenV, plainV, Act.eval]) (fun _ _ => ?_); go_wp2_with fail; try simp only [e1, e2, f1, f2]) | (refine cl_no rfl rfl rfl ?_; go_simp))
            refine cl_nil ?_
            go_wp2_with fail
            go_ret
            exact ⟨by rw [HE.out]; rfl, HB.out.drew⟩
    · obtain rfl : k = N := by omega
      have HE : Hid (nameB l = (decide (0 < k) && decide (k ≤ 24))) := by
        show _ = _
        have := HU2.out
        rw [HN.out] at this ⊢
        exact upto_end this
      clear hJ1 hK1 hlt
      by_cases h0 : k = 0
      · have hs : u.toList = [] := by rw [Htl.out]; exact List.length_eq_zero_iff.1 (by rw [← HN.out]; exact h0)
        subst h0
        go_wp2_with fail
        go_ret
        exact ⟨by rw [HE.out]; rfl, HB.out⟩
      · have hs : ¬ u.toList = [] := fun e => h0 (by rw [HN.out, ← Htl.out, e]; rfl)
        go_wp2_with fail
        go_ret
        exact ⟨congrArg (fun b => Ending.returned (Value.bool b)) (show (!u.toList.isEmpty && decide ((k : Int) ≤ 24)) = nameB l by
          have e : u.toList.isEmpty = false := by simpa using hs
          rw [HE.out, e, decide_eq_true (p := 0 < k) (by omega), Bool.not_false, Bool.true_and, Bool.true_and, Bool.eq_iff_iff]
          simp
          omega), HB.out⟩
end Go.Proofs.YtoeknmkephnekaaGreatDoor
