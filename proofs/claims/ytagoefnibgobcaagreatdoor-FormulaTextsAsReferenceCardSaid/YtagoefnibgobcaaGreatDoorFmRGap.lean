/-
  The reference lexer's 'has', 'gap', 'Gaps'.
-/
import Derived.Test.YtagoefnibgobcaaGreatDoorFmGap
import Derived.Test.YtagoefnibgobcaaGreatDoorLxA
import Derived.Deep.LoopGhost
namespace Go.Proofs.YtagoefnibgobcaaGreatDoor
open Go.RowKit Go.Cz Go.Cz.Lx
set_option linter.unusedSimpArgs false
set_option linter.unusedVariables false
attribute [local go_sem] bs_size bs_extract bs_append bs_toList
attribute [local irreducible] cList
set_option maxHeartbeats 2000000 in
theorem rhas_c (l : List UInt8) (c : UInt8) (w : World) (hl : l.length ≤ 1000000) : Calls Tryz.prog 87 #[.string (bs l), .int .u8 (c.toNat : Int)] w fun e w' => e = .returned (.bool (l.contains c)) ∧ w' = w := by
  obtain ⟨u, hu⟩ : ∃ u, u = bs l := ⟨_, rfl⟩
  have hus : u.size = l.length := by rw [hu, bs_size]
  have hget : ∀ (i : Nat) (h : i < u.size) (h2 : i < l.length), u[i]'h = l[i]'h2 := by
    subst hu; intro i h h2; rfl
  have HU := Lib.hid hget
  rw [← hu]
  clear hget hu
  obtain ⟨N, hN⟩ : ∃ N, N = l.length := ⟨_, rfl⟩
  rw [← hN] at hus hl
  have HN := Lib.hid hN
  clear hN
  go_enter Tryz.func87, Tryz.ntmps87
  go_wp2_with fail
  go_loopg [5] N (fun gk i wr => ∃ k : Nat, gk = N - k ∧ k ≤ N ∧ i = .int .i64 (k : Int) ∧ wr = w ∧ Hid (c ∉ l.take k))
  case atStart => exact ⟨0, rfl, Nat.zero_le _, rfl, rfl, Lib.hid (by simp)⟩
  case round =>
    rename_i J1 K1 hJ1 hK1
    obtain ⟨k, rfl, hk, rfl, rfl, hv⟩ := hrel
    by_cases hlt : k < N
    · have kl : k < u.size := by omega
      have hkl : k < l.length := by have := HN.out; omega
      obtain ⟨d, hd⟩ : ∃ d, d = l[k] := ⟨_, rfl⟩
      have hcu : u[k] = d := by rw [HU.out k kl hkl, hd]
      have Hd : Hid (l[k]? = some d) := by show _ = _; rw [List.getElem?_eq_getElem hkl, hd]
      clear hd hkl
      by_cases he : d = c
      · have he' : ((d.toNat : Int) == (c.toNat : Int)) = true := by simp [he]
        have HE : Hid (l.contains c = true) := by
          show _ = _
          rw [List.contains_iff_mem, ← he]
          exact List.mem_of_getElem? Hd.out
        clear he
        go_wp2_with fail
        go_ret
        exact ⟨by rw [HE.out]; rfl, rfl⟩
      · have he' : ((d.toNat : Int) == (c.toNat : Int)) = false := by
          have : d.toNat ≠ c.toNat := fun h => he (UInt8.toNat_inj.1 h)
          simp; omega
        have HV : Hid (c ∉ l.take (k + 1)) := Lib.hid fun h => by
          rw [List.take_add_one, Hd.out] at h
          rcases List.mem_append.1 h with h | h
          · exact hv.out h
          · have : c = d := by simpa using h
            exact he this.symm
        clear he hv
        go_wp2_with fail
        go_roundg (N - (k + 1))
        case measure => omega
        case rel => exact ⟨k + 1, rfl, by omega, by go_num, rfl, HV⟩
    · have HE : Hid (l.contains c = false) := by
        show _ = _
        have h := hv.out
        rw [List.take_of_length_le (by have := HN.out; omega)] at h
        rw [← Bool.not_eq_true, List.contains_iff_mem]
        exact h
      clear hJ1 hK1 hv
      go_wp2_with fail
      go_ret
      exact ⟨by rw [HE.out]; rfl, rfl⟩
theorem blank_cls (c : UInt8) : [32, 9, 10].contains c = (cls c == 1) := all_bytes (p := fun c => [32, 9, 10].contains c = (cls c == 1)) (by decide +kernel) c
theorem hash_cls (c : UInt8) : ((c.toNat : Int) == 35) = (cls c == 2) := all_bytes (p := fun c => ((c.toNat : Int) == 35) = (cls c == 2)) (by decide +kernel) c
theorem feed_iff (c : UInt8) : ((c.toNat : Int) != 10) = !(c == 10) := all_bytes (p := fun c => ((c.toNat : Int) != 10) = !(c == 10)) (by decide +kernel) c
set_option maxHeartbeats 4000000 in
theorem rgap_c (l : List UInt8) (i0 : Nat) (w : World) (hl : l.length ≤ 1000000) (hi0 : i0 ≤ l.length) : Calls Tryz.prog 62 #[.string (bs l), .int .i64 (i0 : Int)] w fun e w' => e = .returned (.int .i64 (gapE l i0 : Int)) ∧ w' = w := by
  obtain ⟨u, hu⟩ : ∃ u, u = bs l := ⟨_, rfl⟩
  have hus : u.size = l.length := by rw [hu, bs_size]
  have hget : ∀ (i : Nat) (h : i < u.size) (h2 : i < l.length), u[i]'h = l[i]'h2 := by
    subst hu; intro i h h2; rfl
  have HU := Lib.hid hget
  rw [← hu]
  clear hget hu
  obtain ⟨N, hN⟩ : ∃ N, N = l.length := ⟨_, rfl⟩
  rw [← hN] at hus hl hi0
  have HN := Lib.hid hN
  clear hN
  have HG : Hid (gapE l i0 = i0 + gapL false (l.drop i0)) := rfl
  go_enter Tryz.func62, Tryz.ntmps62
  go_wp2_with fail
  go_loopg [1] (N - i0) (fun gk i wr => ∃ k : Nat, gk = N - k ∧ k ≤ N ∧ i = .int .i64 (k : Int) ∧ wr = w ∧ Hid (gapE l i0 = k + gapL false (l.drop k)))
  case atStart => exact ⟨i0, rfl, hi0, rfl, rfl, HG⟩
  case round =>
    rename_i J1 K1 hJ1 hK1
    obtain ⟨k, rfl, hk, rfl, rfl, hv⟩ := hrel
    clear HG
    by_cases hlt : k < N
    · have kl : k < u.size := by omega
      have hkl : k < l.length := by have := HN.out; omega
      obtain ⟨c, hc⟩ : ∃ c, c = l[k] := ⟨_, rfl⟩
      have hcu : u[k] = c := by rw [HU.out k kl hkl, hc]
      have HD : Hid (l.drop k = c :: l.drop (k + 1)) := by show _ = _; rw [hc, ← List.drop_eq_getElem_cons hkl]
      clear hc hkl
      go_wp2_with fail
      go_at_call 87
      refine (rhas_c [32, 9, 10] c wr (by simp)).mono ?_
      rintro e w1 ⟨rfl, hw⟩
      subst hw
      rw [blank_cls]
      by_cases h1 : cls c = 1
      · have h1' : (cls c == 1) = true := by simpa using h1
        have HV : Hid (gapE l i0 = k + 1 + gapL false (l.drop (k + 1))) := by
          show _ = _
          rw [hv.out, HD.out]
          simp only [gapL]
          rw [if_pos h1]
          omega
        rw [h1']
        clear h1 h1' hv
        go_wp2_with fail
        go_roundg (N - (k + 1))
        case measure => omega
        case rel => exact ⟨k + 1, rfl, by omega, by go_num, rfl, HV⟩
      have h1' : (cls c == 1) = false := by simpa using h1
      rw [h1']
      have hh := hash_cls c
      by_cases h2 : cls c = 2
      · have h2' : (cls c == 2) = true := by simpa using h2
        rw [h2'] at hh
        have HC : Hid (gapE l i0 = k + gapL true (l.drop k)) := by
          show _ = _
          rw [hv.out, HD.out]
          have hc35 := cls_hash h2
          subst hc35
          simp only [gapL]
          rw [if_neg (by decide), if_pos (by decide), if_neg (by decide)]
        have H35 : Hid (l[k]? = some 35) := by
          have h := congrArg (fun x => x[0]?) HD.out
          simp only [List.getElem?_drop, Nat.add_zero] at h
          show _ = _
          rw [h, cls_hash h2]; rfl
        clear h1 h1' h2 h2' hv
        go_wp2_with fail
        clear hh hcu kl HD
        have HC2 : Hid (gapE l i0 = k + gapL true (l.drop k) ∧ (k = k → l[k]? = some 35)) := ⟨HC.out, fun _ => H35.out⟩
        clear HC H35
        go_loopg [1] (N - k) (fun gk i wq => ∃ j : Nat, gk = N - j ∧ j ≤ N ∧ k ≤ j ∧ i = .int .i64 (j : Int) ∧ wq = w1 ∧ Hid (gapE l i0 = j + gapL true (l.drop j) ∧ (j = k → l[j]? = some 35)))
        case atStart => exact ⟨k, rfl, hk, Nat.le_refl _, rfl, rfl, HC2⟩
        case round =>
          rename_i J2 K2 hJ2 hK2
          obtain ⟨j, rfl, hj, hkj, rfl, rfl, hv⟩ := hrel
          clear HC2
          by_cases hjt : j < N
          · have kl : j < u.size := by omega
            have hkl : j < l.length := by have := HN.out; omega
            obtain ⟨c, hc⟩ : ∃ c, c = l[j] := ⟨_, rfl⟩
            have hcu : u[j] = c := by rw [HU.out j kl hkl, hc]
            have HD : Hid (l.drop j = c :: l.drop (j + 1) ∧ l[j]? = some c) := ⟨by rw [hc, ← List.drop_eq_getElem_cons hkl], by rw [List.getElem?_eq_getElem hkl, hc]⟩
            clear hc hkl
            have hf := feed_iff c
            by_cases h10 : c = 10
            · have hf' : ((c.toNat : Int) != 10) = false := by rw [hf, h10]; rfl
              have hkj2 : k < j := by
                rcases Nat.lt_or_ge k j with h | h
                · exact h
                · have h1 := hv.out.2 (by omega)
                  rw [HD.out.2, h10] at h1
                  cases h1
              have HV : Hid (gapE l i0 = j + gapL false (l.drop j)) := by
                show _ = _
                rw [hv.out.1, HD.out.1, h10]
                simp [gapL, show cls 10 = 1 by decide]
              clear hf h10 hv HD hJ2 hK2
              go_wp2_with fail
              go_roundg (N - j)
              case measure => omega
              case rel => exact ⟨j, rfl, hj, rfl, rfl, HV⟩
            · have hf' : ((c.toNat : Int) != 10) = true := by rw [hf]; simpa using h10
              have HV : Hid (gapE l i0 = j + 1 + gapL true (l.drop (j + 1)) ∧ (j + 1 = k → l[j + 1]? = some 35)) := ⟨by
                rw [hv.out.1, HD.out.1]
                simp only [gapL]
                rw [if_neg h10]
                omega, fun h => by omega⟩
              clear hf h10 hv HD
              go_wp2_with fail
              go_roundg (N - (j + 1))
              case measure => omega
              case rel => exact ⟨j + 1, rfl, by omega, by omega, by go_num, rfl, HV⟩
          · have HV : Hid (gapE l i0 = j + gapL false (l.drop j)) := by
              show _ = _
              rw [hv.out.1, List.drop_of_length_le (by have := HN.out; omega)]
              rfl
            clear hv hJ2 hK2
            go_wp2_with fail
            go_roundg (N - j)
            case measure => omega
            case rel => exact ⟨j, rfl, hj, rfl, rfl, HV⟩
      · have h2' : (cls c == 2) = false := by simpa using h2
        rw [h2'] at hh
        have HE : Hid (gapE l i0 = k) := by
          show _ = _
          rw [hv.out, HD.out]
          simp only [gapL]
          rw [if_neg h1, if_neg h2]
          rfl
        clear h1 h1' h2 h2' hv hJ1 hK1
        go_wp2_with fail
        go_ret
        exact ⟨by rw [HE.out]; rfl, rfl⟩
    · have HE : Hid (gapE l i0 = k) := by
        show _ = _
        rw [hv.out, List.drop_of_length_le (by have := HN.out; omega)]
        rfl
      clear hJ1 hK1 hv
      go_wp2_with fail
      go_ret
      exact ⟨by rw [HE.out]; rfl, rfl⟩
/-- A text of gaps. -/
def gapsB (l : List UInt8) : Bool := decide (gapE l 0 = l.length)
theorem gapsB_iff {l : List UInt8} : gapsB l = true ↔ gapL false l = l.length := by
  unfold gapsB gapE
  rw [decide_eq_true_eq, List.drop_zero, Nat.zero_add]
theorem Gaps_c (l : List UInt8) (w : World) (hl : l.length ≤ 1000000) : Calls Tryz.prog 34 #[.string (bs l)] w fun e w' => e = .returned (.bool (gapsB l)) ∧ w' = w := by
  have HL := Lib.hid hl
  go_enter Tryz.func34, Tryz.ntmps34
  go_wp2_with fail
  go_at_call 62
  refine (rgap_c l 0 w HL.out (Nat.zero_le _)).mono ?_
  rintro e w1 ⟨rfl, hw⟩
  subst hw
  obtain ⟨q, hq⟩ : ∃ q, q = gapE l 0 := ⟨_, rfl⟩
  have HQ : Hid (gapsB l = decide (q = l.length)) := by show _ = _; rw [hq]; rfl
  rw [← hq]
  clear hq
  go_wp2_with fail
  go_ret
  exact ⟨congrArg (fun b => Ending.returned (Value.bool b)) (show ((q : Int) == (l.length : Int)) = gapsB l by rw [HQ.out, Bool.eq_iff_iff]; simp; omega), rfl⟩
end Go.Proofs.YtagoefnibgobcaaGreatDoor
