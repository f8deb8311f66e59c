/-
  The reference's 'Few'.
-/
import Derived.Test.YtkcbdlnoobjmbaaDoorWnChModel
import Derived.Deep.LoopGhost
namespace Go.Proofs.YtkcbdlnoobjmbaaDoor
open Go.RowKit Go.Cz Go.Cz.Ck Go.Cz.Wn
set_option linter.unusedSimpArgs false
set_option linter.unusedVariables false
attribute [local go_sem] bs_size bs_extract bs_append bs_toList
attribute [local irreducible] cList
def fewB (ms : List Ms) (au : List ByteArray) (zs : List Zn) : Bool :=
  ms.all (fun m => decide (m.auth.size ≤ 60)) && (au.all (fun a => decide (a.size ≤ 60)) && (zs.all (fun z => decide (z.n ≤ 25)) && (decide (ms.length ≤ 30) && (decide (au.length ≤ 8) && decide (zs.length ≤ 8)))))
theorem few_true {ms : List Ms} {au : List ByteArray} {zs : List Zn} : fewB ms au zs = true ↔ (∀ m ∈ ms, m.auth.size ≤ 60) ∧ (∀ a ∈ au, a.size ≤ 60) ∧ (∀ z ∈ zs, z.n ≤ 25) ∧ ms.length ≤ 30 ∧ au.length ≤ 8 ∧ zs.length ≤ 8 := by
  simp [fewB]
theorem few_false {ms : List Ms} {au : List ByteArray} {zs : List Zn} (h : ¬ ((∀ m ∈ ms, m.auth.size ≤ 60) ∧ (∀ a ∈ au, a.size ≤ 60) ∧ (∀ z ∈ zs, z.n ≤ 25) ∧ ms.length ≤ 30 ∧ au.length ≤ 8 ∧ zs.length ≤ 8)) : fewB ms au zs = false := by
  cases hb : fewB ms au zs with
  | false => rfl
  | true => exact absurd (few_true.1 hb) h
theorem all_of_get {α : Type} {xs : List α} {p : α → Prop} {n : Nat} (hn : xs.length = n) (h : ∀ (j : Nat) (x : α), j < n → xs[j]? = some x → p x) : ∀ x ∈ xs, p x := by
  intro x hx
  obtain ⟨j, hj, rfl⟩ := List.mem_iff_getElem.1 hx
  exact h j _ (by omega) (List.getElem?_eq_getElem hj)
theorem get_of {α : Type} {xs : List α} {n k : Nat} (hn : xs.length = n) (hk : k < n) : ∃ x, xs[k]? = some x := ⟨_, List.getElem?_eq_getElem (by omega)⟩
set_option maxRecDepth 10000 in
set_option maxHeartbeats 4000000 in
theorem Few_c (w : World) (ma : Option Addr) (mn mc : Nat) (aa : Option Addr) (an ac : Nat) (za : Option Addr) (zn zc : Nat) (ms : List Ms) (au : List ByteArray) (zs : List Zn) (hm : IsMs w ma mn ms) (ha : IsStrs w aa an au) (hz : IsZones w za zn zs)
    (lm : mn ≤ 9223372036854775807) (la : an ≤ 9223372036854775807) (lz : zn ≤ 9223372036854775807) :
    Calls Tryd.prog 15 #[.slice ma mn mc, .slice aa an ac, .slice za zn zc] w fun e w' => e = .returned (.bool (fewB ms au zs)) ∧ w' = w := by
  have HM := Lib.hid hm
  have HA := Lib.hid ha
  have HZ := Lib.hid hz
  clear hm ha hz
  go_enter Tryd.func15, Tryd.ntmps15
  go_wp2_with fail
  go_loopg [7] mn (fun gk i wr => ∃ k : Nat, gk = mn - k ∧ k ≤ mn ∧ i = .int .i64 (k : Int) ∧ wr = w ∧ Hid (∀ (j : Nat) (m : Ms), j < k → ms[j]? = some m → m.auth.size ≤ 60))
  case atStart => exact ⟨0, rfl, Nat.zero_le _, rfl, rfl, Lib.hid (fun j m hj => by omega)⟩
  case round =>
    rename_i J1 K1 hJ1 hK1
    obtain ⟨k, rfl, hk, rfl, rfl, hv⟩ := hrel
    by_cases hlt : k < mn
    · obtain ⟨m, hmk⟩ := get_of HM.out.1 hlt
      rcases HM.out.2 with h0 | ⟨g, off, rfl, hg, hc⟩
      · omega
      have c1 : wr.cell? ⟨g, off + k * 12 + 1, none⟩ = some (.string m.auth) := hc k m hmk 1 _ rfl
      obtain ⟨u, hu⟩ : ∃ u, u = m.auth := ⟨_, rfl⟩
      rw [← hu] at c1
      have HK := Lib.hid (And.intro hmk hu)
      clear hc hmk hu
      by_cases h60 : 60 < u.size
      · have He : Hid (fewB ms au zs = false) := few_false fun h => by have := h.1 m (List.mem_of_getElem? HK.out.1); rw [← HK.out.2] at this; omega
        clear hv
        go_wp2_with fail
        go_ret
        exact ⟨by rw [He.out]; rfl, rfl⟩
      · have HV : Hid (∀ (j : Nat) (m : Ms), j < k + 1 → ms[j]? = some m → m.auth.size ≤ 60) := Lib.hid fun j m' hj hm' => by
          by_cases hjk : j = k
          · subst hjk; rw [HK.out.1] at hm'; cases hm'; rw [← HK.out.2]; omega
          · exact hv.out j m' (by omega) hm'
        clear hv
        go_wp2_with fail
        go_roundg (mn - (k + 1))
        case measure => omega
        case rel => exact ⟨k + 1, rfl, by omega, by go_num, rfl, HV⟩
    · have H1 : Hid (∀ m ∈ ms, m.auth.size ≤ 60) := all_of_get HM.out.1 fun j m hj hm => hv.out j m (by omega) hm
      clear hJ1 hK1 hv
      go_wp2_with fail
      go_loopg [8] an (fun gk i wr' => ∃ k : Nat, gk = an - k ∧ k ≤ an ∧ i = .int .i64 (k : Int) ∧ wr' = wr ∧ Hid (∀ (j : Nat) (a : ByteArray), j < k → au[j]? = some a → a.size ≤ 60))
      case atStart => exact ⟨0, rfl, Nat.zero_le _, rfl, rfl, Lib.hid (fun j m hj => by omega)⟩
      case round =>
        rename_i J1 K1 hJ1 hK1
        obtain ⟨k', rfl, hk', rfl, rfl, hv⟩ := hrel
        by_cases hlt' : k' < an
        · obtain ⟨u, hak⟩ := get_of HA.out.1 hlt'
          rcases HA.out.2 with h0 | ⟨g, off, rfl, hg, hc⟩
          · omega
          have c1 := hc k' (by have := HA.out.1; omega)
          have hu : au.getD k' ByteArray.empty = u := by rw [List.getD_eq_getElem?_getD, hak]; rfl
          rw [hu] at c1
          have HK := Lib.hid hak
          clear hc hak hu
          by_cases h60 : 60 < u.size
          · have He : Hid (fewB ms au zs = false) := few_false fun h => by have := h.2.1 u (List.mem_of_getElem? HK.out); omega
            clear hv
            go_wp2_with fail
            go_ret
            exact ⟨by rw [He.out]; rfl, rfl⟩
          · have HV : Hid (∀ (j : Nat) (a : ByteArray), j < k' + 1 → au[j]? = some a → a.size ≤ 60) := Lib.hid fun j m' hj hm' => by
              by_cases hjk : j = k'
              · subst hjk; rw [HK.out] at hm'; cases hm'; omega
              · exact hv.out j m' (by omega) hm'
            clear hv
            go_wp2_with fail
            go_roundg (an - (k' + 1))
            case measure => omega
            case rel => exact ⟨k' + 1, rfl, by omega, by go_num, rfl, HV⟩
        · have H2 : Hid (∀ a ∈ au, a.size ≤ 60) := all_of_get HA.out.1 fun j m hj hm => hv.out j m (by omega) hm
          clear hJ1 hK1 hv
          go_wp2_with fail
          go_loopg [9] zn (fun gk i wr'' => ∃ k : Nat, gk = zn - k ∧ k ≤ zn ∧ i = .int .i64 (k : Int) ∧ wr'' = wr ∧ Hid (∀ (j : Nat) (z : Zn), j < k → zs[j]? = some z → z.n ≤ 25))
          case atStart => exact ⟨0, rfl, Nat.zero_le _, rfl, rfl, Lib.hid (fun j m hj => by omega)⟩
          case round =>
            rename_i J1 K1 hJ1 hK1
            obtain ⟨k'', rfl, hk'', rfl, rfl, hv⟩ := hrel
            by_cases hlt'' : k'' < zn
            · obtain ⟨z, hzk⟩ := get_of HZ.out.1 hlt''
              rcases HZ.out.2 with h0 | ⟨g, off, rfl, hg, hc⟩
              · omega
              obtain ⟨c1, hsh⟩ := hc k'' z hzk
              have hzl : z.n ≤ 9223372036854775807 := hsh.2.1
              have HK := Lib.hid hzk
              clear hc hzk hsh
              by_cases h60 : 25 < z.n
              · have He : Hid (fewB ms au zs = false) := few_false fun h => by have := h.2.2.1 z (List.mem_of_getElem? HK.out); omega
                clear hv
                go_wp2_with fail
                go_ret
                exact ⟨by rw [He.out]; rfl, rfl⟩
              · have HV : Hid (∀ (j : Nat) (a : Zn), j < k'' + 1 → zs[j]? = some a → a.n ≤ 25) := Lib.hid fun j m' hj hm' => by
                  by_cases hjk : j = k''
                  · subst hjk; rw [HK.out] at hm'; cases hm'; omega
                  · exact hv.out j m' (by omega) hm'
                clear hv
                go_wp2_with fail
                go_roundg (zn - (k'' + 1))
                case measure => omega
                case rel => exact ⟨k'' + 1, rfl, by omega, by go_num, rfl, HV⟩
            · have H3 : Hid (∀ a ∈ zs, a.n ≤ 25) := all_of_get HZ.out.1 fun j m hj hm => hv.out j m (by omega) hm
              clear hJ1 hK1 hv
              by_cases l1 : mn ≤ 30
              · by_cases l2 : an ≤ 8
                · by_cases l3 : zn ≤ 8
                  · have He : Hid (fewB ms au zs = true) := few_true.2 ⟨H1.out, H2.out, H3.out, by have := HM.out.1; omega, by have := HA.out.1; omega, by have := HZ.out.1; omega⟩
                    have q3 : decide ((zn : Int) ≤ 8) = true := decide_eq_true (by omega)
                    go_wp2_with fail
                    go_ret
                    exact ⟨by rw [He.out]; exact congrArg (fun b => Ending.returned (Value.bool b)) (by first | rfl | exact decide_eq_true (by omega)), rfl⟩
                  · have He : Hid (fewB ms au zs = false) := few_false fun h => by have := HZ.out.1; omega
                    go_wp2_with fail
                    go_ret
                    exact ⟨by rw [He.out]; exact congrArg (fun b => Ending.returned (Value.bool b)) (by first | rfl | exact decide_eq_false (by omega)), rfl⟩
                · have He : Hid (fewB ms au zs = false) := few_false fun h => by have := HA.out.1; omega
                  go_wp2_with fail
                  go_ret
                  exact ⟨by rw [He.out]; rfl, rfl⟩
              · have He : Hid (fewB ms au zs = false) := few_false fun h => by have := HM.out.1; omega
                go_wp2_with fail
                go_ret
                exact ⟨by rw [He.out]; rfl, rfl⟩
end Go.Proofs.YtkcbdlnoobjmbaaDoor
