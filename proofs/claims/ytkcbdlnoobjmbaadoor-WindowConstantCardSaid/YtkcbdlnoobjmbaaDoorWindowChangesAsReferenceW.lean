/-
  'WindowChangesAsReference': the walk.
-/
import Derived.Test.YtkcbdlnoobjmbaaDoorWnLaw
import Derived.Test.YtkcbdlnoobjmbaaDoorWnRChanges
import Derived.Test.YtkcbdlnoobjmbaaDoorWnFew
import Derived.Test.YtkcbdlnoobjmbaaDoorLxA
namespace Go.Cz.Wn
open Go.Cz.Ck
theorem chg_len (au : List ByteArray) (zs : List (List Shift)) : ∀ (ms : List Ms) (xs : List Int), (chg au zs ms xs).1.length ≤ xs.length + 3 * ms.length
  | [], xs => by simp [chg]
  | m :: r, xs => by
    simp only [chg, List.length_cons]
    split
    · have := chg_len au zs r xs; omega
    · split
      · have h1 := chg_len au zs r (beginsF (zs.getD (Lib.idxOfS au m.auth).toNat []) (daysF m) xs)
        have h2 := beginsF_len (zs.getD (Lib.idxOfS au m.auth).toNat []) (daysF m) xs
        have h3 : (daysF m).length ≤ 3 := by unfold daysF; split <;> simp
        omega
      · simp
theorem changes_len (ms : List Ms) (au : List ByteArray) (zs : List (List Shift)) : (changesF ms au zs).1.length ≤ 1 + 3 * ms.length := by
  unfold changesF
  split
  · simp
  split
  · simp
  split
  · have := chg_len au zs ms [0]; simpa using this
  · simp
end Go.Cz.Wn
namespace Go.Proofs.YtkcbdlnoobjmbaaDoor
open Go.RowKit Go.Cz Go.Cz.Ck Go.Cz.Wn Go.Cz.Lx
set_option linter.unusedSimpArgs false
set_option linter.unusedVariables false
attribute [local go_sem] bs_size bs_extract bs_append bs_toList
attribute [local irreducible] cList
/-- What a law of lists of measures, authorities and zones is handed. -/
structure Lists (w : World) (ma : Option Addr) (mn : Nat) (aa : Option Addr) (an ac : Nat) (za : Option Addr) (zn : Nat) (ms : List Ms) (au : List ByteArray) (zs : List Zn) : Prop where
  hm : IsMs w ma mn ms
  ha : IsStrs w aa an au
  hz : IsZones w za zn zs
  hac : an ≤ ac
  lm : mn ≤ 9223372036854775807
  la : an ≤ 9223372036854775807
  lz : zn ≤ 9223372036854775807
theorem Lists.below {w w' : World} {ma aa za : Option Addr} {mn an ac zn : Nat} {ms : List Ms} {au : List ByteArray} {zs : List Zn} (h : Lists w ma mn aa an ac za zn ms au zs) (hb : Below w.heap.size w w') : Lists w' ma mn aa an ac za zn ms au zs :=
  ⟨h.hm.below hb, h.ha.below hb, h.hz.below hb, h.hac, h.lm, h.la, h.lz⟩
theorem Lists.env {w : World} {ma aa za : Option Addr} {mn an ac zn : Nat} {ms : List Ms} {au : List ByteArray} {zs : List Zn} (h : Lists w ma mn aa an ac za zn ms au zs) (hf : ∀ a ∈ au, a.size ≤ 60) : ChEnv w ma mn aa an ac za zn ms au zs :=
  ⟨h.hm, h.ha, h.hz, h.hac, fun _ _ _ => idxAny, fun a ha => (by
    have := hf a ha
    have e : a.data.toList.length = a.size := by rw [Array.length_toList]; rfl
    omega)⟩
set_option maxRecDepth 10000 in
set_option maxHeartbeats 4000000 in
theorem WindowChangesAsReference_walk (w : World) (ma : Option Addr) (mn mc : Nat) (aa : Option Addr) (an ac : Nat) (za : Option Addr) (zn zc : Nat) (ms : List Ms) (au : List ByteArray) (zs : List Zn) (h : Lists w ma mn aa an ac za zn ms au zs) :
    Calls Tryd.prog 4 #[.slice ma mn mc, .slice aa an ac, .slice za zn zc] w fun e w' => e = .returned (.bool true) ∧ Below w.heap.size w w' := by
  have HE := Lib.hid h
  clear h
  go_enter Tryd.func4, Tryd.ntmps4
  go_wp2_with fail
  go_at_call 10
  refine (head_c w).mono ?_
  rintro e W2 ⟨rfl, hb⟩
  have HB := Lib.hid hb
  clear hb
  go_wp2_with fail
  go_at_call 15
  have HE2 := Lib.hid (HE.out.below HB.out)
  refine (Few_c W2 ma mn mc aa an ac za zn zc ms au zs HE2.out.hm HE2.out.ha HE2.out.hz HE2.out.lm HE2.out.la HE2.out.lz).mono ?_
  rintro e W3 ⟨rfl, hb⟩
  obtain rfl : W3 = W2 := hb
  cases hf : fewB ms au zs
  · go_wp2_with fail
    go_ret
    exact ⟨rfl, HB.out⟩
  have HF := Lib.hid (few_true.1 hf)
  clear hf
  have HC := Lib.hid (HE2.out.env HF.out.2.1)
  have HLen : Hid ((changesF ms au (zs.map (·.l))).1.length ≤ 1000000) := by
    have h1 := changes_len ms au (zs.map (·.l))
    have h2 := HF.out.2.2.2.1
    show _ ≤ _
    omega
  obtain ⟨r, hr⟩ : ∃ r, r = changesF ms au (zs.map (·.l)) := ⟨_, rfl⟩
  rw [← hr] at HLen
  go_wp2_with fail
  go_at_call 16
  refine (Changes_c W3 ma mn mc aa an ac za zn zc ms au zs HC.out).mono ?_
  rintro e W4 ⟨v, rfl, hv, hb⟩
  rw [← hr] at hv ⊢
  have HV := Lib.hid hv
  have HB4 := Lib.hid hb
  clear hv hb
  obtain ⟨r1, r2⟩ := r
  dsimp only at HV HLen ⊢
  go_wp2_with fail
  have HC4 := Lib.hid ((HE2.out.below HB4.out).env HF.out.2.1)
  go_at_call 17
  refine (rChanges_c W4 ma mn mc aa an ac za zn zc ms au zs HC4.out).mono ?_
  rintro e W5 ⟨v2, rfl, hv, hb⟩
  rw [← hr] at hv ⊢
  have HV2 := Lib.hid hv
  have HV1 := Lib.hid (HV.out.below hb)
  have HB5 := Lib.hid (HB.out.trans ((HB4.out.trans (hb.mono HB4.out.size)).mono HB.out.size))
  clear hv hb hr HV HC HC4 HB4 HE2 HF
  dsimp only at HV2 ⊢
  go_wp2_with fail
  go_at_call 18
  refine (Ints_c W5 v v2 r1 r1 HV1.out HV2.out HLen.out HLen.out).mono ?_
  rintro e W6 ⟨rfl, hb⟩
  have HB6 := Lib.hid (HB5.out.trans (hb.mono HB5.out.size))
  rw [show decide (r1 = r1) = true from decide_eq_true rfl]
  clear hb
  go_wp2_with fail
  go_ret
  exact ⟨rfl, HB6.out⟩
end Go.Proofs.YtkcbdlnoobjmbaaDoor
