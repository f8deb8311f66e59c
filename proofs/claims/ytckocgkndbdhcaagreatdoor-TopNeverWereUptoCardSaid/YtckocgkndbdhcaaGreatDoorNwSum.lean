/-
  The digest of the empty text, and that it is one.
-/
import Derived.Test.YtckocgkndbdhcaaGreatDoorNwHex
import Derived.Test.YtckocgkndbdhcaaGreatDoorNwTrim
import Derived.Test.YtckocgkndbdhcaaGreatDoorNwTake
namespace Go.Cz.Jn
def sum0 : Bytes := [99, 98, 48, 100, 51, 57, 52, 53, 49, 56, 101, 54, 56, 49, 49, 54]
theorem sumGo0 : sumGo (([] : Bytes).length / 8 + 1) 2611923443488327891 [] = 14631413733329895702 := by decide +kernel
theorem hex0 {t : Bytes} (h : Go.Proofs.YtckocgkndbdhcaaGreatDoor.IsHex 14631413733329895702 t) : t = sum0 := by
  obtain ⟨k, hk, hn, rfl⟩ := h
  have h1 : k = 15 := by
    rcases Nat.lt_or_ge k 15 with h | h
    · exfalso
      have h2 : (16 : Nat) ^ (k + 1) ≤ 16 ^ 15 := Nat.pow_le_pow_right (by decide) (by omega)
      have h3 : (16 : Nat) ^ 15 = 1152921504606846976 := by decide +kernel
      omega
    · omega
  subst h1
  decide +kernel
end Go.Cz.Jn
namespace Go.Proofs.YtckocgkndbdhcaaGreatDoor
open Go.RowKit Go.Cz Go.Cz.Jn
set_option linter.unusedSimpArgs false
set_option linter.unusedVariables false
attribute [local go_sem] bs_size bs_extract bs_append bs_toList
attribute [local irreducible] cList cPlan
set_option maxRecDepth 10000 in
theorem Repeat0_0 (w : World) : Calls Tryz.prog 24 #[.string ⟨#[48]⟩, .int .i64 0] w fun e w' => e = .returned (.string (bs [])) ∧ w' = w := by
  go_enter Tryz.func24, Tryz.ntmps24
  go_wp2_with fail
  go_ret
  exact ⟨rfl, rfl⟩
set_option maxRecDepth 10000 in
set_option maxHeartbeats 4000000 in
theorem SumT_c (t : Bytes) (ht : Hid (t = [])) (w : World) (hs : Tz w) : Calls Tryz.prog 13 #[.string (bs t)] w fun e w' => e = .returned (.string (bs sum0)) ∧ Below w.heap.size w w' := by
  obtain ⟨g, hg⟩ : ∃ g, g = w.heap.size := ⟨_, rfl⟩
  obtain ⟨s0, hs0⟩ : ∃ s0, s0 = 2611923443488327891 ^^^ t.length := ⟨_, rfl⟩
  have hl : t.length ≤ 1000000 := by rw [ht.out]; simp
  have l0 : s0 < M64 := by rw [hs0]; exact xor_lt (by decide) (by simp only [M64]; omega)
  have e0 : bits .xor .u64 2611923443488327891 (t.length : Int) = (s0 : Int) := by rw [hs0]; exact u64_xor_nat 2611923443488327891 t.length (by decide) (by omega)
  have HO : Hid (Owns w (w.alloc (.cells #[.int .u64 (s0 : Int)] 61)) [stP g s0]) := by rw [hg]; exact (Owns.start w).box _
  obtain ⟨n1, hn1⟩ : ∃ n : Nat, n = sumGo (t.length / 8 + 1) s0 t := ⟨_, rfl⟩
  have HV : Hid (sumGo (t.length / 8 + 1) s0 t = n1) := hn1.symm
  have HN1 : Hid (n1 = 14631413733329895702) := by
    show _ = _
    rw [hn1, hs0, ht.out]
    exact sumGo0
  have HM : Hid (n1 < M64) := by show _ < _; rw [HN1.out]; decide
  have HS := Lib.hid hs
  have HL := Lib.hid l0
  clear hs hs0 l0 hn1
  go_enter Tryz.func13, Tryz.ntmps13
  go_wp2_with fail
  rw [← hg]
  clear hg
  go_at_call 21
  refine (blocks_c t HO.out hl HL.out).mono ?_
  rintro e w1 ⟨rfl, ho⟩
  rw [HV.out] at ho
  replace HO := Lib.hid ho
  clear ho HV HL e0
  have bk := HO.out.blk.1
  have hg1 := lt_of_block bk
  have b0 : w1.cell? ⟨g, 0, none⟩ = some (.int .u64 (n1 : Int)) := by rw [cell_of_heap bk]; rfl
  have HU : Hid (Tz w1) := HS.out.below HO.out.base
  clear bk
  go_wp2_with fail
  go_at_call 23
  refine (FormatUint_c n1 HM.out HO.out.pop HU.out).mono ?_
  rintro e w2 ⟨⟨x, hx, rfl⟩, ho⟩
  have hx0 : x = sum0 := hex0 (by rw [← HN1.out]; exact hx)
  have HX := Lib.hid hx0
  have hx1 : x.length = 16 := by rw [hx0]; rfl
  replace HO := Lib.hid ho
  have e1 : (16 : Int) - (x.length : Int) = 0 := by omega
  have hx2 : x.length ≤ 16 := by omega
  clear ho HU HS b0 hg1 hx hx0 hx1
  go_wp2_with fail
  go_at_call 24
  refine (Repeat0_0 _).mono ?_
  rintro e w3 ⟨rfl, rfl⟩
  clear e1
  go_wp2_with fail
  go_ret
  refine ⟨?_, HO.out.base⟩
  show Ending.returned (.string (bs ([] ++ x))) = _
  rw [HX.out]
  rfl
theorem Sum0_c (w : World) (hs : Tz w) : Calls Tryz.prog 13 #[.string ⟨#[]⟩] w fun e w' => e = .returned (.string (bs sum0)) ∧ Below w.heap.size w w' := SumT_c [] (Lib.hid rfl) w hs
set_option maxRecDepth 10000 in
set_option maxHeartbeats 4000000 in
theorem Is0_c (w : World) : Calls Tryz.prog 12 #[.string (bs sum0)] w fun e w' => e = .returned (.bool true) ∧ Below w.heap.size w w' := by
  go_enter Tryz.func12, Tryz.ntmps12
  go_wp2_with fail
  go_at_call 20
  refine (Tryz.strings_Trim _ _ _ (by decide +kernel) (by decide +kernel) (Go.Proofs.ascii_of_all (by decide +kernel))).mono ?_
  rintro e w1 ⟨rfl, hb⟩
  rw [show Lib.trimS (bs sum0).data.toList (ByteArray.mk #[48, 49, 50, 51, 52, 53, 54, 55, 56, 57, 97, 98, 99, 100, 101, 102]).data.toList = [] by decide +kernel]
  have HB := Lib.hid hb
  clear hb
  go_wp2_with fail
  go_ret
  exact ⟨rfl, HB.out⟩
end Go.Proofs.YtckocgkndbdhcaaGreatDoor
