/-
  strings.Repeat of zeros; the digest's Sum.
-/
import Derived.Test.YtjcjpekndeoonaaGreatDoorJnHex
namespace Go.Cz.Jn
def zs64 : Bytes := List.replicate 64 48
theorem IsHexB {n : Nat} {t : Bytes} (h : Go.Proofs.YtjcjpekndeoonaaGreatDoor.IsHex n t) : t.length ≤ 16 ∧ 0 < t.length ∧ List.replicate (16 - t.length) 48 ++ t = hexB 16 n := by
  obtain ⟨k, hk, hn, rfl⟩ := h
  rw [hexB_len]
  refine ⟨by omega, by omega, ?_⟩
  rw [show 16 = k + 1 + (16 - (k + 1)) by omega, hexB_pad _ _ _ hn]
  congr 2
  omega
end Go.Cz.Jn
namespace Go.Proofs.YtjcjpekndeoonaaGreatDoor
open Go.RowKit Go.Cz Go.Cz.Jn
set_option linter.unusedSimpArgs false
set_option linter.unusedVariables false
attribute [local go_sem] bs_size bs_extract bs_append bs_toList
attribute [local irreducible] cList cPlan
theorem Mul1_c (n : Nat) (hn : n ≤ 64) (w : World) : Calls Tryz.prog 95 #[.int .u64 1, .int .u64 (n : Int)] w fun e w' => e = .returned (.tuple #[.int .u64 0, .int .u64 (n : Int)]) ∧ w' = w := by
  have h := Tryz.bits_Mul 1 n (by decide) (by omega) w
  rw [show 1 * n / 18446744073709551616 = 0 by omega, show 1 * n % 18446744073709551616 = n by omega] at h
  exact h
set_option maxRecDepth 10000 in
theorem Repeat0_0 (w : World) : Calls Tryz.prog 75 #[.string ⟨#[48]⟩, .int .i64 0] w fun e w' => e = .returned (.string (bs [])) ∧ w' = w := by
  go_enter Tryz.func75, Tryz.ntmps75
  go_wp2_with fail
  go_ret
  exact ⟨rfl, rfl⟩
set_option maxRecDepth 10000 in
theorem Repeat0_1 (w : World) : Calls Tryz.prog 75 #[.string ⟨#[48]⟩, .int .i64 1] w fun e w' => e = .returned (.string (bs [48])) ∧ w' = w := by
  go_enter Tryz.func75, Tryz.ntmps75
  go_wp2_with fail
  go_ret
  exact ⟨rfl, rfl⟩
theorem pre_c (s p : ByteArray) (b : Bool) (h : Lib.hasPrefix s.data.toList p.data.toList = b) (w : World) : Calls Tryz.prog 96 #[.string s, .string p] w fun e w' => e = .returned (.bool b) ∧ w' = w := by
  have h1 := Tryz.strings_HasPrefix s p w
  rw [h] at h1
  exact h1
set_option maxRecDepth 10000 in
set_option maxHeartbeats 4000000 in
theorem Repeat0_n (n : Nat) (h2 : 2 ≤ n) (hn : n ≤ 64) (w : World) : Calls Tryz.prog 75 #[.string ⟨#[48]⟩, .int .i64 (n : Int)] w fun e w' => e = .returned (.string (bs (List.replicate n 48))) ∧ w' = w := by
  have HM := Lib.hid fun w => Mul1_c n hn w
  have h0 : ((n : Int) == 0) = false := by simp; omega
  have h1 : ((n : Int) == 1) = false := by simp; omega
  have hb : ((ByteArray.mk #[48])[0]'(by decide)).toNat = 48 := by decide
  go_enter Tryz.func75, Tryz.ntmps75
  go_wp2_with fail
  go_at_call 95
  refine (HM.out _).mono ?_
  rintro e w1 ⟨rfl, rfl⟩
  clear HM
  go_wp2_with fail
  go_at_call 96
  refine (pre_c _ _ false (by decide +kernel) _).mono ?_
  rintro e w1 ⟨rfl, rfl⟩
  go_wp2_with fail
  go_at_call 96
  refine (pre_c _ _ false (by decide +kernel) _).mono ?_
  rintro e w1 ⟨rfl, rfl⟩
  go_wp2_with fail
  go_at_call 96
  refine (pre_c _ _ true (by decide +kernel) _).mono ?_
  rintro e w1 ⟨rfl, rfl⟩
  go_wp2_with fail
  go_ret
  refine ⟨?_, rfl⟩
  show Ending.returned (.string ((bs (List.replicate 64 48)).extract 0 n)) = _
  rw [bs_extract, List.drop_zero, List.take_replicate, Nat.sub_zero, Nat.min_eq_left hn]
/-- strings.Repeat("0", n). -/
theorem Repeat0_c (n : Nat) (hn : n ≤ 64) (w : World) : Calls Tryz.prog 75 #[.string ⟨#[48]⟩, .int .i64 (n : Int)] w fun e w' => e = .returned (.string (bs (List.replicate n 48))) ∧ w' = w := by
  match n, hn with
  | 0, _ => exact Repeat0_0 w
  | 1, _ => exact Repeat0_1 w
  | k + 2, hn => exact Repeat0_n (k + 2) (by omega) hn w
set_option maxRecDepth 10000 in
set_option maxHeartbeats 4000000 in
theorem Sum_c (t : Bytes) (hl : t.length ≤ 1000000) (w : World) (hs : Std w) : Calls Tryz.prog 91 #[.string (bs t)] w fun e w' => e = .returned (.string (bs (sumB t))) ∧ Below w.heap.size w w' := by
  obtain ⟨g, hg⟩ : ∃ g, g = w.heap.size := ⟨_, rfl⟩
  obtain ⟨s0, hs0⟩ : ∃ s0, s0 = 2611923443488327891 ^^^ t.length := ⟨_, rfl⟩
  have l0 : s0 < M64 := by rw [hs0]; exact xor_lt (by decide) (by simp only [M64]; omega)
  have e0 : bits .xor .u64 2611923443488327891 (t.length : Int) = (s0 : Int) := by rw [hs0]; exact u64_xor_nat 2611923443488327891 t.length (by decide) (by omega)
  have HO : Hid (Owns w (w.alloc (.cells #[.int .u64 (s0 : Int)] 129)) [stP g s0]) := by rw [hg]; exact (Owns.start w).box _
  have HV : Hid (sumGo (t.length / 8 + 1) s0 t = sumN t) := by show _ = _; rw [hs0]; rfl
  have HS := Lib.hid hs
  have HL := Lib.hid l0
  clear hs hs0 l0
  go_enter Tryz.func91, Tryz.ntmps91
  go_wp2_with fail
  rw [← hg]
  clear hg
  go_at_call 106
  refine (blocks_c t HO.out hl HL.out).mono ?_
  rintro e w1 ⟨rfl, ho⟩
  rw [HV.out] at ho
  replace HO := Lib.hid ho
  clear ho HV HL e0
  have bk := HO.out.blk.1
  have hg1 := lt_of_block bk
  have b0 : w1.cell? ⟨g, 0, none⟩ = some (.int .u64 (sumN t : Int)) := by rw [cell_of_heap bk]; rfl
  have HU : Hid (Std w1) := HS.out.below HO.out.base
  clear bk
  go_wp2_with fail
  go_at_call 108
  refine (FormatUint_c (sumN t) (sumGo_lt _ _ _ (xor_lt (by decide) (by simp only [M64]; omega))) HO.out.pop HU.out).mono ?_
  rintro e w2 ⟨⟨x, hx, rfl⟩, ho⟩
  replace HO := Lib.hid ho
  obtain ⟨hx1, hx2, hx3⟩ := IsHexB hx
  have HX : Hid (List.replicate (16 - x.length) 48 ++ x = sumB t) := hx3
  clear ho HU HS b0 hg1 hx hx3
  have e1 : (16 : Int) - (x.length : Int) = ((16 - x.length : Nat) : Int) := by omega
  go_wp2_with fail
  go_at_call 75
  refine (Repeat0_c _ (by omega) _).mono ?_
  rintro e w3 ⟨rfl, rfl⟩
  clear e1
  go_wp2_with fail
  go_ret
  refine ⟨?_, HO.out.base⟩
  show Ending.returned (.string (bs (List.replicate (16 - x.length) 48 ++ x))) = _
  rw [HX.out]
end Go.Proofs.YtjcjpekndeoonaaGreatDoor
