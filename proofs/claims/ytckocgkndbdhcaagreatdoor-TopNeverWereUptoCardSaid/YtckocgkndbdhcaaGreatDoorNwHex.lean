/-
  strconv.FormatUint at base sixteen.
-/
import Derived.Test.YtckocgkndbdhcaaGreatDoorNwHash
import Derived.Test.YtckocgkndbdhcaaGreatDoorNwScript
import Derived.Test.YtckocgkndbdhcaaGreatDoorShelf
import Derived.Lib.TrailingZeros
import Derived.Deep.LoopGhost
import Derived.Laws.BitsAllLaws
import Derived.Laws.Bits64
namespace Go.Cz.Jn
def hexT : Bytes := [48, 49, 50, 51, 52, 53, 54, 55, 56, 57, 97, 98, 99, 100, 101, 102, 103, 104, 105, 106, 107, 108, 109, 110, 111, 112, 113, 114, 115, 116, 117, 118, 119, 120, 121, 122]
theorem hexT_at (i : Nat) (h : i < 16) : hexT[i]? = some (hexD i) := by
  have : ∀ i : Fin 16, hexT[i.1]? = some (hexD i.1) := by decide
  exact this ⟨i, h⟩
theorem hexB_front : ∀ (k n : Nat), hexB (k + 1) n = hexD (n / 16 ^ k % 16) :: hexB k n
  | 0, n => by simp [hexB]
  | k + 1, n => by
    have h := hexB_front k (n / 16)
    rw [hexB, h, List.cons_append, Nat.div_div_eq_div_mul, Nat.pow_succ, Nat.mul_comm 16]
    rfl
theorem hexB_pad : ∀ (j k n : Nat), n < 16 ^ k → hexB (k + j) n = List.replicate j 48 ++ hexB k n
  | 0, k, n, _ => rfl
  | j + 1, k, n, h => by
    have h2 : (16 : Nat) ^ k ≤ 16 ^ (k + j) := Nat.pow_le_pow_right (by decide) (by omega)
    rw [← Nat.add_assoc, hexB_front, hexB_pad j k n h, Nat.div_eq_of_lt (by omega)]
    rfl
/-- The numeral without zeros in front. -/
def hexL (n : Nat) : Nat → Bytes
  | 0 => hexB 1 n
  | f + 1 => if n < 16 then hexB 1 n else hexL (n / 16) f ++ [hexD (n % 16)]
theorem set_mid {α : Type _} (l r : List α) (x y : α) : (l ++ x :: r).set l.length y = l ++ y :: r := by
  rw [List.set_append_right _ _ (Nat.le_refl _), Nat.sub_self]
  rfl
theorem set_zeros (m : Nat) (c : UInt8) (l : Bytes) : ((bcells (List.replicate (m + 1) 0 ++ l)).toArray.setIfInBounds m (.int .u8 (c.toNat : Int))) = (bcells (List.replicate m 0 ++ c :: l)).toArray := by
  rw [List.setIfInBounds_toArray]
  congr 1
  unfold bcells
  rw [List.replicate_succ', List.append_assoc, List.singleton_append, List.map_append, List.map_append, List.map_cons, List.map_cons]
  have h := set_mid ((List.replicate m (0 : UInt8)).map fun b => Value.int .u8 b.toNat) (l.map fun b => Value.int .u8 b.toNat) (.int .u8 ((0 : UInt8).toNat : Int)) (.int .u8 (c.toNat : Int))
  rw [List.length_map, List.length_replicate] at h
  exact h
end Go.Cz.Jn
namespace Go.Proofs.YtckocgkndbdhcaaGreatDoor
open Go.RowKit Go.Cz Go.Cz.Jn
set_option linter.unusedSimpArgs false
set_option linter.unusedVariables false
attribute [local go_sem] bs_size bs_extract bs_append bs_toList
attribute [local irreducible] cList cPlan
section
variable {P : Program}
theorem lit_at {s : ByteArray} {i : Nat} (h : i < s.size) (c : UInt8) (hc : s.data.toList[i]? = some c) : s[i] = c := by
  have h2 := (List.getElem?_eq_some_iff.1 hc).2
  rw [Array.getElem_toList] at h2
  exact h2
end
/-- The table's sixteenth cell. -/
def Tz (w : World) : Prop := w.cell? ⟨5, 15, none⟩ = some (.int .u8 4)
theorem Tz.below {w w' : World} (h : Tz w) (hb : Below w.heap.size w w') : Tz w' := old_cell hb h
theorem isPow_c (w : World) : Calls Tryz.prog 77 #[.int .i64 16] w fun e w' => e = .returned (.bool true) ∧ w' = w := by
  have e1 : bits .and .i64 16 15 = 0 := by decide +kernel
  go_enter Tryz.func77, Tryz.ntmps77
  go_wp2_with fail
  go_ret
  exact ⟨rfl, rfl⟩
theorem tz_c (w : World) (hs : Tz w) : Calls Tryz.prog 78 #[.int .u64 16] w fun e w' => e = .returned (.int .i64 4) ∧ w' = w := by
  have HC := Lib.hid (show w.cell? ⟨5, 15, none⟩ = some (.int .u8 4) from hs)
  have H6 : Hid (Calls Tryz.prog 91 #[.int .u64 16] w fun e w' => e = .returned (.int .i64 4) ∧ w' = w) := by
    have e0 : IntKind.u64.wrap (-16) = 18446744073709551600 := by decide +kernel
    have e1 : bits .and .u64 16 18446744073709551600 = 16 := by decide +kernel
    have hc := HC.out
    show Calls _ _ _ _ _
    go_enter Tryz.func91, Tryz.ntmps91
    go_wp2_with fail
    go_ret
    exact ⟨rfl, rfl⟩
  clear hs HC
  go_enter Tryz.func78, Tryz.ntmps78
  go_wp2_with fail
  go_at_call 91
  refine H6.out.mono ?_
  rintro e w1 ⟨rfl, rfl⟩
  go_wp2_with fail
  go_ret
  exact ⟨rfl, rfl⟩
theorem slice65 (g m : Nat) (hm : m ≤ 64) (W : World) : (Instr.sliceAt 146 (.pointer (some ⟨g, 0, none⟩)) (some (.int .i64 (m : Int))) none none).run Tryz.prog W = .ok (.slice (some ⟨g, m, none⟩) (65 - m) (65 - m)) W := by
  have al : Tryz.prog.arrayLen 146 = 65 := by kernel_rfl
  have hz : ∀ W, (sizeOf (Tryz.prog.elem 146)).run Tryz.prog W = .ok 1 W := by
    intro W
    have he : Tryz.prog.elem 146 = 5 := by kernel_rfl
    rw [he]
    simp [go_sem]
  rw [run_sliceAt_array_l (P := Tryz.prog) W 146 ⟨g, 0, none⟩ (by kernel_rfl) .i64 (m : Int) (by omega) (by rw [al]; omega), hz]
  simp only [Result.andThen, slicedAt, al, Int.toNat_natCast]
  rw [if_neg (by omega)]
  simp only [Addr.add, Nat.mul_one, Nat.zero_add]
  split <;> simp_all
/-- A numeral of base sixteen: k digits. -/
def IsHex (n : Nat) (t : Bytes) : Prop := ∃ k, k ≤ 15 ∧ n < 16 ^ (k + 1) ∧ t = hexB (k + 1) n
set_option maxRecDepth 10000 in
set_option maxHeartbeats 4000000 in
theorem formatBits_c {w0 w : World} (n : Nat) (hn : n < M64) (h : Owns w0 w []) (hs : Tz w) :
    Calls Tryz.prog 61 #[.slice none 0 0, .int .u64 (n : Int), .int .i64 16, .bool false, .bool false] w fun e w' => (∃ t, IsHex n t ∧ e = .returned (.tuple #[.slice none 0 0, .string (bs t)])) ∧ Owns w0 w' [] := by
  obtain ⟨g, hg⟩ : ∃ g, g = w.heap.size := ⟨_, rfl⟩
  obtain ⟨W1, hW1⟩ : ∃ W1, W1 = w.alloc (.cells Tryz.zeroCells146 146) := ⟨_, rfl⟩
  have hz : Tryz.zeroCells146 = (bcells (List.replicate 65 0 ++ [])).toArray := by kernel_rfl
  have HO : Hid (Owns w0 W1 [blk g (.cells (bcells (List.replicate 65 0 ++ hexB 0 n)).toArray 146 (0, 0))]) := by rw [hg, hW1, hz]; exact h.box _
  have HS : Hid (Tz W1) := by rw [hW1]; exact hs.below ((Below.refl _ _).alloc (Nat.le_refl _) _)
  clear hs h hz
  go_enter Tryz.func61, Tryz.ntmps61
  go_wp2_with fail
  rw [← hg, ← hW1]
  clear hg hW1
  go_at_call 77
  refine (isPow_c _).mono ?_
  rintro e w1 ⟨rfl, rfl⟩
  go_wp2_with fail
  go_at_call 78
  refine (tz_c _ HS.out).mono ?_
  rintro e w1 ⟨rfl, rfl⟩
  go_wp2_with fail
  have hg1 : g < w1.heap.size := lt_of_block HO.out.blk.1
  have HN := Lib.hid hn
  clear hn
  go_loopg [1, 13] 64 (fun gk x i wr => ∃ (m n' : Nat), gk = m ∧ m ≤ 64 ∧ n' = n / 16 ^ (64 - m) ∧ x = .int .u64 (n' : Int) ∧ i = .int .i64 ((m + 1 : Nat) : Int) ∧ Hid (49 ≤ m) ∧ Hid (Owns w0 wr [blk g (.cells (bcells (List.replicate (m + 1) 0 ++ hexB (64 - m) n)).toArray 146 (0, 0))]))
  case atStart => exact ⟨64, n, rfl, by omega, by simp, rfl, rfl, Lib.hid (by omega), HO⟩
  case round =>
    rename_i J1 K1 hJ1 hK1
    clear HO HS hg1
    obtain ⟨m, n', hgm, hm, hn', rfl, rfl, Hm, HO⟩ := hrel
    subst gk
    have hb := HO.out.blk.1
    have hg1 : g < wr.heap.size := lt_of_block hb
    have f0 : wr.frozen? ⟨g, m, none⟩ = false := free_of_heap hb
    have c0 : wr.cell? ⟨g, m, none⟩ = some (.int .u8 0) := by
      rw [cell_of_heap hb]
      simp [bcells, List.getElem?_append, List.getElem?_replicate]
    have hnl : n' < 18446744073709551616 := by
      have h1 := HN.out
      have h2 : n / 16 ^ (64 - m) ≤ n := Nat.div_le_self _ _
      simp only [M64] at h1
      omega
    have HQ := Lib.hid hn'
    have Hst : ∀ c, c = hexD (n' % 16) → Hid (Owns w0 (wr.setCell ⟨g, m, none⟩ (.int .u8 (c.toNat : Int))) [blk g (.cells (bcells (List.replicate m 0 ++ hexB (64 - m + 1) n)).toArray 146 (0, 0))]) := by
      rintro c rfl
      have h1 := HO.out.store (i := m) (.int .u8 ((hexD (n' % 16)).toNat : Int))
      rw [set_zeros, hn', ← hexB_front] at h1
      rw [hn']
      exact Lib.hid h1
    replace Hst := Lib.hid Hst
    clear hn' hb
    have i1 : (0 : Int) ≤ (n' : Int) % 16 := by omega
    have i2 : (n' : Int) % 16 < 36 := by omega
    by_cases hlt : 16 ≤ n'
    · have e1 : bits .and .u64 (n' : Int) 15 = ((n' % 16 : Nat) : Int) := by
        have := bits_and_u64_nat n' 15 hnl (by decide)
        rw [nat_mask4] at this
        exact this
      have h16 : 49 < m := by
        have h1 := Hm.out
        have h2 := HQ.out
        have h3 := HN.out
        rcases Nat.lt_or_ge 49 m with h | h
        · exact h
        · obtain rfl : m = 49 := by omega
          simp only [M64] at h3
          rw [h2] at hlt
          rw [show (16 : Nat) ^ (64 - 49) = 1152921504606846976 by decide +kernel] at hlt
          omega
      go_wp2_with fail
      go_roundg (m - 1)
      case measure => omega
      case rel =>
        refine ⟨m - 1, n' / 16, rfl, by omega, ?_, by go_num, by go_num, Lib.hid (by omega), ?_⟩
        · rw [HQ.out, Nat.div_div_eq_div_mul, ← Nat.pow_succ]
          congr 2
          omega
        · rw [show m - 1 + 1 = m by omega, show 64 - (m - 1) = 64 - m + 1 by omega]
          refine Hst.out _ ?_
          exact lit_at _ _ (hexT_at _ (Nat.mod_lt _ (by decide)))
    · clear hJ1 hK1
      have i3 : (n' : Int) < 36 := by omega
      have em : n' % 16 = n' := by omega
      have HT : Hid (∀ c, c = hexD n' → Owns w0 (wr.setCell ⟨g, m, none⟩ (.int .u8 (c.toNat : Int))) [blk g (.cells (bcells (List.replicate m 0 ++ hexB (64 - m + 1) n)).toArray 146 (0, 0))]) := fun c hc => (Hst.out c (by rw [em]; exact hc)).out
      have HR : Hid (IsHex n (hexB (64 - m + 1) n)) := by
        have h1 := Hm.out
        refine ⟨64 - m, by omega, ?_, rfl⟩
        have h2 := Nat.lt_mul_div_succ n (Nat.pow_pos (n := 64 - m) (show 0 < 16 by decide))
        rw [← HQ.out] at h2
        rw [Nat.pow_succ]
        exact Nat.lt_of_lt_of_le h2 (Nat.mul_le_mul_left _ (by omega))
      clear Hst em HO HQ
      have hsl := slice65 g m hm
      have hlit : (ByteArray.mk #[48, 49, 50, 51, 52, 53, 54, 55, 56, 57, 97, 98, 99, 100, 101, 102, 103, 104, 105, 106, 107, 108, 109, 110, 111, 112, 113, 114, 115, 116, 117, 118, 119, 120, 121, 122])[n']'(by show n' < 36; omega) = hexD n' := lit_at _ _ (hexT_at _ (by omega))
      go_wp2_with fail
      obtain ⟨W2, hW2⟩ : ∃ W2, W2 = wr.setCell ⟨g, m, none⟩ (.int .u8 ((hexD n').toNat : Int)) := ⟨_, rfl⟩
      have HE : Hid (Owns w0 W2 [blk g (.cells (bcells (List.replicate m 0 ++ hexB (64 - m + 1) n)).toArray 146 (0, 0))]) := by rw [hW2]; exact HT.out _ rfl
      rw [← hW2]
      rw [run_convert_text (P := Tryz.prog) W2 100 5 9 Tryz.underlying100 (by kernel_rfl) (by kernel_rfl) g m (65 - m) (65 - m) _ 146 (0, 0) HE.out.blk.1 (by simp [hexB_len]; omega)]
      have HX : Hid (((List.replicate m 0 ++ hexB (64 - m + 1) n).drop m).take (65 - m) = hexB (64 - m + 1) n) := by
        show _ = _
        rw [List.drop_left' (by simp), List.take_of_length_le (by rw [hexB_len]; omega)]
      rw [HX.out]
      clear HT hW2 hsl hlit HX c0 f0
      go_wp2_with fail
      go_ret2
      exact ⟨⟨_, HR.out, rfl⟩, HE.out.pop⟩
set_option maxHeartbeats 1000000 in
theorem FormatUint_c {w0 w : World} (n : Nat) (hn : n < M64) (h : Owns w0 w []) (hs : Tz w) :
    Calls Tryz.prog 23 #[.int .u64 (n : Int), .int .i64 16] w fun e w' => (∃ t, IsHex n t ∧ e = .returned (.string (bs t))) ∧ Owns w0 w' [] := by
  have HI : Hid (Calls Tryz.prog 40 #[.int .u64 (n : Int), .int .i64 16] w fun e w' => (∃ t, IsHex n t ∧ e = .returned (.string (bs t))) ∧ Owns w0 w' []) := by
    have HF := Lib.hid (formatBits_c n hn h hs)
    clear h hs hn
    show Calls _ _ _ _ _
    go_enter Tryz.func40, Tryz.ntmps40
    go_wp2_with fail
    go_at_call 61
    refine HF.out.mono ?_
    rintro e w1 ⟨⟨t, ht, rfl⟩, ho⟩
    have HO : Hid (IsHex n t ∧ Owns w0 w1 []) := ⟨ht, ho⟩
    clear ht ho HF
    go_wp2_with fail
    go_ret
    exact ⟨⟨t, HO.out.1, rfl⟩, HO.out.2⟩
  clear h hs hn
  go_enter Tryz.func23, Tryz.ntmps23
  go_wp2_with fail
  go_at_call 40
  refine HI.out.mono ?_
  rintro e w1 ⟨⟨t, ht, rfl⟩, ho⟩
  have HO : Hid (IsHex n t ∧ Owns w0 w1 []) := ⟨ht, ho⟩
  clear ht ho HI
  go_wp2_with fail
  go_ret
  exact ⟨⟨t, HO.out.1, rfl⟩, HO.out.2⟩
end Go.Proofs.YtckocgkndbdhcaaGreatDoor
