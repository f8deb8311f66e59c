/-
  The reference's decimal numerals, the text of records, its pieces; records that are too long.
  The reference's digest.
  The reference's sealed sectors: digits, zeros, seal, Head, sector, number, count, piece.
  The reference's 'Parse'.
-/
import Derived.Test.YtjcjpekndeoonaaGreatDoorJnMore
namespace Go.Cz.Jn
theorem ten_piece {i : Nat} (h : i < 10) : (({ data := #[48, 49, 50, 51, 52, 53, 54, 55, 56, 57] } : ByteArray).extract i (i + 1)) = bs [UInt8.ofNat (48 + i)] := by
  have : ∀ i : Fin 10, (({ data := #[48, 49, 50, 51, 52, 53, 54, 55, 56, 57] } : ByteArray).extract i.1 (i.1 + 1)) = bs [UInt8.ofNat (48 + i.1)] := by decide +kernel
  exact this ⟨i, h⟩
/-- What is still to be written ahead of l. -/
def decTo (N m : Nat) (l : List UInt8) : Prop := Lib.decDigits N = (if m = 0 then [] else Lib.decDigits m) ++ l
theorem decTo_start (N : Nat) : decTo N (N / 10) [UInt8.ofNat (48 + N % 10)] := by
  unfold decTo
  rw [Lib.decDigits]
  split
  · rw [if_pos (by omega), Nat.mod_eq_of_lt ‹_›]; rfl
  · rw [if_neg (by omega)]
theorem decTo_step {N m : Nat} {l : List UInt8} (h : decTo N m l) (hm : 0 < m) : decTo N (m / 10) (UInt8.ofNat (48 + m % 10) :: l) := by
  unfold decTo at h ⊢
  rw [if_neg (by omega)] at h
  rw [h, show Lib.decDigits m = (if m / 10 = 0 then [] else Lib.decDigits (m / 10)) ++ [UInt8.ofNat (48 + m % 10)] from decTo_start m]
  simp
theorem decTo_len {N m : Nat} {l : List UInt8} (h : decTo N m l) (hN : N ≤ 1000000000) : l.length ≤ 20 := by
  have := decB_len (k := 9) (n := N) (by omega)
  rw [decB_eq] at this
  unfold decTo at h
  rw [h, List.length_append] at this
  omega
theorem lenSum_take_le (l : List Bytes) (k : Nat) : lenSum (l.take k) ≤ lenSum l := by
  have : lenSum l = lenSum (l.take k) + lenSum (l.drop k) := by
    unfold lenSum
    rw [← List.sum_append, ← List.map_append, List.take_append_drop]
  omega
theorem lenSum_text : ∀ l : List Bytes, lenSum l ≤ (textB l).length
  | [] => Nat.le_refl _
  | r :: l => by
    have h := lenSum_text l
    have e : textB (r :: l) = (decB r.length ++ 58 :: r) ++ textB l := by simp [textB]
    have e2 : lenSum (r :: l) = r.length + lenSum l := by simp [lenSum]
    rw [e, e2, List.length_append, List.length_append, List.length_cons]
    omega
theorem bcells_append (a b : Bytes) : bcells (a ++ b) = bcells a ++ bcells b := by simp [bcells]
theorem piecesB_nil : piecesB [] = [] := rfl
end Go.Cz.Jn
namespace Go.Proofs.YtjcjpekndeoonaaGreatDoor
open Go.RowKit Go.Cz Go.Cz.Jn
set_option linter.unusedSimpArgs false
set_option linter.unusedVariables false
attribute [local go_sem] bs_size bs_extract bs_append bs_toList
attribute [local irreducible] cList cPlan
set_option maxHeartbeats 2000000 in
theorem rdigits_c (N : Nat) (w : World) (hN : N ≤ 1000000000) : Calls Tryz.prog 100 #[.int .u64 (N : Int)] w fun e w' => e = .returned (.string (bs (Lib.decDigits N))) ∧ w' = w := by
  have hm10 : N % 10 < 10 := Nat.mod_lt _ (by omega)
  have H0 := Lib.hid (decTo_start N)
  have P0 := Lib.hid (ten_piece hm10)
  go_enter Tryz.func100, Tryz.ntmps100
  go_wp2_with fail
  rw [P0.out]
  clear hm10 P0
  go_loopg [0, 3] (N / 10) (fun gk m s wr => ∃ (k : Nat) (l : List UInt8), gk = k ∧ wr = w ∧ k ≤ N ∧ m = .int .u64 (k : Int) ∧ s = .string (bs l) ∧ Hid (decTo N k l))
  case atStart => exact ⟨N / 10, _, rfl, rfl, by omega, by go_num, rfl, H0⟩
  case round =>
    rename_i J1 K1 hJ1 hK1
    clear H0
    obtain ⟨k, l, rfl, rfl, hk, rfl, rfl, hv⟩ := hrel
    have hl := decTo_len hv.out hN
    by_cases h0 : 0 < gk
    · have hm10 : gk % 10 < 10 := Nat.mod_lt _ (by omega)
      have P1 := Lib.hid (ten_piece hm10)
      have HS := Lib.hid (decTo_step hv.out h0)
      go_wp2_with fail
      rw [P1.out]
      go_roundg (gk / 10)
      case measure => omega
      case rel => exact ⟨gk / 10, _, rfl, rfl, by omega, by go_num, by rw [bs_append]; rfl, HS⟩
    · obtain rfl : gk = 0 := by omega
      have He : Hid (Lib.decDigits N = l) := hv.out
      clear hJ1 hK1 hv
      go_wp2_with fail
      go_ret
      exact ⟨by rw [He.out]; rfl, rfl⟩
set_option maxHeartbeats 1000000 in
theorem Decimal_c (N : Nat) (w : World) (hN : N ≤ 1000000000) : Calls Tryz.prog 78 #[.int .i64 (N : Int)] w fun e w' => e = .returned (.string (bs (decB N))) ∧ w' = w := by
  rw [decB_eq]
  go_enter Tryz.func78, Tryz.ntmps78
  go_wp2_with fail
  go_at_call 100
  refine (rdigits_c N w hN).mono ?_
  rintro e w1 ⟨rfl, rfl⟩
  go_wp2_with fail
  go_ret
  exact ⟨rfl, rfl⟩
theorem strCells_bs' (t : Bytes) : Lib.strCells (bs t) = bcells t := rfl
theorem row_text' {w : World} {B g n cap : Nat} {t : Bytes} (h : w.ownsRow B 5 1 (.slice (some ⟨g, 0, none⟩) n cap) n (bcells t)) (hn : t.length = n) :
    (convert 56 9 (.slice (some ⟨g, 0, none⟩) n cap)).run Tryz.prog w = .ok (.string (bs t)) w := by
  have hc : Lib.Bytes w g 0 (bs t) := by
    intro i hi
    have hi' : i < t.length := by simpa [bs_size] using hi
    rw [Nat.zero_add, h.cellAt i (by omega)]
    simp only [bcells, List.getElem?_map, List.getElem?_eq_getElem hi', Option.map_some]
    rfl
  have hr := Lib.run_convert_window (P := Tryz.prog) w 56 5 9 Tryz.underlying56 Tryz.underlying5 Tryz.underlying9 g 0 (bs t) hc 0 n cap (by rw [bs_size]; omega)
  rw [Nat.zero_add] at hr
  rw [hr, bs_extract]
  simp [← hn]
theorem ORow.base {e : TypeId} {V wr : World} {v : Value} {n : Nat} {xs : List Value} (h : ORow e 1 V wr v n xs) : wr.ownsRow V.heap.size e 1 v n xs := by
  refine ⟨h.row.1, ?_⟩
  rcases h.row.2 with h0 | ⟨g, cap, cur, h1, h2, h3⟩
  · exact .inl h0
  · exact .inr ⟨g, cap, cur, h1, h.new g (by rw [h1]; rfl), h3⟩
theorem ORow.ofText {e : TypeId} {V wr W : World} {v v' : Value} {n m : Nat} {xs ys : List Value} (h : ORow e 1 V wr v n xs) (hrow : W.ownsRow V.heap.size e 1 v' m ys) (hgrow : wr.grownBy W v.ownBlock) : ORow e 1 V W v' m ys := by
  refine ⟨⟨hrow.1, ?_⟩, fun k hk => (hrow.lt k hk).1, h.below.grown hgrow h.below.size h.new⟩
  rcases hrow.2 with h0 | ⟨g, cap, cur, h1, h2, h3⟩
  · exact .inl h0
  · exact .inr ⟨g, cap, cur, h1, Nat.zero_le _, h3⟩
abbrev BRow (V w : World) (v : Value) (t : Bytes) : Prop := ORow 5 1 V w v t.length (bcells t)
theorem brow_form {V w : World} {v : Value} {t : Bytes} (h : BRow V w v t) (h0 : t ≠ []) : ∃ g c, v = .slice (some ⟨g, 0, none⟩) t.length c := by
  rcases h.at with ⟨-, h1⟩ | ⟨g, c, h1, -⟩
  · exact absurd (List.length_eq_zero_iff.1 h1) h0
  · exact ⟨g, c, h1⟩
set_option maxRecDepth 10000 in
set_option maxHeartbeats 4000000 in
theorem Joined_c (x : Option Addr) (n c : Nat) (l : List Bytes) (w : World) (h : IsTexts w x n l) (hl : (textB l).length ≤ 1000000) (hn : n ≤ 1000000) :
    Calls Tryz.prog 43 #[.slice x n c] w fun e w' => e = .returned (.string (bs (textB l))) ∧ Below w.heap.size w w' := by
  have HI := Lib.hid h
  have HL := Lib.hid hl
  have hlen := h.len
  have HLs : Hid (∀ k, lenSum (l.take k) ≤ 1000000) := fun k => by
    have h1 := lenSum_take_le l k
    have h2 := lenSum_text l
    omega
  clear h hl
  obtain ⟨i0, hi0, hz0, hz1, hz2⟩ := info_parts info_byte
  have HInf := Lib.hid (And.intro hi0 (And.intro hz0 (And.intro hz1 hz2)))
  clear hi0 hz0 hz1 hz2
  go_enter Tryz.func43, Tryz.ntmps43
  go_wp2_with fail
  go_loopg [3, 4] n (fun gk s i wr => ∃ k : Nat, gk = n - k ∧ k ≤ n ∧ w = wr ∧ i = .int .i64 (k : Int) ∧ s = .int .i64 ((lenSum (l.take k) + 21 * k : Nat) : Int))
  case atStart => exact ⟨0, rfl, Nat.zero_le _, rfl, rfl, rfl⟩
  case round =>
    rename_i J1 K1 hJ1 hK1
    obtain ⟨k, rfl, hk, rfl, rfl, rfl⟩ := hrel
    by_cases hlt : k < n
    · obtain ⟨g, off, s, rfl, hs, hg, cs⟩ := HI.out.get hlt
      have h1 := lenSum_take hs
      have h2 := HLs.out (k + 1)
      obtain ⟨q, hq⟩ : ∃ q, q = lenSum (l.take k) + 21 * k := ⟨_, rfl⟩
      rw [← hq]
      have hsl : s.length ≤ 1000000 := by omega
      have hql : q ≤ 100000000 := by omega
      have HE : Hid (lenSum (l.take (k + 1)) + 21 * (k + 1) = q + (s.length + 21)) := by show _ = _; omega
      clear h1 h2 hs hq
      go_wp2_with fail
      go_roundg (n - (k + 1))
      case measure => omega
      case rel => exact ⟨k + 1, rfl, by omega, rfl, by go_num, by rw [HE.out]; go_num⟩
    · obtain rfl : k = n := by omega
      clear hJ1 hK1
      have h2 := HLs.out k
      obtain ⟨N, hN⟩ : ∃ N, N = lenSum (l.take k) + 21 * k := ⟨_, rfl⟩
      rw [← hN]
      have hN1 : N ≤ 100000000 := by omega
      clear hN h2
      go_wp2_with (refine wpList_plain rfl fun K hK => wp_make (.const (.int .i64 0)) (.tmp 21) 56 (by rfl) 5 (.int .u8 0) 1 1 Tryz.underlying56 info_byte 0 N (by rfl) (by rfl) (by omega) (by omega) (by omega) ?_)
      obtain ⟨W1, hW1⟩ : ∃ W1, W1 = w.alloc (.cells (madeCells #[.int .u8 0] N) 5) := ⟨_, rfl⟩
      obtain ⟨g1, hg1⟩ : ∃ g1, g1 = w.heap.size := ⟨_, rfl⟩
      have HR : Hid (BRow w W1 (.slice (some ⟨g1, 0, none⟩) 0 N) (textB (l.take 0))) := by
        rw [hW1, hg1]
        refine ⟨?_, fun k hk => ?_, (Below.refl _ w).alloc (Nat.le_refl _) _⟩
        · have hown0 := World.ownsRow_made (base := 0) (e := 5) (size := 1) w (madeCells #[.int .u8 0] (N * 1)) N (Nat.zero_le _) (by unfold maxLen; omega) (by simp [madeCells])
          rw [Nat.mul_one] at hown0
          exact hown0
        · simp [Value.ownBlock] at hk
          omega
      rw [← hg1, ← hW1]
      clear hg1 hW1
      go_loopg [5, 6] k (fun gk v i wr => ∃ q : Nat, gk = k - q ∧ q ≤ k ∧ i = .int .i64 (q : Int) ∧ Hid (BRow w wr v (textB (l.take q))) ∧ Hid (∃ g cp, v = .slice (some ⟨g, 0, none⟩) (textB (l.take q)).length cp))
      case atStart => exact ⟨0, rfl, Nat.zero_le _, rfl, HR, Lib.hid ⟨_, _, rfl⟩⟩
      case round =>
        rename_i J2 K2 hJ2 hK2
        clear HR
        obtain ⟨q, rfl, hq, rfl, HR, HV⟩ := hrel
        obtain ⟨t, ht⟩ : ∃ t, t = textB (l.take q) := ⟨_, rfl⟩
        rw [← ht] at HR HV
        have htl : t.length ≤ 1000000 := by
          rw [ht]
          exact Nat.le_trans (textB_le (l := l) q) HL.out
        by_cases hlt : q < k
        · obtain ⟨b, off, s, rfl, hs, hb0, cs0⟩ := HI.out.get hlt
          have HC : Hid (∀ w', Below w.heap.size w w' → b < w'.heap.size ∧ w'.cell? ⟨b, off + q, none⟩ = some (.string (bs s))) := fun w' hb => ⟨Nat.lt_of_lt_of_le hb0 hb.size, by rw [hb.cell (p := ⟨b, off + q, none⟩) hb0]; exact cs0⟩
          clear hb0 cs0
          obtain ⟨hb, cs⟩ := HC.out _ HR.out.below
          obtain ⟨d, hd⟩ : ∃ d, d = decB s.length := ⟨_, rfl⟩
          have HU : Hid (textB (l.take (q + 1)) = t ++ d ++ ([58] : Bytes) ++ s) := by
            show _ = _
            rw [textB_take hs, ← ht, hd]
            simp
          have hsl : s.length ≤ 1000000 := by
            have h1 := textB_le (l := l) (q + 1)
            rw [HU.out] at h1
            have h2 := HL.out
            simp only [List.length_append] at h1
            omega
          have hdl : d.length ≤ 20 := by rw [hd]; exact dec20 _ (by omega)
          have HD := Lib.hid (Decimal_c s.length wr (by omega))
          rw [← hd] at HD
          clear hd hs ht
          have HL58 : Hid (List.length (t ++ d ++ ([58] : Bytes)) = List.length (t ++ d) + 1) := by show List.length _ = _; rw [List.length_append]; rfl
          have HL59 : Hid (List.length (t ++ d ++ ([58] : Bytes) ++ s) = List.length (t ++ d ++ ([58] : Bytes)) + List.length s) := by show List.length _ = _; rw [List.length_append]
          go_wp2_with fail
          go_at_call 78
          refine HD.out.mono ?_
          rintro e w2 ⟨rfl, hw⟩
          rw [hw]
          clear hw w2 HD
          go_wp2_with (first | (at_builtin; (refine Lib.wpList_append_own_string _ rfl (.tmp 29) (.tmp 35) 56 9 rfl w.heap.size 5 i0 Tryz.underlying56 Tryz.underlying9 HInf.out.1 HInf.out.2.1 HInf.out.2.2.1 HInf.out.2.2.2 _ t.length (bcells t) rfl (ORow.base (e := 5) HR.out) (bs d) rfl (by rw [bs_size]; unfold maxLen; omega) (by rw [bs_size]; omega) HR.out.below.size ?_; intro v1 w3 hrow hgrow hblk; have HR1 := Lib.hid (ORow.ofText (v' := v1) (ys := bcells (t ++ d)) (m := (t ++ d).length) HR.out (by rw [List.length_append, bcells_append]; simpa [bs_size, strCells_bs'] using hrow) hgrow); clear hrow hgrow hblk)) | (at_builtin; go_loud (refine wpList_plain rfl fun K hK => wp_append (.tmp 37) (.tmp 38) 56 (by rfl) 5 _ 1 1 Tryz.underlying56 info_byte (by rfl) (by omega) _ (t ++ d).length _ (by rfl) (HR1.out.keep ((Below.refl w3.heap.size w3).alloc (Nat.le_refl _) (.cells #[.int .u8 58] 5))).row w3.heap.size 1 1 [.int .u8 58] (by rfl) (by rfl) 5 (by exact new_heap w3 _ _ rfl) (by simp [Value.oneCell']) (by rw [List.length_append]; omega) (by rw [List.length_append]; omega) ?_; intro v2 w4 hrow hgrow hblk; have HR2 := Lib.hid ((HR1.out.keep ((Below.refl w3.heap.size w3).alloc (Nat.le_refl _) (.cells #[.int .u8 58] 5))).step (v' := v2) (ys := bcells (t ++ d ++ ([58] : Bytes))) (m := (t ++ d ++ ([58] : Bytes)).length) (by rw [HL58.out, bcells_append (t ++ d)]; exact hrow) hgrow hblk); clear hrow hgrow hblk HR1 hb cs; obtain ⟨hb, cs⟩ := HC.out _ HR2.out.below)) | (at_builtin; go_loud (refine Lib.wpList_append_own_string _ rfl (.tmp 40) (.tmp 44) 56 9 rfl w.heap.size 5 i0 Tryz.underlying56 Tryz.underlying9 HInf.out.1 HInf.out.2.1 HInf.out.2.2.1 HInf.out.2.2.2 _ (t ++ d ++ ([58] : Bytes)).length (bcells (t ++ d ++ ([58] : Bytes))) rfl (ORow.base (e := 5) HR2.out) (bs s) rfl (by rw [bs_size]; simp only [List.length_append, List.length_cons, List.length_nil]; unfold maxLen; omega) (by rw [bs_size]; simp only [List.length_append, List.length_cons, List.length_nil]; omega) HR2.out.below.size ?_; intro v3 w5 hrow hgrow hblk; have HR3 := Lib.hid (ORow.ofText (v' := v3) (ys := bcells (t ++ d ++ ([58] : Bytes) ++ s)) (m := (t ++ d ++ ([58] : Bytes) ++ s).length) HR2.out (by rw [HL59.out, bcells_append (t ++ d ++ ([58] : Bytes))]; simpa [bs_size, strCells_bs'] using hrow) hgrow); clear hrow hgrow hblk)))
          obtain ⟨u, hu⟩ : ∃ u, u = t ++ d ++ ([58] : Bytes) ++ s := ⟨_, rfl⟩
          rw [← hu] at HR3 HU
          have HV3 := Lib.hid (brow_form HR3.out (by rw [hu]; simp))
          rw [← HU.out] at HR3 HV3
          clear hu HU HR HV HR2
          go_roundg (k - (q + 1))
          case measure => omega
          case rel => exact ⟨q + 1, rfl, by omega, by go_num, HR3, HV3⟩
        · obtain rfl : q = k := by omega
          have he : textB (l.take q) = textB l := by rw [List.take_of_length_le (by omega)]
          rw [he] at ht
          subst ht
          obtain ⟨g, cp, rfl⟩ := HV.out
          have hcv := row_text' HR.out.row rfl
          have HB := Lib.hid HR.out.below
          clear hJ2 hK2 HR HV he
          go_wp2_with fail
          go_ret
          exact ⟨rfl, HB.out⟩
set_option maxHeartbeats 1000000 in
theorem RText_c (x : Option Addr) (n c : Nat) (l : List Bytes) (w : World) (h : IsTexts w x n l) (hl : (textB l).length ≤ 1000000) (hn : n ≤ 1000000) :
    Calls Tryz.prog 11 #[.slice x n c] w fun e w' => e = .returned (.string (bs (textB l))) ∧ Below w.heap.size w w' := by
  have HJ := Lib.hid (Joined_c x n c l w h hl hn)
  clear h hl hn
  go_enter Tryz.func11, Tryz.ntmps11
  go_wp2_with fail
  go_at_call 43
  refine HJ.out.mono ?_
  rintro e w1 ⟨rfl, hb⟩
  have HB := Lib.hid hb
  clear hb HJ
  go_wp2_with fail
  go_ret
  exact ⟨rfl, HB.out⟩
set_option maxRecDepth 10000 in
set_option maxHeartbeats 2000000 in
theorem RLong_c (x : Option Addr) (n c : Nat) (l : List Bytes) (w : World) (h : IsTexts w x n l) (hl : ∀ s ∈ l, s.length ≤ 1000000000) (hn : n ≤ 1000000) :
    Calls Tryz.prog 12 #[.slice x n c] w fun e w' => e = .returned (.bool (longB l)) ∧ w' = w := by
  have HI := Lib.hid h
  have HL := Lib.hid hl
  have hlen := h.len
  clear h hl
  go_enter Tryz.func12, Tryz.ntmps12
  go_wp2_with fail
  go_loopg [3] n (fun gk i wr => ∃ k : Nat, gk = n - k ∧ k ≤ n ∧ w = wr ∧ i = .int .i64 (k : Int) ∧ Hid (longB (l.take k) = false))
  case atStart => exact ⟨0, rfl, Nat.zero_le _, rfl, rfl, Lib.hid rfl⟩
  case round =>
    rename_i J1 K1 hJ1 hK1
    obtain ⟨k, rfl, hk, rfl, rfl, HF⟩ := hrel
    by_cases hlt : k < n
    · obtain ⟨g, off, s, rfl, hs, hg, cs⟩ := HI.out.get hlt
      have hsl := HL.out s (List.mem_of_getElem? hs)
      have HT : Hid (longB (l.take (k + 1)) = decide (20000 < s.length)) := by
        show _ = _
        obtain ⟨hk2, rfl⟩ := List.getElem?_eq_some_iff.1 hs
        rw [List.take_succ_eq_append_getElem hk2]
        have := HF.out
        unfold longB at this ⊢
        rw [List.any_append, this]
        simp
      have HM := Lib.hid (List.mem_of_getElem? hs)
      clear hs
      by_cases h2 : 20000 < s.length
      · have HE : Hid (longB l = true) := List.any_eq_true.2 ⟨s, HM.out, decide_eq_true h2⟩
        have h2' : (20000 : Int) < (s.length : Int) := by omega
        clear hJ1 hK1 h2
        go_wp2_with fail
        go_ret
        exact ⟨by rw [HE.out]; rfl, rfl⟩
      · have HE : Hid (longB (l.take (k + 1)) = false) := by show _ = _; rw [HT.out]; exact decide_eq_false h2
        have h2' : ¬ (20000 : Int) < (s.length : Int) := by omega
        clear h2
        go_wp2_with fail
        go_roundg (n - (k + 1))
        case measure => omega
        case rel => exact ⟨k + 1, rfl, by omega, rfl, by go_num, HE⟩
    · obtain rfl : k = n := by omega
      have HE : Hid (longB l = false) := by have := HF.out; rwa [List.take_of_length_le (by omega)] at this
      clear hJ1 hK1
      go_wp2_with fail
      go_ret
      exact ⟨by rw [HE.out]; rfl, rfl⟩
set_option maxRecDepth 10000 in
set_option maxHeartbeats 4000000 in
theorem RPieces_c (t : Bytes) (V w : World) (hV : Below V.heap.size V w) (hl : t.length ≤ 1000000000) :
    Calls Tryz.prog 10 #[.string (bs t)] w fun e w' => ∃ v, e = .returned v ∧ TRow V w' v (piecesB t) := by
  have HR : Hid (TRow V w (.slice none 0 0) []) := ORow.nil hV
  clear hV
  go_enter Tryz.func10, Tryz.ntmps10
  go_wp2_with fail
  go_loopg [3, 4] t.length (fun gk v i wr => ∃ (k : Nat) (done : List Bytes), gk = t.length - k ∧ i = .int .i64 (k : Int) ∧ k ≤ t.length + 46 ∧ Hid (done.length ≤ k ∧ piecesB t = done ++ piecesB (t.drop k)) ∧ Hid (TRow V wr v done))
  case atStart => exact ⟨0, [], rfl, rfl, Nat.zero_le _, Lib.hid ⟨by simp, rfl⟩, HR⟩
  case round =>
    rename_i J1 K1 hJ1 hK1
    clear HR
    obtain ⟨k, done, hgk, rfl, hk, HP, HR⟩ := hrel
    subst gk
    by_cases hlt : k < t.length
    · have hne : t.drop k ≠ [] := by simp; omega
      obtain ⟨z, hz⟩ : ∃ z : Nat, z = min (k + 46) t.length := ⟨_, rfl⟩
      have e1 : min ((k : Int) + 46) (t.length : Int) = (z : Int) := by omega
      have hz1 : k ≤ z := by omega
      have hz2 : z ≤ t.length := by omega
      have HN : Hid ((t.drop k).take (z - k) = (t.drop k).take 46) := by
        show _ = _
        rcases Nat.le_total (k + 46) t.length with h | h
        · rw [show z - k = 46 by omega]
        · rw [List.take_of_length_le (by rw [List.length_drop]; omega), List.take_of_length_le (by rw [List.length_drop]; omega)]
      have HC := Lib.hid (piecesB_cons hne)
      clear hz hne
      have hdl : done.length ≤ 1000000046 := by have := HP.out.1; omega
      go_wp2_with (refine wpList_plain rfl fun K hK => wp_append (.tmp 11) (.tmp 20) 26 (by rfl) 9 _ 1 16 Tryz.underlying26 info_jstr (by rfl) (by omega) _ done.length _ (by rfl) (HR.out.row.alloc _) wr.heap.size 1 1 [.string (bs ((t.drop k).take (z - k)))] (by rfl) (by rfl) 9 (by exact new_heap wr _ _ rfl) (by simp [Value.oneCell']) (by omega) (by omega) ?_; intro v' w2 hrow hgrow hblk; have hp2 := (HR.out.keep ((Below.refl _ wr).alloc (Nat.le_refl _) _)).step hrow hgrow hblk; have Hp := Lib.hid hp2; clear hp2 hrow hgrow hblk)
      go_roundg (t.length - (k + 46))
      case measure => omega
      case rel =>
        refine ⟨k + 46, done ++ [(t.drop k).take (z - k)], rfl, by go_num, by omega, Lib.hid ⟨?_, ?_⟩, ?_⟩
        · have := HP.out.1
          rw [List.length_append]
          simp
          omega
        · rw [HP.out.2, HC.out, List.append_assoc, HN.out, List.drop_drop]
          rfl
        · have h := Hp.out
          show Hid (ORow _ _ _ _ _ (done ++ [(t.drop k).take (z - k)]).length (tcs (done ++ [(t.drop k).take (z - k)])))
          rw [List.length_append, show tcs (done ++ [(t.drop k).take (z - k)]) = tcs done ++ [.string (bs ((t.drop k).take (z - k)))] by simp [tcs]]
          exact Lib.hid h
    · have HE : Hid (piecesB t = done) := by
        show _ = _
        rw [HP.out.2, List.drop_of_length_le (by omega), piecesB_nil, List.append_nil]
      clear hJ1 hK1 HP
      go_wp2_with fail
      go_ret
      exact ⟨_, rfl, by rw [HE.out]; exact HR.out⟩
end Go.Proofs.YtjcjpekndeoonaaGreatDoor
namespace Go.Cz.Jn
set_option linter.unusedSimpArgs false
set_option linter.unusedVariables false
theorem hex_piece {i : Nat} (h : i < 16) : (({ data := #[48, 49, 50, 51, 52, 53, 54, 55, 56, 57, 97, 98, 99, 100, 101, 102] } : ByteArray).extract i (i + 1)) = bs [hexD i] := by
  have : ∀ i : Fin 16, (({ data := #[48, 49, 50, 51, 52, 53, 54, 55, 56, 57, 97, 98, 99, 100, 101, 102] } : ByteArray).extract i.1 (i.1 + 1)) = bs [hexD i.1] := by decide +kernel
  exact this ⟨i, h⟩
theorem blkN_end : ∀ (k a : Nat), blkN (k + 1) [] a = blkN k [] a * 256
  | 0, a => rfl
  | k + 1, a => blkN_end k (a * 256)
theorem blkN_some : ∀ (k : Nat) (l : Bytes) (a : Nat) (c : UInt8), l[k]? = some c → blkN (k + 1) l a = blkN k l a * 256 + c.toNat
  | 0, [], a, c, h => by simp at h
  | 0, d :: r, a, c, h => by
    have : d = c := by simpa using h
    subst this
    rfl
  | k + 1, [], a, c, h => by simp at h
  | k + 1, d :: r, a, c, h => blkN_some k r (a * 256 + d.toNat) c (by simpa using h)
theorem blkN_none : ∀ (k : Nat) (l : Bytes) (a : Nat), l.length ≤ k → blkN (k + 1) l a = blkN k l a * 256
  | k, [], a, _ => blkN_end k a
  | 0, _ :: _, a, h => by simp at h
  | k + 1, d :: r, a, h => blkN_none k r (a * 256 + d.toNat) (by simpa using h)
theorem bs_at {t : Bytes} {i : Nat} (h : i < (bs t).size) {c : UInt8} (hc : t[i]? = some c) : (bs t)[i] = c := by
  obtain ⟨h1, h2⟩ := List.getElem?_eq_some_iff.1 hc
  show (bs t).data[i]'_ = c
  simp only [bs, List.getElem_toArray]
  exact h2
end Go.Cz.Jn
namespace Go.Proofs.YtjcjpekndeoonaaGreatDoor
open Go.RowKit Go.Cz Go.Cz.Jn
set_option linter.unusedSimpArgs false
set_option linter.unusedVariables false
attribute [local go_sem] bs_size bs_extract bs_append bs_toList
attribute [local irreducible] cList cPlan
set_option maxHeartbeats 2000000 in
theorem rmix_c (X0 : Nat) (l0 : X0 < M64) (w : World) : Calls Tryz.prog 115 #[.int .u64 (X0 : Int)] w fun e w' => e = .returned (.int .u64 (mixN X0 : Nat)) ∧ w' = w := by
  obtain ⟨X1, h1⟩ : ∃ X1, X1 = X0 * 2862933555777941757 % M64 := ⟨_, rfl⟩
  have l1 : X1 < M64 := by rw [h1]; exact Nat.mod_lt _ (by decide)
  have e1 : IntKind.u64.wrap ((X0 : Int) * 2862933555777941757) = (X1 : Int) := by rw [IntKind.wrap_u64]; have h := h1; simp only [M64] at h; omega
  obtain ⟨X2, h2⟩ : ∃ X2, X2 = xs 4294967296 X1 := ⟨_, rfl⟩
  have l2 : X2 < M64 := by rw [h2]; exact xs_lt (j := 32) l1
  have e2 : bits .xor .u64 (X1 : Int) ((X1 : Int) / 4294967296) = (X2 : Int) := by rw [h2]; exact xorShift_u64 X1 4294967296 l1
  obtain ⟨X3, h3⟩ : ∃ X3, X3 = X2 * 3935559000370003845 % M64 := ⟨_, rfl⟩
  have l3 : X3 < M64 := by rw [h3]; exact Nat.mod_lt _ (by decide)
  have e3 : IntKind.u64.wrap ((X2 : Int) * 3935559000370003845) = (X3 : Int) := by rw [IntKind.wrap_u64]; have h := h3; simp only [M64] at h; omega
  obtain ⟨X4, h4⟩ : ∃ X4, X4 = xs 536870912 X3 := ⟨_, rfl⟩
  have e4 : bits .xor .u64 (X3 : Int) ((X3 : Int) / 536870912) = (X4 : Int) := by rw [h4]; exact xorShift_u64 X3 536870912 l3
  have HX : Hid (mixN X0 = X4) := by show _ = _; rw [h4, h3, h2, h1]; rfl
  clear h1 h2 h3 h4
  go_enter Tryz.func115, Tryz.ntmps115
  go_wp2_with fail
  go_ret
  exact ⟨by rw [HX.out]; rfl, rfl⟩
set_option maxRecDepth 10000 in
set_option maxHeartbeats 4000000 in
theorem rSum_c (t : Bytes) (hl : t.length ≤ 1000000) (w : World) : Calls Tryz.prog 101 #[.string (bs t)] w fun e w' => e = .returned (.string (bs (sumB t))) ∧ w' = w := by
  obtain ⟨u, hu⟩ : ∃ u, u = bs t := ⟨_, rfl⟩
  have hus : u.size = t.length := by rw [hu, bs_size]
  have HU : Hid (∀ (i : Nat) (c : UInt8) (h : i < u.size), t[i]? = some c → u[i].toNat = c.toNat) := by
    subst hu
    exact fun i c h hc => by rw [bs_at h hc]
  rw [← hu]
  clear hu
  obtain ⟨s0, hs0⟩ : ∃ s0, s0 = 2611923443488327891 ^^^ t.length := ⟨_, rfl⟩
  have l0 : s0 < M64 := by rw [hs0]; exact xor_lt (by decide) (by simp only [M64]; omega)
  have e0 : bits .xor .u64 2611923443488327891 (t.length : Int) = (s0 : Int) := by rw [hs0]; exact u64_xor_nat 2611923443488327891 t.length (by decide) (by omega)
  have HV : Hid (sumGo (t.length / 8 + 1 - 0) s0 (t.drop (8 * 0)) = sumN t) := by show _ = _; rw [hs0]; rfl
  have HL0 := Lib.hid l0
  clear hs0 l0
  go_enter Tryz.func101, Tryz.ntmps101
  go_wp2_with fail
  clear e0
  go_loopg [3, 4] (t.length / 8 + 1) (fun gk sv fv wr => ∃ (j s : Nat), gk = t.length / 8 + 1 - j ∧ j ≤ t.length / 8 + 1 ∧ fv = .int .i64 ((8 * j : Nat) : Int) ∧ sv = .int .u64 (s : Int) ∧ w = wr ∧ Hid (s < M64) ∧ Hid (sumGo (t.length / 8 + 1 - j) s (t.drop (8 * j)) = sumN t))
  case atStart => exact ⟨0, s0, rfl, Nat.zero_le _, rfl, rfl, rfl, HL0, HV⟩
  case round =>
    rename_i J1 K1 hJ1 hK1
    clear HV HL0
    obtain ⟨j, s, rfl, hj, rfl, rfl, rfl, HL, HV⟩ := hrel
    obtain ⟨f, hf⟩ : ∃ f, f = 8 * j := ⟨_, rfl⟩
    rw [← hf] at HV ⊢
    have Hf := Lib.hid hf
    have hfl : f ≤ 1000008 := by omega
    by_cases hlt : j < t.length / 8 + 1
    · have hle : f ≤ t.length := by omega
      have HJ := Lib.hid hlt
      clear hf
      go_wp2_with fail
      go_loopg [5, 6] 8 (fun gk bv iv wr => ∃ k : Nat, gk = 8 - k ∧ k ≤ 8 ∧ iv = .int .i64 ((f + k : Nat) : Int) ∧ bv = .int .u64 ((blkN k (t.drop f) 0 : Nat) : Int) ∧ w = wr)
      case atStart => exact ⟨0, rfl, Nat.zero_le _, rfl, rfl, rfl⟩
      case round =>
        rename_i J2 K2 hJ2 hK2
        obtain ⟨k, rfl, hk, rfl, rfl, rfl⟩ := hrel
        obtain ⟨i, hi⟩ : ∃ i, i = f + k := ⟨_, rfl⟩
        rw [← hi]
        have Hi := Lib.hid hi
        obtain ⟨b, hb⟩ : ∃ b, b = blkN k (t.drop f) 0 := ⟨_, rfl⟩
        have Hb := Lib.hid hb
        rw [← hb]
        have hil : i ≤ 1000016 := by omega
        by_cases hk8 : k < 8
        · have hi8 : i < f + 8 := by omega
          have hb7 : b < 72057594037927936 := by
            have h1 := blkN_lt k (t.drop f) 0 0 (by decide)
            have : 256 ^ (0 + k) ≤ 256 ^ 7 := Nat.pow_le_pow_right (by decide) (by omega)
            omega
          by_cases hit : i < t.length
          · obtain ⟨c, hc⟩ : ∃ c, t[i]? = some c := ⟨_, List.getElem?_eq_getElem hit⟩
            have HN : Hid (blkN (k + 1) (t.drop f) 0 = b * 256 + c.toNat) := by
              show _ = _
              rw [hb]
              refine blkN_some k _ 0 c ?_
              rw [List.getElem?_drop, ← hi]
              exact hc
            have hcl := c.toNat_lt
            obtain ⟨d, hd⟩ : ∃ d, d = c.toNat := ⟨_, rfl⟩
            have kl : i < u.size := by omega
            have hud : u[i].toNat = d := by rw [hd]; exact HU.out i c kl hc
            rw [← hd] at HN hcl
            clear hc hd hi hb
            go_wp2_with fail
            go_roundg (8 - (k + 1))
            case measure => omega
            case rel => exact ⟨k + 1, rfl, by omega, by rw [show f + (k + 1) = i + 1 by have := Hi.out; omega]; go_num, by rw [HN.out]; go_num, rfl⟩
          · have HN : Hid (blkN (k + 1) (t.drop f) 0 = b * 256) := by
              show _ = _
              rw [hb]
              exact blkN_none k _ 0 (by rw [List.length_drop]; omega)
            have kl : ¬ i < u.size := by omega
            clear hi hb
            go_wp2_with fail
            go_roundg (8 - (k + 1))
            case measure => omega
            case rel => exact ⟨k + 1, rfl, by omega, by rw [show f + (k + 1) = i + 1 by have := Hi.out; omega]; go_num, by rw [HN.out]; go_num, rfl⟩
        · obtain rfl : k = 8 := by omega
          clear hJ2 hK2
          have hi8 : ¬ i < f + 8 := by omega
          have hb8 : b < M64 := by rw [hb]; exact blk8_lt _
          obtain ⟨X, hX⟩ : ∃ X, X = s ^^^ b := ⟨_, rfl⟩
          have lX : X < M64 := by rw [hX]; exact xor_lt HL.out hb8
          have eX : bits .xor .u64 (s : Int) (b : Int) = (X : Int) := by rw [hX]; exact u64_xor_nat s b HL.out hb8
          have HS : Hid (sumGo (t.length / 8 + 1 - (j + 1)) (mixN X) (t.drop (8 * (j + 1))) = sumN t) := by
            have h1 := HV.out
            have h2 := HJ.out
            rw [show t.length / 8 + 1 - j = (t.length / 8 + 1 - (j + 1)) + 1 by omega] at h1
            show _ = _
            rw [hX, hb, show 8 * (j + 1) = f + 8 by have := Hf.out; omega, ← List.drop_drop]
            exact h1
          have HM := Lib.hid (rmix_c X lX w)
          obtain ⟨Y, hY⟩ : ∃ Y, Y = mixN X := ⟨_, rfl⟩
          have HYl : Hid (Y < M64) := by show _ < _; rw [hY]; exact mixN_lt _
          rw [← hY] at HS HM
          clear hX hb hi hY
          go_wp2_with fail
          go_at_call 115
          refine HM.out.mono ?_
          rintro e w1 ⟨rfl, hw⟩
          rw [hw]
          clear hw w1 HM eX
          go_wp2_with fail
          go_roundg (t.length / 8 + 1 - (j + 1))
          case measure => have := HJ.out; omega
          case rel => exact ⟨j + 1, Y, rfl, by have := HJ.out; omega, by rw [show 8 * (j + 1) = f + 8 by have := Hf.out; omega]; go_num, rfl, rfl, HYl, HS⟩
    · have hgt : ¬ f ≤ t.length := by omega
      have HE : Hid (s = sumN t) := by
        show _ = _
        have h1 := HV.out
        rw [show t.length / 8 + 1 - j = 0 by omega] at h1
        exact h1
      have HI : Hid (hexB 16 s = hexB (16 - 0) s ++ []) := by show _ = _; simp
      have HB : Hid (hexB 16 s = sumB t) := by show _ = _; rw [HE.out]; rfl
      have HSl := Lib.hid HL.out
      clear hJ1 hK1 hf HV HE
      go_wp2_with fail
      go_loopg [3, 7, 8] 16 (fun gk sv lv iv wr => ∃ (k n : Nat) (l : Bytes), gk = 16 - k ∧ k ≤ 16 ∧ iv = .int .i64 (k : Int) ∧ sv = .int .u64 (n : Int) ∧ lv = .string (bs l) ∧ n < 18446744073709551616 ∧ w = wr ∧ Hid (hexB 16 s = hexB (16 - k) n ++ l ∧ l.length = k))
      case atStart => exact ⟨0, s, [], rfl, Nat.zero_le _, rfl, rfl, rfl, HSl.out, rfl, Lib.hid ⟨HI.out, rfl⟩⟩
      case round =>
        rename_i J3 K3 hJ3 hK3
        clear HI
        obtain ⟨k, n, l, rfl, hk, rfl, rfl, rfl, hn, rfl, HI⟩ := hrel
        have hll : l.length ≤ 16 := by have := HI.out.2; omega
        by_cases h16 : k < 16
        · have hm16 : n % 16 < 16 := Nat.mod_lt _ (by omega)
          have P1 := Lib.hid (hex_piece hm16)
          have HS : Hid (hexB 16 s = hexB (16 - (k + 1)) (n / 16) ++ ([hexD (n % 16)] ++ l) ∧ ([hexD (n % 16)] ++ l).length = k + 1) := by
            refine ⟨?_, by have := HI.out.2; simp; omega⟩
            have h1 := HI.out.1
            rw [show 16 - k = (16 - (k + 1)) + 1 by omega] at h1
            rw [h1]
            simp [hexB]
          go_wp2_with fail
          rw [P1.out]
          go_roundg (16 - (k + 1))
          case measure => omega
          case rel => exact ⟨k + 1, n / 16, _, rfl, by omega, by go_num, by go_num, by rw [bs_append], by omega, rfl, HS⟩
        · obtain rfl : k = 16 := by omega
          have HE : Hid (l = sumB t) := by
            show _ = _
            rw [← HB.out, HI.out.1]
            rfl
          clear hJ3 hK3 HI
          go_wp2_with fail
          go_ret
          exact ⟨by rw [HE.out]; rfl, rfl⟩
end Go.Proofs.YtjcjpekndeoonaaGreatDoor
namespace Go.Cz.Jn
set_option linter.unusedSimpArgs false
set_option linter.unusedVariables false
theorem pad48_id {c : Bytes} (h : c.length = 48) : pad48 c = c := by
  rw [pad48_le (by omega), h]
  simp
theorem seal_pad (p : Nat) (c : Bytes) : sealB p (pad48 c) = sealB p c := by
  unfold sealB
  rw [pad48_id (pad48_len c)]
theorem head_cont {n : Nat} (h : n < 10 ^ 8) : digitsB n 8 ++ List.replicate 40 0 = pad48 (digitsB n 8) := by
  rw [pad48_le (by rw [digitsB_len (k := 7) h]; decide), digitsB_len (k := 7) h]
theorem sector_cont {s : Bytes} (h : s.length ≤ 46) : digitsB s.length 2 ++ s ++ List.replicate (46 - s.length) 0 = pad48 (digitsB s.length 2 ++ s) := by
  have hd : (digitsB s.length 2).length = 2 := digitsB_len (k := 1) (by omega)
  rw [pad48_le (by rw [List.length_append, hd]; omega), List.length_append, hd]
  congr 2
  omega
/-- The number that digits are, -1 if they are none. -/
def digB (c : UInt8) : Bool := decide (48 ≤ c.toNat) && decide (c.toNat ≤ 57)
def numR (l : Bytes) : Int := if l.all digB then (valB l : Int) else -1
theorem fold_lt : ∀ (l : Bytes) (a : Nat), l.all digB = true → l.foldl (fun a c => 10 * a + (c.toNat - 48)) a < (a + 1) * 10 ^ l.length
  | [], a, _ => by simp
  | c :: l, a, h => by
    rw [List.all_cons, Bool.and_eq_true] at h
    have h2 := h.1
    unfold digB at h2
    rw [Bool.and_eq_true, decide_eq_true_eq, decide_eq_true_eq] at h2
    have h1 := fold_lt l (10 * a + (c.toNat - 48)) h.2
    rw [List.foldl_cons, List.length_cons, Nat.pow_succ, Nat.mul_comm (10 ^ l.length) 10, ← Nat.mul_assoc]
    refine Nat.lt_of_lt_of_le h1 (Nat.mul_le_mul_right _ (by omega))
theorem valB_lt (l : Bytes) (h : l.all digB = true) : valB l < 10 ^ l.length := by
  have := fold_lt l 0 h
  rw [Nat.zero_add, Nat.one_mul] at this
  exact this
theorem numR_digits (n w : Nat) : numR (digitsB n w) = (n : Int) := by
  have h : (digitsB n w).all digB = true := by
    rw [List.all_eq_true]
    intro c hc
    unfold digB
    rw [Bool.and_eq_true, decide_eq_true_eq, decide_eq_true_eq]
    unfold digitsB at hc
    rcases List.mem_append.1 hc with hc | hc
    · rw [(List.mem_replicate.1 hc).2]; decide
    · exact decB_digit hc
  unfold numR
  rw [if_pos h]
  unfold digitsB
  rw [valB_rep, decB_eq, valB_dec]
theorem rcount_law {p room : Nat} {s : Bytes} (hr : room < 10 ^ 8) (hz : s ≠ zeroB) :
    countB p s room = if 0 ≤ numR ((s.drop 16).take 8) ∧ numR ((s.drop 16).take 8) ≤ (room : Int) ∧ headB p (numR ((s.drop 16).take 8)).toNat = s then numR ((s.drop 16).take 8) else -1 := by
  by_cases hh : ∃ n, n ≤ room ∧ headB p n = s
  · obtain ⟨n, hn, rfl⟩ := hh
    rw [countB_head hn hr, headB_num (by omega), numR_digits]
    simp only [Int.toNat_natCast]
    rw [if_pos ⟨by omega, by omega, trivial⟩]
  · rw [countB_none hz fun n hn he => hh ⟨n, hn, he⟩]
    rw [if_neg fun h => hh ⟨(numR ((s.drop 16).take 8)).toNat, by omega, h.2.2⟩]
theorem rpiece_law {p : Nat} {s : Bytes} (hl : s.length = 64) : pieceB p s = if 1 ≤ numR ((s.drop 16).take 2) ∧ numR ((s.drop 16).take 2) ≤ 46 ∧ sectorB p ((s.drop 18).take (numR ((s.drop 16).take 2)).toNat) = s then some ((s.drop 18).take (numR ((s.drop 16).take 2)).toNat) else none := by
  by_cases hh : ∃ n, 1 ≤ n ∧ n ≤ 46 ∧ sectorB p ((s.drop 18).take n) = s
  · obtain ⟨n, h1, h2, h3⟩ := hh
    have hn : ((s.drop 18).take n).length = n := by rw [List.length_take, List.length_drop]; omega
    have hv : numR ((s.drop 16).take 2) = n := by
      have h4 := (sectorB_read (place := p) (s := (s.drop 18).take n) (by omega)).2
      rw [h3, hn] at h4
      rw [h4]
      exact numR_digits n 2
    rw [hv, Int.toNat_natCast, if_pos ⟨by omega, by omega, h3⟩]
    have := pieceB_sector (place := p) (s := (s.drop 18).take n) (by omega) (by omega)
    rw [h3] at this
    exact this
  · have : pieceB p s = none := by
      unfold pieceB
      rw [find_no fun k hk => ?_]
      · rfl
      · simp only [Bool.and_eq_false_iff, decide_eq_false_iff_not, beq_eq_false_iff_ne]
        by_cases h1 : 1 ≤ k
        · exact .inr fun h2 => hh ⟨k, h1, by omega, h2⟩
        · exact .inl h1
    rw [this, if_neg fun h => hh ⟨(numR ((s.drop 16).take 2)).toNat, by omega, by omega, h.2.2⟩]
end Go.Cz.Jn
namespace Go.Proofs.YtjcjpekndeoonaaGreatDoor
open Go.RowKit Go.Cz Go.Cz.Jn
set_option linter.unusedSimpArgs false
set_option linter.unusedVariables false
attribute [local go_sem] bs_size bs_extract bs_append bs_toList
attribute [local irreducible] cList cPlan
set_option maxHeartbeats 2000000 in
theorem rdig43_c (n k : Nat) (hn : n ≤ 1000000000) (hk : k ≤ 64) (w : World) : Calls Tryz.prog 82 #[.int .i64 (n : Int), .int .i64 (k : Int)] w fun e w' => e = .returned (.string (bs (digitsB n k))) ∧ w' = w := by
  have HI := Lib.hid (Decimal_c n w hn)
  obtain ⟨d, hd⟩ : ∃ d, d = decB n := ⟨_, rfl⟩
  have hdl : d.length ≤ 20 := by rw [hd]; exact dec20 n hn
  have HD : Hid (List.replicate (k - d.length) 48 ++ d = digitsB n k) := by show _ = _; rw [hd]; rfl
  rw [← hd] at HI
  clear hd
  go_enter Tryz.func82, Tryz.ntmps82
  go_wp2_with fail
  go_at_call 78
  refine HI.out.mono ?_
  rintro e w1 ⟨rfl, hw⟩
  rw [hw]
  clear hw w1 HI
  go_wp2_with fail
  go_loopg [5] (k - d.length) (fun gk s wr => ∃ (j : Nat) (l : Bytes), gk = k - d.length - j ∧ j ≤ k - d.length ∧ s = .string (bs l) ∧ l.length = j + d.length ∧ w = wr ∧ Hid (l = List.replicate j 48 ++ d))
  case atStart => exact ⟨0, d, rfl, Nat.zero_le _, rfl, by omega, rfl, Lib.hid rfl⟩
  case round =>
    rename_i J1 K1 hJ1 hK1
    obtain ⟨j, l, rfl, hj, rfl, hl, rfl, HL⟩ := hrel
    by_cases hlt : j < k - d.length
    · have hlk : l.length < k := by omega
      have hll : l.length ≤ 84 := by omega
      have HN : Hid ((48 :: l).length = (j + 1) + d.length ∧ 48 :: l = List.replicate (j + 1) 48 ++ d) := ⟨by simp; omega, by rw [HL.out]; rfl⟩
      have HE : Hid (({ data := #[48] } : ByteArray) ++ bs l = bs (48 :: l)) := by
        show _ = _
        rw [show (⟨#[48]⟩ : ByteArray) = bs [48] from rfl, bs_append]
        rfl
      clear HL hl
      go_wp2_with fail
      rw [HE.out]
      go_roundg (k - d.length - (j + 1))
      case measure => omega
      case rel => exact ⟨j + 1, 48 :: l, rfl, by omega, rfl, HN.out.1, rfl, Lib.hid HN.out.2⟩
    · have hlk : ¬ l.length < k := by omega
      have HE : Hid (l = digitsB n k) := by
        show _ = _
        rw [HL.out, ← HD.out]
        congr 2
        omega
      clear hJ1 hK1 HL HD
      go_wp2_with fail
      go_ret
      exact ⟨by rw [HE.out]; rfl, rfl⟩
set_option maxRecDepth 10000 in
theorem zerosR_c (n : Nat) (w : World) (h1 : n ≤ 1000000) : Calls Tryz.prog 83 #[.int .i64 (n : Int)] w fun e w' => e = .returned (.string (bs (List.replicate n 0))) ∧ Below w.heap.size w w' := by
  have hz : (madeCells #[Value.int .u8 0] n) = (bcells (List.replicate n 0)).toArray := by
    apply Array.ext
    · simp [madeCells, bcells]
    · intro i h1 h2
      simp [madeCells, bcells, Nat.mod_one]
  go_enter Tryz.func83, Tryz.ntmps83
  go_wp2_with (refine wpList_plain rfl fun K hK => wp_make (.tmp 3) (.tmp 3) 56 (by rfl) 5 (.int .u8 0) 1 1 Tryz.underlying56 info_byte n n (by rfl) (by rfl) (by omega) (by omega) (by omega) ?_)
  rw [run_convert_text (P := Tryz.prog) (w.alloc (.cells (bcells (List.replicate n 0)).toArray 5)) 56 5 9 Tryz.underlying56 (by kernel_rfl) (by kernel_rfl) w.heap.size 0 n n (List.replicate n 0) 5 (0, 0) (new_heap w _ _ rfl) (by simp)]
  go_wp2_with fail
  go_ret
  exact ⟨by simp, (Below.refl _ _).alloc (Nat.le_refl _) _⟩
theorem ZeroR_c (w : World) : Calls Tryz.prog 59 #[] w fun e w' => e = .returned (.string (bs zeroB)) ∧ Below w.heap.size w w' := by
  go_enter Tryz.func59, Tryz.ntmps59
  go_wp2_with fail
  go_at_call 83
  refine (zerosR_c 64 _ (by decide)).mono ?_
  rintro e w1 ⟨rfl, hb⟩
  have HB := Lib.hid hb
  clear hb
  go_wp2_with fail
  go_ret
  exact ⟨rfl, HB.out⟩
set_option maxHeartbeats 2000000 in
theorem rseal_c (p : Nat) (c : Bytes) (hp : p ≤ 1000000000) (hc : c.length = 48) (w : World) : Calls Tryz.prog 81 #[.int .i64 (p : Int), .string (bs c)] w fun e w' => e = .returned (.string (bs (sealB p c))) ∧ w' = w := by
  have HD := Lib.hid (rdig43_c p 8 hp (by decide) w)
  obtain ⟨d, hd⟩ : ∃ d, d = digitsB p 8 := ⟨_, rfl⟩
  have hdl : d.length ≤ 28 := by rw [hd]; exact digits28 p 8 hp (by decide)
  have HS := Lib.hid (rSum_c (d ++ c) (by rw [List.length_append]; omega) w)
  obtain ⟨x, hx⟩ : ∃ x, x = sumB (d ++ c) := ⟨_, rfl⟩
  have hxl : x.length = 16 := by rw [hx]; exact sumB_len _
  have HE : Hid (x ++ c = sealB p c) := by
    show _ = _
    unfold sealB
    rw [pad48_id hc, hx, hd]
  rw [← hd] at HD
  rw [← hx] at HS
  clear hd hx
  go_enter Tryz.func81, Tryz.ntmps81
  go_wp2_with fail
  go_at_call 82
  refine HD.out.mono ?_
  rintro e w1 ⟨rfl, hw⟩
  rw [hw]
  clear hw w1 HD
  go_wp2_with fail
  go_at_call 101
  refine HS.out.mono ?_
  rintro e w1 ⟨rfl, hw⟩
  rw [hw]
  clear hw w1 HS
  go_wp2_with fail
  go_ret
  exact ⟨by rw [← HE.out]; rfl, rfl⟩
set_option maxRecDepth 10000 in
set_option maxHeartbeats 2000000 in
theorem rHead_c (p n : Nat) (hp : p ≤ 1000000000) (hn : n < 100000000) (w : World) : Calls Tryz.prog 58 #[.int .i64 (p : Int), .int .i64 (n : Int)] w fun e w' => e = .returned (.string (bs (headB p n))) ∧ Below w.heap.size w w' := by
  have HD := Lib.hid (rdig43_c n 8 (by omega) (by decide) w)
  have HC := Lib.hid (head_cont (n := n) hn)
  obtain ⟨d, hd⟩ : ∃ d, d = digitsB n 8 := ⟨_, rfl⟩
  have hdl : d.length = 8 := by rw [hd]; exact digitsB_len (k := 7) hn
  have HE : Hid (sealB p (d ++ List.replicate 40 0) = headB p n) := by
    show _ = _
    rw [hd, head_cont hn, seal_pad]
    rfl
  rw [← hd] at HD HC
  clear hd HC
  go_enter Tryz.func58, Tryz.ntmps58
  go_wp2_with fail
  go_at_call 82
  refine HD.out.mono ?_
  rintro e w1 ⟨rfl, hw⟩
  rw [hw]
  clear hw w1 HD
  go_wp2_with fail
  go_at_call 83
  refine (zerosR_c 40 w (by decide)).mono ?_
  rintro e w1 ⟨rfl, hb⟩
  obtain ⟨z, hz⟩ : ∃ z : Bytes, z = List.replicate 40 0 := ⟨_, rfl⟩
  have hzl : z.length = 40 := by rw [hz]; simp
  rw [← hz] at HE ⊢
  have HB := Lib.hid hb
  have HS := Lib.hid (rseal_c p (d ++ z) hp (by rw [List.length_append]; omega) w1)
  clear hz hb
  go_wp2_with fail
  go_at_call 81
  refine HS.out.mono ?_
  rintro e w2 ⟨rfl, hw⟩
  rw [hw]
  clear hw w2 HS
  go_wp2_with fail
  go_ret
  exact ⟨by rw [← HE.out]; rfl, HB.out⟩
set_option maxRecDepth 10000 in
set_option maxHeartbeats 2000000 in
theorem rsector_c (p : Nat) (s : Bytes) (hp : p ≤ 1000000000) (hs : s.length ≤ 46) (w : World) : Calls Tryz.prog 66 #[.int .i64 (p : Int), .string (bs s)] w fun e w' => e = .returned (.string (bs (sectorB p s))) ∧ Below w.heap.size w w' := by
  have HD := Lib.hid (rdig43_c s.length 2 (by omega) (by decide) w)
  obtain ⟨d, hd⟩ : ∃ d, d = digitsB s.length 2 := ⟨_, rfl⟩
  have hdl : d.length = 2 := by rw [hd]; exact digitsB_len (k := 1) (by omega)
  have HE : Hid (sealB p (d ++ (s ++ List.replicate (46 - s.length) 0)) = sectorB p s) := by
    show _ = _
    rw [← List.append_assoc, hd, sector_cont hs, seal_pad]
    rfl
  rw [← hd] at HD
  clear hd
  have e1 : (46 : Int) - (s.length : Int) = ((46 - s.length : Nat) : Int) := by omega
  obtain ⟨r, hr⟩ : ∃ r, r = 46 - s.length := ⟨_, rfl⟩
  rw [← hr] at HE e1
  have hr46 : r + s.length = 46 := by omega
  clear hr
  go_enter Tryz.func66, Tryz.ntmps66
  go_wp2_with fail
  go_at_call 82
  refine HD.out.mono ?_
  rintro e w1 ⟨rfl, hw⟩
  rw [hw]
  clear hw w1 HD
  go_wp2_with fail
  go_at_call 83
  refine (zerosR_c r w (by omega)).mono ?_
  rintro e w1 ⟨rfl, hb⟩
  obtain ⟨z, hz⟩ : ∃ z : Bytes, z = List.replicate r 0 := ⟨_, rfl⟩
  have hzl : z.length = r := by rw [hz]; simp
  rw [← hz] at HE ⊢
  have HB := Lib.hid hb
  have HS := Lib.hid (rseal_c p (d ++ (s ++ z)) hp (by rw [List.length_append, List.length_append]; omega) w1)
  have hz46 : z.length ≤ 46 := by omega
  clear hz hb e1 hzl hr46
  go_wp2_with fail
  go_at_call 81
  refine HS.out.mono ?_
  rintro e w2 ⟨rfl, hw⟩
  rw [hw]
  clear hw w2 HS
  go_wp2_with fail
  go_ret
  exact ⟨by rw [← HE.out]; rfl, HB.out⟩
/-- The digits so far. -/
def numTo (l : Bytes) (k n : Nat) : Prop := (l.take k).all digB = true ∧ valB (l.take k) = n
theorem numTo_step {l : Bytes} {k n : Nat} {c : UInt8} (h : numTo l k n) (hc : l[k]? = some c) (hd : digB c = true) : numTo l (k + 1) (10 * n + (c.toNat - 48)) := by
  obtain ⟨hk, rfl⟩ := List.getElem?_eq_some_iff.1 hc
  refine ⟨?_, ?_⟩
  · rw [List.take_succ_eq_append_getElem hk, List.all_append, h.1]
    simpa using hd
  · rw [List.take_succ_eq_append_getElem hk, valB_snoc, h.2]
theorem numTo_lt {l : Bytes} {k n : Nat} (h : numTo l k n) (hk : k ≤ l.length) : n < 10 ^ k := by
  have := valB_lt (l.take k) h.1
  rw [h.2, List.length_take, Nat.min_eq_left hk] at this
  exact this
theorem numTo_bad {l : Bytes} {k : Nat} {c : UInt8} (hc : l[k]? = some c) (hd : digB c = false) : numR l = -1 := by
  unfold numR
  rw [if_neg]
  intro h
  have := List.all_eq_true.1 h c (List.mem_of_getElem? hc)
  rw [hd] at this
  cases this
theorem numTo_end {l : Bytes} {k n : Nat} (h : numTo l k n) (hk : l.length ≤ k) : numR l = (n : Int) := by
  unfold numTo at h
  rw [List.take_of_length_le hk] at h
  unfold numR
  rw [if_pos h.1, h.2]
set_option maxHeartbeats 2000000 in
theorem rnumber_c (l : Bytes) (hl : l.length ≤ 8) (w : World) : Calls Tryz.prog 80 #[.string (bs l)] w fun e w' => e = .returned (.int .i64 (numR l)) ∧ w' = w := by
  obtain ⟨u, hu⟩ : ∃ u, u = bs l := ⟨_, rfl⟩
  have hus : u.size = l.length := by rw [hu, bs_size]
  have HU : Hid (∀ (i : Nat) (c : UInt8) (h : i < u.size), l[i]? = some c → u[i].toNat = c.toNat) := by
    subst hu
    exact fun i c h hc => by rw [bs_at h hc]
  rw [← hu]
  clear hu
  go_enter Tryz.func80, Tryz.ntmps80
  go_wp2_with fail
  go_loopg [3, 4] l.length (fun gk nv iv wr => ∃ k n : Nat, gk = l.length - k ∧ k ≤ l.length ∧ nv = .int .i64 (n : Int) ∧ iv = .int .i64 (k : Int) ∧ w = wr ∧ n < 100000000 ∧ Hid (numTo l k n))
  case atStart => exact ⟨0, 0, rfl, Nat.zero_le _, rfl, rfl, rfl, by omega, Lib.hid ⟨rfl, rfl⟩⟩
  case round =>
    rename_i J1 K1 hJ1 hK1
    obtain ⟨k, n, rfl, hk, rfl, rfl, rfl, hn, HN⟩ := hrel
    by_cases hlt : k < l.length
    · obtain ⟨c, hc⟩ : ∃ c, l[k]? = some c := ⟨_, List.getElem?_eq_getElem hlt⟩
      obtain ⟨d, hd⟩ : ∃ d, d = c.toNat := ⟨_, rfl⟩
      have kl : k < u.size := by omega
      have hud : u[k].toNat = d := by rw [hd]; exact HU.out k c kl hc
      have hd256 : d < 256 := by rw [hd]; exact c.toNat_lt
      have HB : Hid (digB c = (decide (48 ≤ d) && decide (d ≤ 57))) := by show _ = _; rw [hd]; rfl
      by_cases h48 : d < 48
      · have HE : Hid (numR l = -1) := numTo_bad hc (by rw [HB.out, decide_eq_false (by omega : ¬ 48 ≤ d)]; rfl)
        clear hJ1 hK1 hc hd HB HN
        go_wp2_with fail
        go_ret
        exact ⟨by rw [HE.out]; rfl, rfl⟩
      · by_cases h57 : 57 < d
        · have HE : Hid (numR l = -1) := numTo_bad hc (by rw [HB.out, decide_eq_false (by omega : ¬ d ≤ 57), Bool.and_false])
          clear hJ1 hK1 hc hd HB HN
          go_wp2_with fail
          go_ret
          exact ⟨by rw [HE.out]; rfl, rfl⟩
        · have hs := numTo_step HN.out hc (by rw [HB.out, decide_eq_true (by omega : 48 ≤ d), decide_eq_true (by omega : d ≤ 57)]; rfl)
          have hlt8 := numTo_lt hs (by omega)
          have hn2 : 10 * n + (d - 48) < 100000000 := by
            rw [hd]
            have : (10 : Nat) ^ (k + 1) ≤ 10 ^ 8 := Nat.pow_le_pow_right (by decide) (by omega)
            omega
          rw [← hd] at hs
          have HS := Lib.hid hs
          have e1 : (d : Int) - 48 = ((d - 48 : Nat) : Int) := by omega
          obtain ⟨x, hx⟩ : ∃ x, x = d - 48 := ⟨_, rfl⟩
          rw [← hx] at HS hn2 e1
          have hx10 : x < 10 := by omega
          clear hc hd HB HN hs hlt8 hx
          go_wp2_with fail
          go_roundg (l.length - (k + 1))
          case measure => omega
          case rel => exact ⟨k + 1, 10 * n + x, rfl, by omega, by go_num, by go_num, rfl, hn2, HS⟩
    · have HE : Hid (numR l = (n : Int)) := numTo_end HN.out (by omega)
      have kl : ¬ k < u.size := by omega
      clear hJ1 hK1 HN
      go_wp2_with fail
      go_ret
      exact ⟨by rw [HE.out]; rfl, rfl⟩
set_option maxHeartbeats 4000000 in
theorem rcount43_c (p room : Nat) (s : Bytes) (hp : p ≤ 1000000000) (hr : room < 10 ^ 8) (hl : s.length = 64) (w : World) :
    Calls Tryz.prog 55 #[.int .i64 (p : Int), .string (bs s), .int .i64 (room : Int)] w fun e w' => e = .returned (.int .i64 (countB p s room)) ∧ Below w.heap.size w w' := by
  have HZ : Hid (s = zeroB → countB p s room = 0) := fun h => by rw [h]; exact countB_zero _ _
  have HN : Hid (s ≠ zeroB → _) := fun h => rcount_law (p := p) hr h
  obtain ⟨c, hc⟩ : ∃ c, c = countB p s room := ⟨_, rfl⟩
  rw [← hc] at HZ HN ⊢
  obtain ⟨z, hz⟩ : ∃ z, z = zeroB := ⟨_, rfl⟩
  have HZz := Lib.hid hz
  rw [← hz] at HZ HN
  have hr1 : room < 100000000 := hr
  clear hc hz hr
  go_enter Tryz.func55, Tryz.ntmps55
  go_wp2_with fail
  go_at_call 59
  refine (ZeroR_c _).mono ?_
  rintro e w1 ⟨rfl, hb⟩
  rw [← HZz.out]
  have HB : Hid (Below w.heap.size w w1) := hb
  clear hb HZz
  by_cases hsz : s = z
  · have hq : (s == z) = true := by simpa using hsz
    have HC := Lib.hid (HZ.out hsz)
    clear HZ HN hsz
    go_wp2_with fail
    go_ret
    exact ⟨by rw [HC.out]; rfl, HB.out⟩
  · have hq : (s == z) = false := by simpa using hsz
    have HC := Lib.hid (HN.out hsz)
    clear HZ HN hsz
    go_wp2_with fail
    obtain ⟨f, hf⟩ : ∃ f, f = (s.drop 16).take 8 := ⟨_, rfl⟩
    have hfl : f.length ≤ 8 := by rw [hf, List.length_take]; omega
    rw [← hf] at HC ⊢
    clear hf
    go_at_call 80
    refine (rnumber_c f hfl _).mono ?_
    rintro e w2 ⟨rfl, hw⟩
    rw [hw]
    obtain ⟨v, hv⟩ : ∃ v, v = numR f := ⟨_, rfl⟩
    rw [← hv] at HC ⊢
    clear hw w2 hv hfl
    by_cases h0 : v < 0
    · have HV : Hid (c = -1) := by show _ = _; rw [HC.out, if_neg (by omega)]
      clear HC
      go_wp2_with fail
      go_ret
      exact ⟨by rw [HV.out]; rfl, HB.out⟩
    · by_cases h1 : (room : Int) < v
      · have HV : Hid (c = -1) := by show _ = _; rw [HC.out, if_neg (by omega)]
        clear HC
        go_wp2_with fail
        go_ret
        exact ⟨by rw [HV.out]; rfl, HB.out⟩
      · obtain ⟨n, rfl⟩ : ∃ n : Nat, v = (n : Int) := ⟨v.toNat, by omega⟩
        rw [Int.toNat_natCast] at HC
        go_wp2_with fail
        go_at_call 58
        refine (rHead_c p n hp (by omega) _).mono ?_
        rintro e w3 ⟨rfl, hb⟩
        replace HB : Hid (Below w.heap.size w w3) := HB.out.trans (hb.mono HB.out.size)
        obtain ⟨x, hx⟩ : ∃ x, x = headB p n := ⟨_, rfl⟩
        rw [← hx] at HC ⊢
        clear hb hx
        by_cases hs : x = s
        · have hxs : (x == s) = true := by simpa using hs
          have HV : Hid (c = n) := by show _ = _; rw [HC.out, if_pos ⟨by omega, by omega, hs⟩]
          clear HC hs
          go_wp2_with fail
          go_ret
          exact ⟨by rw [HV.out]; rfl, HB.out⟩
        · have hxs : (x == s) = false := by simpa using hs
          have HV : Hid (c = -1) := by show _ = _; rw [HC.out, if_neg fun h => hs h.2.2]
          clear HC hs
          go_wp2_with fail
          go_ret
          exact ⟨by rw [HV.out]; rfl, HB.out⟩
set_option maxHeartbeats 4000000 in
theorem rpiece_c (p : Nat) (s : Bytes) (hp : p ≤ 1000000000) (hl : s.length = 64) (w : World) :
    Calls Tryz.prog 56 #[.int .i64 (p : Int), .string (bs s)] w fun e w' => e = .returned (.string (bs ((pieceB p s).getD []))) ∧ Below w.heap.size w w' := by
  have HN := Lib.hid (rpiece_law (p := p) hl)
  obtain ⟨c, hc⟩ : ∃ c, c = pieceB p s := ⟨_, rfl⟩
  rw [← hc] at HN ⊢
  clear hc
  go_enter Tryz.func56, Tryz.ntmps56
  go_wp2_with fail
  obtain ⟨f, hf⟩ : ∃ f, f = (s.drop 16).take 2 := ⟨_, rfl⟩
  have hfl : f.length ≤ 8 := by rw [hf, List.length_take]; omega
  rw [← hf] at HN ⊢
  clear hf
  go_at_call 80
  refine (rnumber_c f hfl _).mono ?_
  rintro e w2 ⟨rfl, hw⟩
  rw [hw]
  obtain ⟨v, hv⟩ : ∃ v, v = numR f := ⟨_, rfl⟩
  rw [← hv] at HN ⊢
  clear hw w2 hv hfl
  by_cases h0 : v < 1
  · have HV : Hid (c = none) := by show _ = _; rw [HN.out, if_neg (by omega)]
    clear HN
    go_wp2_with fail
    go_ret
    exact ⟨by rw [HV.out]; rfl, Below.refl _ _⟩
  · by_cases h1 : (46 : Int) < v
    · have HV : Hid (c = none) := by show _ = _; rw [HN.out, if_neg (by omega)]
      clear HN
      go_wp2_with fail
      go_ret
      exact ⟨by rw [HV.out]; rfl, Below.refl _ _⟩
    · obtain ⟨n, rfl⟩ : ∃ n : Nat, v = (n : Int) := ⟨v.toNat, by omega⟩
      rw [Int.toNat_natCast] at HN
      obtain ⟨q, hq⟩ : ∃ q, q = (s.drop 18).take n := ⟨_, rfl⟩
      have hql : q.length ≤ 46 := by rw [hq, List.length_take]; omega
      rw [← hq] at HN
      have HQ := Lib.hid hq
      clear hq
      go_wp2_with fail
      rw [← HQ.out]
      go_at_call 66
      refine (rsector_c p q hp hql _).mono ?_
      rintro e w3 ⟨rfl, hb⟩
      have HB := Lib.hid hb
      obtain ⟨x, hx⟩ : ∃ x, x = sectorB p q := ⟨_, rfl⟩
      rw [← hx] at HN ⊢
      clear hb hx
      by_cases hs : x = s
      · have hxs : (x == s) = true := by simpa using hs
        have HV : Hid (c = some q) := by show _ = _; rw [HN.out, if_pos ⟨by omega, by omega, hs⟩]
        clear HN hs
        go_wp2_with fail
        go_ret
        refine ⟨?_, HB.out⟩
        rw [HV.out, Option.getD_some, HQ.out]
        show Ending.returned (.string (bs (List.take (18 + n - 18) (List.drop 18 s)))) = _
        rw [show 18 + n - 18 = n by omega]
      · have hxs : (x == s) = false := by simpa using hs
        have HV : Hid (c = none) := by show _ = _; rw [HN.out, if_neg fun h => hs h.2.2]
        clear HN hs
        go_wp2_with fail
        go_ret
        exact ⟨by rw [HV.out]; rfl, HB.out⟩
end Go.Proofs.YtjcjpekndeoonaaGreatDoor
namespace Go.Cz.Jn
set_option linter.unusedSimpArgs false
set_option linter.unusedVariables false
theorem numR_dec (n : Nat) : numR (decB n) = (n : Int) := by
  have h := numR_digits n 0
  unfold digitsB at h
  simpa using h
theorem numR_law (h : Bytes) : numB h = if 0 ≤ numR h ∧ numR h ≤ 20000 ∧ decB (numR h).toNat = h then some (numR h).toNat else none := by
  by_cases hh : ∃ n, n ≤ 20000 ∧ decB n = h
  · obtain ⟨n, hn, rfl⟩ := hh
    rw [numB_dec hn, numR_dec, Int.toNat_natCast, if_pos ⟨by omega, by omega, rfl⟩]
  · rw [if_neg fun hx => hh ⟨(numR h).toNat, by omega, hx.2.2⟩]
    cases hb : numB h with
    | none => rfl
    | some n => exact absurd ⟨n, (numB_some hb).1, (numB_some hb).2⟩ hh
/-- No colon among the first k bytes. -/
def NoColon (l : Bytes) (k : Nat) : Prop := ∀ i, i < k → l[i]? ≠ some 58
theorem colon_at {l : Bytes} {k : Nat} (h : NoColon l k) (hk : l[k]? = some 58) : l.findIdx? (· == 58) = some k := by
  rw [List.findIdx?_eq_some_iff_getElem]
  obtain ⟨hl, he⟩ := List.getElem?_eq_some_iff.1 hk
  refine ⟨hl, by rw [he]; rfl, fun j hj => ?_⟩
  have := h j hj
  rw [List.getElem?_eq_getElem (by omega)] at this
  simpa using this
theorem parse_far {l : Bytes} {k : Nat} (h0 : l ≠ []) (h : NoColon l k) (hk : l.length ≤ k ∨ (5 ≤ k ∧ l[k]? ≠ some 58)) : parseB l = none := by
  rw [parseB_step h0]
  cases hf : l.findIdx? (· == 58) with
  | none => rfl
  | some j =>
    dsimp only
    obtain ⟨hl, he, -⟩ := List.findIdx?_eq_some_iff_getElem.1 hf
    have he' : l[j]? = some 58 := by rw [List.getElem?_eq_getElem hl]; simpa using he
    have hjk : k ≤ j := by
      rcases Nat.lt_or_ge j k with h1 | h1
      · exact absurd he' (h j h1)
      · exact h1
    rcases hk with hk | ⟨h5, hk⟩
    · omega
    · have hj : 6 ≤ j := by
        rcases Nat.lt_or_ge k j with h1 | h1
        · omega
        · have : j = k := by omega
          subst this
          exact absurd he' hk
      cases hn : numB (l.take j) with
      | none => rfl
      | some n =>
        obtain ⟨h1, h2⟩ := numB_some hn
        have h3 := decB_len (k := 4) (n := n) (by omega)
        rw [h2, List.length_take] at h3
        omega
end Go.Cz.Jn
namespace Go.Proofs.YtjcjpekndeoonaaGreatDoor
open Go.RowKit Go.Cz Go.Cz.Jn
set_option linter.unusedSimpArgs false
set_option linter.unusedVariables false
attribute [local go_sem] bs_size bs_extract bs_append bs_toList
attribute [local irreducible] cList cPlan
set_option maxRecDepth 10000 in
set_option maxHeartbeats 8000000 in
theorem rParse_c (t : Bytes) (V w : World) (hV : Below V.heap.size V w) (hl : t.length ≤ 1000000000) :
    Calls Tryz.prog 57 #[.string (bs t)] w (PaP V t) := by
  have HR : Hid (TRow V w (.slice none 0 0) []) := ORow.nil hV
  clear hV
  go_enter Tryz.func57, Tryz.ntmps57
  go_wp2_with fail
  go_loopg [0, 4] t.length (fun gk x v wr => ∃ (rest : Bytes) (done : List Bytes), gk = rest.length ∧ x = .string (bs rest) ∧ rest.length ≤ 1000000000 ∧ Hid (done.length + rest.length ≤ 1000000000 ∧ parseB t = (parseB rest).map (done ++ ·)) ∧ Hid (TRow V wr v done))
  case atStart => exact ⟨t, [], rfl, rfl, hl, Lib.hid ⟨by simpa using hl, by cases parseB t <;> rfl⟩, HR⟩
  case round =>
    rename_i J1 K1 hJ1 hK1
    clear HR hl
    obtain ⟨rest, done, hgk, rfl, hrl, HP, HR⟩ := hrel
    subst gk
    by_cases h0 : rest = []
    · have hq : rest.length = 0 := by rw [h0]; rfl
      have HE : Hid (parseB t = some done) := by show _ = _; rw [HP.out.2, h0, parseB_nil]; simp
      clear hJ1 hK1 h0 HP
      go_wp2_with fail
      go_ret2
      exact .inl ⟨_, done, HE.out, rfl, HR.out⟩
    · have hpos : 0 < rest.length := List.length_pos_iff.2 h0
      have HC := Lib.hid h0
      clear h0
      obtain ⟨u, hu⟩ : ∃ u, u = bs rest := ⟨_, rfl⟩
      have hus : u.size = rest.length := by rw [hu, bs_size]
      have HU : Hid (∀ (i : Nat) (c : UInt8) (h : i < u.size), rest[i]? = some c → u[i].toNat = c.toNat) := by
        subst hu
        exact fun i c h hc => by rw [bs_at h hc]
      have HUe : Hid (∀ a b : Nat, u.extract a b = bs ((rest.drop a).take (b - a))) := by
        subst hu
        exact fun a b => bs_extract rest a b
      have Hu := Lib.hid hu
      rw [← hu]
      clear hu
      go_wp2_with fail
      go_loopg [5] 5 (fun gk cv w2 => ∃ k : Nat, gk = 5 - k ∧ k ≤ 5 ∧ k ≤ rest.length ∧ cv = .int .i64 (k : Int) ∧ wr = w2 ∧ Hid (NoColon rest k))
      case atStart => exact ⟨0, rfl, Nat.zero_le _, Nat.zero_le _, rfl, rfl, Lib.hid fun i hi => by omega⟩
      case round =>
        rename_i J2 K2 hJ2 hK2
        obtain ⟨k, rfl, hk5, hkl, rfl, rfl, HK⟩ := hrel
        by_cases hlt : k < rest.length
        · obtain ⟨c, hc⟩ : ∃ c, rest[k]? = some c := ⟨_, List.getElem?_eq_getElem hlt⟩
          obtain ⟨d, hd⟩ : ∃ d, d = c.toNat := ⟨_, rfl⟩
          have kl : k < u.size := by omega
          have hud : u[k].toNat = d := by rw [hd]; exact HU.out k c kl hc
          have hd256 : d < 256 := by rw [hd]; exact c.toNat_lt
          have HD : Hid (c = UInt8.ofNat d) := by show _ = _; rw [hd]; simp
          by_cases h58 : d = 58
          · have HK2 : Hid (rest.findIdx? (· == 58) = some k) := colon_at HK.out (by rw [hc, HD.out, h58]; rfl)
            subst h58
            clear hc hd HD HK
            have hkl2 : ¬ (rest.length : Int) ≤ (k : Int) := by omega
            have hC2 := parseB_step HC.out
            rw [HK2.out] at hC2
            dsimp only at hC2
            obtain ⟨f, hf⟩ : ∃ f, f = rest.take k := ⟨_, rfl⟩
            obtain ⟨r, hr⟩ : ∃ r, r = rest.drop (k + 1) := ⟨_, rfl⟩
            have hfl : f.length = k := by rw [hf, List.length_take]; omega
            have hrl2 : r.length + k + 1 = rest.length := by rw [hr, List.length_drop]; omega
            rw [← hf, ← hr, numR_law] at hC2
            have HX : Hid (u.extract 0 k = bs f) := by show _ = _; rw [HUe.out, hf]; simp
            have HF := Lib.hid hf
            have HRr := Lib.hid hr
            have HC2 := Lib.hid hC2
            clear hf hr hC2 HK2
            have hk45 : k < 5 ∨ ¬ k < 5 := by omega
            rcases hk45 with hk45 | hk45
            focus
              go_wp2_with fail
              rw [HX.out]
              go_at_call 80
              refine (rnumber_c f (by omega) _).mono ?_
              rintro e w2 ⟨rfl, hw⟩
              rw [hw]
              obtain ⟨v, hv⟩ : ∃ v, v = numR f := ⟨_, rfl⟩
              rw [← hv] at HC2 ⊢
              clear hw w2 hv hJ2 hK2
              go_wp2_with fail
              refine wp_region_can [8] (List.range 23) (by kernel_rfl) (by kernel_rfl) ?_
              replace HR := Lib.hid (HR.out.keep (Below.refl _ _).drew)
              by_cases hv0 : v < 0
              · have HN : Hid (parseB t = none) := by show _ = _; rw [HP.out.2, HC2.out, if_neg (by omega)]; rfl
                clear HC2 HP hJ1 hK1
                iterate 2 (first | (refine cl_do rfl rfl rfl rfl (fun _ _ => ?_); go_wp2_with fail) | (refine cl_yes rfl rfl rfl rfl (by first | rfl | simp [okB, lenV, plainV, Act.eval]) (fun _ _ => ?_); go_wp2_with fail) | (refine cl_no rfl rfl rfl ?_; go_simp))
                iterate 21 (first | (refine cl_do rfl rfl rfl rfl (fun _ _ => ?_); go_wp2_with fail) | (refine cl_yes rfl rfl rfl rfl (by first | rfl | simp [okB, lenV, plainV, Act.eval]) (fun _ _ => ?_); go_wp2_with fail) | (refine cl_no rfl rfl rfl ?_; go_simp))
                refine cl_nil ?_
                go_wp2_with fail
                go_ret2
                exact .inr ⟨HN.out, rfl, HR.out.below⟩
              · by_cases hv2 : 20000 < v
                · have HN : Hid (parseB t = none) := by show _ = _; rw [HP.out.2, HC2.out, if_neg (by omega)]; rfl
                  clear HC2 HP hJ1 hK1
                  iterate 2 (first | (refine cl_do rfl rfl rfl rfl (fun _ _ => ?_); go_wp2_with fail) | (refine cl_yes rfl rfl rfl rfl (by first | rfl | simp [okB, lenV, plainV, Act.eval]) (fun _ _ => ?_); go_wp2_with fail) | (refine cl_no rfl rfl rfl ?_; go_simp))
                  rw [decide_eq_false (show ¬ v < 0 by omega)]
                  iterate 3 (first | (refine cl_do rfl rfl rfl rfl (fun _ _ => ?_); go_wp2_with fail) | (refine cl_yes rfl rfl rfl rfl (by first | rfl | simp [okB, lenV, plainV, Act.eval]) (fun _ _ => ?_); go_wp2_with fail) | (refine cl_no rfl rfl rfl ?_; go_simp))
                  iterate 18 (first | (refine cl_do rfl rfl rfl rfl (fun _ _ => ?_); go_wp2_with fail) | (refine cl_yes rfl rfl rfl rfl (by first | rfl | simp [okB, lenV, plainV, Act.eval]) (fun _ _ => ?_); go_wp2_with fail) | (refine cl_no rfl rfl rfl ?_; go_simp))
                  refine cl_nil ?_
                  go_wp2_with fail
                  go_ret2
                  exact .inr ⟨HN.out, rfl, HR.out.below⟩
                · obtain ⟨n, rfl⟩ : ∃ n : Nat, v = (n : Int) := ⟨v.toNat, by omega⟩
                  rw [Int.toNat_natCast] at HC2
                  have HDc := Lib.hid (fun w => Decimal_c n w (by omega))
                  obtain ⟨d, hd⟩ : ∃ d, d = decB n := ⟨_, rfl⟩
                  rw [← hd] at HC2 HDc
                  clear hd
                  have hn2 : n ≤ 20000 := by omega
                  iterate 2 (first | (refine cl_do rfl rfl rfl rfl (fun _ _ => ?_); go_wp2_with fail) | (refine cl_yes rfl rfl rfl rfl (by first | rfl | simp [okB, lenV, plainV, Act.eval]) (fun _ _ => ?_); go_wp2_with fail) | (refine cl_no rfl rfl rfl ?_; go_simp))
                  rw [decide_eq_false (show ¬ (n : Int) < 0 by omega)]
                  iterate 3 (first | (refine cl_do rfl rfl rfl rfl (fun _ _ => ?_); go_wp2_with fail) | (refine cl_yes rfl rfl rfl rfl (by first | rfl | simp [okB, lenV, plainV, Act.eval]) (fun _ _ => ?_); go_wp2_with fail) | (refine cl_no rfl rfl rfl ?_; go_simp))
                  rw [decide_eq_false (show ¬ (20000 : Int) < (n : Int) by omega)]
                  iterate 3 (first | (refine cl_do rfl rfl rfl rfl (fun _ _ => ?_); go_wp2_with fail) | (refine cl_yes rfl rfl rfl rfl (by first | rfl | simp [okB, lenV, plainV, Act.eval]) (fun _ _ => ?_); go_wp2_with fail) | (refine cl_no rfl rfl rfl ?_; go_simp))
                  refine cl_ycall (i := 8) rfl rfl rfl rfl (fun K hK => ?_)
                  go_wp2_with fail
                  go_at_call 78
                  refine (HDc.out _).mono ?_
                  rintro e w3 ⟨rfl, hw⟩
                  rw [hw]
                  clear hw w3 HDc hv0 hv2
                  go_wp2_with fail
                  refine And.intro (Below.refl _ _) ?_
                  iterate 3 (first | (refine cl_do rfl rfl rfl rfl (fun _ _ => ?_); go_wp2_with fail) | (refine cl_yes rfl rfl rfl rfl (by first | rfl | simp [okB, lenV, plainV, Act.eval]) (fun _ _ => ?_); go_wp2_with fail) | (refine cl_no rfl rfl rfl ?_; go_simp))
                  rw [HX.out]
                  by_cases hdf : d = f
                  · have HC3 : Hid (parseB rest = if n ≤ r.length then (parseB (r.drop n)).map (r.take n :: ·) else none) := by
                      show _ = _
                      rw [HC2.out, if_pos ⟨by omega, by omega, hdf⟩]
                    clear HC2
                    subst hdf
                    by_cases hnr : n ≤ r.length
                    · have HP2 : Hid (parseB t = (parseB (r.drop n)).map ((done ++ [r.take n]) ++ ·)) := by
                        show _ = _
                        rw [HP.out.2, HC3.out, if_pos hnr, Option.map_map]
                        congr 1
                        funext x
                        simp
                      have hdl : done.length ≤ 1000000000 := by have := HP.out.1; omega
                      have HP1 := Lib.hid HP.out.1
                      have HX2 : Hid (u.extract (k + 1) (k + 1 + n) = bs (r.take n)) := by
                        show _ = _
                        rw [HUe.out, HRr.out, show k + 1 + n - (k + 1) = n by omega]
                      have HX3 : Hid (u.extract (k + 1 + n) rest.length = bs (r.drop n)) := by
                        show _ = _
                        rw [HUe.out, HRr.out, List.drop_drop, List.take_of_length_le (by rw [List.length_drop]; omega)]
                      have hge : ¬ (rest.length : Int) < (k : Int) + 1 + (n : Int) := by omega
                      clear HC3 HP
                      iterate 10 (first | (refine cl_do rfl rfl rfl rfl (fun _ _ => ?_); go_wp2_with fail) | (refine cl_yes rfl rfl rfl rfl (by first | rfl | simp [okB, lenV, plainV, Act.eval]) (fun _ _ => ?_); go_wp2_with fail) | (refine cl_no rfl rfl rfl ?_; go_simp))
                      rw [decide_eq_false (show ¬ (rest.length : Int) < (k : Int) + 1 + (n : Int) by omega)]
                      iterate 1 (first | (refine cl_do rfl rfl rfl rfl (fun _ _ => ?_); go_wp2_with fail) | (refine cl_yes rfl rfl rfl rfl (by first | rfl | simp [okB, lenV, plainV, Act.eval]) (fun _ _ => ?_); go_wp2_with fail) | (refine cl_no rfl rfl rfl ?_; go_simp))
                      refine cl_nil ?_
                      go_wp2_with (refine wpList_plain rfl fun K hK => wp_append (.tmp 63) (.tmp 72) 26 (by rfl) 9 _ 1 16 Tryz.underlying26 info_jstr (by rfl) (by omega) _ done.length _ (by rfl) (HR.out.row.alloc _) wr.drew.heap.size 1 1 [.string (u.extract (k + 1) (k + 1 + n))] (by rfl) (by rfl) 9 (by exact new_heap wr.drew _ _ rfl) (by simp [Value.oneCell']) (by omega) (by omega) ?_; intro v' w4 hrow hgrow hblk; have hp2 := (HR.out.keep ((Below.refl _ wr.drew).alloc (Nat.le_refl _) _)).step hrow hgrow hblk; have Hp := Lib.hid hp2; clear hp2 hrow hgrow hblk)
                      rw [HX2.out] at Hp
                      rw [HX3.out]
                      have hrl3 : (r.drop n).length ≤ 1000000000 ∧ (r.drop n).length < rest.length := by rw [List.length_drop]; omega
                      have HRl := Lib.hid hrl3
                      have HRd : Hid (done.length + (r.drop n).length + 1 ≤ 1000000000) := by
                        show _ ≤ _
                        have := HP1.out
                        omega
                      clear hrl3 hge
                      go_roundg (r.drop n).length
                      case measure => exact HRl.out.2
                      case rel =>
                        refine ⟨r.drop n, done ++ [r.take n], rfl, rfl, HRl.out.1, Lib.hid ⟨?_, HP2.out⟩, ?_⟩
                        · have := HRd.out
                          rw [List.length_append]
                          simp only [List.length_cons, List.length_nil]
                          omega
                        · have h := Hp.out
                          show Hid (ORow _ _ _ _ _ (done ++ [r.take n]).length (tcs (done ++ [r.take n])))
                          rw [List.length_append, show tcs (done ++ [r.take n]) = tcs done ++ [.string (bs (r.take n))] by simp [tcs]]
                          exact Lib.hid h
                    · have HN : Hid (parseB t = none) := by show _ = _; rw [HP.out.2, HC3.out, if_neg hnr]; rfl
                      have hge : (rest.length : Int) < (k : Int) + 1 + (n : Int) := by omega
                      clear HC3 HP hJ1 hK1
                      iterate 10 (first | (refine cl_do rfl rfl rfl rfl (fun _ _ => ?_); go_wp2_with fail) | (refine cl_yes rfl rfl rfl rfl (by first | rfl | simp [okB, lenV, plainV, Act.eval]) (fun _ _ => ?_); go_wp2_with fail) | (refine cl_no rfl rfl rfl ?_; go_simp))
                      iterate 1 (first | (refine cl_do rfl rfl rfl rfl (fun _ _ => ?_); go_wp2_with fail) | (refine cl_yes rfl rfl rfl rfl (by first | rfl | simp [okB, lenV, plainV, Act.eval]) (fun _ _ => ?_); go_wp2_with fail) | (refine cl_no rfl rfl rfl ?_; go_simp))
                      refine cl_nil ?_
                      go_wp2_with fail
                      go_ret2
                      exact .inr ⟨HN.out, rfl, HR.out.below⟩
                  · have hq2 : (d == f) = false := by simpa using hdf
                    have HN : Hid (parseB t = none) := by show _ = _; rw [HP.out.2, HC2.out, if_neg fun h => hdf h.2.2]; rfl
                    clear HC2 HP hJ1 hK1 hdf
                    iterate 11 (first | (refine cl_do rfl rfl rfl rfl (fun _ _ => ?_); go_wp2_with fail) | (refine cl_yes rfl rfl rfl rfl (by first | rfl | simp [okB, lenV, plainV, Act.eval]) (fun _ _ => ?_); go_wp2_with fail) | (refine cl_no rfl rfl rfl ?_; go_simp))
                    refine cl_nil ?_
                    go_wp2_with fail
                    go_ret2
                    exact .inr ⟨HN.out, rfl, HR.out.below⟩
            focus
              go_wp2_with fail
              rw [HX.out]
              go_at_call 80
              refine (rnumber_c f (by omega) _).mono ?_
              rintro e w2 ⟨rfl, hw⟩
              rw [hw]
              obtain ⟨v, hv⟩ : ∃ v, v = numR f := ⟨_, rfl⟩
              rw [← hv] at HC2 ⊢
              clear hw w2 hv hJ2 hK2
              go_wp2_with fail
              refine wp_region_can [8] (List.range 23) (by kernel_rfl) (by kernel_rfl) ?_
              replace HR := Lib.hid (HR.out.keep (Below.refl _ _).drew)
              by_cases hv0 : v < 0
              · have HN : Hid (parseB t = none) := by show _ = _; rw [HP.out.2, HC2.out, if_neg (by omega)]; rfl
                clear HC2 HP hJ1 hK1
                iterate 2 (first | (refine cl_do rfl rfl rfl rfl (fun _ _ => ?_); go_wp2_with fail) | (refine cl_yes rfl rfl rfl rfl (by first | rfl | simp [okB, lenV, plainV, Act.eval]) (fun _ _ => ?_); go_wp2_with fail) | (refine cl_no rfl rfl rfl ?_; go_simp))
                iterate 21 (first | (refine cl_do rfl rfl rfl rfl (fun _ _ => ?_); go_wp2_with fail) | (refine cl_yes rfl rfl rfl rfl (by first | rfl | simp [okB, lenV, plainV, Act.eval]) (fun _ _ => ?_); go_wp2_with fail) | (refine cl_no rfl rfl rfl ?_; go_simp))
                refine cl_nil ?_
                go_wp2_with fail
                go_ret2
                exact .inr ⟨HN.out, rfl, HR.out.below⟩
              · by_cases hv2 : 20000 < v
                · have HN : Hid (parseB t = none) := by show _ = _; rw [HP.out.2, HC2.out, if_neg (by omega)]; rfl
                  clear HC2 HP hJ1 hK1
                  iterate 2 (first | (refine cl_do rfl rfl rfl rfl (fun _ _ => ?_); go_wp2_with fail) | (refine cl_yes rfl rfl rfl rfl (by first | rfl | simp [okB, lenV, plainV, Act.eval]) (fun _ _ => ?_); go_wp2_with fail) | (refine cl_no rfl rfl rfl ?_; go_simp))
                  rw [decide_eq_false (show ¬ v < 0 by omega)]
                  iterate 3 (first | (refine cl_do rfl rfl rfl rfl (fun _ _ => ?_); go_wp2_with fail) | (refine cl_yes rfl rfl rfl rfl (by first | rfl | simp [okB, lenV, plainV, Act.eval]) (fun _ _ => ?_); go_wp2_with fail) | (refine cl_no rfl rfl rfl ?_; go_simp))
                  iterate 18 (first | (refine cl_do rfl rfl rfl rfl (fun _ _ => ?_); go_wp2_with fail) | (refine cl_yes rfl rfl rfl rfl (by first | rfl | simp [okB, lenV, plainV, Act.eval]) (fun _ _ => ?_); go_wp2_with fail) | (refine cl_no rfl rfl rfl ?_; go_simp))
                  refine cl_nil ?_
                  go_wp2_with fail
                  go_ret2
                  exact .inr ⟨HN.out, rfl, HR.out.below⟩
                · obtain ⟨n, rfl⟩ : ∃ n : Nat, v = (n : Int) := ⟨v.toNat, by omega⟩
                  rw [Int.toNat_natCast] at HC2
                  have HDc := Lib.hid (fun w => Decimal_c n w (by omega))
                  obtain ⟨d, hd⟩ : ∃ d, d = decB n := ⟨_, rfl⟩
                  rw [← hd] at HC2 HDc
                  clear hd
                  have hn2 : n ≤ 20000 := by omega
                  iterate 2 (first | (refine cl_do rfl rfl rfl rfl (fun _ _ => ?_); go_wp2_with fail) | (refine cl_yes rfl rfl rfl rfl (by first | rfl | simp [okB, lenV, plainV, Act.eval]) (fun _ _ => ?_); go_wp2_with fail) | (refine cl_no rfl rfl rfl ?_; go_simp))
                  rw [decide_eq_false (show ¬ (n : Int) < 0 by omega)]
                  iterate 3 (first | (refine cl_do rfl rfl rfl rfl (fun _ _ => ?_); go_wp2_with fail) | (refine cl_yes rfl rfl rfl rfl (by first | rfl | simp [okB, lenV, plainV, Act.eval]) (fun _ _ => ?_); go_wp2_with fail) | (refine cl_no rfl rfl rfl ?_; go_simp))
                  rw [decide_eq_false (show ¬ (20000 : Int) < (n : Int) by omega)]
                  iterate 3 (first | (refine cl_do rfl rfl rfl rfl (fun _ _ => ?_); go_wp2_with fail) | (refine cl_yes rfl rfl rfl rfl (by first | rfl | simp [okB, lenV, plainV, Act.eval]) (fun _ _ => ?_); go_wp2_with fail) | (refine cl_no rfl rfl rfl ?_; go_simp))
                  refine cl_ycall (i := 8) rfl rfl rfl rfl (fun K hK => ?_)
                  go_wp2_with fail
                  go_at_call 78
                  refine (HDc.out _).mono ?_
                  rintro e w3 ⟨rfl, hw⟩
                  rw [hw]
                  clear hw w3 HDc hv0 hv2
                  go_wp2_with fail
                  refine And.intro (Below.refl _ _) ?_
                  iterate 3 (first | (refine cl_do rfl rfl rfl rfl (fun _ _ => ?_); go_wp2_with fail) | (refine cl_yes rfl rfl rfl rfl (by first | rfl | simp [okB, lenV, plainV, Act.eval]) (fun _ _ => ?_); go_wp2_with fail) | (refine cl_no rfl rfl rfl ?_; go_simp))
                  rw [HX.out]
                  by_cases hdf : d = f
                  · have HC3 : Hid (parseB rest = if n ≤ r.length then (parseB (r.drop n)).map (r.take n :: ·) else none) := by
                      show _ = _
                      rw [HC2.out, if_pos ⟨by omega, by omega, hdf⟩]
                    clear HC2
                    subst hdf
                    by_cases hnr : n ≤ r.length
                    · have HP2 : Hid (parseB t = (parseB (r.drop n)).map ((done ++ [r.take n]) ++ ·)) := by
                        show _ = _
                        rw [HP.out.2, HC3.out, if_pos hnr, Option.map_map]
                        congr 1
                        funext x
                        simp
                      have hdl : done.length ≤ 1000000000 := by have := HP.out.1; omega
                      have HP1 := Lib.hid HP.out.1
                      have HX2 : Hid (u.extract (k + 1) (k + 1 + n) = bs (r.take n)) := by
                        show _ = _
                        rw [HUe.out, HRr.out, show k + 1 + n - (k + 1) = n by omega]
                      have HX3 : Hid (u.extract (k + 1 + n) rest.length = bs (r.drop n)) := by
                        show _ = _
                        rw [HUe.out, HRr.out, List.drop_drop, List.take_of_length_le (by rw [List.length_drop]; omega)]
                      have hge : ¬ (rest.length : Int) < (k : Int) + 1 + (n : Int) := by omega
                      clear HC3 HP
                      iterate 10 (first | (refine cl_do rfl rfl rfl rfl (fun _ _ => ?_); go_wp2_with fail) | (refine cl_yes rfl rfl rfl rfl (by first | rfl | simp [okB, lenV, plainV, Act.eval]) (fun _ _ => ?_); go_wp2_with fail) | (refine cl_no rfl rfl rfl ?_; go_simp))
                      rw [decide_eq_false (show ¬ (rest.length : Int) < (k : Int) + 1 + (n : Int) by omega)]
                      iterate 1 (first | (refine cl_do rfl rfl rfl rfl (fun _ _ => ?_); go_wp2_with fail) | (refine cl_yes rfl rfl rfl rfl (by first | rfl | simp [okB, lenV, plainV, Act.eval]) (fun _ _ => ?_); go_wp2_with fail) | (refine cl_no rfl rfl rfl ?_; go_simp))
                      refine cl_nil ?_
                      go_wp2_with (refine wpList_plain rfl fun K hK => wp_append (.tmp 63) (.tmp 72) 26 (by rfl) 9 _ 1 16 Tryz.underlying26 info_jstr (by rfl) (by omega) _ done.length _ (by rfl) (HR.out.row.alloc _) wr.drew.heap.size 1 1 [.string (u.extract (k + 1) (k + 1 + n))] (by rfl) (by rfl) 9 (by exact new_heap wr.drew _ _ rfl) (by simp [Value.oneCell']) (by omega) (by omega) ?_; intro v' w4 hrow hgrow hblk; have hp2 := (HR.out.keep ((Below.refl _ wr.drew).alloc (Nat.le_refl _) _)).step hrow hgrow hblk; have Hp := Lib.hid hp2; clear hp2 hrow hgrow hblk)
                      rw [HX2.out] at Hp
                      rw [HX3.out]
                      have hrl3 : (r.drop n).length ≤ 1000000000 ∧ (r.drop n).length < rest.length := by rw [List.length_drop]; omega
                      have HRl := Lib.hid hrl3
                      have HRd : Hid (done.length + (r.drop n).length + 1 ≤ 1000000000) := by
                        show _ ≤ _
                        have := HP1.out
                        omega
                      clear hrl3 hge
                      go_roundg (r.drop n).length
                      case measure => exact HRl.out.2
                      case rel =>
                        refine ⟨r.drop n, done ++ [r.take n], rfl, rfl, HRl.out.1, Lib.hid ⟨?_, HP2.out⟩, ?_⟩
                        · have := HRd.out
                          rw [List.length_append]
                          simp only [List.length_cons, List.length_nil]
                          omega
                        · have h := Hp.out
                          show Hid (ORow _ _ _ _ _ (done ++ [r.take n]).length (tcs (done ++ [r.take n])))
                          rw [List.length_append, show tcs (done ++ [r.take n]) = tcs done ++ [.string (bs (r.take n))] by simp [tcs]]
                          exact Lib.hid h
                    · have HN : Hid (parseB t = none) := by show _ = _; rw [HP.out.2, HC3.out, if_neg hnr]; rfl
                      have hge : (rest.length : Int) < (k : Int) + 1 + (n : Int) := by omega
                      clear HC3 HP hJ1 hK1
                      iterate 10 (first | (refine cl_do rfl rfl rfl rfl (fun _ _ => ?_); go_wp2_with fail) | (refine cl_yes rfl rfl rfl rfl (by first | rfl | simp [okB, lenV, plainV, Act.eval]) (fun _ _ => ?_); go_wp2_with fail) | (refine cl_no rfl rfl rfl ?_; go_simp))
                      iterate 1 (first | (refine cl_do rfl rfl rfl rfl (fun _ _ => ?_); go_wp2_with fail) | (refine cl_yes rfl rfl rfl rfl (by first | rfl | simp [okB, lenV, plainV, Act.eval]) (fun _ _ => ?_); go_wp2_with fail) | (refine cl_no rfl rfl rfl ?_; go_simp))
                      refine cl_nil ?_
                      go_wp2_with fail
                      go_ret2
                      exact .inr ⟨HN.out, rfl, HR.out.below⟩
                  · have hq2 : (d == f) = false := by simpa using hdf
                    have HN : Hid (parseB t = none) := by show _ = _; rw [HP.out.2, HC2.out, if_neg fun h => hdf h.2.2]; rfl
                    clear HC2 HP hJ1 hK1 hdf
                    iterate 11 (first | (refine cl_do rfl rfl rfl rfl (fun _ _ => ?_); go_wp2_with fail) | (refine cl_yes rfl rfl rfl rfl (by first | rfl | simp [okB, lenV, plainV, Act.eval]) (fun _ _ => ?_); go_wp2_with fail) | (refine cl_no rfl rfl rfl ?_; go_simp))
                    refine cl_nil ?_
                    go_wp2_with fail
                    go_ret2
                    exact .inr ⟨HN.out, rfl, HR.out.below⟩
          · by_cases h5 : k < 5
            · have HK2 : Hid (NoColon rest (k + 1)) := fun i hi => by
                rcases Nat.lt_or_ge i k with h1 | h1
                · exact HK.out i h1
                · have : i = k := by omega
                  subst this
                  rw [hc]
                  intro h2
                  rw [Option.some.inj h2] at hd
                  exact h58 hd
              clear hc hd HD HK
              go_wp2_with fail
              go_roundg (5 - (k + 1))
              case measure => omega
              case rel => exact ⟨k + 1, rfl, by omega, by omega, by go_num, rfl, HK2⟩
            · obtain rfl : k = 5 := by omega
              have HN : Hid (parseB t = none) := by
                show _ = _
                rw [HP.out.2, parse_far HC.out HK.out (.inr ⟨Nat.le_refl _, by rw [hc]; intro h2; rw [Option.some.inj h2] at hd; exact h58 hd⟩)]
                rfl
              have e58 : ¬ (d : Int) = 58 := by omega
              have hl5 : ¬ (rest.length : Int) ≤ 5 := by omega
              clear hc hd HD HK HP hJ1 hK1
              clear hJ2 hK2
              go_wp2_with fail
              go_ret2
              exact .inr ⟨HN.out, rfl, HR.out.below⟩
        · have HN : Hid (parseB t = none) := by
            show _ = _
            rw [HP.out.2, parse_far HC.out HK.out (.inl (by omega))]
            rfl
          have kl : ¬ k < u.size := by omega
          clear HP HK hJ1 hK1
          clear hJ2 hK2
          go_wp2_with fail
          go_ret2
          exact .inr ⟨HN.out, rfl, HR.out.below⟩
end Go.Proofs.YtjcjpekndeoonaaGreatDoor
