/-
  The reference's decimal numerals, the text of records, its pieces; records that are too long.
-/
import Derived.Test.YtjcjpekndeoonaaGreatDoorJnMore
namespace Go.Cz.Jn
theorem ten_piece {i : Nat} (h : i < 10) : (({ data := #[48, 49, 50, 51, 52, 53, 54, 55, 56, 57] } : ByteArray).extract i (i + 1)) = bs [UInt8.ofNat (48 + i)] := by
  have : ∀ i : Fin 10, (({ data := #[48, 49, 50, 51, 52, 53, 54, 55, 56, 57] } : ByteArray).extract i.1 (i.1 + 1)) = bs [UInt8.ofNat (48 + i.1)] := by decide +kernel
  exact this ⟨i, h⟩
/-- What is still to be written ahead of l. -/
def decTo (N m : Nat) (l : List UInt8) : Prop := Lib.decDigits N = (if m = 0 then [] else Lib.decDigits m) ++ l
theorem decTo_start (N : Nat) : decTo N (N / 10) [UInt8.ofNat (48 + N % 10)] := by
  unfold decTo
  rw [Lib.decDigits]
  split
  · rw [if_pos (by omega), Nat.mod_eq_of_lt ‹_›]; rfl
  · rw [if_neg (by omega)]
theorem decTo_step {N m : Nat} {l : List UInt8} (h : decTo N m l) (hm : 0 < m) : decTo N (m / 10) (UInt8.ofNat (48 + m % 10) :: l) := by
  unfold decTo at h ⊢
  rw [if_neg (by omega)] at h
  rw [h, show Lib.decDigits m = (if m / 10 = 0 then [] else Lib.decDigits (m / 10)) ++ [UInt8.ofNat (48 + m % 10)] from decTo_start m]
  simp
theorem decTo_len {N m : Nat} {l : List UInt8} (h : decTo N m l) (hN : N ≤ 1000000000) : l.length ≤ 20 := by
  have := decB_len (k := 9) (n := N) (by omega)
  rw [decB_eq] at this
  unfold decTo at h
  rw [h, List.length_append] at this
  omega
theorem lenSum_take_le (l : List Bytes) (k : Nat) : lenSum (l.take k) ≤ lenSum l := by
  have : lenSum l = lenSum (l.take k) + lenSum (l.drop k) := by
    unfold lenSum
    rw [← List.sum_append, ← List.map_append, List.take_append_drop]
  omega
theorem lenSum_text : ∀ l : List Bytes, lenSum l ≤ (textB l).length
  | [] => Nat.le_refl _
  | r :: l => by
    have h := lenSum_text l
    have e : textB (r :: l) = (decB r.length ++ 58 :: r) ++ textB l := by simp [textB]
    have e2 : lenSum (r :: l) = r.length + lenSum l := by simp [lenSum]
    rw [e, e2, List.length_append, List.length_append, List.length_cons]
    omega
theorem bcells_append (a b : Bytes) : bcells (a ++ b) = bcells a ++ bcells b := by simp [bcells]
theorem piecesB_nil : piecesB [] = [] := rfl
end Go.Cz.Jn
namespace Go.Proofs.YtjcjpekndeoonaaGreatDoor
open Go.RowKit Go.Cz Go.Cz.Jn
set_option linter.unusedSimpArgs false
set_option linter.unusedVariables false
attribute [local go_sem] bs_size bs_extract bs_append bs_toList
attribute [local irreducible] cList cPlan
set_option maxHeartbeats 2000000 in
theorem rdigits_c (N : Nat) (w : World) (hN : N ≤ 1000000000) : Calls Tryz.prog 100 #[.int .u64 (N : Int)] w fun e w' => e = .returned (.string (bs (Lib.decDigits N))) ∧ w' = w := by
  have hm10 : N % 10 < 10 := Nat.mod_lt _ (by omega)
  have H0 := Lib.hid (decTo_start N)
  have P0 := Lib.hid (ten_piece hm10)
  go_enter Tryz.func100, Tryz.ntmps100
  go_wp2_with fail
  rw [P0.out]
  clear hm10 P0
  go_loopg [0, 3] (N / 10) (fun gk m s wr => ∃ (k : Nat) (l : List UInt8), gk = k ∧ wr = w ∧ k ≤ N ∧ m = .int .u64 (k : Int) ∧ s = .string (bs l) ∧ Hid (decTo N k l))
  case atStart => exact ⟨N / 10, _, rfl, rfl, by omega, by go_num, rfl, H0⟩
  case round =>
    rename_i J1 K1 hJ1 hK1
    clear H0
    obtain ⟨k, l, rfl, rfl, hk, rfl, rfl, hv⟩ := hrel
    have hl := decTo_len hv.out hN
    by_cases h0 : 0 < gk
    · have hm10 : gk % 10 < 10 := Nat.mod_lt _ (by omega)
      have P1 := Lib.hid (ten_piece hm10)
      have HS := Lib.hid (decTo_step hv.out h0)
      go_wp2_with fail
      rw [P1.out]
      go_roundg (gk / 10)
      case measure => omega
      case rel => exact ⟨gk / 10, _, rfl, rfl, by omega, by go_num, by rw [bs_append]; rfl, HS⟩
    · obtain rfl : gk = 0 := by omega
      have He : Hid (Lib.decDigits N = l) := hv.out
      clear hJ1 hK1 hv
      go_wp2_with fail
      go_ret
      exact ⟨by rw [He.out]; rfl, rfl⟩
set_option maxHeartbeats 1000000 in
theorem Decimal_c (N : Nat) (w : World) (hN : N ≤ 1000000000) : Calls Tryz.prog 78 #[.int .i64 (N : Int)] w fun e w' => e = .returned (.string (bs (decB N))) ∧ w' = w := by
  rw [decB_eq]
  go_enter Tryz.func78, Tryz.ntmps78
  go_wp2_with fail
  go_at_call 100
  refine (rdigits_c N w hN).mono ?_
  rintro e w1 ⟨rfl, rfl⟩
  go_wp2_with fail
  go_ret
  exact ⟨rfl, rfl⟩
theorem strCells_bs' (t : Bytes) : Lib.strCells (bs t) = bcells t := rfl
theorem row_text' {w : World} {B g n cap : Nat} {t : Bytes} (h : w.ownsRow B 5 1 (.slice (some ⟨g, 0, none⟩) n cap) n (bcells t)) (hn : t.length = n) :
    (convert 56 9 (.slice (some ⟨g, 0, none⟩) n cap)).run Tryz.prog w = .ok (.string (bs t)) w := by
  have hc : Lib.Bytes w g 0 (bs t) := by
    intro i hi
    have hi' : i < t.length := by simpa [bs_size] using hi
    rw [Nat.zero_add, h.cellAt i (by omega)]
    simp only [bcells, List.getElem?_map, List.getElem?_eq_getElem hi', Option.map_some]
    rfl
  have hr := Lib.run_convert_window (P := Tryz.prog) w 56 5 9 Tryz.underlying56 Tryz.underlying5 Tryz.underlying9 g 0 (bs t) hc 0 n cap (by rw [bs_size]; omega)
  rw [Nat.zero_add] at hr
  rw [hr, bs_extract]
  simp [← hn]
theorem ORow.base {e : TypeId} {V wr : World} {v : Value} {n : Nat} {xs : List Value} (h : ORow e 1 V wr v n xs) : wr.ownsRow V.heap.size e 1 v n xs := by
  refine ⟨h.row.1, ?_⟩
  rcases h.row.2 with h0 | ⟨g, cap, cur, h1, h2, h3⟩
  · exact .inl h0
  · exact .inr ⟨g, cap, cur, h1, h.new g (by rw [h1]; rfl), h3⟩
theorem ORow.ofText {e : TypeId} {V wr W : World} {v v' : Value} {n m : Nat} {xs ys : List Value} (h : ORow e 1 V wr v n xs) (hrow : W.ownsRow V.heap.size e 1 v' m ys) (hgrow : wr.grownBy W v.ownBlock) : ORow e 1 V W v' m ys := by
  refine ⟨⟨hrow.1, ?_⟩, fun k hk => (hrow.lt k hk).1, h.below.grown hgrow h.below.size h.new⟩
  rcases hrow.2 with h0 | ⟨g, cap, cur, h1, h2, h3⟩
  · exact .inl h0
  · exact .inr ⟨g, cap, cur, h1, Nat.zero_le _, h3⟩
abbrev BRow (V w : World) (v : Value) (t : Bytes) : Prop := ORow 5 1 V w v t.length (bcells t)
theorem brow_form {V w : World} {v : Value} {t : Bytes} (h : BRow V w v t) (h0 : t ≠ []) : ∃ g c, v = .slice (some ⟨g, 0, none⟩) t.length c := by
  rcases h.at with ⟨-, h1⟩ | ⟨g, c, h1, -⟩
  · exact absurd (List.length_eq_zero_iff.1 h1) h0
  · exact ⟨g, c, h1⟩
set_option maxRecDepth 10000 in
set_option maxHeartbeats 4000000 in
theorem Joined_c (x : Option Addr) (n c : Nat) (l : List Bytes) (w : World) (h : IsTexts w x n l) (hl : (textB l).length ≤ 1000000) (hn : n ≤ 1000000) :
    Calls Tryz.prog 43 #[.slice x n c] w fun e w' => e = .returned (.string (bs (textB l))) ∧ Below w.heap.size w w' := by
  have HI := Lib.hid h
  have HL := Lib.hid hl
  have hlen := h.len
  have HLs : Hid (∀ k, lenSum (l.take k) ≤ 1000000) := fun k => by
    have h1 := lenSum_take_le l k
    have h2 := lenSum_text l
    omega
  clear h hl
  obtain ⟨i0, hi0, hz0, hz1, hz2⟩ := info_parts info_byte
  have HInf := Lib.hid (And.intro hi0 (And.intro hz0 (And.intro hz1 hz2)))
  clear hi0 hz0 hz1 hz2
  go_enter Tryz.func43, Tryz.ntmps43
  go_wp2_with fail
  go_loopg [3, 4] n (fun gk s i wr => ∃ k : Nat, gk = n - k ∧ k ≤ n ∧ w = wr ∧ i = .int .i64 (k : Int) ∧ s = .int .i64 ((lenSum (l.take k) + 21 * k : Nat) : Int))
  case atStart => exact ⟨0, rfl, Nat.zero_le _, rfl, rfl, rfl⟩
  case round =>
    rename_i J1 K1 hJ1 hK1
    obtain ⟨k, rfl, hk, rfl, rfl, rfl⟩ := hrel
    by_cases hlt : k < n
    · obtain ⟨g, off, s, rfl, hs, hg, cs⟩ := HI.out.get hlt
      have h1 := lenSum_take hs
      have h2 := HLs.out (k + 1)
      obtain ⟨q, hq⟩ : ∃ q, q = lenSum (l.take k) + 21 * k := ⟨_, rfl⟩
      rw [← hq]
      have hsl : s.length ≤ 1000000 := by omega
      have hql : q ≤ 100000000 := by omega
      have HE : Hid (lenSum (l.take (k + 1)) + 21 * (k + 1) = q + (s.length + 21)) := by show _ = _; omega
      clear h1 h2 hs hq
      go_wp2_with fail
      go_roundg (n - (k + 1))
      case measure => omega
      case rel => exact ⟨k + 1, rfl, by omega, rfl, by go_num, by rw [HE.out]; go_num⟩
    · obtain rfl : k = n := by omega
      clear hJ1 hK1
      have h2 := HLs.out k
      obtain ⟨N, hN⟩ : ∃ N, N = lenSum (l.take k) + 21 * k := ⟨_, rfl⟩
      rw [← hN]
      have hN1 : N ≤ 100000000 := by omega
      clear hN h2
      go_wp2_with (refine wpList_plain rfl fun K hK => wp_make (.const (.int .i64 0)) (.tmp 21) 56 (by rfl) 5 (.int .u8 0) 1 1 Tryz.underlying56 info_byte 0 N (by rfl) (by rfl) (by omega) (by omega) (by omega) ?_)
      obtain ⟨W1, hW1⟩ : ∃ W1, W1 = w.alloc (.cells (madeCells #[.int .u8 0] N) 5) := ⟨_, rfl⟩
      obtain ⟨g1, hg1⟩ : ∃ g1, g1 = w.heap.size := ⟨_, rfl⟩
      have HR : Hid (BRow w W1 (.slice (some ⟨g1, 0, none⟩) 0 N) (textB (l.take 0))) := by
        rw [hW1, hg1]
        refine ⟨?_, fun k hk => ?_, (Below.refl _ w).alloc (Nat.le_refl _) _⟩
        · have hown0 := World.ownsRow_made (base := 0) (e := 5) (size := 1) w (madeCells #[.int .u8 0] (N * 1)) N (Nat.zero_le _) (by unfold maxLen; omega) (by simp [madeCells])
          rw [Nat.mul_one] at hown0
          exact hown0
        · simp [Value.ownBlock] at hk
          omega
      rw [← hg1, ← hW1]
      clear hg1 hW1
      go_loopg [5, 6] k (fun gk v i wr => ∃ q : Nat, gk = k - q ∧ q ≤ k ∧ i = .int .i64 (q : Int) ∧ Hid (BRow w wr v (textB (l.take q))) ∧ Hid (∃ g cp, v = .slice (some ⟨g, 0, none⟩) (textB (l.take q)).length cp))
      case atStart => exact ⟨0, rfl, Nat.zero_le _, rfl, HR, Lib.hid ⟨_, _, rfl⟩⟩
      case round =>
        rename_i J2 K2 hJ2 hK2
        clear HR
        obtain ⟨q, rfl, hq, rfl, HR, HV⟩ := hrel
        obtain ⟨t, ht⟩ : ∃ t, t = textB (l.take q) := ⟨_, rfl⟩
        rw [← ht] at HR HV
        have htl : t.length ≤ 1000000 := by
          rw [ht]
          exact Nat.le_trans (textB_le (l := l) q) HL.out
        by_cases hlt : q < k
        · obtain ⟨b, off, s, rfl, hs, hb0, cs0⟩ := HI.out.get hlt
          have HC : Hid (∀ w', Below w.heap.size w w' → b < w'.heap.size ∧ w'.cell? ⟨b, off + q, none⟩ = some (.string (bs s))) := fun w' hb => ⟨Nat.lt_of_lt_of_le hb0 hb.size, by rw [hb.cell (p := ⟨b, off + q, none⟩) hb0]; exact cs0⟩
          clear hb0 cs0
          obtain ⟨hb, cs⟩ := HC.out _ HR.out.below
          obtain ⟨d, hd⟩ : ∃ d, d = decB s.length := ⟨_, rfl⟩
          have HU : Hid (textB (l.take (q + 1)) = t ++ d ++ ([58] : Bytes) ++ s) := by
            show _ = _
            rw [textB_take hs, ← ht, hd]
            simp
          have hsl : s.length ≤ 1000000 := by
            have h1 := textB_le (l := l) (q + 1)
            rw [HU.out] at h1
            have h2 := HL.out
            simp only [List.length_append] at h1
            omega
          have hdl : d.length ≤ 20 := by rw [hd]; exact dec20 _ (by omega)
          have HD := Lib.hid (Decimal_c s.length wr (by omega))
          rw [← hd] at HD
          clear hd hs ht
          have HL58 : Hid (List.length (t ++ d ++ ([58] : Bytes)) = List.length (t ++ d) + 1) := by show List.length _ = _; rw [List.length_append]; rfl
          have HL59 : Hid (List.length (t ++ d ++ ([58] : Bytes) ++ s) = List.length (t ++ d ++ ([58] : Bytes)) + List.length s) := by show List.length _ = _; rw [List.length_append]
          go_wp2_with fail
          go_at_call 78
          refine HD.out.mono ?_
          rintro e w2 ⟨rfl, hw⟩
          rw [hw]
          clear hw w2 HD
          go_wp2_with (first | (at_builtin; (refine Lib.wpList_append_own_string _ rfl (.tmp 29) (.tmp 35) 56 9 rfl w.heap.size 5 i0 Tryz.underlying56 Tryz.underlying9 HInf.out.1 HInf.out.2.1 HInf.out.2.2.1 HInf.out.2.2.2 _ t.length (bcells t) rfl (ORow.base (e := 5) HR.out) (bs d) rfl (by rw [bs_size]; unfold maxLen; omega) (by rw [bs_size]; omega) HR.out.below.size ?_; intro v1 w3 hrow hgrow hblk; have HR1 := Lib.hid (ORow.ofText (v' := v1) (ys := bcells (t ++ d)) (m := (t ++ d).length) HR.out (by rw [List.length_append, bcells_append]; simpa [bs_size, strCells_bs'] using hrow) hgrow); clear hrow hgrow hblk)) | (at_builtin; go_loud (refine wpList_plain rfl fun K hK => wp_append (.tmp 37) (.tmp 38) 56 (by rfl) 5 _ 1 1 Tryz.underlying56 info_byte (by rfl) (by omega) _ (t ++ d).length _ (by rfl) (HR1.out.keep ((Below.refl w3.heap.size w3).alloc (Nat.le_refl _) (.cells #[.int .u8 58] 5))).row w3.heap.size 1 1 [.int .u8 58] (by rfl) (by rfl) 5 (by exact new_heap w3 _ _ rfl) (by simp [Value.oneCell']) (by rw [List.length_append]; omega) (by rw [List.length_append]; omega) ?_; intro v2 w4 hrow hgrow hblk; have HR2 := Lib.hid ((HR1.out.keep ((Below.refl w3.heap.size w3).alloc (Nat.le_refl _) (.cells #[.int .u8 58] 5))).step (v' := v2) (ys := bcells (t ++ d ++ ([58] : Bytes))) (m := (t ++ d ++ ([58] : Bytes)).length) (by rw [HL58.out, bcells_append (t ++ d)]; exact hrow) hgrow hblk); clear hrow hgrow hblk HR1 hb cs; obtain ⟨hb, cs⟩ := HC.out _ HR2.out.below)) | (at_builtin; go_loud (refine Lib.wpList_append_own_string _ rfl (.tmp 40) (.tmp 44) 56 9 rfl w.heap.size 5 i0 Tryz.underlying56 Tryz.underlying9 HInf.out.1 HInf.out.2.1 HInf.out.2.2.1 HInf.out.2.2.2 _ (t ++ d ++ ([58] : Bytes)).length (bcells (t ++ d ++ ([58] : Bytes))) rfl (ORow.base (e := 5) HR2.out) (bs s) rfl (by rw [bs_size]; simp only [List.length_append, List.length_cons, List.length_nil]; unfold maxLen; omega) (by rw [bs_size]; simp only [List.length_append, List.length_cons, List.length_nil]; omega) HR2.out.below.size ?_; intro v3 w5 hrow hgrow hblk; have HR3 := Lib.hid (ORow.ofText (v' := v3) (ys := bcells (t ++ d ++ ([58] : Bytes) ++ s)) (m := (t ++ d ++ ([58] : Bytes) ++ s).length) HR2.out (by rw [HL59.out, bcells_append (t ++ d ++ ([58] : Bytes))]; simpa [bs_size, strCells_bs'] using hrow) hgrow); clear hrow hgrow hblk)))
          obtain ⟨u, hu⟩ : ∃ u, u = t ++ d ++ ([58] : Bytes) ++ s := ⟨_, rfl⟩
          rw [← hu] at HR3 HU
          have HV3 := Lib.hid (brow_form HR3.out (by rw [hu]; simp))
          rw [← HU.out] at HR3 HV3
          clear hu HU HR HV HR2
          go_roundg (k - (q + 1))
          case measure => omega
          case rel => exact ⟨q + 1, rfl, by omega, by go_num, HR3, HV3⟩
        · obtain rfl : q = k := by omega
          have he : textB (l.take q) = textB l := by rw [List.take_of_length_le (by omega)]
          rw [he] at ht
          subst ht
          obtain ⟨g, cp, rfl⟩ := HV.out
          have hcv := row_text' HR.out.row rfl
          have HB := Lib.hid HR.out.below
          clear hJ2 hK2 HR HV he
          go_wp2_with fail
          go_ret
          exact ⟨rfl, HB.out⟩
set_option maxHeartbeats 1000000 in
theorem RText_c (x : Option Addr) (n c : Nat) (l : List Bytes) (w : World) (h : IsTexts w x n l) (hl : (textB l).length ≤ 1000000) (hn : n ≤ 1000000) :
    Calls Tryz.prog 11 #[.slice x n c] w fun e w' => e = .returned (.string (bs (textB l))) ∧ Below w.heap.size w w' := by
  have HJ := Lib.hid (Joined_c x n c l w h hl hn)
  clear h hl hn
  go_enter Tryz.func11, Tryz.ntmps11
  go_wp2_with fail
  go_at_call 43
  refine HJ.out.mono ?_
  rintro e w1 ⟨rfl, hb⟩
  have HB := Lib.hid hb
  clear hb HJ
  go_wp2_with fail
  go_ret
  exact ⟨rfl, HB.out⟩
set_option maxRecDepth 10000 in
set_option maxHeartbeats 2000000 in
theorem RLong_c (x : Option Addr) (n c : Nat) (l : List Bytes) (w : World) (h : IsTexts w x n l) (hl : ∀ s ∈ l, s.length ≤ 1000000000) (hn : n ≤ 1000000) :
    Calls Tryz.prog 12 #[.slice x n c] w fun e w' => e = .returned (.bool (longB l)) ∧ w' = w := by
  have HI := Lib.hid h
  have HL := Lib.hid hl
  have hlen := h.len
  clear h hl
  go_enter Tryz.func12, Tryz.ntmps12
  go_wp2_with fail
  go_loopg [3] n (fun gk i wr => ∃ k : Nat, gk = n - k ∧ k ≤ n ∧ w = wr ∧ i = .int .i64 (k : Int) ∧ Hid (longB (l.take k) = false))
  case atStart => exact ⟨0, rfl, Nat.zero_le _, rfl, rfl, Lib.hid rfl⟩
  case round =>
    rename_i J1 K1 hJ1 hK1
    obtain ⟨k, rfl, hk, rfl, rfl, HF⟩ := hrel
    by_cases hlt : k < n
    · obtain ⟨g, off, s, rfl, hs, hg, cs⟩ := HI.out.get hlt
      have hsl := HL.out s (List.mem_of_getElem? hs)
      have HT : Hid (longB (l.take (k + 1)) = decide (20000 < s.length)) := by
        show _ = _
        obtain ⟨hk2, rfl⟩ := List.getElem?_eq_some_iff.1 hs
        rw [List.take_succ_eq_append_getElem hk2]
        have := HF.out
        unfold longB at this ⊢
        rw [List.any_append, this]
        simp
      have HM := Lib.hid (List.mem_of_getElem? hs)
      clear hs
      by_cases h2 : 20000 < s.length
      · have HE : Hid (longB l = true) := List.any_eq_true.2 ⟨s, HM.out, decide_eq_true h2⟩
        have h2' : (20000 : Int) < (s.length : Int) := by omega
        clear hJ1 hK1 h2
        go_wp2_with fail
        go_ret
        exact ⟨by rw [HE.out]; rfl, rfl⟩
      · have HE : Hid (longB (l.take (k + 1)) = false) := by show _ = _; rw [HT.out]; exact decide_eq_false h2
        have h2' : ¬ (20000 : Int) < (s.length : Int) := by omega
        clear h2
        go_wp2_with fail
        go_roundg (n - (k + 1))
        case measure => omega
        case rel => exact ⟨k + 1, rfl, by omega, rfl, by go_num, HE⟩
    · obtain rfl : k = n := by omega
      have HE : Hid (longB l = false) := by have := HF.out; rwa [List.take_of_length_le (by omega)] at this
      clear hJ1 hK1
      go_wp2_with fail
      go_ret
      exact ⟨by rw [HE.out]; rfl, rfl⟩
set_option maxRecDepth 10000 in
set_option maxHeartbeats 4000000 in
theorem RPieces_c (t : Bytes) (V w : World) (hV : Below V.heap.size V w) (hl : t.length ≤ 1000000000) :
    Calls Tryz.prog 10 #[.string (bs t)] w fun e w' => ∃ v, e = .returned v ∧ TRow V w' v (piecesB t) := by
  have HR : Hid (TRow V w (.slice none 0 0) []) := ORow.nil hV
  clear hV
  go_enter Tryz.func10, Tryz.ntmps10
  go_wp2_with fail
  go_loopg [3, 4] t.length (fun gk v i wr => ∃ (k : Nat) (done : List Bytes), gk = t.length - k ∧ i = .int .i64 (k : Int) ∧ k ≤ t.length + 46 ∧ Hid (done.length ≤ k ∧ piecesB t = done ++ piecesB (t.drop k)) ∧ Hid (TRow V wr v done))
  case atStart => exact ⟨0, [], rfl, rfl, Nat.zero_le _, Lib.hid ⟨by simp, rfl⟩, HR⟩
  case round =>
    rename_i J1 K1 hJ1 hK1
    clear HR
    obtain ⟨k, done, hgk, rfl, hk, HP, HR⟩ := hrel
    subst gk
    by_cases hlt : k < t.length
    · have hne : t.drop k ≠ [] := by simp; omega
      obtain ⟨z, hz⟩ : ∃ z : Nat, z = min (k + 46) t.length := ⟨_, rfl⟩
      have e1 : min ((k : Int) + 46) (t.length : Int) = (z : Int) := by omega
      have hz1 : k ≤ z := by omega
      have hz2 : z ≤ t.length := by omega
      have HN : Hid ((t.drop k).take (z - k) = (t.drop k).take 46) := by
        show _ = _
        rcases Nat.le_total (k + 46) t.length with h | h
        · rw [show z - k = 46 by omega]
        · rw [List.take_of_length_le (by rw [List.length_drop]; omega), List.take_of_length_le (by rw [List.length_drop]; omega)]
      have HC := Lib.hid (piecesB_cons hne)
      clear hz hne
      have hdl : done.length ≤ 1000000046 := by have := HP.out.1; omega
      go_wp2_with (refine wpList_plain rfl fun K hK => wp_append (.tmp 11) (.tmp 20) 26 (by rfl) 9 _ 1 16 Tryz.underlying26 info_jstr (by rfl) (by omega) _ done.length _ (by rfl) (HR.out.row.alloc _) wr.heap.size 1 1 [.string (bs ((t.drop k).take (z - k)))] (by rfl) (by rfl) 9 (by exact new_heap wr _ _ rfl) (by simp [Value.oneCell']) (by omega) (by omega) ?_; intro v' w2 hrow hgrow hblk; have hp2 := (HR.out.keep ((Below.refl _ wr).alloc (Nat.le_refl _) _)).step hrow hgrow hblk; have Hp := Lib.hid hp2; clear hp2 hrow hgrow hblk)
      go_roundg (t.length - (k + 46))
      case measure => omega
      case rel =>
        refine ⟨k + 46, done ++ [(t.drop k).take (z - k)], rfl, by go_num, by omega, Lib.hid ⟨?_, ?_⟩, ?_⟩
        · have := HP.out.1
          rw [List.length_append]
          simp
          omega
        · rw [HP.out.2, HC.out, List.append_assoc, HN.out, List.drop_drop]
          rfl
        · have h := Hp.out
          show Hid (ORow _ _ _ _ _ (done ++ [(t.drop k).take (z - k)]).length (tcs (done ++ [(t.drop k).take (z - k)])))
          rw [List.length_append, show tcs (done ++ [(t.drop k).take (z - k)]) = tcs done ++ [.string (bs ((t.drop k).take (z - k)))] by simp [tcs]]
          exact Lib.hid h
    · have HE : Hid (piecesB t = done) := by
        show _ = _
        rw [HP.out.2, List.drop_of_length_le (by omega), piecesB_nil, List.append_nil]
      clear hJ1 hK1 HP
      go_wp2_with fail
      go_ret
      exact ⟨_, rfl, by rw [HE.out]; exact HR.out⟩
end Go.Proofs.YtjcjpekndeoonaaGreatDoor
