/-
  'two', 'Text', and 'Cut' at one byte.
-/
import Derived.Test.YthnhbiogaikpoaaDoorClValid
import Derived.Test.YthnhbiogaikpoaaDoorShelf
import Derived.Lib.ItoaMem
import Derived.Lib.ItoaLen
import Derived.Deep.QuietTactic
import Derived.BigQuiet
import Derived.Lib.AppendIntMem
namespace Go.Proofs.YthnhbiogaikpoaaDoor
open Go.RowKit Go.Cz Go.Cz.Ck
set_option linter.unusedSimpArgs false
set_option linter.unusedVariables false
attribute [local go_sem] bs_size bs_extract bs_append bs_toList
attribute [local irreducible] cList

/-- What a law knows of the library's variables. -/
structure Std (W : World) : Prop where
  tab : Lib.TabIs Tryd.prog W "internal/strconv.uint64pow10" .u64 Lib.pow10Tab
  syn : ∃ t p, W.var? Tryd.prog "strconv.ErrSyntax" = some #[.iface t p]
  rng : ∃ t p, W.var? Tryd.prog "strconv.ErrRange" = some #[.iface t p]
theorem var_below {w w' : World} {n : String} {g : Nat} {cs : Array Value} (hg : Tryd.prog.globalNamed n = some g) (h : w.var? Tryd.prog n = some cs) (hb : Below w.heap.size w w') : w'.var? Tryd.prog n = some cs := by
  unfold World.var? at h ⊢
  rw [hg] at h ⊢
  simp only [Option.bind_some] at h ⊢
  have hlt : g < w.heap.size := by
    rcases Nat.lt_or_ge g w.heap.size with h' | h'
    · exact h'
    · rw [Array.getElem?_eq_none h'] at h; cases h
  rw [hb.block g hlt]
  exact h
theorem g_tab : Tryd.prog.globalNamed "internal/strconv.uint64pow10" = some 3 := by kernel_rfl
theorem g_syn : Tryd.prog.globalNamed "strconv.ErrSyntax" = some 1 := by kernel_rfl
theorem g_rng : Tryd.prog.globalNamed "strconv.ErrRange" = some 2 := by kernel_rfl
theorem Std.below {w w' : World} (h : Std w) (hb : Below w.heap.size w w') : Std w' := by
  refine ⟨var_below g_tab h.tab hb, ?_, ?_⟩
  · obtain ⟨t, p, h1⟩ := h.syn; exact ⟨t, p, var_below g_syn h1 hb⟩
  · obtain ⟨t, p, h1⟩ := h.rng; exact ⟨t, p, var_below g_rng h1 hb⟩
theorem Itoa_c (n : Nat) (w : World) (hn : n ≤ 1000000000) (hs : Std w) : Calls Tryd.prog 30 #[.int .i64 (n : Int)] w fun e w' => e = .returned (.string (bs (Lib.decDigits n))) ∧ Below w.heap.size w w' := by
  refine (Tryd.strconv_Itoa (n : Int) (by omega) (by omega) w hs.tab).mono ?_
  rintro e w' ⟨rfl, k, os, rfl⟩
  exact ⟨by rw [Lib.itoa_nonneg]; rfl, Lib.below_grow _ w (Nat.le_refl _) k os⟩
def twoL (n : Nat) : List UInt8 := Lib.decDigits (n / 10) ++ Lib.decDigits (n % 10)
theorem len_dec (n : Nat) (h : n < 18446744073709551616) : (Lib.decDigits n).length ≤ 20 := by rw [Lib.decDigits_length]; exact Lib.nDigits_le20 n h
theorem len_two (n : Nat) (h : n < 100) : (twoL n).length ≤ 40 := by
  have h1 := len_dec (n / 10) (by omega)
  have h2 := len_dec (n % 10) (by omega)
  unfold twoL
  rw [List.length_append]
  omega
set_option maxHeartbeats 1000000 in
theorem two_c (n : Nat) (w : World) (hn : n < 100) : Calls Tryd.prog 31 #[.int .i64 (n : Int)] w fun e w' => e = .returned (.string (bs (twoL n))) ∧ w' = w := by
  have h1 := len_dec (n / 10) (by omega)
  have h2 := len_dec (n % 10) (by omega)
  have H1 := Lib.hid fun w => Tryd.strconv_Itoa_small (n / 10) (by omega) w
  have H2 := Lib.hid fun w => Tryd.strconv_Itoa_small (n % 10) (by omega) w
  have e1 : ((n / 10 : Nat) : Int) = (n : Int) / 10 := by omega
  have e2 : ((n % 10 : Nat) : Int) = (n : Int) % 10 := by omega
  have E := Lib.hid (And.intro e1 e2)
  clear e1 e2
  go_enter Tryd.func31, Tryd.ntmps31
  go_wp2_with fail
  go_at_call 30
  rw [← E.out.1]
  refine (H1.out _).mono ?_
  rintro e w1 ⟨rfl, rfl⟩
  go_wp2_with fail
  go_at_call 30
  rw [← E.out.2]
  refine (H2.out _).mono ?_
  rintro e w1 ⟨rfl, rfl⟩
  go_wp2_with fail
  go_ret
  refine ⟨?_, rfl⟩
  show Ending.returned (.string (bs _ ++ bs _)) = _
  rw [bs_append]
  rfl
def textL (n : Nat) : List UInt8 := Lib.decDigits (n / 1440) ++ [47] ++ twoL (n % 1440 / 60) ++ [58] ++ twoL (n % 60)
/-- What 'Text' answers. -/
def textF (t : Int) : List UInt8 × Int := if instB t then (textL t.toNat, 0) else ([], 1)
set_option maxHeartbeats 1000000 in
theorem Text_bad (t : Int) (w : World) (ht : instB t = false) : Calls Tryd.prog 18 #[.int .i64 t] w fun e w' => e = .returned (.tuple #[.string (bs []), .int .i64 1]) ∧ w' = w := by
  have HI := Lib.hid fun w => ht ▸ instant_c t w
  clear ht
  go_enter Tryd.func18, Tryd.ntmps18
  go_wp2_with fail
  go_at_call 26
  refine (HI.out _).mono ?_
  rintro e w1 ⟨rfl, rfl⟩
  go_wp2_with fail
  go_ret2
  exact ⟨rfl, rfl⟩
set_option maxHeartbeats 2000000 in
theorem Text_ok (n : Nat) (w : World) (hn : n ≤ 144001439) (hs : Std w) : Calls Tryd.prog 18 #[.int .i64 (n : Int)] w fun e w' => e = .returned (.tuple #[.string (bs (textL n)), .int .i64 0]) ∧ Below w.heap.size w w' := by
  have hi : instB (n : Int) = true := instB_true.2 ⟨by omega, by omega⟩
  have HI := Lib.hid fun w => hi ▸ instant_c (n : Int) w
  clear hi
  have HT := Lib.hid (Itoa_c (n / 1440) w (by omega) hs)
  have H1 := Lib.hid fun w => two_c (n % 1440 / 60) w (by omega)
  have H2 := Lib.hid fun w => two_c (n % 60) w (by omega)
  have l0 := len_dec (n / 1440) (by omega)
  have l1 := len_two (n % 1440 / 60) (by omega)
  have l2 := len_two (n % 60) (by omega)
  have e0 : ((n / 1440 : Nat) : Int) = (n : Int) / 1440 := by omega
  have e1 : ((n % 1440 / 60 : Nat) : Int) = (n : Int) % 1440 / 60 := by omega
  have e2 : ((n % 60 : Nat) : Int) = (n : Int) % 60 := by omega
  have E := Lib.hid (And.intro e0 (And.intro e1 e2))
  have HL : Hid (bs (Lib.decDigits (n / 1440)) ++ { data := #[47] } ++ bs (twoL (n % 1440 / 60)) ++ { data := #[58] } ++ bs (twoL (n % 60)) = bs (textL n)) := by
    show _ = _
    rw [show ({ data := #[47] } : ByteArray) = bs [47] from rfl, show ({ data := #[58] } : ByteArray) = bs [58] from rfl, bs_append, bs_append, bs_append, bs_append]
    rfl
  clear hs e0 e1 e2
  generalize Lib.decDigits (n / 1440) = d0 at *
  generalize twoL (n % 1440 / 60) = d1 at *
  generalize twoL (n % 60) = d2 at *
  go_enter Tryd.func18, Tryd.ntmps18
  go_wp2_with fail
  go_at_call 26
  refine (HI.out _).mono ?_
  rintro e w1 ⟨rfl, rfl⟩
  go_wp2_with fail
  go_at_call 30
  rw [← E.out.1]
  refine HT.out.mono ?_
  rintro e w2 ⟨rfl, hb⟩
  have Hb := Lib.hid hb
  clear hb
  go_wp2_with fail
  go_at_call 31
  rw [← E.out.2.1]
  refine (H1.out _).mono ?_
  rintro e w3 ⟨rfl, rfl⟩
  go_wp2_with fail
  go_at_call 31
  rw [← E.out.2.2]
  refine (H2.out _).mono ?_
  rintro e w4 ⟨rfl, rfl⟩
  go_wp2_with fail
  go_ret2
  refine ⟨?_, Hb.out⟩
  rw [← HL.out]
  rfl
theorem Text_c (t : Int) (w : World) (hs : Std w) : Calls Tryd.prog 18 #[.int .i64 t] w fun e w' => e = .returned (.tuple #[.string (bs (textF t).1), .int .i64 (textF t).2]) ∧ Below w.heap.size w w' := by
  cases h : instB t with
  | true =>
    obtain ⟨h0, h1⟩ := instB_true.1 h
    obtain ⟨n, rfl⟩ : ∃ n : Nat, t = n := ⟨t.toNat, by omega⟩
    unfold textF
    rw [if_pos h]
    exact Text_ok n w (by omega) hs
  | false =>
    refine (Text_bad t w h).mono ?_
    rintro e w' ⟨rfl, rfl⟩
    refine ⟨by unfold textF; rw [if_neg (by simp [h])], Below.refl _ _⟩
/-- What lies before and behind the first byte c. -/
def cutL (l : List UInt8) (c : UInt8) : List UInt8 × List UInt8 := if 0 ≤ Lib.indexByte l c then (l.take (Lib.indexByte l c).toNat, l.drop ((Lib.indexByte l c).toNat + 1)) else (l, [])
theorem indexByte_lt : ∀ (l : List UInt8) (c : UInt8), Lib.indexByte l c < l.length
  | [], c => by simp [Lib.indexByte]
  | b :: l, c => by
    have h := indexByte_lt l c
    have h2 := Lib.indexByte_ge l c
    unfold Lib.indexByte
    split
    · simp
      try omega
    · split
      · simp
        try omega
      · simp
        try omega
theorem cutL_len (l : List UInt8) (c : UInt8) : (cutL l c).1.length ≤ l.length ∧ (cutL l c).2.length ≤ l.length := by
  unfold cutL
  split
  · exact ⟨by rw [List.length_take]; omega, by rw [List.length_drop]; omega⟩
  · exact ⟨Nat.le_refl _, Nat.zero_le _⟩
set_option maxHeartbeats 1000000 in
theorem cut0_c (l : List UInt8) (c : UInt8) (w : World) (hl : l.length ≤ 281474976710656) : Calls Tryd.prog 39 #[.string (bs l), .string ⟨#[c]⟩] w fun e w' => (∃ b, e = .returned (.tuple #[.string (bs (cutL l c).1), .string (bs (cutL l c).2), .bool b])) ∧ Below w.heap.size w w' := by
  have HI := Lib.hid fun w => Tryd.stringslite_Index_one (bs l) c w
  rw [show (bs l).data.toList = l from bs_data l] at HI
  have h1 := indexByte_lt l c
  have h2 := Lib.indexByte_ge l c
  by_cases h0 : 0 ≤ Lib.indexByte l c
  · obtain ⟨i, hi⟩ : ∃ i : Nat, Lib.indexByte l c = i := ⟨(Lib.indexByte l c).toNat, by omega⟩
    have HC : Hid (cutL l c = (l.take i, l.drop (i + 1))) := by
      show _ = _
      unfold cutL
      rw [if_pos h0, hi]
      rfl
    rw [hi] at HI h1
    clear h0 h2 hi
    have hi1 : i < l.length := by omega
    have hi2 : i + 1 ≤ l.length := by omega
    go_enter Tryd.func39, Tryd.ntmps39
    go_wp2_with fail
    go_at_call 43
    refine (HI.out _).mono ?_
    rintro e w1 ⟨rfl, rfl⟩
    go_wp2_with fail
    have hw1 : IntKind.i64.wrap ((i : Int) + 1) = (i : Int) + 1 := IntWalk.i64_in _ (by omega)
    have hw2 : (0 : Int) ≤ (i : Int) + 1 := by omega
    have hw3 : ((i : Int) + 1).toNat = i + 1 := by omega
    have hw4 : (i : Int) + 1 ≤ (l.length : Int) := by omega
    have hw5 : i ≤ l.length := by omega
    go_quiet (fail)
    clear hw1 hw2 hw3 hw4
    go_wp2_with fail
    go_ret3
    refine ⟨⟨true, ?_⟩, ⟨rfl, rfl, rfl, Nat.le_refl _, fun _ _ => rfl⟩⟩
    rw [HC.out, List.take_of_length_le (l := l.drop (i + 1)) (i := l.length - (i + 1)) (by simp)]
    rfl
  · have HC : Hid (cutL l c = (l, [])) := by
      show _ = _
      unfold cutL
      rw [if_neg h0]
    obtain hi : Lib.indexByte l c = -1 := by omega
    rw [hi] at HI
    clear h0 h1 h2 hi
    go_enter Tryd.func39, Tryd.ntmps39
    go_wp2_with fail
    go_at_call 43
    refine (HI.out _).mono ?_
    rintro e w1 ⟨rfl, rfl⟩
    go_wp2_with fail
    go_ret3
    exact ⟨⟨false, by rw [HC.out]; rfl⟩, Below.refl _ _⟩
set_option maxHeartbeats 1000000 in
theorem cut_c (l : List UInt8) (c : UInt8) (w : World) (hl : l.length ≤ 281474976710656) : Calls Tryd.prog 34 #[.string (bs l), .string ⟨#[c]⟩] w fun e w' => (∃ b, e = .returned (.tuple #[.string (bs (cutL l c).1), .string (bs (cutL l c).2), .bool b])) ∧ Below w.heap.size w w' := by
  have HC := Lib.hid fun w => cut0_c l c w hl
  go_enter Tryd.func34, Tryd.ntmps34
  go_wp2_with fail
  go_at_call 39
  refine (HC.out _).mono ?_
  rintro e w1 ⟨⟨b, rfl⟩, hb⟩
  go_wp2_with fail
  go_ret3
  exact ⟨⟨b, rfl⟩, hb⟩
end Go.Proofs.YthnhbiogaikpoaaDoor
