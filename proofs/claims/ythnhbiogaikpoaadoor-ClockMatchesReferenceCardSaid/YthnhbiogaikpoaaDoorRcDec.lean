/-
  The reference's decimal numerals, 'two' and 'Text': what they return.
-/
import Derived.Test.YthnhbiogaikpoaaDoorRcOff
import Derived.Test.YthnhbiogaikpoaaDoorClText
namespace Go.Proofs.YthnhbiogaikpoaaDoor
open Go.RowKit Go.Cz Go.Cz.Ck
set_option linter.unusedSimpArgs false
set_option linter.unusedVariables false
attribute [local go_sem] bs_size bs_extract bs_append bs_toList
attribute [local irreducible] cList
theorem ten_piece {i : Nat} (h : i < 10) : (({ data := #[48, 49, 50, 51, 52, 53, 54, 55, 56, 57] } : ByteArray).extract i (i + 1)) = bs [UInt8.ofNat (48 + i)] := by
  have : ∀ i : Fin 10, (({ data := #[48, 49, 50, 51, 52, 53, 54, 55, 56, 57] } : ByteArray).extract i.1 (i.1 + 1)) = bs [UInt8.ofNat (48 + i.1)] := by decide +kernel
  exact this ⟨i, h⟩
/-- What is still to be written ahead of l. -/
def decTo (N m : Nat) (l : List UInt8) : Prop := Lib.decDigits N = (if m = 0 then [] else Lib.decDigits m) ++ l
theorem decTo_start (N : Nat) : decTo N (N / 10) [UInt8.ofNat (48 + N % 10)] := by
  unfold decTo
  rw [Lib.decDigits]
  split
  · rw [if_pos (by omega), Nat.mod_eq_of_lt ‹_›]; rfl
  · rw [if_neg (by omega)]
theorem decTo_step {N m : Nat} {l : List UInt8} (h : decTo N m l) (hm : 0 < m) : decTo N (m / 10) (UInt8.ofNat (48 + m % 10) :: l) := by
  unfold decTo at h ⊢
  rw [if_neg (by omega)] at h
  rw [h, show Lib.decDigits m = (if m / 10 = 0 then [] else Lib.decDigits (m / 10)) ++ [UInt8.ofNat (48 + m % 10)] from decTo_start m]
  simp
theorem decTo_len {N m : Nat} {l : List UInt8} (h : decTo N m l) (hN : N ≤ 1000000000) : l.length ≤ 20 := by
  have := len_dec N (by omega)
  unfold decTo at h
  rw [h, List.length_append] at this
  omega
set_option maxHeartbeats 2000000 in
theorem digits_c (N : Nat) (w : World) (hN : N ≤ 1000000000) : Calls Tryd.prog 38 #[.int .u64 (N : Int)] w fun e w' => e = .returned (.string (bs (Lib.decDigits N))) ∧ w' = w := by
  have hm10 : N % 10 < 10 := Nat.mod_lt _ (by omega)
  have H0 := Lib.hid (decTo_start N)
  have P0 := Lib.hid (ten_piece hm10)
  go_enter Tryd.func38, Tryd.ntmps38
  go_wp2_with fail
  rw [P0.out]
  clear hm10 P0
  go_loopg [0, 3] (N / 10) (fun gk m s wr => ∃ (k : Nat) (l : List UInt8), gk = k ∧ wr = w ∧ k ≤ N ∧ m = .int .u64 (k : Int) ∧ s = .string (bs l) ∧ Hid (decTo N k l))
  case atStart => exact ⟨N / 10, _, rfl, rfl, by omega, by go_num, rfl, H0⟩
  case round =>
    rename_i J1 K1 hJ1 hK1
    clear H0
    obtain ⟨k, l, rfl, rfl, hk, rfl, rfl, hv⟩ := hrel
    have hl := decTo_len hv.out hN
    by_cases h0 : 0 < gk
    · have hm10 : gk % 10 < 10 := Nat.mod_lt _ (by omega)
      have P1 := Lib.hid (ten_piece hm10)
      have HS := Lib.hid (decTo_step hv.out h0)
      go_wp2_with fail
      rw [P1.out]
      go_roundg (gk / 10)
      case measure => omega
      case rel => exact ⟨gk / 10, _, rfl, rfl, by omega, by go_num, by rw [bs_append]; rfl, HS⟩
    · obtain rfl : gk = 0 := by omega
      have He : Hid (Lib.decDigits N = l) := hv.out
      clear hJ1 hK1 hv
      go_wp2_with fail
      go_ret
      exact ⟨by rw [He.out]; rfl, rfl⟩
set_option maxHeartbeats 1000000 in
theorem Decimal_c (N : Nat) (w : World) (hN : N ≤ 1000000000) : Calls Tryd.prog 32 #[.int .i64 (N : Int)] w fun e w' => e = .returned (.string (bs (Lib.decDigits N))) ∧ w' = w := by
  go_enter Tryd.func32, Tryd.ntmps32
  go_wp2_with fail
  go_at_call 38
  refine (digits_c N w hN).mono ?_
  rintro e w1 ⟨rfl, rfl⟩
  go_wp2_with fail
  go_ret
  exact ⟨rfl, rfl⟩
theorem two_eq {n : Nat} (h : n < 100) : twoL n = if n < 10 then 48 :: Lib.decDigits n else Lib.decDigits n := by
  unfold twoL
  split
  · rw [show n / 10 = 0 by omega, Nat.mod_eq_of_lt ‹_›, Lib.decDigits_one (i := 0) (by omega)]
    rfl
  · rw [Lib.decDigits_two ‹_› h, Lib.decDigits_one (by omega), Lib.decDigits_one (by omega)]
    rfl
set_option maxHeartbeats 1000000 in
theorem rtwo_c (n : Nat) (w : World) (hn : n < 100) : Calls Tryd.prog 33 #[.int .i64 (n : Int)] w fun e w' => e = .returned (.string (bs (twoL n))) ∧ w' = w := by
  have h2 := Lib.hid (two_eq hn)
  have hl := len_dec n (by omega)
  by_cases h : n < 10
  · have he : Hid (bs [48] ++ bs (Lib.decDigits n) = bs (twoL n)) := by show _ = _; rw [h2.out, if_pos h, bs_append]; rfl
    clear h2
    go_enter Tryd.func33, Tryd.ntmps33
    go_wp2_with fail
    go_at_call 32
    refine (Decimal_c n w (by omega)).mono ?_
    rintro e w1 ⟨rfl, rfl⟩
    go_wp2_with fail
    go_ret
    exact ⟨by rw [← he.out]; rfl, rfl⟩
  · have he : Hid (bs (Lib.decDigits n) = bs (twoL n)) := by show _ = _; rw [h2.out, if_neg h]
    clear h2
    go_enter Tryd.func33, Tryd.ntmps33
    go_wp2_with fail
    go_at_call 32
    refine (Decimal_c n w (by omega)).mono ?_
    rintro e w1 ⟨rfl, rfl⟩
    go_wp2_with fail
    go_ret
    exact ⟨by rw [← he.out]; rfl, rfl⟩
set_option maxHeartbeats 1000000 in
theorem rText_bad (t : Int) (w : World) (ht : instB t = false) : Calls Tryd.prog 19 #[.int .i64 t] w fun e w' => e = .returned (.tuple #[.string (bs []), .int .i64 1]) ∧ w' = w := by
  have HI := Lib.hid fun w => ht ▸ rIs_c t w
  clear ht
  go_enter Tryd.func19, Tryd.ntmps19
  go_wp2_with fail
  go_at_call 28
  refine (HI.out _).mono ?_
  rintro e w1 ⟨rfl, rfl⟩
  go_wp2_with fail
  go_ret2
  exact ⟨rfl, rfl⟩
set_option maxHeartbeats 2000000 in
theorem rText_ok (n : Nat) (w : World) (hn : n ≤ 144001439) : Calls Tryd.prog 19 #[.int .i64 (n : Int)] w fun e w' => e = .returned (.tuple #[.string (bs (textL n)), .int .i64 0]) ∧ w' = w := by
  have hi : instB (n : Int) = true := instB_true.2 ⟨by omega, by omega⟩
  have HI := Lib.hid fun w => hi ▸ rIs_c (n : Int) w
  clear hi
  have HT := Lib.hid fun w => Decimal_c (n / 1440) w (by omega)
  have H1 := Lib.hid fun w => rtwo_c (n % 1440 / 60) w (by omega)
  have H2 := Lib.hid fun w => rtwo_c (n % 60) w (by omega)
  have l0 := len_dec (n / 1440) (by omega)
  have l1 := len_two (n % 1440 / 60) (by omega)
  have l2 := len_two (n % 60) (by omega)
  have e0 : ((n / 1440 : Nat) : Int) = (n : Int) / 1440 := by omega
  have e1 : ((n % 1440 / 60 : Nat) : Int) = (n : Int) % 1440 / 60 := by omega
  have e2 : ((n % 60 : Nat) : Int) = (n : Int) % 60 := by omega
  have E := Lib.hid (And.intro e0 (And.intro e1 e2))
  have HL : Hid (bs (Lib.decDigits (n / 1440)) ++ { data := #[47] } ++ bs (twoL (n % 1440 / 60)) ++ { data := #[58] } ++ bs (twoL (n % 60)) = bs (textL n)) := by
    show _ = _
    rw [show ({ data := #[47] } : ByteArray) = bs [47] from rfl, show ({ data := #[58] } : ByteArray) = bs [58] from rfl, bs_append, bs_append, bs_append, bs_append]
    rfl
  clear e0 e1 e2
  generalize Lib.decDigits (n / 1440) = d0 at *
  generalize twoL (n % 1440 / 60) = d1 at *
  generalize twoL (n % 60) = d2 at *
  go_enter Tryd.func19, Tryd.ntmps19
  go_wp2_with fail
  go_at_call 28
  refine (HI.out _).mono ?_
  rintro e w1 ⟨rfl, rfl⟩
  go_wp2_with fail
  go_at_call 32
  rw [← E.out.1]
  refine (HT.out _).mono ?_
  rintro e w2 ⟨rfl, rfl⟩
  go_wp2_with fail
  go_at_call 33
  rw [← E.out.2.1]
  refine (H1.out _).mono ?_
  rintro e w3 ⟨rfl, rfl⟩
  go_wp2_with fail
  go_at_call 33
  rw [← E.out.2.2]
  refine (H2.out _).mono ?_
  rintro e w4 ⟨rfl, rfl⟩
  go_wp2_with fail
  go_ret2
  refine ⟨?_, rfl⟩
  rw [← HL.out]
  rfl
theorem rText_c (t : Int) (w : World) : Calls Tryd.prog 19 #[.int .i64 t] w fun e w' => e = .returned (.tuple #[.string (bs (textF t).1), .int .i64 (textF t).2]) ∧ w' = w := by
  cases h : instB t with
  | true =>
    obtain ⟨h0, h1⟩ := instB_true.1 h
    obtain ⟨n, rfl⟩ : ∃ n : Nat, t = n := ⟨t.toNat, by omega⟩
    unfold textF
    rw [if_pos h]
    exact rText_ok n w (by omega)
  | false =>
    refine (rText_bad t w h).mono ?_
    rintro e w' ⟨rfl, rfl⟩
    refine ⟨by unfold textF; rw [if_neg (by simp [h])], rfl⟩
end Go.Proofs.YthnhbiogaikpoaaDoor
