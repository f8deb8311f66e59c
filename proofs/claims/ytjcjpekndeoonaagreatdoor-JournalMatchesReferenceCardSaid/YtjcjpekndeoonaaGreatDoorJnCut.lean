/-
  strings.Cut at a colon; a number in front of it.
-/
import Derived.Test.YtjcjpekndeoonaaGreatDoorJnText
namespace Go.Cz.Jn
theorem index_find (c : UInt8) : ∀ l : Bytes, Lib.indexByte l c = match l.findIdx? (· == c) with | some k => (k : Int) | none => -1
  | [] => rfl
  | b :: l => by
    have h := index_find c l
    rw [List.findIdx?_cons]
    unfold Lib.indexByte
    by_cases hb : (b == c) = true
    · rw [if_pos hb, if_pos hb]; rfl
    · rw [if_neg hb, if_neg hb, h]
      cases l.findIdx? (· == c) with
      | none => rfl
      | some k =>
        have h1 : (((k : Nat) : Int) == -1) = false := by simp
        simp [h1]
theorem find_lt {c : UInt8} {l : Bytes} {k : Nat} (h : l.findIdx? (· == c) = some k) : k < l.length := by
  have := List.findIdx?_eq_some_iff_findIdx_eq.1 h
  exact this.1
theorem num_law (h : Bytes) : numB h = match Lib.atoiAll h with | .ok v => if 0 ≤ v ∧ v ≤ 20000 ∧ decB v.toNat = h then some v.toNat else none | _ => none := by
  by_cases hh : ∃ n, n ≤ 20000 ∧ decB n = h
  · obtain ⟨n, hn, rfl⟩ := hh
    have ha : Lib.atoiAll (decB n) = .ok (n : Int) := by
      have h1 := decB_len_pos n
      have h2 := decB_len (k := 9) (n := n) (by omega)
      rw [atoi_digits (by intro h0; rw [h0] at h1; simp at h1) (fun c hc => decB_digit hc) (by omega), decB_eq, valB_dec]
    rw [numB_dec hn, ha]
    simp only [Int.toNat_natCast]
    rw [if_pos ⟨by omega, by omega, trivial⟩]
  · have h0 : numB h = none := by
      cases hn : numB h with
      | none => rfl
      | some n => exact absurd ⟨n, numB_some hn⟩ hh
    rw [h0]
    split
    · rename_i v hv
      rw [if_neg fun h => hh ⟨v.toNat, by omega, h.2.2⟩]
    · rfl
end Go.Cz.Jn
namespace Go.Proofs.YtjcjpekndeoonaaGreatDoor
open Go.RowKit Go.Cz Go.Cz.Jn
set_option linter.unusedSimpArgs false
set_option linter.unusedVariables false
attribute [local go_sem] bs_size bs_extract bs_append bs_toList
attribute [local irreducible] cList cPlan
/-- What Cut answers at a colon. -/
def CutP (w : World) (l : Bytes) (e : Ending) (w' : World) : Prop :=
  (∃ k, l.findIdx? (· == 58) = some k ∧ e = .returned (.tuple #[.string (bs (l.take k)), .string (bs (l.drop (k + 1))), .bool true]) ∧ Below w.heap.size w w') ∨
  (l.findIdx? (· == 58) = none ∧ e = .returned (.tuple #[.string (bs l), .string (bs []), .bool false]) ∧ Below w.heap.size w w')
set_option maxHeartbeats 1000000 in
theorem cut0_c (l : Bytes) (w : World) (hl : l.length ≤ 281474976710656) : Calls Tryz.prog 93 #[.string (bs l), .string ⟨#[58]⟩] w (CutP w l) := by
  have HI := Lib.hid fun w => Tryz.stringslite_Index_one (bs l) 58 w
  rw [show (bs l).data.toList = l from bs_data l, index_find] at HI
  cases hf : l.findIdx? (· == 58) with
  | some i =>
    have hi1 := find_lt hf
    rw [hf] at HI
    have HF := Lib.hid hf
    clear hf
    have hi2 : i + 1 ≤ l.length := by omega
    go_enter Tryz.func93, Tryz.ntmps93
    go_wp2_with fail
    go_at_call 109
    refine (HI.out _).mono ?_
    rintro e w1 ⟨rfl, rfl⟩
    go_wp2_with fail
    have hw1 : IntKind.i64.wrap ((i : Int) + 1) = (i : Int) + 1 := IntWalk.i64_in _ (by omega)
    have hw2 : (0 : Int) ≤ (i : Int) + 1 := by omega
    have hw3 : ((i : Int) + 1).toNat = i + 1 := by omega
    have hw4 : (i : Int) + 1 ≤ (l.length : Int) := by omega
    have hw5 : i ≤ l.length := by omega
    go_quiet (fail)
    clear hw1 hw2 hw3 hw4
    go_wp2_with fail
    go_ret3
    refine .inl ⟨i, HF.out, ?_, ⟨rfl, rfl, rfl, Nat.le_refl _, fun _ _ => rfl⟩⟩
    rw [List.take_of_length_le (l := l.drop (i + 1)) (i := l.length - (i + 1)) (by simp)]
    rfl
  | none =>
    rw [hf] at HI
    have HF := Lib.hid hf
    clear hf
    go_enter Tryz.func93, Tryz.ntmps93
    go_wp2_with fail
    go_at_call 109
    refine (HI.out _).mono ?_
    rintro e w1 ⟨rfl, rfl⟩
    go_wp2_with fail
    go_ret3
    exact .inr ⟨HF.out, rfl, Below.refl _ _⟩
set_option maxHeartbeats 1000000 in
theorem cut_c (l : Bytes) (w : World) (hl : l.length ≤ 281474976710656) : Calls Tryz.prog 73 #[.string (bs l), .string ⟨#[58]⟩] w (CutP w l) := by
  have HC := Lib.hid fun w => cut0_c l w hl
  go_enter Tryz.func73, Tryz.ntmps73
  go_wp2_with fail
  go_at_call 93
  refine (HC.out _).mono ?_
  rintro e w1 (⟨k, hk, rfl, hb⟩ | ⟨hk, rfl, hb⟩)
  · have HB : Hid (l.findIdx? (· == 58) = some k ∧ Below w.heap.size w w1) := ⟨hk, hb⟩
    clear hk hb HC
    go_wp2_with fail
    go_ret3
    exact .inl ⟨k, HB.out.1, rfl, HB.out.2⟩
  · have HB : Hid (l.findIdx? (· == 58) = none ∧ Below w.heap.size w w1) := ⟨hk, hb⟩
    clear hk hb HC
    go_wp2_with fail
    go_ret3
    exact .inr ⟨HB.out.1, rfl, HB.out.2⟩
end Go.Proofs.YtjcjpekndeoonaaGreatDoor
