/-
  'lengths'.
-/
import Derived.Test.YtakadfdnhlfijaaGreatDoorFmDom
namespace Go.Proofs.YtakadfdnhlfijaaGreatDoor
open Go.RowKit Go.Cz Go.Cz.Lx Go.Cz.Fo
set_option linter.unusedSimpArgs false
set_option linter.unusedVariables false
attribute [local irreducible] cList cPlan
/-- All numbers of a row are one number. -/
def allB (n : Int) (l : List Int) : Bool := l.all fun a => decide (a = n)
set_option maxHeartbeats 2000000 in
theorem lengths1_c (a n : Int) (b : Nat) (w : World) (hb : b < w.heap.size) (hc : w.cell? ⟨b, 0, none⟩ = some (.int .i64 n)) :
    Calls Tryz.prog 67 #[.int .i64 a, .pointer (some ⟨b, 0, none⟩)] w fun e w' => e = .returned (.bool (a != n)) ∧ w' = w := by
  go_enter Tryz.func67, Tryz.ntmps67
  go_wp2_with fail
  go_ret
  exact ⟨rfl, rfl⟩
set_option maxHeartbeats 2000000 in
theorem lenIdx_c (l : List Int) (n : Int) (b : Nat) (v : Value) (w : World) (hd : IsC w l v) (hb : b < w.heap.size) (hc : w.cell? ⟨b, 0, none⟩ = some (.int .i64 n)) (hn : l.length ≤ 1000000) :
    Calls Tryz.prog 93 #[v, .func (.func 67) #[] #[.pointer (some ⟨b, 0, none⟩)]] w fun e w' => ∃ i : Int, e = .returned (.int .i64 i) ∧ (!decide (0 ≤ i)) = allB n l ∧ w' = w := by
  obtain ⟨y, m, rfl⟩ := hd.form
  obtain ⟨N, hN⟩ : ∃ N, N = l.length := ⟨_, rfl⟩
  have HN := Lib.hid hN
  rw [← hN] at hd hn ⊢
  have HD := Lib.hid hd
  have HC := Lib.hid hc
  have HB := Lib.hid hb
  clear hN hd hb hc
  go_enter Tryz.func93, Tryz.ntmps93
  go_wp2_with fail
  have H0 : Hid (allB n l = allB n (l.drop 0)) := by show _ = _; simp
  go_loopg [8] N (fun gk i wr => ∃ k : Nat, gk = N - k ∧ k ≤ N ∧ i = .int .i64 (k : Int) ∧ Hid (allB n l = allB n (l.drop k)) ∧ wr = w)
  case atStart => exact ⟨0, rfl, Nat.zero_le _, rfl, H0, rfl⟩
  case round =>
    rename_i J1 K1 hJ1 hK1
    clear H0
    obtain ⟨k, rfl, hk, rfl, HI, rfl⟩ := hrel
    by_cases hlt : k < N
    · obtain ⟨x, hx⟩ : ∃ x, l[k]? = some x := ⟨_, List.getElem?_eq_getElem (by rw [← HN.out]; exact hlt)⟩
      obtain ⟨g, off, rfl, hg, c0⟩ := HD.out.get (Below.refl _ _) hx
      have HI2 : Hid (allB n l = (decide (x = n) && allB n (l.drop (k + 1)))) := by
        have h := HI.out
        obtain ⟨hk2, rfl⟩ := List.getElem?_eq_some_iff.1 hx
        rw [List.drop_eq_getElem_cons hk2] at h
        exact h.trans (List.all_cons ..)
      clear hx HI
      go_wp2_with fail
      refine (lengths1_c x n b wr HB.out HC.out).mono ?_
      rintro e W2 ⟨rfl, hw⟩
      subst hw
      by_cases he : x = n
      · have hb1 : (x != n) = false := by simp [he]
        have HI : Hid (allB n l = allB n (l.drop (k + 1))) := by show _ = _; rw [HI2.out, decide_eq_true he]; rfl
        rw [hb1]
        clear he hb1 HI2
        go_wp2_with fail
        go_roundg (N - (k + 1))
        case measure => omega
        case rel => exact ⟨k + 1, rfl, by omega, by go_num, HI, rfl⟩
      · have hb1 : (x != n) = true := by simp [he]
        have HI : Hid (allB n l = false) := by show _ = _; rw [HI2.out, decide_eq_false he]; rfl
        rw [hb1]
        clear he hb1 HI2 hJ1 hK1
        go_wp2_with fail
        go_ret
        exact ⟨k, rfl, by rw [HI.out]; simp, rfl⟩
    · obtain rfl : k = N := by omega
      have HE : Hid (allB n l = true) := by show _ = _; rw [HI.out, HN.out, List.drop_length]; rfl
      clear hJ1 hK1 hlt
      go_wp2_with fail
      go_ret
      exact ⟨-1, rfl, by rw [HE.out]; simp, rfl⟩
set_option maxHeartbeats 2000000 in
theorem lenAny_c (l : List Int) (n : Int) (b : Nat) (v : Value) (w : World) (hd : IsC w l v) (hb : b < w.heap.size) (hc : w.cell? ⟨b, 0, none⟩ = some (.int .i64 n)) (hn : l.length ≤ 1000000) :
    Calls Tryz.prog 66 #[v, .func (.func 67) #[] #[.pointer (some ⟨b, 0, none⟩)]] w fun e w' => e = .returned (.bool !(allB n l)) ∧ w' = w := by
  have HL := Lib.hid (lenIdx_c l n b v w hd hb hc hn)
  obtain ⟨y, m, rfl⟩ := hd.form
  obtain ⟨N, hN⟩ : ∃ N, N = l.length := ⟨_, rfl⟩
  rw [← hN] at HL ⊢
  clear hN hd hn hc hb
  go_enter Tryz.func66, Tryz.ntmps66
  go_wp2_with fail
  refine HL.out.mono ?_
  rintro e W2 ⟨i, rfl, hi, hw⟩
  subst hw
  have HI := Lib.hid hi
  clear hi
  simp only []
  go_wp2_with fail
  go_ret
  exact ⟨congrArg (fun b => Ending.returned (Value.bool b)) (show decide (0 ≤ i) = !(allB n l) by rw [← HI.out, Bool.not_not]), rfl⟩
set_option maxHeartbeats 2000000 in
theorem lengths_c (l : List Int) (n : Int) (v : Value) (w : World) (hd : IsC w l v) (hn : l.length ≤ 1000000) :
    Calls Tryz.prog 37 #[.int .i64 n, v] w fun e w' => e = .returned (.bool (allB n l)) ∧ Below w.heap.size w w' := by
  obtain ⟨y, m, rfl⟩ := hd.form
  obtain ⟨bx, hbx⟩ : ∃ bx, bx = w.heap.size := ⟨_, rfl⟩
  obtain ⟨W1, hW1⟩ : ∃ W1, W1 = w.alloc (.cells #[.int .i64 n] 3) := ⟨_, rfl⟩
  have hb : Below w.heap.size w W1 := by rw [hW1]; exact (Below.refl _ _).alloc (Nat.le_refl _) _
  have HB := Lib.hid hb
  have bk := new_heap w (.cells #[.int .i64 n] 3) w.heap.size rfl
  rw [← hW1, ← hbx] at bk
  have hx0 := lt_of_block bk
  have c2 : W1.cell? ⟨bx, 0, none⟩ = some (.int .i64 n) := by rw [cell_of_heap bk]; rfl
  have HL := Lib.hid (lenAny_c l n bx _ W1 (hd.later hb) hx0 c2 hn)
  obtain ⟨N, hN⟩ : ∃ N, N = l.length := ⟨_, rfl⟩
  rw [← hN] at HL ⊢
  clear hN bk hb hd hn
  go_enter Tryz.func37, Tryz.ntmps37
  go_wp2_with fail
  rw [← hW1, ← hbx]
  clear hW1 hbx
  go_wp2_with fail
  refine HL.out.mono ?_
  rintro e W2 ⟨rfl, hw⟩
  subst hw
  go_wp2_with fail
  go_ret
  exact ⟨rfl, HB.out⟩
end Go.Proofs.YtakadfdnhlfijaaGreatDoor
