/-
  The lexer's 'while', 'gap'.
-/
import Derived.Test.YtkcbdlnoobjmbaaDoorLxAt
import Derived.Test.YtkcbdlnoobjmbaaDoorLxPlain
import Derived.Test.YtkcbdlnoobjmbaaDoorShelf
namespace Go.Proofs.YtkcbdlnoobjmbaaDoor
open Go.RowKit Go.Cz Go.Cz.Lx
set_option linter.unusedSimpArgs false
set_option linter.unusedVariables false
attribute [local go_sem] bs_size bs_extract bs_append bs_toList
attribute [local irreducible] cList
/-- Classes in a row. -/
def IsCls (w : World) (g : Nat) (C : List Nat) : Prop := g < w.heap.size ∧ ∀ (j : Nat) (x : Nat), C[j]? = some x → w.cell? ⟨g, j, none⟩ = some (.int .i64 (x : Int))
theorem IsCls.below {w w' : World} {g : Nat} {C : List Nat} (h : IsCls w g C) (hb : Below w.heap.size w w') : IsCls w' g C :=
  ⟨Nat.lt_of_lt_of_le h.1 hb.size, fun j x hx => (hb.cell (p := ⟨g, j, none⟩) h.1).trans (h.2 j x hx)⟩
theorem contains_c (g c : Nat) (C : List Nat) (x : Nat) (w : World) (hC : C.length ≤ 10) (h : IsCls w g C) :
    Calls Tryd.prog 65 #[.slice (some ⟨g, 0, none⟩) C.length c, .int .i64 (x : Int)] w fun e w' => e = .returned (.bool (C.contains x)) ∧ w' = w := by
  refine (Tryd.slices_Contains_int g 0 C.length c (C.map fun (k : Nat) => (k : Int)) (x : Int) w (by simp) (by omega) (fun j hj => ?_)).mono ?_
  · have hj' : j < C.length := by simpa using hj
    rw [Nat.zero_add, h.2 j C[j] (List.getElem?_eq_getElem hj'), List.getD_eq_getElem?_getD, List.getElem?_map, List.getElem?_eq_getElem hj']
    rfl
  · rintro e w' ⟨rfl, hw⟩
    refine ⟨?_, hw⟩
    congr 2
    rw [List.take_of_length_le (by simp), Bool.eq_iff_iff]
    simp only [List.contains_eq_mem, decide_eq_true_eq, List.mem_map]
    constructor
    · rintro ⟨a, h1, h2⟩
      obtain rfl : a = x := by omega
      exact h1
    · exact fun h1 => ⟨x, h1, rfl⟩
/-- What a walk of the lexer carries. -/
structure LxE (w W : World) (b : Nat) (l : List UInt8) : Prop where
  below : Below w.heap.size w W
  scan : IsScan W b (bs l)
theorem LxE.next {w W W' : World} {b : Nat} {l : List UInt8} (h : LxE w W b l) (hb : Below W.heap.size W W') : Hid (LxE w W' b l) :=
  ⟨h.below.trans (hb.mono h.below.size), h.scan.below hb⟩
set_option maxHeartbeats 2000000 in
theorem while_c (b g c : Nat) (C : List Nat) (l : List UInt8) (i : Nat) (w : World) (hl : l.length ≤ 20000) (hi : i ≤ l.length) (hC : C.length ≤ 10) (hs : IsScan w b (bs l)) (hg : IsCls w g C) :
    Calls Tryd.prog 57 #[.pointer (some ⟨b, 0, none⟩), .int .i64 (i : Int), .slice (some ⟨g, 0, none⟩) C.length c] w fun e w' => e = .returned (.int .i64 ((i + whileN C (l.drop i) : Nat) : Int)) ∧ Below w.heap.size w w' := by
  have HE : Hid (LxE w w b l) := ⟨Below.refl _ _, hs⟩
  have HG : Hid (IsCls w g C ∧ C.length ≤ 10) := ⟨hg, hC⟩
  have HL := Lib.hid hl
  clear hs hg hC
  go_enter Tryd.func57, Tryd.ntmps57
  go_wp2_with fail
  go_loopg [1] (l.length - i) (fun gk t wr => ∃ k : Nat, gk = l.length - k ∧ k ≤ l.length ∧ t = .int .i64 (k : Int) ∧ Hid (i + whileN C (l.drop i) = k + whileN C (l.drop k)) ∧ Hid (LxE w wr b l))
  case atStart => exact ⟨i, rfl, hi, rfl, rfl, HE⟩
  case round =>
    rename_i J1 K1 hJ1 hK1
    clear HE
    obtain ⟨k, rfl, hk, rfl, hv, hw⟩ := hrel
    have hz := hw.out.scan.lt
    have c0 := hw.out.scan.text
    by_cases hlt : k < l.length
    · have Hn := Lib.hid (whileN_drop (C := C) hlt)
      have Ha := Lib.hid (atL_some hlt)
      go_wp2_with fail
      go_at_call 58
      refine (at_c b l k wr HL.out (by omega) hw.out.scan).mono ?_
      rintro e W2 ⟨rfl, hb⟩
      have HG2 := Lib.hid (HG.out.1.below (hw.out.below.trans (hb.mono hw.out.below.size)))
      have HE := hw.out.next hb
      clear hb
      go_wp2_with fail
      go_at_call 65
      refine (contains_c g c C (atL l k) W2 HG.out.2 HG2.out).mono ?_
      rintro e W3 ⟨rfl, hb⟩
      obtain rfl : W3 = W2 := hb
      cases hc : C.contains (atL l k)
      · have He : Hid (i + whileN C (l.drop i) = k) := by
          show _ = _
          rw [hv.out, Hn.out, ← Ha.out, hc]
          rfl
        clear hc hv Hn Ha
        go_wp2_with fail
        go_ret
        exact ⟨by rw [He.out]; rfl, HE.out.below⟩
      · have He : Hid (i + whileN C (l.drop i) = k + 1 + whileN C (l.drop (k + 1))) := by
          show _ = _
          rw [hv.out, Hn.out, ← Ha.out, hc, if_pos rfl]
          omega
        clear hc hv Hn Ha
        go_wp2_with fail
        go_roundg (l.length - (k + 1))
        case measure => omega
        case rel => exact ⟨k + 1, rfl, by omega, by go_num, He, HE⟩
    · have He : Hid (i + whileN C (l.drop i) = k) := by
        show _ = _
        rw [hv.out, whileN_end (by omega)]
        rfl
      clear hJ1 hK1 hv
      go_wp2_with fail
      go_ret
      exact ⟨by rw [He.out]; rfl, hw.out.below⟩
theorem tk_drop (l : List UInt8) (k : Nat) : (l.drop k).take (l.length - k) = l.drop k := by rw [← List.length_drop, List.take_length]
theorem indexByte_c (l : List UInt8) (c : UInt8) (w : World) : Calls Tryd.prog 59 #[.string (bs l), .int .u8 c.toNat] w fun e w' => e = .returned (.int .i64 (Lib.indexByte l c)) ∧ w' = w := by
  have := Tryd.strings_IndexByte (bs l) (c.toNat : Int) w
  rw [show (bs l).data.toList = l from bs_data l, show ((c.toNat : Int)).toNat.toUInt8 = c by simp] at this
  exact this
/-- A row of classes that is built for a call. -/
theorem IsCls.new (w : World) (C : List Nat) : IsCls (w.alloc (.cells (C.map fun (k : Nat) => Value.int .i64 (k : Int)).toArray 3)) w.heap.size C :=
  ⟨by simp, fun j x hx => by
    rw [cell_of_heap (new_heap w _ _ rfl)]
    simp [hx]⟩
set_option maxHeartbeats 2000000 in
theorem gap_c (b : Nat) (l : List UInt8) (i : Nat) (w : World) (hl : l.length ≤ 20000) (hi : i ≤ l.length) (hs : IsScan w b (bs l)) :
    Calls Tryd.prog 49 #[.pointer (some ⟨b, 0, none⟩), .int .i64 (i : Int)] w fun e w' => e = .returned (.int .i64 (gapE l i : Int)) ∧ Below w.heap.size w w' := by
  have HE : Hid (LxE w w b l) := ⟨Below.refl _ _, hs⟩
  have HL := Lib.hid hl
  clear hs
  obtain ⟨j0, hj0⟩ : ∃ j0, j0 = i + whileN [1] (l.drop i) := ⟨_, rfl⟩
  have H0 := gap_start l i
  have hj0l : j0 ≤ l.length := by
    have := whileN_le [1] (l.drop i)
    rw [List.length_drop] at this
    omega
  rw [← hj0] at H0
  have Hj := Lib.hid hj0.symm
  have HS : Hid (gapE l i = gapE l j0 ∧ whileN [1] (l.drop j0) = 0) := H0
  clear H0 hj0
  go_enter Tryd.func49, Tryd.ntmps49
  go_wp2_with fail
  have HC := IsCls.new w [1]
  have hbb : Below (w).heap.size w ((w).alloc (.cells #[.int .i64 1] 3)) := (Below.refl _ _).alloc (Nat.le_refl _) _
  replace HE := HE.out.next hbb
  clear hbb
  have HC2 : Hid (IsCls ((w).alloc (.cells #[.int .i64 1] 3)) (w).heap.size [1]) := HC
  clear HC
  go_at_call 57
  refine (while_c b (w).heap.size 1 [1] l i _ HL.out (by omega) (by decide) HE.out.scan HC2.out).mono ?_
  rintro e W1 ⟨rfl, hb⟩
  clear HC2
  replace HE := HE.out.next hb
  clear hb
  rw [Hj.out]
  go_wp2_with fail
  go_loopg [1] (l.length - j0) (fun gk t wr => ∃ k : Nat, gk = l.length - k ∧ k ≤ l.length ∧ t = .int .i64 (k : Int) ∧ Hid (gapE l i = gapE l k ∧ whileN [1] (l.drop k) = 0) ∧ Hid (LxE w wr b l))
  case atStart => exact ⟨j0, rfl, hj0l, rfl, HS, HE⟩
  case round =>
    rename_i J1 K1 hJ1 hK1
    clear HE
    obtain ⟨k, rfl, hk, rfl, hv, hw⟩ := hrel
    clear HS Hj hj0l
    go_wp2_with fail
    go_at_call 58
    refine (at_c b l k wr HL.out (by omega) hw.out.scan).mono ?_
    rintro e W2 ⟨rfl, hb⟩
    have HE := hw.out.next hb
    clear hb hw
    have hz := HE.out.scan.lt
    have c0 := HE.out.scan.text
    obtain ⟨A, hA⟩ : ∃ A, A = atL l k := ⟨_, rfl⟩
    rw [← hA]
    have HA := Lib.hid hA.symm
    clear hA
    by_cases hA : A = 2
    · subst hA
      have Hq := Lib.hid (gap_none HA.out)
      have Hs := Lib.hid fun n => gap_some (n := n) HA.out
      go_wp2_with fail
      rw [tk_drop]
      go_at_call 59
      refine (indexByte_c (l.drop k) 10 W2).mono ?_
      rintro e W3 ⟨rfl, hb⟩
      obtain rfl : W3 = W2 := hb
      obtain ⟨q, hq⟩ : ∃ q, q = Lib.indexByte (l.drop k) 10 := ⟨_, rfl⟩
      rw [← hq] at Hq Hs ⊢
      clear hq
      by_cases hq0 : q < 0
      · have He : Hid (gapE l i = l.length) := hv.out.1.trans (Hq.out hq0)
        clear hv HA Hq Hs
        go_wp2_with fail
        go_ret
        exact ⟨by rw [He.out]; rfl, HE.out.below⟩
      · obtain ⟨N, rfl⟩ : ∃ N : Nat, q = N := ⟨q.toNat, by omega⟩
        obtain ⟨s1, s2, s3⟩ := Hs.out N rfl
        obtain ⟨j, hj⟩ : ∃ j, j = k + N + whileN [1] (l.drop (k + N)) := ⟨_, rfl⟩
        have H0 := gap_start l (k + N)
        have hjl : j ≤ l.length := by
          have := whileN_le [1] (l.drop (k + N))
          rw [List.length_drop] at this
          omega
        have hkj : k < j := by omega
        rw [← hj] at H0
        have Hj := Lib.hid hj.symm
        have HS : Hid (gapE l i = gapE l j ∧ whileN [1] (l.drop j) = 0) := ⟨hv.out.1.trans (s1.trans H0.1), H0.2⟩
        clear H0 hj hv HA Hq Hs s1 hq0 c0 hz
        go_wp2_with fail
        rw [show (k : Int) + (N : Int) = ((k + N : Nat) : Int) from rfl]
        have HC := IsCls.new W3 [1]
        have hbb : Below (W3).heap.size W3 ((W3).alloc (.cells #[.int .i64 1] 3)) := (Below.refl _ _).alloc (Nat.le_refl _) _
        replace HE := HE.out.next hbb
        clear hbb
        have HC2 : Hid (IsCls ((W3).alloc (.cells #[.int .i64 1] 3)) (W3).heap.size [1]) := HC
        clear HC
        go_at_call 57
        refine (while_c b (W3).heap.size 1 [1] l (k + N) _ HL.out (by omega) (by decide) HE.out.scan HC2.out).mono ?_
        rintro e W4 ⟨rfl, hb⟩
        clear HC2
        replace HE := HE.out.next hb
        clear hb
        rw [Hj.out]
        go_wp2_with fail
        go_roundg (l.length - j)
        case measure => omega
        case rel => exact ⟨j, rfl, hjl, rfl, HS, HE⟩
    · have hA2 : ((A : Int) == 2) = false := by simp; omega
      have He : Hid (gapE l i = k) := hv.out.1.trans (gap_exit hv.out.2 (by rw [HA.out]; exact hA))
      clear hv HA hA hJ1 hK1
      go_wp2_with fail
      go_ret
      exact ⟨by rw [He.out]; rfl, HE.out.below⟩
end Go.Proofs.YtkcbdlnoobjmbaaDoor
