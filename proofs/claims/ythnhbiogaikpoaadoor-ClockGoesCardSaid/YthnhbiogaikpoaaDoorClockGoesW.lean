/-
  'ClockGoes': the walk.
-/
import Derived.Test.YthnhbiogaikpoaaDoorClEnv
import Derived.Test.YthnhbiogaikpoaaDoorClGoes
namespace Go.Proofs.YthnhbiogaikpoaaDoor
open Go.RowKit Go.Cz Go.Cz.Ck
set_option linter.unusedSimpArgs false
set_option linter.unusedVariables false
attribute [local go_sem] bs_size bs_extract bs_append bs_toList
attribute [local irreducible] cList
set_option maxRecDepth 10000 in
set_option maxHeartbeats 8000000 in
theorem ClockGoes_walk (w : World) (hs : Std w) (x : Option Addr) (n c : Nat) (l : List Shift) (hx : IsShifts w x n l) (r1 : Int) (w1 : (Lit.int .u32 r1).wf = true) (r2 : Int) (w2 : (Lit.int .u8 r2).wf = true) :
    Calls Tryd.prog 4 #[.agg #[.slice x n c], .int .u32 r1, .int .u8 r2] w fun e w' => e = .returned (.bool true) ∧ Below w.heap.size w w' := by
  have HH := Lib.hid (fun W (hb : Below w.heap.size w W) => head_c W (hs.below hb))
  obtain ⟨a1, a2⟩ := u32_in w1
  obtain ⟨b1, b2⟩ := u8_in w2
  obtain ⟨q, e1⟩ : ∃ q, q = r1 % 144001439 := ⟨_, rfl⟩
  have e1' : r1 % 144001439 = q := e1.symm
  have k1 : 0 ≤ q := by omega
  have k2 : q < 144001439 := by omega
  clear e1 w1 w2 hs
  obtain ⟨B, hB⟩ : ∃ B, B = w.heap.size := ⟨_, rfl⟩
  have HE : Hid (ZE w (w.alloc (.cells #[.slice x n c] 24)) B x n c l) := by
    subst hB
    have hb : Below w.heap.size w (w.alloc (.cells #[.slice x n c] 24)) := (Below.refl _ _).alloc (by omega) _
    exact ⟨hb, Bk.new _ _ _, hx.below hb⟩
  obtain ⟨fb, hfb⟩ : ∃ fb, fb = fewB n 40 := ⟨_, rfl⟩
  have Hfb := Lib.hid hfb.symm
  have hln := hx.1
  clear hx hfb
  go_enter Tryd.func4, Tryd.ntmps4
  go_wp2_with fail
  rw [← hB] at *
  clear hB
  obtain ⟨W1, hW1⟩ : ∃ W1, W1 = w.alloc (.cells #[.slice x n c] 24) := ⟨_, rfl⟩
  rw [← hW1] at HE ⊢
  clear hW1
  go_at_call 11
  refine (HH.out _ HE.out.below).mono ?_
  rintro e W2 ⟨rfl, hb⟩
  obtain ⟨HE, lz, cz⟩ := HE.out.next hb
  clear hb HH
  go_wp2_with fail
  go_at_call 12
  refine (Few_c x n c 40 W2).mono ?_
  rintro e W3 ⟨rfl, hb⟩
  rw [Hfb.out]
  clear lz cz
  obtain ⟨HE, lz, cz⟩ := HE.out.next hb
  clear hb
  cases fb
  · go_wp2_with fail
    go_ret
    exact ⟨rfl, HE.out.below⟩
  go_wp2_with fail
  go_at_call 22
  refine (Valid_c x n c l W3 HE.out.sh).mono ?_
  rintro e W4 ⟨rfl, hb⟩
  clear lz cz
  obtain ⟨HE, lz, cz⟩ := HE.out.next hb
  clear hb
  cases hv : validB l
  · clear hv
    go_wp2_with fail
    go_ret
    exact ⟨rfl, HE.out.below⟩
  obtain ⟨n1, n2⟩ := valid_len hv
  rw [hln] at n1 n2
  have Hln := Lib.hid hln
  have Hv := Lib.hid hv
  obtain ⟨kk, hkk⟩ : ∃ kk : Nat, (kk : Int) = r2 % ((n : Int) + 3) := ⟨(r2 % ((n : Int) + 3)).toNat, by have := Int.emod_nonneg r2 (show ((n : Int) + 3) ≠ 0 by omega); omega⟩
  have m1 : r2 % ((n : Int) + 3) = (kk : Int) := hkk.symm
  have m2 : r2.tmod ((n : Int) + 3) = (kk : Int) := by rw [Int.tmod_eq_emod_of_nonneg b1]; exact m1
  have m3 : (((n : Int) + 3) == 0) = false := by simp; omega
  have m4 : ¬ ((n : Int) + 3) = 0 := by omega
  have m5 : (kk : Int) ≤ 23 := by have := Int.emod_lt_of_pos r2 (show 0 < (n : Int) + 3 by omega); omega
  clear hv Hfb hln hkk
  rcases (by omega : (0 < kk ∧ kk < n) ∨ kk = 0 ∨ (0 < kk ∧ ¬ kk < n)) with ⟨h0, hkn⟩ | h0 | ⟨h0, hkn⟩
  focus
    obtain ⟨g, off, s, hxe, hs, hg, c0, c1⟩ := HE.out.sh.at hkn
    obtain ⟨s1, s2⟩ := s
    dsimp only at c0 c1
    obtain ⟨p1, p2⟩ := later_pos Hv.out h0 hs
    dsimp only at p1 p2
    rw [hxe] at cz
    have Hx := Lib.hid hxe
    clear hs hxe
    go_wp2_with fail
    clear c0 c1 hg cz
    obtain ⟨-, -, cz⟩ := HE.out.next (Below.refl _ _)
    rw [← Hx.out]
    obtain ⟨t, ht⟩ : ∃ t, t = s1 - 1 := ⟨_, rfl⟩
    rw [← ht]
    have t1 : 0 ≤ t := by omega
    have t2 : t + 1 ≤ 144001439 := by omega
    clear ht Hx p1 p2
  rotate_left
  focus
    subst h0
    replace m1 : r2 % ((n : Int) + 3) = 0 := m1
    replace m2 : r2.tmod ((n : Int) + 3) = 0 := m2
    go_wp2_with fail
    obtain ⟨t, ht⟩ : ∃ t, t = q := ⟨_, rfl⟩
    rw [← ht, show r1 % 144001439 = t from e1'.trans ht.symm]
    have t1 : 0 ≤ t := by omega
    have t2 : t + 1 ≤ 144001439 := by omega
    clear ht
  rotate_left
  focus
    go_wp2_with fail
    obtain ⟨t, ht⟩ : ∃ t, t = q := ⟨_, rfl⟩
    rw [← ht, show r1 % 144001439 = t from e1'.trans ht.symm]
    have t1 : 0 ≤ t := by omega
    have t2 : t + 1 ≤ 144001439 := by omega
    clear ht
  rotate_left
  all_goals
    obtain ⟨a, b, d, e, D, h1, h2, u1, u2, u3, u4, u5, u6, u7, u8, u9, u10, hsum, hP1, hP2⟩ := goes_law Hv.out t1 t2
    have HD1 := Lib.hid h1
    have HD2 := Lib.hid h2
    have HP1 := Lib.hid hP1
    have HP2 := Lib.hid hP2
    have Hsum := Lib.hid hsum
    clear h1 h2 hP1 hP2 hsum m1 m2 m3 m4 m5
    go_at_call 13
    refine (Local_c x n c l t W4 HE.out.sh).mono ?_
    rintro e W5 ⟨rfl, hb⟩
    rw [HD1.out]
    clear lz cz
    obtain ⟨HE, lz, cz⟩ := HE.out.next hb
    clear hb
    go_wp2_with fail
    go_at_call 13
    refine (Local_c x n c l (t + 1) W5 HE.out.sh).mono ?_
    rintro e W6 ⟨rfl, hb⟩
    rw [HD2.out]
    clear lz cz
    obtain ⟨HE, lz, cz⟩ := HE.out.next hb
    clear hb
    go_wp2_with fail
    clear lz cz
    go_loopg [16, 17] n (fun gk ju i wr => ∃ (k : Nat) (J : Int), gk = n - k ∧ k + 1 ≤ n ∧ i = .int .i64 ((k : Int) + 1) ∧ ju = .int .i64 J ∧ Hid (J = D ∨ (J = 0 ∧ ∀ (j : Nat) (s : Shift), j < k → l[j + 1]? = some s → s.1 ≠ t + 1)) ∧ Hid (ZE w wr B x n c l))
    case atStart => exact ⟨0, 0, rfl, by omega, by go_num, rfl, .inr ⟨rfl, fun j _ hj => by omega⟩, HE⟩
    case round =>
      rename_i J1 K1 hJ1 hK1
      clear HE
      obtain ⟨k, J, rfl, hk, rfl, rfl, hv, hw⟩ := hrel
      obtain ⟨HE, lz, cz⟩ := hw.out.next (Below.refl _ _).drew
      obtain ⟨-, lz', cz'⟩ := hw.out.next (Below.refl _ _)
      by_cases hlt : k + 1 < n
      · obtain ⟨g, off, s, s', hxe, i1, i2, hg, c0, c1, c2, c3⟩ := hw.out.sh.two hlt
        rw [hxe] at cz cz'
        have Hx := Lib.hid hxe
        have v1 := valid_all Hv.out s (List.mem_of_getElem? i1)
        have v2 := valid_all Hv.out s' (List.mem_of_getElem? i2)
        obtain ⟨s1, s2⟩ := s
        obtain ⟨s1', s2'⟩ := s'
        dsimp only at c0 c1 c2 c3 v1 v2
        have I1 := Lib.hid i1
        have I2 := Lib.hid i2
        clear i1 i2 hxe
        by_cases hd : s1' = t + 1
        · have hd2 : (s1' == t + 1) = true := by simp [hd]
          have hJ : Hid (s2' - s2 = D) := HP1.out k (s1, s2) (s1', s2') I1.out I2.out hd
          clear hd
          go_wp2_with fail
          refine wp_region_can [] (List.range 15) (by kernel_rfl) (by kernel_rfl) ?_
          iterate 15 (refine cl_do rfl rfl rfl rfl (fun _ _ => ?_); go_wp2_with fail)
          refine cl_nil ?_
          go_wp2_with fail
          go_roundg (n - (k + 1))
          case measure => omega
          case rel => exact ⟨k + 1, s2' - s2, rfl, by omega, by go_num, rfl, .inl hJ.out, HE⟩
        · have hd2 : (s1' == t + 1) = false := by simp [hd]
          have hv2 : Hid (J = D ∨ (J = 0 ∧ ∀ (j : Nat) (s : Shift), j < k + 1 → l[j + 1]? = some s → s.1 ≠ t + 1)) := by
            rcases hv.out with hv1 | ⟨hJ0, hv1⟩
            · exact .inl hv1
            · refine .inr ⟨hJ0, fun j s hj g1 => ?_⟩
              by_cases hjk : j = k
              · subst hjk
                rw [I2.out] at g1
                simp only [Option.some.injEq] at g1
                subst g1
                exact hd
              · exact hv1 j s (by omega) g1
          clear hd
          go_wp2_with fail
          go_roundg (n - (k + 1))
          case measure => omega
          case rel => exact ⟨k + 1, J, rfl, by omega, by go_num, rfl, hv2, hw⟩
      · have hu : J = D := by
          rcases hv.out with hv1 | ⟨hJ0, hv1⟩
          · exact hv1
          · exact hJ0.trans (HP2.out fun j s g1 => hv1 j s (by
              have := (List.getElem?_eq_some_iff.1 g1).1
              have := Hln.out
              omega) g1).symm
        subst hu
        clear hv HE
        have hq : (1440 * d + e == 1440 * a + b + 1 + J) = true := by rw [Hsum.out]; simp
        go_wp2_with fail
        go_ret
        exact ⟨rfl, hw.out.below⟩
end Go.Proofs.YthnhbiogaikpoaaDoor
