/-
  'ClockBack': the walk.
-/
import Derived.Test.YthnhbiogaikpoaaDoorClEnv
import Derived.Test.YthnhbiogaikpoaaDoorClLaws
namespace Go.Proofs.YthnhbiogaikpoaaDoor
open Go.RowKit Go.Cz Go.Cz.Ck
set_option linter.unusedSimpArgs false
set_option linter.unusedVariables false
attribute [local go_sem] bs_size bs_extract bs_append bs_toList
attribute [local irreducible] cList
set_option maxRecDepth 10000 in
set_option maxHeartbeats 4000000 in
theorem ClockBack_walk (w : World) (hs : Std w) (x : Option Addr) (n c : Nat) (l : List Shift) (hx : IsShifts w x n l) (r1 : Int) (w1 : (Lit.int .u32 r1).wf = true) :
    Calls Tryd.prog 6 #[.agg #[.slice x n c], .int .u32 r1] w fun e w' => e = .returned (.bool true) ∧ Below w.heap.size w w' := by
  have HH := Lib.hid (fun W (hb : Below w.heap.size w W) => head_c W (hs.below hb))
  obtain ⟨a1, a2⟩ := u32_in w1
  obtain ⟨t, e1⟩ : ∃ q, q = r1 % 144001440 := ⟨_, rfl⟩
  have e1' : r1 % 144001440 = t := e1.symm
  have k1 : 0 ≤ t := by omega
  have k2 : t ≤ 144001439 := by omega
  clear e1 w1 hs
  obtain ⟨B, hB⟩ : ∃ B, B = w.heap.size := ⟨_, rfl⟩
  have HE : Hid (ZE w (w.alloc (.cells #[.slice x n c] 24)) B x n c l) := by
    subst hB
    have hb : Below w.heap.size w (w.alloc (.cells #[.slice x n c] 24)) := (Below.refl _ _).alloc (by omega) _
    exact ⟨hb, Bk.new _ _ _, hx.below hb⟩
  obtain ⟨fb, hfb⟩ : ∃ fb, fb = fewB n 40 := ⟨_, rfl⟩
  have Hfb := Lib.hid hfb.symm
  have hln := hx.1
  clear hx hfb
  go_enter Tryd.func6, Tryd.ntmps6
  go_wp2_with fail
  rw [← hB] at *
  clear hB
  obtain ⟨W1, hW1⟩ : ∃ W1, W1 = w.alloc (.cells #[.slice x n c] 24) := ⟨_, rfl⟩
  rw [← hW1] at HE ⊢
  clear hW1
  go_at_call 11
  refine (HH.out _ HE.out.below).mono ?_
  rintro e W2 ⟨rfl, hb⟩
  obtain ⟨HE, lz, cz⟩ := HE.out.next hb
  clear hb HH
  go_wp2_with fail
  go_at_call 12
  refine (Few_c x n c 40 W2).mono ?_
  rintro e W3 ⟨rfl, hb⟩
  rw [Hfb.out]
  clear lz cz
  obtain ⟨HE, lz, cz⟩ := HE.out.next hb
  clear hb
  cases fb
  · go_wp2_with fail
    go_ret
    exact ⟨rfl, HE.out.below⟩
  go_wp2_with fail
  go_at_call 22
  refine (Valid_c x n c l W3 HE.out.sh).mono ?_
  rintro e W4 ⟨rfl, hb⟩
  clear lz cz
  obtain ⟨HE, lz, cz⟩ := HE.out.next hb
  clear hb
  cases hv : validB l
  · clear hv
    go_wp2_with fail
    go_ret
    exact ⟨rfl, HE.out.below⟩
  obtain ⟨a, b, u, h1, h2, h3, h4⟩ := back_law hv k1 k2
  obtain ⟨n1, n2⟩ := valid_len hv
  rw [hln] at n1 n2
  have Hln := Lib.hid hln
  have HD1 := Lib.hid h1
  have HD2 := Lib.hid h2
  have HR := Lib.hid h4
  clear hv h1 h2 h4 Hfb hln
  go_wp2_with fail
  go_at_call 13
  refine (Local_c x n c l t W4 HE.out.sh).mono ?_
  rintro e W5 ⟨rfl, hb⟩
  rw [HD1.out]
  clear lz cz
  obtain ⟨HE, lz, cz⟩ := HE.out.next hb
  clear hb
  go_wp2_with fail
  go_at_call 15
  refine (Instant_c x n c l a b W5 HE.out.sh).mono ?_
  rintro e W6 ⟨rfl, hb⟩
  rw [HD2.out]
  clear lz cz
  obtain ⟨HE, lz, cz⟩ := HE.out.next hb
  clear hb
  go_wp2_with fail
  clear lz cz
  go_loopg [12] n (fun gk i wr => ∃ k : Nat, gk = n - k ∧ k + 1 ≤ n ∧ i = .int .i64 ((k : Int) + 1) ∧ Hid (∀ (j : Nat) (a b : Shift), j < k → l[j]? = some a → l[j + 1]? = some b → a.2 ≤ b.2) ∧ Hid (ZE w wr B x n c l))
  case atStart => exact ⟨0, rfl, by omega, by go_num, fun j _ _ hj => by omega, HE⟩
  case round =>
    rename_i J1 K1 hJ1 hK1
    clear HE
    obtain ⟨k, rfl, hk, rfl, hv, hw⟩ := hrel
    obtain ⟨HE, lz, cz⟩ := hw.out.next (Below.refl _ _).drew
    obtain ⟨-, lz', cz'⟩ := hw.out.next (Below.refl _ _)
    by_cases hlt : k + 1 < n
    · obtain ⟨g, off, s, s', rfl, i1, i2, hg, c0, c1, c2, c3⟩ := hw.out.sh.two hlt
      obtain ⟨s1, s2⟩ := s
      obtain ⟨s1', s2'⟩ := s'
      dsimp only at c0 c1 c2 c3
      have I1 := Lib.hid i1
      have I2 := Lib.hid i2
      clear i1 i2 hw
      by_cases hd : s2' < s2
      · clear I1 I2 hv HR HD1 HD2 Hln
        go_wp2_with fail
        refine wp_region_can [] (List.range 14) (by kernel_rfl) (by kernel_rfl) ?_
        iterate 14 (refine cl_do rfl rfl rfl rfl (fun _ _ => ?_); go_wp2_with fail)
        refine cl_nil ?_
        go_wp2_with fail
        go_ret
        exact ⟨rfl, HE.out.below⟩
      · have hv2 : Hid (∀ (j : Nat) (a b : Shift), j < k + 1 → l[j]? = some a → l[j + 1]? = some b → a.2 ≤ b.2) := fun j a b hj g1 g2 => by
          by_cases hjk : j = k
          · subst hjk
            rw [I1.out] at g1; rw [I2.out] at g2
            simp only [Option.some.injEq] at g1 g2
            subst g1; subst g2
            show s2 ≤ s2'
            omega
          · exact hv.out j a b (by omega) g1 g2
        clear I1 I2 hv HR HD1 HD2 Hln
        go_wp2_with fail
        refine wp_region_can [] (List.range 14) (by kernel_rfl) (by kernel_rfl) ?_
        iterate 14 (refine cl_do rfl rfl rfl rfl (fun _ _ => ?_); go_wp2_with fail)
        refine cl_nil ?_
        go_wp2_with fail
        go_roundg (n - (k + 1))
        case measure => omega
        case rel => exact ⟨k + 1, rfl, by omega, by go_num, hv2, HE⟩
    · have hu : u = t := HR.out (rising_of l fun j a b g1 g2 => hv.out j a b (by
        have := (List.getElem?_eq_some_iff.1 g2).1
        have := Hln.out
        omega) g1 g2)
      clear hv HR HD1 HD2 Hln
      subst hu
      go_wp2_with fail
      go_ret
      exact ⟨rfl, hw.out.below⟩
end Go.Proofs.YthnhbiogaikpoaaDoor
