/-
  'ClockEast': the walk.
-/
import Derived.Test.YthnhbiogaikpoaaDoorClEast
namespace Go.Proofs.YthnhbiogaikpoaaDoor
open Go.RowKit Go.Cz Go.Cz.Ck
set_option linter.unusedSimpArgs false
set_option linter.unusedVariables false
attribute [local go_sem] bs_size bs_extract bs_append bs_toList
attribute [local irreducible] cList
set_option maxRecDepth 10000 in
set_option maxHeartbeats 8000000 in
theorem ClockEast_walk (w : World) (hs : Std w) (x : Option Addr) (n c : Nat) (l : List Shift) (hx : IsShifts w x n l) (r1 : Int) (w1 : (Lit.int .u16 r1).wf = true) (r2 : Int) (w2 : (Lit.int .u32 r2).wf = true) (r3 : Int) (w3 : (Lit.int .u32 r3).wf = true) :
    Calls Tryd.prog 10 #[.agg #[.slice x n c], .int .u16 r1, .int .u32 r2, .int .u32 r3] w fun e w' => e = .returned (.bool true) ∧ Below w.heap.size w w' := by
  have HH := Lib.hid (fun W (hb : Below w.heap.size w W) => head_c W (hs.below hb))
  obtain ⟨a1, a2⟩ := u16_in w1
  obtain ⟨b1, b2⟩ := u32_in w2
  obtain ⟨d1, d2⟩ := u32_in w3
  obtain ⟨q, e1⟩ : ∃ q, q = r1 % 1681 := ⟨_, rfl⟩
  have e1' : r1 % 1681 = q := e1.symm
  obtain ⟨t, e2⟩ : ∃ q, q = r2 % 144001440 := ⟨_, rfl⟩
  have e2' : r2 % 144001440 = t := e2.symm
  obtain ⟨day, e3⟩ : ∃ q, q = r3 % 100001 := ⟨_, rfl⟩
  have e3' : r3 % 100001 = day := e3.symm
  have q1 : 0 ≤ q := by omega
  have q2 : q ≤ 1680 := by omega
  have t1 : 0 ≤ t := by omega
  have t2 : t ≤ 144001439 := by omega
  have y1 : 0 ≤ day := by omega
  have y2 : day ≤ 100000 := by omega
  clear e1 e2 e3 w1 w2 w3 hs
  obtain ⟨B, hB⟩ : ∃ B, B = w.heap.size := ⟨_, rfl⟩
  have HE : Hid (ZE w (w.alloc (.cells #[.slice x n c] 24)) B x n c l) := by
    subst hB
    have hb : Below w.heap.size w (w.alloc (.cells #[.slice x n c] 24)) := (Below.refl _ _).alloc (by omega) _
    exact ⟨hb, Bk.new _ _ _, hx.below hb⟩
  obtain ⟨fb, hfb⟩ : ∃ fb, fb = fewB n 40 := ⟨_, rfl⟩
  have Hfb := Lib.hid hfb.symm
  have hln := hx.1
  clear hx hfb
  go_enter Tryd.func10, Tryd.ntmps10
  go_wp2_with fail
  rw [← hB] at *
  clear hB
  obtain ⟨W1, hW1⟩ : ∃ W1, W1 = w.alloc (.cells #[.slice x n c] 24) := ⟨_, rfl⟩
  rw [← hW1] at HE ⊢
  clear hW1
  go_at_call 11
  refine (HH.out _ HE.out.below).mono ?_
  rintro e W2 ⟨rfl, hb⟩
  obtain ⟨HE, lz, cz⟩ := HE.out.next hb
  clear hb HH
  go_wp2_with fail
  go_at_call 12
  refine (Few_c x n c 40 W2).mono ?_
  rintro e W3 ⟨rfl, hb⟩
  rw [Hfb.out]
  clear lz cz
  obtain ⟨HE, lz, cz⟩ := HE.out.next hb
  clear hb
  cases fb
  · go_wp2_with fail
    go_ret
    exact ⟨rfl, HE.out.below⟩
  go_wp2_with fail
  go_at_call 22
  refine (Valid_c x n c l W3 HE.out.sh).mono ?_
  rintro e W4 ⟨rfl, hb⟩
  clear lz cz
  obtain ⟨HE, lz, cz⟩ := HE.out.next hb
  clear hb
  cases hv : validB l
  · clear hv
    go_wp2_with fail
    go_ret
    exact ⟨rfl, HE.out.below⟩
  obtain ⟨n1, n2⟩ := valid_len hv
  rw [hln] at n1 n2
  have Hln := Lib.hid hln
  have Hv := Lib.hid hv
  have H0 : Hid (∃ v, Made W4 (W4.alloc (.cells #[.slice none 0 0] 24)) W4.heap.size (east q (l.take 0)) v) := ⟨_, Made.start W4⟩
  clear hv Hfb hln
  go_wp2_with fail
  obtain ⟨E, hE⟩ : ∃ E, E = W4.heap.size := ⟨_, rfl⟩
  rw [← hE] at H0 ⊢
  rw [e1']
  clear lz cz hE e1'
  go_loopg [12] n (fun gk i wr => ∃ k : Nat, gk = n - k ∧ k ≤ n ∧ i = .int .i64 (k : Int) ∧ Hid (∃ v, Made W4 wr E (east q (l.take k)) v))
  case atStart => exact ⟨0, rfl, Nat.zero_le _, rfl, H0⟩
  case round =>
    rename_i J1 K1 hJ1 hK1
    clear H0
    obtain ⟨k, rfl, hk, rfl, hw⟩ := hrel
    obtain ⟨v, hm⟩ := hw.out
    obtain ⟨HZ, lz, cz⟩ := HE.out.next hm.below.drew
    obtain ⟨-, lz', cz'⟩ := HE.out.next hm.below
    have Hm := Lib.hid hm
    clear hm hw
    by_cases hlt : k < n
    · obtain ⟨g, off, s, hxe, i1, hg, c0, c1⟩ := HZ.out.sh.at hlt
      have v1 := valid_all Hv.out s (List.mem_of_getElem? i1)
      have hst := east_take (k := q) i1
      have hlen : (east q (l.take k)).length = k := by rw [length_east, List.length_take, Hln.out]; omega
      rw [hxe] at cz cz'
      obtain ⟨s1, s2⟩ := s
      dsimp only at c0 c1 v1 hst
      have Hst := Lib.hid hst
      have Hlen := Lib.hid hlen
      have lE : E < wr.drew.heap.size := Hm.out.main.lt
      have cE : wr.drew.cell? ⟨E, 0, none⟩ = some v := by show wr.cell? _ = _; rw [Hm.out.main.cell]; rfl
      have hrow : wr.ownsRow 0 40 2 v k ((east q (l.take k)).flatMap scells) := by have := Hm.out.row; rwa [hlen] at this
      have Hrow := Lib.hid hrow
      clear i1 hxe hst hlen hrow
      go_wp2_with fail
      refine wp_region_can [] (List.range 21) (by kernel_rfl) (by kernel_rfl) ?_
      iterate 18 (refine cl_do rfl rfl rfl rfl (fun _ _ => ?_); go_wp2_with fail)
      refine cl_do rfl rfl rfl rfl (fun _ _ => ?_)
      refine wp_append (.tmp 46) (.tmp 62) 22 (by rfl) 40 _ 2 16 Tryd.underlying22 info_shift (by rfl) (by omega) v k _ (by rfl) ((Hrow.out.alloc _).drew) wr.heap.size 1 1 (scells (s1, s2 + q)) (by rfl) (by rfl) 40 (by exact new_heap wr _ _ rfl) (by simp [scells, Value.oneCell']) (by omega) (by omega) ?_
      intro v' w2 hrow hgrow hblk
      obtain ⟨g', cap', rfl⟩ := row_form hrow
      obtain ⟨hp, lE2, fE, cE2⟩ := Hm.out.step (y := (s1, s2 + q)) (((Below.refl _ _).alloc (Nat.le_refl _) _).drew) (by rw [Hlen.out]; exact hrow) hgrow hblk
      rw [← Hst.out] at hp
      have Hp := Lib.hid hp
      clear hp hrow hgrow hblk lE cE c0 c1 cz cz' lz lz' hg HZ Hst Hlen Hrow
      go_wp2_with fail
      iterate 2 (refine cl_do rfl rfl rfl rfl (fun _ _ => ?_); go_wp2_with fail)
      refine cl_nil ?_
      go_wp2_with fail
      go_roundg (n - (k + 1))
      case measure => omega
      case rel => exact ⟨k + 1, rfl, by omega, by go_num, _, Hp.out⟩
    · obtain rfl : k = n := by omega
      have hfull : l.take k = l := List.take_of_length_le (by rw [Hln.out]; exact Nat.le_refl _)
      rw [hfull] at Hm
      have hlen : (east q l).length = k := by rw [length_east, Hln.out]
      obtain ⟨a, c', rfl, hsh⟩ := Hm.out.zone (by rw [hlen]; omega)
      rw [hlen] at Hm hsh
      clear hJ1 hK1 HZ lz cz
      have HF : Hid (ZE w wr E a k c' (east q l)) := ⟨HE.out.below.trans (Hm.out.below.mono HE.out.below.size), Hm.out.main, hsh⟩
      obtain ⟨HE, -, -⟩ := HE.out.next Hm.out.below
      obtain ⟨-, lE, cE⟩ := HF.out.next (Below.refl _ _)
      clear Hm hsh hfull hlen
      go_wp2_with fail
      go_at_call 22
      refine (Valid_c a k c' (east q l) wr HF.out.sh).mono ?_
      rintro e V1 ⟨rfl, hb⟩
      clear lE cE lz' cz'
      obtain ⟨HE, lz, cz⟩ := HE.out.next hb
      obtain ⟨HF, lE, cE⟩ := HF.out.next hb
      clear hb
      cases hv2 : validB (east q l)
      · clear hv2
        go_wp2_with fail
        go_ret
        exact ⟨rfl, HE.out.below⟩
      obtain ⟨A, Bm, C, D, u, gg, v, ee, h1, h2, hsum, u1, u2, u3, u4, u5, u6, u7, u8, h3, h4, hend⟩ := east_law (day := day) Hv.out hv2 q1 t1 t2
      have HD1 := Lib.hid h1
      have HD2 := Lib.hid h2
      have HD3 := Lib.hid h3
      have HD4 := Lib.hid h4
      have Hend := Lib.hid hend
      have hs1 : (1440 * C + D != 1440 * A + Bm + q) = false := by rw [hsum]; simp
      clear hv2 h1 h2 h3 h4 hend hsum
      go_wp2_with fail
      go_at_call 13
      refine (Local_c x k c l t V1 HE.out.sh).mono ?_
      rintro e V2 ⟨rfl, hb⟩
      rw [HD1.out]
      clear lz cz lE cE
      obtain ⟨HE, lz, cz⟩ := HE.out.next hb
      obtain ⟨HF, lE, cE⟩ := HF.out.next hb
      clear hb
      go_wp2_with fail
      go_at_call 13
      refine (Local_c a k c' (east q l) t V2 HF.out.sh).mono ?_
      rintro e V3 ⟨rfl, hb⟩
      rw [HD2.out]
      clear lz cz lE cE
      obtain ⟨HE, lz, cz⟩ := HE.out.next hb
      obtain ⟨HF, lE, cE⟩ := HF.out.next hb
      clear hb
      go_wp2_with fail
      go_at_call 17
      refine (Begin_c x k c l day V3 HE.out.sh).mono ?_
      rintro e V4 ⟨rfl, hb⟩
      rw [HD3.out]
      clear lz cz lE cE
      obtain ⟨HE, lz, cz⟩ := HE.out.next hb
      obtain ⟨HF, lE, cE⟩ := HF.out.next hb
      clear hb
      go_wp2_with fail
      go_at_call 17
      refine (Begin_c a k c' (east q l) day V4 HF.out.sh).mono ?_
      rintro e V5 ⟨rfl, hb⟩
      rw [HD4.out]
      clear lz cz lE cE
      obtain ⟨HE, lz, cz⟩ := HE.out.next hb
      clear hb HF
      rcases Hend.out with rfl | ⟨rfl, rfl, hvu⟩
      · clear Hend HD1 HD2 HD3 HD4
        go_wp2_with fail
        go_ret
        exact ⟨rfl, HE.out.below⟩
      · clear Hend HD1 HD2 HD3 HD4
        go_wp2_with fail
        go_ret
        exact ⟨rfl, HE.out.below⟩
end Go.Proofs.YthnhbiogaikpoaaDoor
