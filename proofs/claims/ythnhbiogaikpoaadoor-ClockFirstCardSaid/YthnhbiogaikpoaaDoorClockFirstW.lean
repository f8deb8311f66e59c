/-
  'ClockFirst': the walk.
-/
import Derived.Test.YthnhbiogaikpoaaDoorClFirst
import Derived.Test.YthnhbiogaikpoaaDoorClGoes
namespace Go.Proofs.YthnhbiogaikpoaaDoor
open Go.RowKit Go.Cz Go.Cz.Ck
set_option linter.unusedSimpArgs false
set_option linter.unusedVariables false
attribute [local go_sem] bs_size bs_extract bs_append bs_toList
attribute [local irreducible] cList
set_option maxRecDepth 10000 in
set_option maxHeartbeats 8000000 in
theorem ClockFirst_walk (w : World) (hs : Std w) (x : Option Addr) (n c : Nat) (l : List Shift) (hx : IsShifts w x n l) (day : Int) (w1 : (Lit.int .i64 day).wf = true) (minute : Int) (w2 : (Lit.int .i64 minute).wf = true) (r3 : Int) (w3 : (Lit.int .u32 r3).wf = true) :
    Calls Tryd.prog 5 #[.agg #[.slice x n c], .int .i64 day, .int .i64 minute, .int .u32 r3] w fun e w' => e = .returned (.bool true) ∧ Below w.heap.size w w' := by
  have HH := Lib.hid (fun W (hb : Below w.heap.size w W) => head_c W (hs.below hb))
  obtain ⟨d1, d2⟩ := u32_in w3
  clear w1 w2 w3 hs
  obtain ⟨B, hB⟩ : ∃ B, B = w.heap.size := ⟨_, rfl⟩
  have HE : Hid (ZE w (w.alloc (.cells #[.slice x n c] 24)) B x n c l) := by
    subst hB
    have hb : Below w.heap.size w (w.alloc (.cells #[.slice x n c] 24)) := (Below.refl _ _).alloc (by omega) _
    exact ⟨hb, Bk.new _ _ _, hx.below hb⟩
  obtain ⟨fb, hfb⟩ : ∃ fb, fb = fewB n 40 := ⟨_, rfl⟩
  have Hfb := Lib.hid hfb.symm
  have hln := hx.1
  clear hx hfb
  go_enter Tryd.func5, Tryd.ntmps5
  go_wp2_with fail
  rw [← hB] at *
  clear hB
  obtain ⟨W1, hW1⟩ : ∃ W1, W1 = w.alloc (.cells #[.slice x n c] 24) := ⟨_, rfl⟩
  rw [← hW1] at HE ⊢
  clear hW1
  go_at_call 11
  refine (HH.out _ HE.out.below).mono ?_
  rintro e W2 ⟨rfl, hb⟩
  obtain ⟨HE, lz, cz⟩ := HE.out.next hb
  clear hb HH
  go_wp2_with fail
  go_at_call 12
  refine (Few_c x n c 40 W2).mono ?_
  rintro e W3 ⟨rfl, hb⟩
  rw [Hfb.out]
  clear lz cz
  obtain ⟨HE, lz, cz⟩ := HE.out.next hb
  clear hb
  cases fb
  · go_wp2_with fail
    go_ret
    exact ⟨rfl, HE.out.below⟩
  go_wp2_with fail
  go_at_call 22
  refine (Valid_c x n c l W3 HE.out.sh).mono ?_
  rintro e W4 ⟨rfl, hb⟩
  clear lz cz
  obtain ⟨HE, lz, cz⟩ := HE.out.next hb
  clear hb
  cases hv : validB l
  · clear hv
    go_wp2_with fail
    go_ret
    exact ⟨rfl, HE.out.below⟩
  obtain ⟨n1, n2⟩ := valid_len hv
  rw [hln] at n1 n2
  have Hln := Lib.hid hln
  have Hv := Lib.hid hv
  clear hv Hfb hln
  by_cases hm : minute < 0
  · go_wp2_with fail
    go_ret
    exact ⟨rfl, HE.out.below⟩
  by_cases hm2 : 1439 < minute
  · go_wp2_with fail
    go_ret
    exact ⟨rfl, HE.out.below⟩
  obtain ⟨T, e, hI, hcase⟩ := first_law Hv.out (d := day) (m := minute) (by omega) (by omega)
  have HD := Lib.hid hI
  have HC := Lib.hid hcase
  clear hI hcase
  go_wp2_with fail
  go_at_call 15
  refine (Instant_c x n c l day minute W4 HE.out.sh).mono ?_
  rintro e' W5 ⟨rfl, hb⟩
  rw [HD.out]
  clear lz cz
  obtain ⟨HE, lz, cz⟩ := HE.out.next hb
  clear hb HD
  rcases HC.out with ⟨rfl, g1, g2, ⟨A, Bm, hL, hEa⟩, hbef⟩ | ⟨rfl, rfl, hbef⟩
  focus
    have HL := Lib.hid hL
    have HEa := Lib.hid hEa
    have Hbef := Lib.hid hbef
    clear HC hL hEa hbef
    go_wp2_with fail
    go_at_call 13
    refine (Local_c x n c l T W5 HE.out.sh).mono ?_
    rintro e' W6 ⟨rfl, hb⟩
    rw [HL.out]
    clear lz cz
    obtain ⟨HE, lz, cz⟩ := HE.out.next hb
    clear hb HL
    go_wp2_with fail
    go_at_call 24
    refine (earlier_c A Bm day minute W6).mono ?_
    rintro e' W7 ⟨rfl, hb⟩
    rw [HEa.out]
    clear HEa
    obtain rfl : W7 = W6 := hb
    by_cases hT : T = 0
    · have hz : (T == 0) = true := by simp [hT]
      clear hT
      go_wp2_with fail
      go_ret
      exact ⟨rfl, HE.out.below⟩
    have hz : (T == 0) = false := by simp [hT]
    have hpos : 0 < T := by omega
    have hr1 : 0 ≤ r3 % T := Int.emod_nonneg _ (by omega)
    have hr2 : r3 % T < T := Int.emod_lt_of_pos _ hpos
    have htm : r3.tmod T = r3 % T := Int.tmod_eq_emod_of_nonneg d1
    obtain ⟨u, hu⟩ : ∃ u, u = r3 % T := ⟨_, rfl⟩
    rw [← hu] at hr1 hr2 htm
    have hu2 : r3 % T = u := hu.symm
    clear hu
    go_wp2_with fail
    obtain ⟨V, hV⟩ : ∃ V, V = W7 := ⟨_, rfl⟩
    rw [← hV] at HE ⊢
    obtain ⟨p, hp⟩ : ∃ p, p = T - 1 := ⟨_, rfl⟩
    rw [← hp]
    obtain ⟨N, hN⟩ : ∃ N, N = T := ⟨_, rfl⟩
    rw [← hN]
    have HB0 : Hid (∀ t, 0 ≤ t → t < N → Before l day minute t) := fun t i1 i2 => Hbef.out t i1 (by omega)
    have p1 : 0 ≤ p := by omega
    have p2 : p < N := by omega
    have u1 : 0 ≤ u := hr1
    have u2 : u < N := by omega
    clear Hbef htm hu2 hz hV hp hN hr1 hr2 lz cz
  rotate_left
  focus
    have Hbef := Lib.hid hbef
    clear HC hbef
    obtain ⟨u, hu⟩ : ∃ u, u = r3 % 144001440 := ⟨_, rfl⟩
    have hu2 : r3 % 144001440 = u := hu.symm
    have u1 : 0 ≤ u := by omega
    have u3 : u < 144001440 := by omega
    clear hu
    go_wp2_with fail
    try rw [hu2]
    obtain ⟨V, hV⟩ : ∃ V, V = W5 := ⟨_, rfl⟩
    rw [← hV] at HE ⊢
    obtain ⟨p, hp⟩ : ∃ p : Int, p = 144001439 := ⟨_, rfl⟩
    rw [← hp]
    obtain ⟨N, hN⟩ : ∃ N : Int, N = 144001440 := ⟨_, rfl⟩
    rw [← hN]
    have HB0 : Hid (∀ t, 0 ≤ t → t < N → Before l day minute t) := fun t i1 i2 => Hbef.out t i1 (by omega)
    have p1 : 0 ≤ p := by omega
    have p2 : p < N := by omega
    have u2 : u < N := by omega
    clear Hbef hu2 hV hp hN lz cz u3
  rotate_left
  all_goals
    have H0 : Hid (∃ xs : List Int, Row V (V.alloc (.cells #[.int .i64 p, .int .i64 u] 3)) (.slice (some ⟨V.heap.size, 0, none⟩) 2 2) xs ∧ xs.length ≤ 2 ∧ ∀ y ∈ xs, Before l day minute y) := by
      refine ⟨[p, u], Row.start V p u, by simp, fun y hy => ?_⟩
      rcases List.mem_cons.1 hy with rfl | hy
      · exact HB0.out _ p1 p2
      · obtain rfl : y = u := by simpa using hy
        exact HB0.out _ u1 u2
    go_loopg [16, 17] n (fun gk sv i wr => ∃ k : Nat, gk = n - k ∧ k + 1 ≤ n ∧ i = .int .i64 ((k : Int) + 1) ∧ Hid (∃ xs : List Int, Row V wr sv xs ∧ xs.length ≤ k + 2 ∧ ∀ y ∈ xs, Before l day minute y))
    case atStart => exact ⟨0, rfl, by omega, by go_num, H0⟩
    case round =>
      rename_i J1 K1 hJ1 hK1
      clear H0
      obtain ⟨k, rfl, hk, rfl, hw⟩ := hrel
      obtain ⟨xs, hr, hxl, hxb⟩ := hw.out
      obtain ⟨HZ, lz, cz⟩ := HE.out.next hr.below
      have Hr := Lib.hid hr
      have Hxb := Lib.hid hxb
      clear hr hxb hw
      by_cases hlt : k + 1 < n
      · obtain ⟨g, off, s, hxe, i1, hg, c0, c1⟩ := HZ.out.sh.at hlt
        have v1 := later_pos Hv.out (by omega) i1
        rw [hxe] at cz
        obtain ⟨s1, s2⟩ := s
        dsimp only at c0 c1 v1
        clear i1 hxe
        by_cases hd : s1 - 1 < N
        · have hby := HB0.out (s1 - 1) (by omega) hd
          have Hby := Lib.hid hby
          clear hby
          go_wp2_with (refine wpList_plain rfl fun K hK => wp_append (.tmp 102) (.tmp 110) 43 (by rfl) 3 _ 1 8 Tryd.underlying43 info_int (by rfl) (by omega) _ xs.length _ (by rfl) (Hr.out.row.alloc _) wr.heap.size 1 1 [.int .i64 (s1 - 1)] (by rfl) (by rfl) 3 (by exact new_heap wr _ _ rfl) (by simp [Value.oneCell']) (by omega) (by omega) ?_; intro v' w2 hrow hgrow hblk; have hp2 := Hr.out.step (y := s1 - 1) ((Below.refl _ _).alloc (Nat.le_refl _) _) hrow hgrow hblk; have Hp := Lib.hid hp2; clear hp2 hrow hgrow hblk c0 c1 cz lz hg)
          go_roundg (n - (k + 1))
          case measure => omega
          case rel =>
            refine ⟨k + 1, rfl, by omega, by go_num, xs ++ [s1 - 1], Hp.out, by simp; omega, fun y hy => ?_⟩
            rcases List.mem_append.1 hy with hy | hy
            · exact Hxb.out y hy
            · obtain rfl : y = s1 - 1 := by simpa using hy
              exact Hby.out
        · go_wp2_with fail
          go_roundg (n - (k + 1))
          case measure => omega
          case rel => exact ⟨k + 1, rfl, by omega, by go_num, xs, Hr.out, by omega, Hxb.out⟩
      · clear hJ1 hK1
        obtain ⟨a, cc, rfl, -⟩ := Hr.out.at (Below.refl _ _)
        go_wp2_with fail
        clear lz cz
        go_loopg [18] xs.length (fun gk i wr2 => ∃ j : Nat, gk = xs.length - j ∧ j ≤ xs.length ∧ i = .int .i64 (j : Int) ∧ Hid (Below wr.heap.size wr wr2))
        case atStart => exact ⟨0, rfl, Nat.zero_le _, rfl, Below.refl _ _⟩
        case round =>
          rename_i J2 K2 hJ2 hK2
          obtain ⟨j, rfl, hj, rfl, hw⟩ := hrel
          obtain ⟨HY, lz, cz⟩ := HZ.out.next hw.out.drew
          obtain ⟨a', cc', hea, hcell⟩ := Hr.out.at hw.out.drew
          obtain ⟨rfl, -⟩ : a = a' ∧ True := by simp at hea; exact ⟨hea.1, trivial⟩
          by_cases hlt2 : j < xs.length
          · obtain ⟨y, hy⟩ : ∃ y, xs[j]? = some y := ⟨xs[j], List.getElem?_eq_getElem hlt2⟩
            obtain ⟨g, hge, hg, c0⟩ := hcell j y hy
            obtain ⟨y1, y2, A', B', hL', hE'⟩ := Hxb.out y (List.mem_of_getElem? hy)
            have HL' := Lib.hid hL'
            have HE' := Lib.hid hE'
            clear hy hL' hE' hcell hea
            subst hge
            go_wp2_with fail
            refine wp_region_can [5] (List.range 13) (by kernel_rfl) (by kernel_rfl) ?_
            go_wp2_with (first | refine cl_nil ?_ | (go_at_call 13; refine (Local_c x n c l y _ HY.out.sh).mono ?_; rintro e' W8 ⟨rfl, hb⟩; rw [HL'.out]; have Hb := Lib.hid (hw.out.drew.trans (hb.mono hw.out.size))) | (refine And.intro (show Below _ _ _ from ?_) ?_; exact hb) | (refine cl_call (i := 5) rfl rfl rfl (fun K hK => ?_)) | (refine cl_do rfl rfl rfl rfl (fun _ _ => ?_)))
            go_at_call 24
            refine (earlier_c A' B' day minute _).mono ?_
            rintro e' W9 ⟨rfl, hb9⟩
            rw [HE'.out]
            obtain rfl := hb9
            go_wp2_with fail
            go_roundg (xs.length - (j + 1))
            case measure => omega
            case rel => exact ⟨j + 1, rfl, by omega, by go_num, Hb⟩
          · clear hJ2 hK2 lz cz hcell hea HY
            have HY := (HZ.out.next hw.out).1
            go_wp2_with fail
            go_ret
            exact ⟨rfl, HY.out.below⟩
end Go.Proofs.YthnhbiogaikpoaaDoor
