/-
  'ClockMatchesReference': the walk.
-/
import Derived.Test.YthnhbiogaikpoaaDoorClEnv
import Derived.Test.YthnhbiogaikpoaaDoorRcInst
import Derived.Test.YthnhbiogaikpoaaDoorRcParse
namespace Go.Proofs.YthnhbiogaikpoaaDoor
open Go.RowKit Go.Cz Go.Cz.Ck
set_option linter.unusedSimpArgs false
set_option linter.unusedVariables false
attribute [local go_sem] bs_size bs_extract bs_append bs_toList
attribute [local irreducible] cList
set_option maxRecDepth 10000 in
set_option maxHeartbeats 8000000 in
theorem ClockMatchesReference_walk0 (w : World) (hs : Std w) (x : Option Addr) (n c : Nat) (l : List Shift) (hx : IsShifts w x n l) (t day minute : Int) (tl : List UInt8) (htl : tl.length ≤ 140737488355328) :
    Calls Tryd.prog 3 #[.agg #[.slice x n c], .int .i64 t, .int .i64 day, .int .i64 minute, .string (bs tl)] w fun e w' => e = .returned (.bool true) ∧ Below w.heap.size w w' := by
  have HH := Lib.hid (fun W (hb : Below w.heap.size w W) => head_c W (hs.below hb))
  have HS := Lib.hid (fun W (hb : Below w.heap.size w W) => hs.below hb)
  clear hs
  obtain ⟨B, hB⟩ : ∃ B, B = w.heap.size := ⟨_, rfl⟩
  have HE : Hid (ZE w (w.alloc (.cells #[.slice x n c] 24)) B x n c l) := by
    subst hB
    have hb : Below w.heap.size w (w.alloc (.cells #[.slice x n c] 24)) := (Below.refl _ _).alloc (by omega) _
    exact ⟨hb, Bk.new _ _ _, hx.below hb⟩
  obtain ⟨fb, hfb⟩ : ∃ fb, fb = fewB n 40 := ⟨_, rfl⟩
  have Hfb := Lib.hid hfb.symm
  clear hx hfb
  have HT := Lib.hid htl
  clear htl
  obtain ⟨u, hu⟩ : ∃ u, u = bs tl := ⟨_, rfl⟩
  rw [← hu]
  have Hu := Lib.hid hu
  clear hu
  go_enter Tryd.func3, Tryd.ntmps3
  go_wp2_with fail
  rw [← hB] at *
  clear hB
  obtain ⟨W1, hW1⟩ : ∃ W1, W1 = w.alloc (.cells #[.slice x n c] 24) := ⟨_, rfl⟩
  rw [← hW1] at HE ⊢
  clear hW1
  go_at_call 11
  refine (HH.out _ HE.out.below).mono ?_
  rintro e W2 ⟨rfl, hb⟩
  obtain ⟨HE, lz, cz⟩ := HE.out.next hb
  clear hb HH
  go_wp2_with fail
  go_at_call 12
  refine (Few_c x n c 40 W2).mono ?_
  rintro e W3 ⟨rfl, hb⟩
  rw [Hfb.out]
  clear lz cz
  obtain ⟨HE, lz, cz⟩ := HE.out.next hb
  clear hb
  cases fb
  · go_wp2_with fail
    go_ret
    exact ⟨rfl, HE.out.below⟩
  clear Hfb
  rcases hA : localF l t with ⟨a1, a2, a3⟩
  have HA := Lib.hid hA
  clear hA
  go_wp2_with fail
  go_at_call 13
  refine (Local_c x n c l t W3 HE.out.sh).mono ?_
  rintro e W4 ⟨rfl, hb⟩
  rw [HA.out]
  clear lz cz
  obtain ⟨HE, lz, cz⟩ := HE.out.next hb
  clear hb
  go_wp2_with fail
  go_at_call 14
  refine (rLocal_c rValid_c x n c l t W4 HE.out.sh).mono ?_
  rintro e W5 ⟨rfl, hb⟩
  rw [HA.out]
  clear HA
  rcases hA : instF l day minute with ⟨b1, b2⟩
  have HA := Lib.hid hA
  clear hA
  clear lz cz
  obtain ⟨HE, lz, cz⟩ := HE.out.next hb
  clear hb
  go_wp2_with fail
  go_at_call 15
  refine (Instant_c x n c l day minute W5 HE.out.sh).mono ?_
  rintro e W6 ⟨rfl, hb⟩
  rw [HA.out]
  clear lz cz
  obtain ⟨HE, lz, cz⟩ := HE.out.next hb
  clear hb
  go_wp2_with fail
  go_at_call 16
  refine (rInstant_c x n c l day minute W6 HE.out.sh).mono ?_
  rintro e W7 ⟨rfl, hb⟩
  rw [HA.out]
  clear HA
  rcases hA : instF l day 0 with ⟨c1, c2⟩
  have HA := Lib.hid hA
  clear hA
  clear lz cz
  obtain ⟨HE, lz, cz⟩ := HE.out.next hb
  clear hb
  go_wp2_with fail
  go_at_call 17
  refine (Begin_c x n c l day W7 HE.out.sh).mono ?_
  rintro e W8 ⟨rfl, hb⟩
  rw [HA.out]
  clear lz cz
  obtain ⟨HE, lz, cz⟩ := HE.out.next hb
  clear hb
  go_wp2_with fail
  go_at_call 16
  refine (rInstant_c x n c l day 0 W8 HE.out.sh).mono ?_
  rintro e W9 ⟨rfl, hb⟩
  rw [HA.out]
  clear HA
  rcases hA : textF t with ⟨d1, d2⟩
  have HA := Lib.hid hA
  clear hA
  clear lz cz
  obtain ⟨HE, lz, cz⟩ := HE.out.next hb
  clear hb
  go_wp2_with fail
  go_at_call 18
  refine (Text_c t W9 (HS.out _ HE.out.below)).mono ?_
  rintro e W10 ⟨rfl, hb⟩
  rw [HA.out]
  clear lz cz
  obtain ⟨HE, lz, cz⟩ := HE.out.next hb
  clear hb
  go_wp2_with fail
  go_at_call 19
  refine (rText_c t W10).mono ?_
  rintro e W11 ⟨rfl, hb⟩
  obtain rfl : W11 = W10 := hb
  rw [HA.out]
  clear HA
  rcases hA : parseF tl with ⟨p1, p2⟩
  have HA := Lib.hid hA
  clear hA
  go_wp2_with fail
  rw [Hu.out]
  go_at_call 20
  refine (Parse_c tl W11 HT.out (HS.out _ HE.out.below)).mono ?_
  rintro e W12 ⟨rfl, hb⟩
  rw [HA.out]
  rw [← Hu.out]
  clear lz cz
  obtain ⟨HE, lz, cz⟩ := HE.out.next hb
  clear hb
  go_wp2_with fail
  rw [Hu.out]
  go_at_call 21
  refine (rParse_c tl W12 HT.out).mono ?_
  rintro e W13 ⟨rfl, hb⟩
  rw [HA.out]
  rw [← Hu.out]
  clear HA
  obtain ⟨vb, hvb⟩ : ∃ vb, vb = validB l := ⟨_, rfl⟩
  have Hvb := Lib.hid hvb.symm
  clear hvb
  clear lz cz
  obtain ⟨HE, lz, cz⟩ := HE.out.next hb
  clear hb
  go_wp2_with fail
  refine wp_region_can [1, 3] [0, 2, 1, 3, 4, 5, 6, 7, 8, 9, 10, 11, 12, 13, 14, 15, 16, 17, 18, 19, 20, 21, 22, 23, 24, 25, 26, 27, 28, 29, 30, 31, 32, 33, 34, 35, 36, 37, 38, 39, 40] (by kernel_rfl) (by kernel_rfl) ?_
  clear lz cz
  obtain ⟨HE, lz, cz⟩ := HE.out.next (W' := W13.drew) (Below.refl _ _).drew
  iterate 2 (refine cl_do rfl rfl rfl rfl (fun _ _ => ?_); go_wp2_with fail)
  refine cl_call (i := 1) rfl rfl rfl (fun K hK => ?_)
  go_wp2_with fail
  go_at_call 22
  refine (Valid_c x n c l _ HE.out.sh).mono ?_
  rintro e W14 ⟨rfl, hb⟩
  rw [Hvb.out]
  have Hb := Lib.hid hb
  obtain ⟨HE, lz, cz⟩ := HE.out.next hb
  clear hb
  go_wp2_with fail
  refine And.intro Hb.out ?_
  clear Hb
  refine cl_call (i := 3) rfl rfl rfl (fun K hK => ?_)
  go_wp2_with fail
  go_at_call 23
  refine (rValid_c x n c l _ HE.out.sh).mono ?_
  rintro e W15 ⟨rfl, hb⟩
  rw [Hvb.out]
  have Hb := Lib.hid hb
  obtain ⟨HE, lz, cz⟩ := HE.out.next hb
  clear hb
  go_wp2_with fail
  refine And.intro Hb.out ?_
  clear Hb Hvb
  cases vb
  all_goals
    iterate 37 (first | (refine cl_do rfl rfl rfl rfl (fun _ _ => ?_); go_wp2_with fail) | (refine cl_yes rfl rfl rfl rfl rfl (fun _ _ => ?_); go_wp2_with fail))
    refine cl_nil ?_
    go_wp2_with fail
    go_ret
    exact ⟨rfl, HE.out.below⟩
theorem ClockMatchesReference_walk (w : World) (hs : Std w) (x : Option Addr) (n c : Nat) (l : List Shift) (hx : IsShifts w x n l) (t : Int) (wt : (Lit.int .i64 t).wf = true) (day : Int) (wd : (Lit.int .i64 day).wf = true) (minute : Int) (wm : (Lit.int .i64 minute).wf = true) (tl : List UInt8) (htl : tl.length ≤ 140737488355328) :
    Calls Tryd.prog 3 #[.agg #[.slice x n c], .int .i64 t, .int .i64 day, .int .i64 minute, .string (bs tl)] w fun e w' => e = .returned (.bool true) ∧ Below w.heap.size w w' := ClockMatchesReference_walk0 w hs x n c l hx t day minute tl htl
end Go.Proofs.YthnhbiogaikpoaaDoor
