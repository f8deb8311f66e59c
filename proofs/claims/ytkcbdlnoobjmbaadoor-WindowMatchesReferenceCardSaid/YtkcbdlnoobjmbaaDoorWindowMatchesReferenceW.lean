/-
  'WindowMatchesReference': the walk.
-/
import Derived.Test.YtkcbdlnoobjmbaaDoorWnLaw
import Derived.Test.YtkcbdlnoobjmbaaDoorWnRSpan
namespace Go.Proofs.YtkcbdlnoobjmbaaDoor
open Go.RowKit Go.Cz Go.Cz.Ck Go.Cz.Wn
set_option linter.unusedSimpArgs false
set_option linter.unusedVariables false
attribute [local go_sem] bs_size bs_extract bs_append bs_toList
attribute [local irreducible] cList
set_option maxRecDepth 10000 in
set_option maxHeartbeats 4000000 in
theorem WindowMatchesReference_walk0 (w : World) (m : Ms) (x : Option Addr) (n c : Nat) (l : List Shift) (hx : IsShifts w x n l) (signed now : Int) :
    Calls Tryd.prog 3 #[.agg m.v, .agg #[.slice x n c], .int .i64 signed, .int .i64 now] w fun e w' => e = .returned (.bool true) ∧ Below w.heap.size w w' := by
  obtain ⟨B, hB⟩ : ∃ B, B = w.heap.size := ⟨_, rfl⟩
  have HE : Hid (WE w ((w.alloc (.cells m.v 26)).alloc (.cells #[.slice x n c] 29)) B m x n c l) := by rw [hB]; exact WE.start w m x n c l hx
  clear hx



  obtain ⟨id, auth, kind, target, op, name, cmp, num, ka, kn, kc, fr, un, wi⟩ := m

  dsimp only [Ms.v] at HE ⊢
  go_enter Tryd.func3, Tryd.ntmps3
  go_wp2_with fail
  rw [← hB] at *
  clear hB
  obtain ⟨W1, hW1⟩ : ∃ W1, W1 = (w.alloc (.cells #[.string id, .string auth, .int .i64 kind, .string target, .int .i64 op, .string name, .int .i64 cmp, .int .i64 num, .slice ka kn kc, .int .i64 fr, .int .i64 un, .int .i64 wi] 26)).alloc (.cells #[.slice x n c] 29) := ⟨_, rfl⟩
  rw [← hW1] at HE ⊢
  clear hW1
  go_at_call 10
  refine (head_c W1).mono ?_
  rintro e W2 ⟨rfl, hb⟩
  (try clear z1 z2 cz n0 n1 n2 n3 n4 n5 n6 n7 n8 n9 n10 n11)
  replace HE := Lib.hid (HE.out.keep hb)
  clear hb
  obtain ⟨z1, z2, cz, n0, n1, n2, n3, n4, n5, n6, n7, n8, n9, n10, n11⟩ := HE.out.cells
  dsimp only at n0 n1 n2 n3 n4 n5 n6 n7 n8 n9 n10 n11
  by_cases h25 : 25 < n
  · go_wp2_with fail
    go_ret
    exact ⟨rfl, HE.out.below⟩
  rcases hS : spanF l kind fr un wi with ⟨S1, S2, S3⟩
  have HS := Lib.hid hS
  clear hS
  go_wp2_with fail
  go_at_call 11
  refine (Span_c ⟨id, auth, kind, target, op, name, cmp, num, ka, kn, kc, fr, un, wi⟩ x n c l W2 HE.out.sh).mono ?_
  rintro e W3 ⟨rfl, hb⟩
  dsimp only
  rw [HS.out]
  (try clear z1 z2 cz n0 n1 n2 n3 n4 n5 n6 n7 n8 n9 n10 n11)
  replace HE := Lib.hid (HE.out.keep hb)
  clear hb
  obtain ⟨z1, z2, cz, n0, n1, n2, n3, n4, n5, n6, n7, n8, n9, n10, n11⟩ := HE.out.cells
  dsimp only at n0 n1 n2 n3 n4 n5 n6 n7 n8 n9 n10 n11
  go_wp2_with fail
  go_at_call 12
  refine (rSpan_c ⟨id, auth, kind, target, op, name, cmp, num, ka, kn, kc, fr, un, wi⟩ x n c l W3 HE.out.sh).mono ?_
  rintro e W4 ⟨rfl, hb⟩
  dsimp only
  rw [HS.out]
  (try clear z1 z2 cz n0 n1 n2 n3 n4 n5 n6 n7 n8 n9 n10 n11)
  replace HE := Lib.hid (HE.out.keep hb)
  clear hb
  obtain ⟨z1, z2, cz, n0, n1, n2, n3, n4, n5, n6, n7, n8, n9, n10, n11⟩ := HE.out.cells
  dsimp only at n0 n1 n2 n3 n4 n5 n6 n7 n8 n9 n10 n11
  go_wp2_with fail
  refine wp_region_can [21, 26] [0, 1, 2, 3, 4, 5, 6, 7, 8, 9, 10, 11, 12, 13, 14, 15, 16, 17, 18, 19, 20, 22, 23, 24, 25, 21, 26, 27, 28, 29] (by kernel_rfl) (by kernel_rfl) ?_
  have hb : Below W4.heap.size W4 W4.drew := (Below.refl _ _).drew
  (try clear z1 z2 cz n0 n1 n2 n3 n4 n5 n6 n7 n8 n9 n10 n11)
  replace HE := Lib.hid (HE.out.keep hb)
  clear hb
  obtain ⟨z1, z2, cz, n0, n1, n2, n3, n4, n5, n6, n7, n8, n9, n10, n11⟩ := HE.out.cells
  dsimp only at n0 n1 n2 n3 n4 n5 n6 n7 n8 n9 n10 n11
  iterate 25 (first | (refine cl_do rfl rfl rfl rfl (fun _ _ => ?_); go_wp2_with fail) | (refine cl_yes rfl rfl rfl rfl rfl (fun _ _ => ?_); go_wp2_with fail))
  refine cl_ycall (i := 21) rfl rfl rfl rfl (fun K hK => ?_)
  go_wp2_with fail
  go_at_call 13
  refine (Applies_c ⟨id, auth, kind, target, op, name, cmp, num, ka, kn, kc, fr, un, wi⟩ x n c l signed now _ HE.out.sh).mono ?_
  rintro e W5 ⟨rfl, hb⟩
  dsimp only
  obtain ⟨q, hq⟩ : ∃ q, q = appliesF l kind fr un wi signed now := ⟨_, rfl⟩
  rw [← hq]
  have Hq := Lib.hid hq.symm
  clear hq
  have Hb := Lib.hid hb
  (try clear z1 z2 cz n0 n1 n2 n3 n4 n5 n6 n7 n8 n9 n10 n11)
  replace HE := Lib.hid (HE.out.keep hb)
  clear hb
  obtain ⟨z1, z2, cz, n0, n1, n2, n3, n4, n5, n6, n7, n8, n9, n10, n11⟩ := HE.out.cells
  dsimp only at n0 n1 n2 n3 n4 n5 n6 n7 n8 n9 n10 n11
  go_wp2_with fail
  refine And.intro Hb.out ?_
  clear Hb
  refine cl_ycall (i := 26) rfl rfl rfl rfl (fun K hK => ?_)
  go_wp2_with fail
  go_at_call 14
  refine (rApplies_c ⟨id, auth, kind, target, op, name, cmp, num, ka, kn, kc, fr, un, wi⟩ x n c l signed now _ HE.out.sh).mono ?_
  rintro e W6 ⟨rfl, hb⟩
  dsimp only
  rw [Hq.out]
  have Hb := Lib.hid hb
  (try clear z1 z2 cz n0 n1 n2 n3 n4 n5 n6 n7 n8 n9 n10 n11)
  replace HE := Lib.hid (HE.out.keep hb)
  clear hb
  obtain ⟨z1, z2, cz, n0, n1, n2, n3, n4, n5, n6, n7, n8, n9, n10, n11⟩ := HE.out.cells
  dsimp only at n0 n1 n2 n3 n4 n5 n6 n7 n8 n9 n10 n11
  go_wp2_with fail
  refine And.intro Hb.out ?_
  clear Hb
  iterate 3 (first | (refine cl_do rfl rfl rfl rfl (fun _ _ => ?_); go_wp2_with fail) | (refine cl_yes rfl rfl rfl rfl rfl (fun _ _ => ?_); go_wp2_with fail))
  refine cl_nil ?_
  go_wp2_with fail
  go_ret
  exact ⟨rfl, HE.out.below⟩
theorem WindowMatchesReference_walk (w : World) (m : Ms) (x : Option Addr) (n c : Nat) (l : List Shift) (hx : IsShifts w x n l) (signed : Int) (ws : (Lit.int .i64 signed).wf = true) (now : Int) (wn : (Lit.int .i64 now).wf = true) :
    Calls Tryd.prog 3 #[.agg m.v, .agg #[.slice x n c], .int .i64 signed, .int .i64 now] w fun e w' => e = .returned (.bool true) ∧ Below w.heap.size w w' := WindowMatchesReference_walk0 w m x n c l hx signed now
end Go.Proofs.YtkcbdlnoobjmbaaDoor
