/-
  'FormulaTests' returns true: the walk.
-/
import Derived.Test.YtagoefnibgobcaaGreatDoorFmFew
import Derived.Test.YtagoefnibgobcaaGreatDoorFmHdL
namespace Go.Proofs.YtagoefnibgobcaaGreatDoor
open Go.RowKit Go.Cz Go.Cz.Lx Go.Cz.Fo
set_option linter.unusedSimpArgs false
set_option linter.unusedVariables false
attribute [local go_sem] bs_size bs_extract bs_append bs_toList
attribute [local irreducible] cList cPlan
abbrev wantO (z n : Int) : Obj := .cells #[.bool (z == n), .bool (z != n), .bool (decide (z < n)), .bool (decide (z ≤ n)), .bool (decide (n < z)), .bool (decide (n ≤ z))] 4 (0, 0)
theorem want_at {W : World} {b : Nat} {z n : Int} {k : Nat} (h : W.heap[b]? = some (wantO z n)) (hk : k < 6) : W.cell? ⟨b, k, none⟩ = some (.bool (cmpB z ((k : Int) + 1) n)) := by
  rw [cell_of_heap h]
  rcases k with _ | _ | _ | _ | _ | _ | k
  iterate 6 rfl
  omega
theorem getD {W W' : World} {d : List Fact} {g off n m j : Nat} {x : Fact} (h : IsD W d (.slice (some ⟨g, off, none⟩) n m)) (hb : Below W.heap.size W W') (hj : d[j]? = some x) : True ∧ True ∧ True ∧ True ∧ g < W'.heap.size ∧
    W'.cell? ⟨g, off + j * 4, none⟩ = some (.string (bs x.name)) ∧ W'.cell? ⟨g, off + j * 4 + 1, none⟩ = some (.int .i64 x.kind) ∧ W'.cell? ⟨g, off + j * 4 + 2, none⟩ = some (.int .i64 x.lo) ∧ W'.cell? ⟨g, off + j * 4 + 3, none⟩ = some (.int .i64 x.hi) := by
  obtain ⟨g', off', e, h1, h2⟩ := h.get hb hj
  simp only [Option.some.injEq, Addr.mk.injEq, and_true] at e
  obtain ⟨rfl, rfl⟩ := e
  exact ⟨trivial, trivial, trivial, trivial, h1, h2⟩
theorem u8_in {r : Int} (hr : (Lit.int .u8 r).wf = true) : 0 ≤ r ∧ r ≤ 255 := by
  simp only [Lit.wf, Bool.and_eq_true, decide_eq_true_eq] at hr
  exact ⟨hr.1, hr.2⟩
set_option maxRecDepth 100000 in
set_option maxHeartbeats 8000000 in
theorem FormulaTests_walk (w : World) (hs : Std w) (d : List Fact) (v : Value) (hd : IsD w d v) (hn : d.length ≤ 9223372036854775807) (c : List Int) (u : Value) (hc : IsC w c u) (hm : c.length ≤ 9223372036854775807) (a : Int) (ha : (Lit.int .u8 a).wf = true) (n : Int) (hnn : (Lit.int .i64 n).wf = true) :
    Calls Tryz.prog 6 #[.agg #[v], u, .int .u8 a, .int .i64 n] w fun e w' => e = .returned (.bool true) ∧ Below w.heap.size w w' := by
  have HS := Lib.hid hs
  have HD := Lib.hid hd
  have HC := Lib.hid hc
  have HDn := Lib.hid hn
  have ha2 : 0 ≤ a ∧ a ≤ 255 := u8_in ha
  obtain ⟨a, rfl⟩ : ∃ b : Nat, a = b := ⟨a.toNat, by omega⟩
  have ha3 : a ≤ 255 := by omega
  clear hs hd hc hn hm ha hnn ha2
  obtain ⟨yd, md, hv⟩ := HD.out.form
  subst hv
  obtain ⟨M, hM⟩ : ∃ M, M = d.length := ⟨_, rfl⟩
  have HM := Lib.hid hM
  rw [← hM] at HD ⊢
  obtain ⟨yc, mc, hv⟩ := HC.out.form
  subst hv
  obtain ⟨Mc, hMc⟩ : ∃ Mc, Mc = c.length := ⟨_, rfl⟩
  have HMc := Lib.hid hMc
  rw [← hMc] at HC ⊢
  clear hM hMc
  obtain ⟨W1, hW1⟩ : ∃ W1, W1 = w.alloc (.cells #[.slice yd M md] 27) := ⟨_, rfl⟩
  obtain ⟨bd, hbd⟩ : ∃ bd, bd = w.heap.size := ⟨_, rfl⟩
  have HO : Hid (Owns w W1 [blk bd (.cells #[.slice yd M md] 27 (0, 0))]) := by
    rw [hW1, hbd]
    exact Lib.hid ((Owns.start w).box (.cells #[.slice yd M md] 27 (0, 0)))
  go_enter Tryz.func6, Tryz.ntmps6
  go_wp2_with fail
  rw [← hW1]
  try rw [← hbd]
  clear hW1 hbd
  go_at_call 12
  refine (head_c W1 (HS.out.below HO.out.base)).mono ?_
  rintro e W2 ⟨rfl, hb⟩
  replace HO := Lib.hid (HO.out.below hb)
  clear hb
  focus
    obtain ⟨bk, -⟩ := HO.out.blk
    have hbd := lt_of_block bk
    have cd0 := cell_of_heap bk (i := 0)
    simp only [List.getElem?_toArray, List.getElem?_cons_succ, List.getElem?_cons_zero] at cd0
    clear bk
    go_wp2_with fail
    clear hbd cd0
  go_at_call 14
  refine (few_c d c _ _ W2 (HD.out.later HO.out.base) (HC.out.later HO.out.base) HDn.out).mono ?_
  rintro e W3 ⟨rfl, hb⟩
  replace HO := Lib.hid (HO.out.below hb)
  clear hb
  obtain ⟨b, hb0⟩ : ∃ b, b = fewB d c := ⟨_, rfl⟩
  have HB1 := Lib.hid hb0
  rw [← hb0]
  clear hb0
  cases b
  · go_wp2_with fail
    go_ret
    exact ⟨rfl, HO.out.base⟩
  focus
    obtain ⟨bk, -⟩ := HO.out.blk
    have hbd := lt_of_block bk
    have cd0 := cell_of_heap bk (i := 0)
    simp only [List.getElem?_toArray, List.getElem?_cons_succ, List.getElem?_cons_zero] at cd0
    clear bk
    go_wp2_with fail
    clear hbd cd0
  have HFw := Lib.hid (few_names HB1.out.symm)
  have HX : Hid (∀ x ∈ d, x.name.length ≤ 140737488355328) := fun x hx => by have := HFw.out.1 x hx; omega
  have HDm : Hid (d.length ≤ 1000000) := by have := HFw.out.2.1; show _ ≤ _; omega
  have HCm : Hid (c.length ≤ 1000000) := by have := HFw.out.2.2; show _ ≤ _; omega
  go_at_call 30
  refine (Fits_c d c _ _ W3 (HD.out.later HO.out.base) (HC.out.later HO.out.base) HDm.out HCm.out HX.out).mono ?_
  rintro e W4 ⟨rfl, hb⟩
  replace HO := Lib.hid (HO.out.below hb)
  clear hb
  obtain ⟨b, hb0⟩ : ∃ b, b = fitsB d c := ⟨_, rfl⟩
  have HB2 := Lib.hid hb0
  rw [← hb0]
  clear hb0
  cases b
  · go_wp2_with fail
    go_ret
    exact ⟨rfl, HO.out.base⟩
  have hlen : Mc = M := by rw [HMc.out, HM.out]; exact (fits_valid HB2.out.symm).2.1
  subst hlen
  by_cases h0 : Mc = 0
  · have h0' : ((Mc : Int) == 0) = true := by simpa using h0
    clear h0
    go_wp2_with fail
    go_ret
    exact ⟨rfl, HO.out.base⟩
  have h0' : ((Mc : Int) == 0) = false := by simpa using h0
  by_cases hn0 : n < 0
  · go_wp2_with fail
    go_ret
    exact ⟨rfl, HO.out.base⟩
  by_cases hn1 : 1000000 < n
  · go_wp2_with fail
    go_ret
    exact ⟨rfl, HO.out.base⟩
  have hM70 : Mc ≤ 70 := by rw [HMc.out]; exact HFw.out.2.2
  obtain ⟨i, hi⟩ : ∃ i, i = a % Mc := ⟨_, rfl⟩
  have hiM : i < Mc := by rw [hi]; exact Nat.mod_lt _ (by omega)
  obtain ⟨x, hx⟩ : ∃ x, d[i]? = some x := ⟨_, List.getElem?_eq_getElem (by rw [← HM.out]; exact hiM)⟩
  obtain ⟨z, hz⟩ : ∃ z, c[i]? = some z := ⟨_, List.getElem?_eq_getElem (by rw [← HMc.out]; exact hiM)⟩
  obtain ⟨gx, offx, rfl, hgx, c0, c1, c2, c3⟩ := HD.out.get HO.out.base hx
  have himod : (a : Int) % (Mc : Int) = (i : Int) := by rw [hi]; simp
  clear h0 hi
  have HXd := Lib.hid hx
  have HZc := Lib.hid hz
  focus
    obtain ⟨bk, -⟩ := HO.out.blk
    have hbd := lt_of_block bk
    have cd0 := cell_of_heap bk (i := 0)
    simp only [List.getElem?_toArray, List.getElem?_cons_succ, List.getElem?_cons_zero] at cd0
    clear bk
    go_wp2_with fail
    clear hbd cd0
  clear hgx c0 c1 c2 c3
  go_at_call 31
  refine (rKey_c x.name W4).mono ?_
  rintro e W5 ⟨rfl, rfl⟩
  obtain ⟨b, hb0⟩ : ∃ b, b = keyB x.name := ⟨_, rfl⟩
  have HB3 := Lib.hid hb0
  rw [← hb0]
  clear hb0
  cases b
  case true =>
    go_wp2_with fail
    go_ret
    exact ⟨rfl, HO.out.base⟩
  have HT : Hid (∀ m : Int, holdsF d c (.mk 3 x.name m n []) = if 1 ≤ m ∧ m ≤ 6 then cmpB z m n else false) := by
    intro m
    have h := test_holds (m := m) HB2.out.symm HXd.out HB3.out.symm (by omega) (by omega)
    rw [h, List.getD_eq_getElem?_getD, HZc.out]
    rfl
  have hxl : x.name.length ≤ 60 := HFw.out.1 x (List.mem_of_getElem? hx)
  have HXl : Hid (x.name.length ≤ 60) := hxl
  clear hx hz hn0 hn1 hxl
  go_wp2_with fail
  refine wp_region_can [] (List.range 38) (by decide +kernel) (by decide +kernel) ?_
  replace HO := Lib.hid HO.out.drew
  generalize hWd : World.drew _ = W6 at HO ⊢
  clear hWd
  obtain ⟨gz, offz, rfl, hgz, cz⟩ := HC.out.get HO.out.base HZc.out
  iterate 38 (first | (refine cl_do rfl rfl rfl (by first | rfl | simp [okB, lenV, plainV, Act.eval]) (fun _ _ => ?_); go_wp2_with fail) | (refine cl_yes rfl rfl rfl rfl (by first | rfl | simp [okB, lenV, plainV, Act.eval]) (fun _ _ => ?_); go_wp2_with fail))
  refine cl_nil ?_
  clear hgz cz
  go_wp2_with fail
  obtain ⟨W7, hW7⟩ : ∃ W7, W7 = W6.alloc (.cells #[.bool (z == n), .bool (z != n), .bool (decide (z < n)), .bool (decide (z ≤ n)), .bool (decide (n < z)), .bool (decide (n ≤ z))] 4) := ⟨_, rfl⟩
  obtain ⟨bw, hbw⟩ : ∃ bw, bw = W6.heap.size := ⟨_, rfl⟩
  have HO7 : Hid (Owns w W7 [blk bd (.cells #[.slice (some ⟨gx, offx, none⟩) Mc md] 27 (0, 0)), blk bw (wantO z n)]) := by
    rw [hW7, hbw]
    exact Lib.hid (HO.out.box (wantO z n)).swap
  rw [← hW7, ← hbw]
  clear hW7 hbw HO
  go_loopg [12] 6 (fun gk j wr => ∃ k : Nat, gk = 6 - k ∧ k ≤ 6 ∧ j = .int .i64 (k : Int) ∧ Hid (Owns w wr [blk bd (.cells #[.slice (some ⟨gx, offx, none⟩) Mc md] 27 (0, 0)), blk bw (wantO z n)]))
  case atStart => exact ⟨0, rfl, Nat.zero_le _, rfl, HO7⟩
  case round =>
    rename_i J1 K1 hJ1 hK1
    clear HO7
    obtain ⟨k, rfl, hk, rfl, HO⟩ := hrel
    by_cases hlt : k < 6
    · obtain ⟨q, hq⟩ : ∃ q, q = cmpB z ((k : Int) + 1) n := ⟨_, rfl⟩
      have HQ := Lib.hid hq
      clear hq
      go_wp2_with fail
      refine wp_region_can [9, 12] [0, 1, 2, 3, 4, 5, 6, 7, 8, 10, 11, 13, 14, 15, 16, 9, 12, 17] (by decide +kernel) (by decide +kernel) ?_
      replace HO := Lib.hid HO.out.drew
      generalize hWd : World.drew _ = W8 at HO ⊢
      clear hWd
      focus
        obtain ⟨bk, -⟩ := HO.out.blk
        have hbd := lt_of_block bk
        have cd0 := cell_of_heap bk (i := 0)
        simp only [List.getElem?_toArray, List.getElem?_cons_succ, List.getElem?_cons_zero] at cd0
        clear bk
        obtain ⟨-, -, -, -, hgx, c0, c1, c2, c3⟩ := getD HD.out HO.out.base HXd.out
        have cw : W8.cell? ⟨bw, k, none⟩ = some (.bool q) := by
          rw [HQ.out]
          exact want_at HO.out.pop.blk.1 hlt
        have hbw := lt_of_block HO.out.pop.blk.1
        iterate 15 (first | (refine cl_do rfl rfl rfl (by first | rfl | simp [okB, lenV, plainV, Act.eval]) (fun _ _ => ?_); go_wp2_with fail) | (refine cl_yes rfl rfl rfl rfl (by first | rfl | simp [okB, lenV, plainV, Act.eval]) (fun _ _ => ?_); go_wp2_with fail))
        clear hbd cd0 cw hbw hgx c0 c1 c2 c3
      refine cl_call (i := 9) rfl rfl (by first | rfl | simp [okB, lenV, plainV, Act.eval]) (fun K hK => ?_)
      go_wp2_with fail
      go_at_call 32
      refine (test_c x.name ((k : Int) + 1) n W8).mono ?_
      rintro e w2 ⟨rfl, hb⟩
      skip
      replace HO := Lib.hid (HO.out.below hb)
      have Hb := Lib.hid hb
      clear hb
      go_wp2_with fail
      refine And.intro Hb.out ?_
      clear Hb
      refine cl_call (i := 12) rfl rfl (by first | rfl | simp [okB, lenV, plainV, Act.eval]) (fun K hK => ?_)
      go_wp2_with fail
      go_at_call 20
      refine (Holds_c (.mk 3 x.name ((k : Int) + 1) n []) _ _ d _ c _ (IsFm.leaf (p := fun _ => True) _ _ _ _ none 0) (HD.out.later HO.out.base) (HC.out.later HO.out.base) HDm.out HCm.out HX.out (lim := 60) (by omega) (by rw [short, decide_eq_true HXl.out]; rfl) (by simp [size, sizes])).mono ?_
      rintro e w2 ⟨rfl, hb⟩
      rw [HT.out, if_pos (by omega), ← HQ.out]
      replace HO := Lib.hid (HO.out.below hb)
      have Hb := Lib.hid hb
      clear hb
      go_wp2_with fail
      refine And.intro Hb.out ?_
      clear Hb
      iterate 1 (first | (refine cl_do rfl rfl rfl (by first | rfl | simp [okB, lenV, plainV, Act.eval]) (fun _ _ => ?_); go_wp2_with fail) | (refine cl_yes rfl rfl rfl rfl (by first | rfl | simp [okB, lenV, plainV, Act.eval]) (fun _ _ => ?_); go_wp2_with fail))
      refine cl_nil ?_
      go_wp2_with fail
      go_roundg (6 - (k + 1))
      case measure => omega
      case rel => exact ⟨k + 1, rfl, by omega, by go_num, HO⟩
    · obtain rfl : k = 6 := by omega
      clear hJ1 hK1 hlt
      go_wp2_with fail
      refine wp_region_can [9, 12, 23, 26] [0, 1, 2, 3, 4, 5, 6, 7, 8, 10, 11, 9, 12, 13, 14, 15, 16, 17, 18, 19, 20, 21, 22, 24, 25, 23, 26, 27, 28, 29] (by decide +kernel) (by decide +kernel) ?_
      replace HO := Lib.hid HO.out.drew
      generalize hWd : World.drew _ = W8 at HO ⊢
      clear hWd
      focus
        obtain ⟨bk, -⟩ := HO.out.blk
        have hbd := lt_of_block bk
        have cd0 := cell_of_heap bk (i := 0)
        simp only [List.getElem?_toArray, List.getElem?_cons_succ, List.getElem?_cons_zero] at cd0
        clear bk
        obtain ⟨-, -, -, -, hgx, c0, c1, c2, c3⟩ := getD HD.out HO.out.base HXd.out
        iterate 11 (first | (refine cl_do rfl rfl rfl (by first | rfl | simp [okB, lenV, plainV, Act.eval]) (fun _ _ => ?_); go_wp2_with fail) | (refine cl_yes rfl rfl rfl rfl (by first | rfl | simp [okB, lenV, plainV, Act.eval]) (fun _ _ => ?_); go_wp2_with fail))
        clear hbd cd0 hgx c0 c1 c2 c3
      refine cl_ycall (i := 9) rfl rfl rfl (by first | rfl | simp [okB, lenV, plainV, Act.eval]) (fun K hK => ?_)
      go_wp2_with fail
      go_at_call 32
      refine (test_c x.name 7 n W8).mono ?_
      rintro e w2 ⟨rfl, hb⟩
      skip
      replace HO := Lib.hid (HO.out.below hb)
      have Hb := Lib.hid hb
      clear hb
      go_wp2_with fail
      refine And.intro Hb.out ?_
      clear Hb
      refine cl_ycall (i := 12) rfl rfl rfl (by first | rfl | simp [okB, lenV, plainV, Act.eval]) (fun K hK => ?_)
      go_wp2_with fail
      go_at_call 20
      refine (Holds_c (.mk 3 x.name 7 n []) _ _ d _ c _ (IsFm.leaf (p := fun _ => True) _ _ _ _ none 0) (HD.out.later HO.out.base) (HC.out.later HO.out.base) HDm.out HCm.out HX.out (lim := 60) (by omega) (by rw [short, decide_eq_true HXl.out]; rfl) (by simp [size, sizes])).mono ?_
      rintro e w2 ⟨rfl, hb⟩
      rw [HT.out, if_neg (by omega)]
      replace HO := Lib.hid (HO.out.below hb)
      have Hb := Lib.hid hb
      clear hb
      go_wp2_with fail
      refine And.intro Hb.out ?_
      clear Hb
      iterate 3 (first | (refine cl_do rfl rfl rfl (by first | rfl | simp [okB, lenV, plainV, Act.eval]) (fun _ _ => ?_); go_wp2_with fail) | (refine cl_yes rfl rfl rfl rfl (by first | rfl | simp [okB, lenV, plainV, Act.eval]) (fun _ _ => ?_); go_wp2_with fail))
      generalize w2 = W9 at HO ⊢
      focus
        obtain ⟨bk, -⟩ := HO.out.blk
        have hbd := lt_of_block bk
        have cd0 := cell_of_heap bk (i := 0)
        simp only [List.getElem?_toArray, List.getElem?_cons_succ, List.getElem?_cons_zero] at cd0
        clear bk
        obtain ⟨-, -, -, -, hgx, c0, c1, c2, c3⟩ := getD HD.out HO.out.base HXd.out
        iterate 9 (first | (refine cl_do rfl rfl rfl (by first | rfl | simp [okB, lenV, plainV, Act.eval]) (fun _ _ => ?_); go_wp2_with fail) | (refine cl_yes rfl rfl rfl rfl (by first | rfl | simp [okB, lenV, plainV, Act.eval]) (fun _ _ => ?_); go_wp2_with fail))
        clear hbd cd0 hgx c0 c1 c2 c3
      refine cl_ycall (i := 23) rfl rfl rfl (by first | rfl | simp [okB, lenV, plainV, Act.eval]) (fun K hK => ?_)
      go_wp2_with fail
      go_at_call 32
      refine (test_c x.name 0 n W9).mono ?_
      rintro e w2 ⟨rfl, hb⟩
      skip
      replace HO := Lib.hid (HO.out.below hb)
      have Hb := Lib.hid hb
      clear hb
      go_wp2_with fail
      refine And.intro Hb.out ?_
      clear Hb
      refine cl_ycall (i := 26) rfl rfl rfl (by first | rfl | simp [okB, lenV, plainV, Act.eval]) (fun K hK => ?_)
      go_wp2_with fail
      go_at_call 20
      refine (Holds_c (.mk 3 x.name 0 n []) _ _ d _ c _ (IsFm.leaf (p := fun _ => True) _ _ _ _ none 0) (HD.out.later HO.out.base) (HC.out.later HO.out.base) HDm.out HCm.out HX.out (lim := 60) (by omega) (by rw [short, decide_eq_true HXl.out]; rfl) (by simp [size, sizes])).mono ?_
      rintro e w2 ⟨rfl, hb⟩
      rw [HT.out, if_neg (by omega)]
      replace HO := Lib.hid (HO.out.below hb)
      have Hb := Lib.hid hb
      clear hb
      go_wp2_with fail
      refine And.intro Hb.out ?_
      clear Hb
      iterate 3 (first | (refine cl_do rfl rfl rfl (by first | rfl | simp [okB, lenV, plainV, Act.eval]) (fun _ _ => ?_); go_wp2_with fail) | (refine cl_yes rfl rfl rfl rfl (by first | rfl | simp [okB, lenV, plainV, Act.eval]) (fun _ _ => ?_); go_wp2_with fail))
      refine cl_nil ?_
      go_wp2_with fail
      go_ret
      exact ⟨rfl, HO.out.base⟩
end Go.Proofs.YtagoefnibgobcaaGreatDoor
