/-
  The laws' own 'few', 'good', 'named'.
-/
import Derived.Test.YtagoefnibgobcaaGreatDoorFmHead
import Derived.Test.YtagoefnibgobcaaGreatDoorFmLaws
namespace Go.Cz.Fo
def fewB (d : List Fact) (c : List Int) : Bool := d.all (fun x => decide (x.name.length ≤ 60)) && (decide (d.length ≤ 70) && decide (c.length ≤ 70))
theorem few_names {d : List Fact} {c : List Int} (h : fewB d c = true) : (∀ x ∈ d, x.name.length ≤ 60) ∧ d.length ≤ 70 ∧ c.length ≤ 70 := by
  unfold fewB at h
  rw [Bool.and_eq_true, Bool.and_eq_true, decide_eq_true_eq, decide_eq_true_eq] at h
  exact ⟨fun x hx => by simpa using List.all_eq_true.1 h.1 x hx, h.2.1, h.2.2⟩
def goodB (d : List Fact) (c : List Int) (f : Fm) : Bool := decide (size f ≤ 60) && (short 60 f && (fewB d c && (fitsB d c && (decide (depth f ≤ 16) && decide (checkF d f = 0)))))
end Go.Cz.Fo
namespace Go.Proofs.YtagoefnibgobcaaGreatDoor
open Go.RowKit Go.Cz Go.Cz.Lx Go.Cz.Fo
set_option linter.unusedSimpArgs false
set_option linter.unusedVariables false
attribute [local go_sem] bs_size bs_extract bs_append bs_toList
attribute [local irreducible] cList cPlan
section
variable {p : Nat → Prop}
set_option maxHeartbeats 2000000 in
theorem few_c (d : List Fact) (c : List Int) (v u : Value) (w : World) (hd : IsD w d v) (hc : IsC w c u) (hn : d.length ≤ 9223372036854775807) : Calls Tryz.prog 14 #[.agg #[v], u] w fun e w' => e = .returned (.bool (fewB d c)) ∧ Below w.heap.size w w' := by
  obtain ⟨yd, md, hv⟩ := hd.form
  subst hv
  obtain ⟨yc, mc, hv⟩ := hc.form
  subst hv
  have HD := Lib.hid hd
  obtain ⟨M, hM⟩ : ∃ M, M = d.length := ⟨_, rfl⟩
  have HM := Lib.hid hM
  rw [← hM] at HD hn ⊢
  obtain ⟨Mc, hMc⟩ : ∃ Mc, Mc = c.length := ⟨_, rfl⟩
  have HMc := Lib.hid hMc
  rw [← hMc]
  clear hM hMc hd hc
  have HE : Hid (fewB d c = (d.all (fun x => decide (x.name.length ≤ 60)) && (decide (M ≤ 70) && decide (Mc ≤ 70)))) := by show _ = _; rw [HM.out, HMc.out]; rfl
  obtain ⟨W1, hW1⟩ : ∃ W1, W1 = w.alloc (.cells #[.slice yd M md] 27) := ⟨_, rfl⟩
  obtain ⟨bd, hbd⟩ : ∃ bd, bd = w.heap.size := ⟨_, rfl⟩
  have HO : Hid (Owns w W1 [blk bd (.cells #[.slice yd M md] 27 (0, 0))]) := by
    rw [hW1, hbd]
    exact Lib.hid ((Owns.start w).box _)
  go_enter Tryz.func14, Tryz.ntmps14
  go_wp2_with fail
  rw [← hW1, ← hbd]
  clear hW1 hbd
  obtain ⟨bk, -⟩ := HO.out.blk
  have hbd := lt_of_block bk
  have cd0 := cell_of_heap bk (i := 0)
  simp only [List.getElem?_toArray, List.getElem?_cons_succ, List.getElem?_cons_zero] at cd0
  clear bk
  have H0 : Hid ((d.take 0).all (fun x => decide (x.name.length ≤ 60)) = true) := by show _ = _; simp
  go_loopg [5] M (fun gk i wr => ∃ k : Nat, gk = M - k ∧ k ≤ M ∧ wr = W1 ∧ i = .int .i64 (k : Int) ∧ Hid ((d.take k).all (fun x => decide (x.name.length ≤ 60)) = true))
  case atStart => exact ⟨0, rfl, Nat.zero_le _, rfl, rfl, H0⟩
  case round =>
    rename_i J1 K1 hJ1 hK1
    clear H0
    obtain ⟨k, rfl, hk, rfl, rfl, HC⟩ := hrel
    by_cases hlt : k < M
    · obtain ⟨x, hx⟩ : ∃ x, d[k]? = some x := ⟨_, List.getElem?_eq_getElem (by rw [← HM.out]; exact hlt)⟩
      obtain ⟨g, off, rfl, hg, c0, c1, c2, c3⟩ := HD.out.get HO.out.base hx
      have HX := Lib.hid hx
      clear hx
      by_cases h60 : 60 < x.name.length
      · have h60' : (60 : Int) < (x.name.length : Int) := by omega
        have HE2 : Hid (fewB d c = false) := by
          show _ = _
          have : d.all (fun x => decide (x.name.length ≤ 60)) = false := by
            rw [← Bool.not_eq_true, List.all_eq_true]
            intro h
            have := h x (List.mem_of_getElem? HX.out)
            simp at this
            omega
          rw [HE.out, this]; rfl
        clear hJ1 hK1 h60
        go_wp2_with fail
        go_ret
        exact ⟨by rw [HE2.out]; rfl, HO.out.base⟩
      · have h60' : ¬ (60 : Int) < (x.name.length : Int) := by omega
        have HC2 : Hid ((d.take (k + 1)).all (fun x => decide (x.name.length ≤ 60)) = true) := by
          show _ = _
          rw [List.take_add_one, List.all_append, HC.out, HX.out]
          simp
          omega
        clear h60
        go_wp2_with fail
        go_roundg (M - (k + 1))
        case measure => omega
        case rel => exact ⟨k + 1, rfl, by omega, rfl, by go_num, HC2⟩
    · obtain rfl : k = M := by omega
      have HE2 : Hid (fewB d c = (decide (k ≤ 70) && decide (Mc ≤ 70))) := by
        have := HC.out
        rw [HM.out, List.take_length] at this
        show _ = _
        rw [HE.out, this]; rfl
      have HE3 : Hid ((decide ((k : Int) ≤ 70) && decide ((Mc : Int) ≤ 70)) = fewB d c) := by
        show _ = _
        rw [HE2.out, show decide ((k : Int) ≤ 70) = decide (k ≤ 70) from decide_eq_decide.2 (by omega), show decide ((Mc : Int) ≤ 70) = decide (Mc ≤ 70) from decide_eq_decide.2 (by omega)]
      by_cases h70 : (k : Int) ≤ 70
      · by_cases hc70 : (Mc : Int) ≤ 70
        · have HE4 : Hid (fewB d c = true) := by show _ = _; rw [← HE3.out, decide_eq_true h70, decide_eq_true hc70]; rfl
          clear hJ1 hK1 hlt
          go_wp2_with fail
          go_ret
          exact ⟨by rw [HE4.out]; rfl, HO.out.base⟩
        · have HE4 : Hid (fewB d c = false) := by show _ = _; rw [← HE3.out, decide_eq_false hc70, Bool.and_false]
          clear hJ1 hK1 hlt
          go_wp2_with fail
          go_ret
          exact ⟨by rw [HE4.out]; rfl, HO.out.base⟩
      · have HE4 : Hid (fewB d c = false) := by show _ = _; rw [← HE3.out, decide_eq_false h70]; rfl
        clear hJ1 hK1 hlt
        go_wp2_with fail
        go_ret
        exact ⟨by rw [HE4.out]; rfl, HO.out.base⟩
set_option maxHeartbeats 4000000 in
theorem good_c (f : Fm) (w : World) (kv : Value) (d : List Fact) (v : Value) (c : List Int) (u : Value) (hf : IsFm p w f kv) (hd : IsD w d v) (hc : IsC w c u) (hn : d.length ≤ 9223372036854775807) :
    Calls Tryz.prog 28 #[fval f kv, .agg #[v], u] w (fun e w' => e = .returned (.bool (goodB d c f)) ∧ Below w.heap.size w w') := by
  have HD := Lib.hid hd
  have HC := Lib.hid hc
  have HDn := Lib.hid hn
  clear hd hc hn
  obtain ⟨yd, md, hv⟩ := HD.out.form
  subst hv
  obtain ⟨M, hM⟩ : ∃ M, M = d.length := ⟨_, rfl⟩
  rw [← hM] at HD ⊢
  obtain ⟨yc, mc, hv⟩ := HC.out.form
  subst hv
  obtain ⟨Mc, hMc⟩ : ∃ Mc, Mc = c.length := ⟨_, rfl⟩
  rw [← hMc] at HC ⊢
  clear hM hMc
  obtain ⟨y, m, rfl⟩ := hf.form
  obtain ⟨N, hN⟩ : ∃ N, N = f.kids.length := ⟨_, rfl⟩
  have HN := Lib.hid hN
  rw [← hN] at hf ⊢
  have HF := Lib.hid hf
  clear hN hf
  obtain ⟨W1, hW1⟩ : ∃ W1, W1 = (w.alloc (fobj f (.slice y N m))).alloc (.cells #[.slice yd M md] 27) := ⟨_, rfl⟩
  obtain ⟨bf, hbf⟩ : ∃ bf, bf = w.heap.size := ⟨_, rfl⟩
  obtain ⟨bd, hbd⟩ : ∃ bd, bd = w.heap.size + 1 := ⟨_, rfl⟩
  have HO : Hid (Owns w W1 [blk bf (fobj f (.slice y N m)), blk bd (.cells #[.slice yd M md] 27 (0, 0))]) := by
    rw [hW1, hbf, hbd]
    have := ((Owns.start w).box (fobj f (.slice y N m))).box (.cells #[.slice yd M md] 27 (0, 0))
    rw [World.size_alloc] at this
    exact Lib.hid this.swap
  have HE : Hid (goodB d c f = (decide (size f ≤ 60) && (short 60 f && (fewB d c && (fitsB d c && (decide (depth f ≤ 16) && decide (checkF d f = 0))))))) := rfl
  go_enter Tryz.func28, Tryz.ntmps28
  go_wp2_with fail
  rw [← hW1]
  try rw [← hbd]
  try rw [← hbf]
  clear hW1 hbf hbd
  go_at_call 13
  refine (Small_c f W1 _ 60 (HF.out.later HO.out.base) (by omega)).mono ?_
  rintro e W2 ⟨rfl, hb⟩
  replace HO := Lib.hid (HO.out.below hb)
  clear hb
  obtain ⟨b, hb0⟩ : ∃ b, b = decide (size f ≤ 60) := ⟨_, rfl⟩
  have HB1 := Lib.hid hb0
  rw [← hb0] at HE ⊢
  clear hb0
  cases b
  · go_wp2_with fail
    go_ret
    exact ⟨by rw [HE.out]; rfl, HO.out.base⟩
  focus
    obtain ⟨bk, -⟩ := HO.out.blk
    have hbf := lt_of_block bk
    have cb0 := cell_of_heap bk (i := 0)
    have cb1 := cell_of_heap bk (i := 1)
    have cb2 := cell_of_heap bk (i := 2)
    have cb3 := cell_of_heap bk (i := 3)
    have cb4 := cell_of_heap bk (i := 4)
    simp only [List.getElem?_toArray, List.getElem?_cons_succ, List.getElem?_cons_zero] at cb0 cb1 cb2 cb3 cb4
    clear bk
    obtain ⟨bk, -⟩ := HO.out.swap.blk
    have hbd' := lt_of_block bk
    have cd0 := cell_of_heap bk (i := 0)
    simp only [List.getElem?_toArray, List.getElem?_cons_succ, List.getElem?_cons_zero] at cd0
    clear bk
    go_wp2_with fail
    clear cb0 cb1 cb2 cb3 cb4 hbf cd0 hbd'
  have hz : size f ≤ 60 := by have := HB1.out; exact of_decide_eq_true this.symm
  have HZ : Hid (size f ≤ 900000) := by show _ ≤ _; omega
  go_at_call 15
  refine (short_c f W2 _ (HF.out.later HO.out.base) (by rw [size_kids] at hz; omega)).mono ?_
  clear hz
  rintro e W3 ⟨rfl, hb⟩
  replace HO := Lib.hid (HO.out.below hb)
  clear hb
  obtain ⟨b, hb0⟩ : ∃ b, b = short 60 f := ⟨_, rfl⟩
  have HB2 := Lib.hid hb0
  rw [← hb0] at HE ⊢
  clear hb0
  cases b
  · go_wp2_with fail
    go_ret
    exact ⟨by rw [HE.out]; rfl, HO.out.base⟩
  focus
    obtain ⟨bk, -⟩ := HO.out.blk
    have hbf := lt_of_block bk
    have cb0 := cell_of_heap bk (i := 0)
    have cb1 := cell_of_heap bk (i := 1)
    have cb2 := cell_of_heap bk (i := 2)
    have cb3 := cell_of_heap bk (i := 3)
    have cb4 := cell_of_heap bk (i := 4)
    simp only [List.getElem?_toArray, List.getElem?_cons_succ, List.getElem?_cons_zero] at cb0 cb1 cb2 cb3 cb4
    clear bk
    obtain ⟨bk, -⟩ := HO.out.swap.blk
    have hbd' := lt_of_block bk
    have cd0 := cell_of_heap bk (i := 0)
    simp only [List.getElem?_toArray, List.getElem?_cons_succ, List.getElem?_cons_zero] at cd0
    clear bk
    go_wp2_with fail
    clear cb0 cb1 cb2 cb3 cb4 hbf cd0 hbd'
  go_at_call 14
  refine (few_c d c _ _ W3 (HD.out.later HO.out.base) (HC.out.later HO.out.base) HDn.out).mono ?_
  rintro e W4 ⟨rfl, hb⟩
  replace HO := Lib.hid (HO.out.below hb)
  clear hb
  obtain ⟨b, hb0⟩ : ∃ b, b = fewB d c := ⟨_, rfl⟩
  have HB3 := Lib.hid hb0
  rw [← hb0] at HE ⊢
  clear hb0
  cases b
  · go_wp2_with fail
    go_ret
    exact ⟨by rw [HE.out]; rfl, HO.out.base⟩
  focus
    obtain ⟨bk, -⟩ := HO.out.blk
    have hbf := lt_of_block bk
    have cb0 := cell_of_heap bk (i := 0)
    have cb1 := cell_of_heap bk (i := 1)
    have cb2 := cell_of_heap bk (i := 2)
    have cb3 := cell_of_heap bk (i := 3)
    have cb4 := cell_of_heap bk (i := 4)
    simp only [List.getElem?_toArray, List.getElem?_cons_succ, List.getElem?_cons_zero] at cb0 cb1 cb2 cb3 cb4
    clear bk
    obtain ⟨bk, -⟩ := HO.out.swap.blk
    have hbd' := lt_of_block bk
    have cd0 := cell_of_heap bk (i := 0)
    simp only [List.getElem?_toArray, List.getElem?_cons_succ, List.getElem?_cons_zero] at cd0
    clear bk
    go_wp2_with fail
    clear cb0 cb1 cb2 cb3 cb4 hbf cd0 hbd'
  have HFw := Lib.hid (few_names HB3.out.symm)
  have HX : Hid (∀ x ∈ d, x.name.length ≤ 140737488355328) := fun x hx => by have := HFw.out.1 x hx; omega
  go_at_call 30
  refine (Fits_c d c _ _ W4 (HD.out.later HO.out.base) (HC.out.later HO.out.base) (by have := HFw.out.2.1; omega) (by have := HFw.out.2.2; omega) HX.out).mono ?_
  rintro e W5 ⟨rfl, hb⟩
  replace HO := Lib.hid (HO.out.below hb)
  clear hb
  obtain ⟨b, hb0⟩ : ∃ b, b = fitsB d c := ⟨_, rfl⟩
  have HB4 := Lib.hid hb0
  rw [← hb0] at HE ⊢
  clear hb0
  cases b
  · go_wp2_with fail
    go_ret
    exact ⟨by rw [HE.out]; rfl, HO.out.base⟩
  focus
    obtain ⟨bk, -⟩ := HO.out.blk
    have hbf := lt_of_block bk
    have cb0 := cell_of_heap bk (i := 0)
    have cb1 := cell_of_heap bk (i := 1)
    have cb2 := cell_of_heap bk (i := 2)
    have cb3 := cell_of_heap bk (i := 3)
    have cb4 := cell_of_heap bk (i := 4)
    simp only [List.getElem?_toArray, List.getElem?_cons_succ, List.getElem?_cons_zero] at cb0 cb1 cb2 cb3 cb4
    clear bk
    obtain ⟨bk, -⟩ := HO.out.swap.blk
    have hbd' := lt_of_block bk
    have cd0 := cell_of_heap bk (i := 0)
    simp only [List.getElem?_toArray, List.getElem?_cons_succ, List.getElem?_cons_zero] at cd0
    clear bk
    go_wp2_with fail
    clear cb0 cb1 cb2 cb3 cb4 hbf cd0 hbd'
  go_at_call 16
  refine (Size_c f W5 _ (HF.out.later HO.out.base) HZ.out).mono ?_
  rintro e W6 ⟨rfl, hb⟩
  replace HO := Lib.hid (HO.out.below hb)
  clear hb
  obtain ⟨dd, hdd⟩ : ∃ dd, dd = depth f := ⟨_, rfl⟩
  rw [← hdd] at HE ⊢
  clear hdd
  by_cases h16 : dd ≤ 16
  · have h16' : (dd : Int) ≤ 16 := by omega
    rw [decide_eq_true h16] at HE
    clear h16
    focus
      obtain ⟨bk, -⟩ := HO.out.blk
      have hbf := lt_of_block bk
      have cb0 := cell_of_heap bk (i := 0)
      have cb1 := cell_of_heap bk (i := 1)
      have cb2 := cell_of_heap bk (i := 2)
      have cb3 := cell_of_heap bk (i := 3)
      have cb4 := cell_of_heap bk (i := 4)
      simp only [List.getElem?_toArray, List.getElem?_cons_succ, List.getElem?_cons_zero] at cb0 cb1 cb2 cb3 cb4
      clear bk
      obtain ⟨bk, -⟩ := HO.out.swap.blk
      have hbd' := lt_of_block bk
      have cd0 := cell_of_heap bk (i := 0)
      simp only [List.getElem?_toArray, List.getElem?_cons_succ, List.getElem?_cons_zero] at cd0
      clear bk
      go_wp2_with fail
      clear cb0 cb1 cb2 cb3 cb4 hbf cd0 hbd'
    go_at_call 18
    refine (Check_c f W6 _ d _ (HF.out.later HO.out.base) (HD.out.later HO.out.base) (by have := HFw.out.2.1; omega) HX.out (lim := 60) (by omega) HB2.out.symm HZ.out).mono ?_
    rintro e W7 ⟨rfl, hb⟩
    replace HO := Lib.hid (HO.out.below hb)
    clear hb
    obtain ⟨ck, hck⟩ : ∃ ck, ck = checkF d f := ⟨_, rfl⟩
    rw [← hck] at HE ⊢
    clear hck
    have HE2 : Hid (((ck : Int) == 0) = goodB d c f) := by
      show _ = _
      rw [HE.out, Bool.eq_iff_iff]
      simp
    clear h16' HE
    go_wp2_with fail
    go_ret
    exact ⟨congrArg (fun b => Ending.returned (Value.bool b)) (show ((ck : Int) == 0) = goodB d c f from HE2.out), HO.out.base⟩
  · have h16' : ¬ (dd : Int) ≤ 16 := by omega
    rw [decide_eq_false h16] at HE
    clear h16
    go_wp2_with fail
    go_ret
    exact ⟨by rw [HE.out]; rfl, HO.out.base⟩
end
end Go.Proofs.YtagoefnibgobcaaGreatDoor
