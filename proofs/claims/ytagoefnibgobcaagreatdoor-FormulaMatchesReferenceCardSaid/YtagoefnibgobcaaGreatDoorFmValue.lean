/-
  The reference's 'Compare', 'Value', 'Holds'.
-/
import Derived.Test.YtagoefnibgobcaaGreatDoorFmNode
import Derived.Test.YtagoefnibgobcaaGreatDoorFmHolds
namespace Go.Proofs.YtagoefnibgobcaaGreatDoor
open Go.RowKit Go.Cz Go.Cz.Lx Go.Cz.Fo
set_option linter.unusedSimpArgs false
set_option linter.unusedVariables false
attribute [local go_sem] bs_size bs_extract bs_append bs_toList
attribute [local irreducible] cList cPlan
section
variable {p : Nat → Prop}
theorem Compare_c (u m x : Int) (w : World) (hm : 1 ≤ m) (hm6 : m ≤ 6) : Calls Tryz.prog 70 #[.int .i64 u, .int .i64 m, .int .i64 x] w (fun e w' => e = .returned (.bool (cmpB u m x)) ∧ Below w.heap.size w w') := by
  have h16 : m = 1 ∨ m = 2 ∨ m = 3 ∨ m = 4 ∨ m = 5 ∨ m = 6 := by omega
  clear hm hm6
  go_enter Tryz.func70, Tryz.ntmps70
  rcases h16 with rfl | rfl | rfl | rfl | rfl | rfl
  all_goals
    go_wp2_with fail
    go_ret
    exact ⟨rfl, Below.refl _ _⟩
theorem valueAll_take {d : List Fact} {c : List Int} {k : Nat} {q : Fm} : ∀ {ks : List Fm}, ks[k]? = some q → valueAll d c (ks.take (k + 1)) = (valueAll d c (ks.take k) && valueF d c q)
  | [], h => by simp at h
  | a :: r, h => by
    cases k with
    | zero => simp at h; subst h; simp [valueAll]
    | succ k =>
      have := valueAll_take (d := d) (c := c) (ks := r) (k := k) (q := q) (by simpa using h)
      rw [List.take_succ_cons, List.take_succ_cons, valueAll, valueAll, this, Bool.and_assoc]
theorem valueAny_take {d : List Fact} {c : List Int} {k : Nat} {q : Fm} : ∀ {ks : List Fm}, ks[k]? = some q → valueAny d c (ks.take (k + 1)) = (valueAny d c (ks.take k) || valueF d c q)
  | [], h => by simp at h
  | a :: r, h => by
    cases k with
    | zero => simp at h; subst h; simp [valueAny]
    | succ k =>
      have := valueAny_take (d := d) (c := c) (ks := r) (k := k) (q := q) (by simpa using h)
      rw [List.take_succ_cons, List.take_succ_cons, valueAny, valueAny, this, Bool.or_assoc]
theorem valueAll_false {d : List Fact} {c : List Int} {q : Fm} : ∀ {ks : List Fm}, q ∈ ks → valueF d c q = false → valueAll d c ks = false
  | a :: r, h, e => by
    rw [valueAll]
    rcases List.mem_cons.1 h with rfl | h
    · rw [e]; rfl
    · rw [valueAll_false h e]; simp
theorem valueAny_true {d : List Fact} {c : List Int} {q : Fm} : ∀ {ks : List Fm}, q ∈ ks → valueF d c q = true → valueAny d c ks = true
  | a :: r, h, e => by
    rw [valueAny]
    rcases List.mem_cons.1 h with rfl | h
    · rw [e]; rfl
    · rw [valueAny_true h e]; simp
set_option maxRecDepth 100000 in
set_option maxHeartbeats 8000000 in
theorem Value_c (w0 : World) (d : List Fact) (c : List Int) (yd yc : Option Addr) (M md Mc mc : Nat) (hd : IsD w0 d (.slice yd M md)) (hc : IsC w0 c (.slice yc Mc mc)) (hMc : Mc = c.length) (hl : c.length = d.length) (hn : d.length ≤ 1000000) (hx : ∀ x ∈ d, x.name.length ≤ 140737488355328) {lim : Nat} (hlim : lim ≤ 140737488355328)
    (f : Fm) : ∀ (w : World) (kv : Value), Below w0.heap.size w0 w → IsFm p w0 f kv → short lim f = true → size f ≤ 900000 → firstF (nodeE d) f = 0 →
    Calls Tryz.prog 48 #[fval f kv, .agg #[.slice yd M md], .slice yc Mc mc] w (fun e w' => e = .returned (.bool (valueF d c f)) ∧ Below w.heap.size w w') := by
  have HD := Lib.hid hd
  have HC := Lib.hid hc
  have HMc := Lib.hid hMc
  have HX := Lib.hid hx
  have HDn := Lib.hid hn
  have HLim := Lib.hid hlim
  have HLe := Lib.hid hl
  have hMc9 : Mc ≤ 1000000 := by omega
  clear hd hx hn hlim hc hMc hl
  refine Fm.induct (P := fun f => ∀ (w : World) (kv : Value), Below w0.heap.size w0 w → IsFm p w0 f kv → short lim f = true → size f ≤ 900000 → firstF (nodeE d) f = 0 →
    Calls Tryz.prog 48 #[fval f kv, .agg #[.slice yd M md], .slice yc Mc mc] w (fun e w' => e = .returned (.bool (valueF d c f)) ∧ Below w.heap.size w w')) ?_ f
  clear f
  intro f ih w kv hw hf hs hz h0
  have HI := Lib.hid ih
  have HS := Lib.hid hs
  have HZ := Lib.hid hz
  have HW := Lib.hid hw
  have HZ0 := Lib.hid ((firstF_zero f).1 h0)
  have hN9 := length_sizes f.kids
  rw [size_kids] at hz
  obtain ⟨y, m, rfl⟩ := hf.form
  obtain ⟨N, hN⟩ : ∃ N, N = f.kids.length := ⟨_, rfl⟩
  have HN := Lib.hid hN
  rw [← hN] at hf ⊢
  have HF := Lib.hid hf
  clear hN hf
  obtain ⟨W1, hW1⟩ : ∃ W1, W1 = (w.alloc (fobj f (.slice y N m))).alloc (.cells #[.slice yd M md] 27) := ⟨_, rfl⟩
  obtain ⟨bf, hbf⟩ : ∃ bf, bf = w.heap.size := ⟨_, rfl⟩
  obtain ⟨bd, hbd⟩ : ∃ bd, bd = w.heap.size + 1 := ⟨_, rfl⟩
  have HO : Hid (Owns w W1 [blk bf (fobj f (.slice y N m)), blk bd (.cells #[.slice yd M md] 27 (0, 0))]) := by
    rw [hW1, hbf, hbd]
    have := ((Owns.start w).box (fobj f (.slice y N m))).box (.cells #[.slice yd M md] 27 (0, 0))
    rw [World.size_alloc] at this
    exact Lib.hid this.swap
  have hN9 : N ≤ 900000 := by have := HN.out; omega
  clear ih hs hz hw h0
  have HKI : Hid (∀ (q : Fm) (qv : Value) (W : World), q ∈ f.kids → IsFm p w0 q qv → Below w0.heap.size w0 W → Calls Tryz.prog 48 #[fval q qv, .agg #[.slice yd M md], .slice yc Mc mc] W fun e w' => e = .returned (.bool (valueF d c q)) ∧ Below W.heap.size W w') := by
    intro q qv W hm hq hW
    exact HI.out q hm W qv hW hq (short_kid HS.out hm) (by have := HZ.out; rw [size_kids] at this; have := size_mem hm; omega) (HZ0.out.2 q hm)
  have hnode := HZ0.out.1
  have hform : formedB f = true := by
    unfold nodeE at hnode
    cases hb : formedB f
    · rw [if_pos hb] at hnode; simp at hnode
    · rfl
  obtain ⟨o, ho⟩ : ∃ o, o = f.op := ⟨_, rfl⟩
  have HOp := Lib.hid ho
  have hcase := formed_cases hform
  have hsl : f.name.length ≤ 140737488355328 := Nat.le_trans (short_name HS.out) HLim.out
  have hidx : o = 3 → 0 ≤ idxD f.name d := fun h => by
    unfold nodeE at hnode
    rw [if_neg (by rw [hform]; simp), if_neg (by rw [← ho]; simpa using h)] at hnode
    split at hnode
    · simp at hnode
    · split at hnode
      · simp at hnode
      · omega
  rw [← ho] at hcase
  simp only [fobj, fval] at hW1 ⊢
  rw [← ho] at hW1 ⊢
  go_enter Tryz.func48, Tryz.ntmps48
  clear hnode hform ho
  focus
    by_cases h3 : o = 3
    · subst h3
      obtain ⟨-, -, hm1, hm6, -⟩ := hcase.resolve_right (fun h => by omega)
      have hi0 := hidx rfl
      clear hcase hidx
      go_wp2_with fail
      rw [← hW1]
      try rw [← hbd]
      try rw [← hbf]
      clear hW1 hbf hbd
      refine wp_region_can [4, 11] [0, 1, 2, 3, 7, 8, 9, 10, 4, 5, 6, 11, 12] (by decide +kernel) (by decide +kernel) ?_
      replace HO := Lib.hid HO.out.drew
      obtain ⟨W5, hW5⟩ : ∃ W5, W5 = W1.drew := ⟨_, rfl⟩
      rw [← hW5] at HO ⊢
      clear hW5
      have HWr := Lib.hid (HW.out.trans (HO.out.base.mono HW.out.size))
      obtain ⟨bk, -⟩ := HO.out.blk
      have hbf := lt_of_block bk
      have cb0 := cell_of_heap bk (i := 0)
      have cb1 := cell_of_heap bk (i := 1)
      have cb2 := cell_of_heap bk (i := 2)
      have cb3 := cell_of_heap bk (i := 3)
      have cb4 := cell_of_heap bk (i := 4)
      simp only [List.getElem?_toArray, List.getElem?_cons_succ, List.getElem?_cons_zero] at cb0 cb1 cb2 cb3 cb4
      clear bk
      obtain ⟨bk, -⟩ := HO.out.swap.blk
      have hbd' := lt_of_block bk
      have cd0 := cell_of_heap bk (i := 0)
      simp only [List.getElem?_toArray, List.getElem?_cons_succ, List.getElem?_cons_zero] at cd0
      clear bk
      iterate 8 (refine cl_do rfl rfl rfl (by first | rfl | simp [okB, lenV, plainV, Act.eval]) (fun _ _ => ?_); go_wp2_with fail)
      refine cl_call (i := 4) rfl rfl rfl (fun K hK => ?_)
      clear cb0 cb1 cb2 cb3 cb4 hbf cd0 hbd'
      go_wp2_with fail
      go_at_call 67
      refine (rIndex_c d f.name _ W5 (HD.out.later HWr.out) HX.out hsl HDn.out).mono ?_
      rintro e W6 ⟨rfl, hb⟩
      have Hb := Lib.hid hb
      replace HO := Lib.hid (HO.out.below hb)
      replace HWr := Lib.hid (HW.out.trans (HO.out.base.mono HW.out.size))
      obtain ⟨j, hj⟩ : ∃ j : Nat, idxD f.name d = (j : Int) := ⟨(idxD f.name d).toNat, by omega⟩
      have hjl : j < d.length := by
        obtain ⟨z, hz, -⟩ := idxD_get hi0
        have := (List.getElem?_eq_some_iff.1 hz).1
        rw [hj] at this
        simpa using this
      obtain ⟨u, hu⟩ : ∃ u, c[j]? = some u := ⟨_, List.getElem?_eq_getElem (by rw [HLe.out]; exact hjl)⟩
      obtain ⟨gc, offc, rfl, hgc, cj⟩ := HC.out.get HWr.out hu
      have HV : Hid (valueF d c f = cmpB u f.cmp f.num) := by
        show _ = _
        rw [valueF_eq, if_pos HOp.out.symm, hj, Int.toNat_natCast, List.getD_eq_getElem?_getD, hu]; rfl
      have hjM : j < Mc := by rw [HMc.out, HLe.out]; exact hjl
      rw [hj]
      clear hb hi0 hu hj hjl
      go_wp2_with fail
      refine And.intro Hb.out ?_
      clear Hb
      iterate 2 (refine cl_do rfl rfl rfl (by first | rfl | simp [okB, lenV, plainV, Act.eval]) (fun _ _ => ?_); go_wp2_with fail)
      refine cl_call (i := 11) rfl rfl rfl (fun K hK => ?_)
      clear cj hgc
      go_wp2_with fail
      go_at_call 70
      refine (Compare_c u f.cmp f.num W6 hm1 hm6).mono ?_
      rintro e W7 ⟨rfl, hb⟩
      have Hb := Lib.hid hb
      replace HO := Lib.hid (HO.out.below hb)
      clear hb hm1 hm6
      obtain ⟨z, hz⟩ : ∃ z, z = cmpB u f.cmp f.num := ⟨_, rfl⟩
      rw [← hz] at HV ⊢
      clear hz
      go_wp2_with fail
      refine And.intro Hb.out ?_
      clear Hb
      refine cl_do rfl rfl rfl rfl (fun _ _ => ?_)
      go_wp2_with fail
      refine cl_nil ?_
      go_wp2_with fail
      go_ret
      exact ⟨by rw [HV.out]; rfl, HO.out.base⟩
    have h3' : (o == 3) = false := by simpa using h3
    have hcase2 := (hcase.resolve_left (fun h => h3 h.1)).2
    clear hcase hidx
    by_cases h4 : o = 4
    · subst h4
      obtain ⟨q, hq⟩ : ∃ q, f.kids = [q] := by
        rcases hcase2 with h | h | h
        · omega
        · exact h.2
        · omega
      have hN1 : N = 1 := by rw [HN.out, hq]; rfl
      subst hN1
      have HQ : Hid (f.kids[0]? = some q) := by show _ = _; rw [hq]; rfl
      have HV : Hid (valueF d c f = !valueF d c q) := by
        show _ = _
        rw [valueF_eq, ← HOp.out, hq]
        simp [valueAll]
      clear hq hcase2
      go_wp2_with fail
      rw [← hW1]
      try rw [← hbd]
      try rw [← hbf]
      clear hW1 hbf hbd
      refine wp_region_can [6] (List.range 9) (by decide +kernel) (by decide +kernel) ?_
      replace HO := Lib.hid HO.out.drew
      obtain ⟨W5, hW5⟩ : ∃ W5, W5 = W1.drew := ⟨_, rfl⟩
      rw [← hW5] at HO ⊢
      clear hW5
      have HWr := Lib.hid (HW.out.trans (HO.out.base.mono HW.out.size))
      obtain ⟨g, off, kv, rfl, hg, hkv, c0, c1, c2, c3, c4⟩ := HF.out.old HWr.out HQ.out
      simp only [Nat.zero_mul, Nat.add_zero] at c0 c1 c2 c3 c4
      obtain ⟨y2, m2, rfl⟩ := hkv.form
      have HKv := Lib.hid hkv
      clear hkv
      obtain ⟨N2, hN2⟩ : ∃ N2, N2 = q.kids.length := ⟨_, rfl⟩
      rw [← hN2] at c4 HKv
      clear hN2
      obtain ⟨bk, -⟩ := HO.out.blk
      have hbf := lt_of_block bk
      have cb0 := cell_of_heap bk (i := 0)
      have cb1 := cell_of_heap bk (i := 1)
      have cb2 := cell_of_heap bk (i := 2)
      have cb3 := cell_of_heap bk (i := 3)
      have cb4 := cell_of_heap bk (i := 4)
      simp only [List.getElem?_toArray, List.getElem?_cons_succ, List.getElem?_cons_zero] at cb0 cb1 cb2 cb3 cb4
      clear bk
      obtain ⟨bk, -⟩ := HO.out.swap.blk
      have hbd' := lt_of_block bk
      have cd0 := cell_of_heap bk (i := 0)
      simp only [List.getElem?_toArray, List.getElem?_cons_succ, List.getElem?_cons_zero] at cd0
      clear bk
      iterate 6 (refine cl_do rfl rfl rfl (by first | rfl | simp [okB, lenV, plainV, Act.eval]) (fun _ _ => ?_); go_wp2_with fail)
      refine cl_call (i := 6) rfl rfl rfl (fun K hK => ?_)
      clear cb0 cb1 cb2 cb3 cb4 hbf c0 c1 c2 c3 c4 hg cd0 hbd'
      go_wp2_with fail
      go_at_call 48
      refine (HKI.out q _ W5 (List.mem_of_getElem? HQ.out) HKv.out HWr.out).mono ?_
      rintro e W6 ⟨rfl, hb⟩
      have Hb := Lib.hid hb
      replace HO := Lib.hid (HO.out.below hb)
      clear hb
      obtain ⟨x, hx⟩ : ∃ x, x = valueF d c q := ⟨_, rfl⟩
      rw [← hx] at HV ⊢
      clear hx
      go_wp2_with fail
      refine And.intro Hb.out ?_
      clear Hb
      iterate 2 (refine cl_do rfl rfl rfl (by first | rfl | simp [okB, lenV, plainV, Act.eval]) (fun _ _ => ?_); go_wp2_with fail)
      refine cl_nil ?_
      go_wp2_with fail
      go_ret
      exact ⟨by rw [HV.out]; rfl, HO.out.base⟩
    have h4' : (o == 4) = false := by simpa using h4
    by_cases h1 : o = 1
    · subst h1
      have HV : Hid (valueF d c f = true) := by
        show _ = _
        rw [valueF_eq, ← HOp.out]
        simp
      clear hcase2 h3 h4
      go_wp2_with fail
      rw [← hW1]
      clear hW1 hbf hbd
      go_ret
      exact ⟨by rw [HV.out]; rfl, HO.out.base⟩
    have h1' : (o == 1) = false := by simpa using h1
    by_cases h5 : o = 5
    · subst h5
      have HV : Hid (valueF d c f = valueAll d c f.kids) := by
        show _ = _
        rw [valueF_eq, ← HOp.out]
        simp
      clear hcase2 h3 h4 h1
      go_wp2_with fail
      rw [← hW1]
      try rw [← hbd]
      try rw [← hbf]
      clear hW1 hbf hbd
      have H0 : Hid (valueAll d c (f.kids.take 0) = true) := by show _ = _; simp [valueAll]
      go_loopg [7] N (fun gk i wr => ∃ k : Nat, gk = N - k ∧ k ≤ N ∧ i = .int .i64 (k : Int) ∧ Hid (valueAll d c (f.kids.take k) = true) ∧ Hid (Owns w wr [blk bf (fobj f (.slice y N m)), blk bd (.cells #[.slice yd M md] 27 (0, 0))]))
      case atStart => exact ⟨0, rfl, Nat.zero_le _, rfl, H0, HO⟩
      case round =>
        rename_i J1 K1 hJ1 hK1
        clear HO H0
        obtain ⟨k, rfl, hk, rfl, HC, HO⟩ := hrel
        have HWr := Lib.hid (HW.out.trans (HO.out.base.mono HW.out.size))
        by_cases hlt : k < N
        · obtain ⟨q, hq⟩ : ∃ q, f.kids[k]? = some q := ⟨_, List.getElem?_eq_getElem (by rw [← HN.out]; exact hlt)⟩
          have HQ := Lib.hid hq
          obtain ⟨bk, -⟩ := HO.out.blk
          have hbf := lt_of_block bk
          have cb0 := cell_of_heap bk (i := 0)
          have cb1 := cell_of_heap bk (i := 1)
          have cb2 := cell_of_heap bk (i := 2)
          have cb3 := cell_of_heap bk (i := 3)
          have cb4 := cell_of_heap bk (i := 4)
          simp only [List.getElem?_toArray, List.getElem?_cons_succ, List.getElem?_cons_zero] at cb0 cb1 cb2 cb3 cb4
          clear bk
          go_wp2_with fail
          refine wp_region_can [7] (List.range 9) (by decide +kernel) (by decide +kernel) ?_
          clear cb0 cb1 cb2 cb3 cb4 hbf
          replace HO := Lib.hid HO.out.drew
          replace HWr := Lib.hid (HW.out.trans (HO.out.base.mono HW.out.size))
          obtain ⟨W5, hW5⟩ : ∃ W5, W5 = wr.drew := ⟨_, rfl⟩
          rw [← hW5] at HO HWr ⊢
          clear hW5
          obtain ⟨g, off, kv, rfl, hg, hkv, c0, c1, c2, c3, c4⟩ := HF.out.old HWr.out hq
          obtain ⟨y2, m2, rfl⟩ := hkv.form
          have HK := Lib.hid hkv
          clear hq hkv
          obtain ⟨N2, hN2⟩ : ∃ N2, N2 = q.kids.length := ⟨_, rfl⟩
          rw [← hN2] at c4 HK
          clear hN2
          obtain ⟨bk, -⟩ := HO.out.blk
          have hbf := lt_of_block bk
          have cb0 := cell_of_heap bk (i := 0)
          have cb1 := cell_of_heap bk (i := 1)
          have cb2 := cell_of_heap bk (i := 2)
          have cb3 := cell_of_heap bk (i := 3)
          have cb4 := cell_of_heap bk (i := 4)
          simp only [List.getElem?_toArray, List.getElem?_cons_succ, List.getElem?_cons_zero] at cb0 cb1 cb2 cb3 cb4
          clear bk
          obtain ⟨bk, -⟩ := HO.out.swap.blk
          have hbd' := lt_of_block bk
          have cd0 := cell_of_heap bk (i := 0)
          simp only [List.getElem?_toArray, List.getElem?_cons_succ, List.getElem?_cons_zero] at cd0
          clear bk
          iterate 7 (refine cl_do rfl rfl rfl (by first | rfl | simp [okB, lenV, plainV, Act.eval]) (fun _ _ => ?_); go_wp2_with fail)
          refine cl_call (i := 7) rfl rfl rfl (fun K hK => ?_)
          clear cb0 cb1 cb2 cb3 cb4 hbf cd0 hbd' c0 c1 c2 c3 c4 hg
          go_wp2_with fail
          go_at_call 48
          have hm := List.mem_of_getElem? HQ.out
          refine (HKI.out q _ W5 hm HK.out HWr.out).mono ?_
          rintro e W6 ⟨rfl, hb⟩
          have Hb := Lib.hid hb
          have HO6 := Lib.hid (HO.out.below hb)
          obtain ⟨x, hx⟩ : ∃ x, x = valueF d c q := ⟨_, rfl⟩
          rw [← hx]
          have HX2 := Lib.hid hx
          clear hx hb HO hm
          go_wp2_with fail
          refine And.intro Hb.out ?_
          clear Hb
          iterate 1 (refine cl_do rfl rfl rfl rfl (fun _ _ => ?_); go_wp2_with fail)
          refine cl_nil ?_
          cases x
          · have HC2 : Hid (valueF d c f = false) := by
              show _ = _
              rw [HV.out]
              exact valueAll_false (List.mem_of_getElem? HQ.out) HX2.out.symm
            clear HC HX2
            clear hJ1 hK1
            go_wp2_with fail
            go_ret
            exact ⟨by rw [HC2.out]; rfl, HO6.out.base⟩
          · have HC2 : Hid (valueAll d c (f.kids.take (k + 1)) = true) := by
              show _ = _
              rw [valueAll_take HQ.out, HC.out, ← HX2.out]; rfl
            clear HC HX2
            go_wp2_with fail
            go_roundg (N - (k + 1))
            case measure => omega
            case rel => exact ⟨k + 1, rfl, by omega, by go_num, HC2, HO6⟩
        · obtain rfl : k = N := by omega
          have HR : Hid (valueF d c f = true) := by
            show _ = _
            have := HC.out
            rw [HN.out, List.take_length] at this
            rw [HV.out, this]
          obtain ⟨bk, -⟩ := HO.out.blk
          have hbf := lt_of_block bk
          have cb0 := cell_of_heap bk (i := 0)
          have cb1 := cell_of_heap bk (i := 1)
          have cb2 := cell_of_heap bk (i := 2)
          have cb3 := cell_of_heap bk (i := 3)
          have cb4 := cell_of_heap bk (i := 4)
          simp only [List.getElem?_toArray, List.getElem?_cons_succ, List.getElem?_cons_zero] at cb0 cb1 cb2 cb3 cb4
          clear bk
          clear hJ1 hK1 hlt
          go_wp2_with fail
          go_ret
          exact ⟨by rw [HR.out]; rfl, HO.out.base⟩
    · have h5' : (o == 5) = false := by simpa using h5
      have HV : Hid (valueF d c f = valueAny d c f.kids) := by
        show _ = _
        rw [valueF_eq, ← HOp.out]
        rcases hcase2 with h | h | h
        · have h2 : o = 2 := by omega
          subst h2
          rw [h.2]
          simp [valueAny]
        · exact absurd h.1 h4
        · have h6 : o = 6 := by omega
          subst h6
          simp
      clear hcase2 h3 h4 h1 h5
      go_wp2_with fail
      rw [← hW1]
      try rw [← hbd]
      try rw [← hbf]
      clear hW1 hbf hbd
      have H0 : Hid (valueAny d c (f.kids.take 0) = false) := by show _ = _; simp [valueAny]
      go_loopg [8] N (fun gk i wr => ∃ k : Nat, gk = N - k ∧ k ≤ N ∧ i = .int .i64 (k : Int) ∧ Hid (valueAny d c (f.kids.take k) = false) ∧ Hid (Owns w wr [blk bf (fobj f (.slice y N m)), blk bd (.cells #[.slice yd M md] 27 (0, 0))]))
      case atStart => exact ⟨0, rfl, Nat.zero_le _, rfl, H0, HO⟩
      case round =>
        rename_i J1 K1 hJ1 hK1
        clear HO H0
        obtain ⟨k, rfl, hk, rfl, HC, HO⟩ := hrel
        have HWr := Lib.hid (HW.out.trans (HO.out.base.mono HW.out.size))
        by_cases hlt : k < N
        · obtain ⟨q, hq⟩ : ∃ q, f.kids[k]? = some q := ⟨_, List.getElem?_eq_getElem (by rw [← HN.out]; exact hlt)⟩
          have HQ := Lib.hid hq
          obtain ⟨bk, -⟩ := HO.out.blk
          have hbf := lt_of_block bk
          have cb0 := cell_of_heap bk (i := 0)
          have cb1 := cell_of_heap bk (i := 1)
          have cb2 := cell_of_heap bk (i := 2)
          have cb3 := cell_of_heap bk (i := 3)
          have cb4 := cell_of_heap bk (i := 4)
          simp only [List.getElem?_toArray, List.getElem?_cons_succ, List.getElem?_cons_zero] at cb0 cb1 cb2 cb3 cb4
          clear bk
          go_wp2_with fail
          refine wp_region_can [7] (List.range 8) (by decide +kernel) (by decide +kernel) ?_
          clear cb0 cb1 cb2 cb3 cb4 hbf
          replace HO := Lib.hid HO.out.drew
          replace HWr := Lib.hid (HW.out.trans (HO.out.base.mono HW.out.size))
          obtain ⟨W5, hW5⟩ : ∃ W5, W5 = wr.drew := ⟨_, rfl⟩
          rw [← hW5] at HO HWr ⊢
          clear hW5
          obtain ⟨g, off, kv, rfl, hg, hkv, c0, c1, c2, c3, c4⟩ := HF.out.old HWr.out hq
          obtain ⟨y2, m2, rfl⟩ := hkv.form
          have HK := Lib.hid hkv
          clear hq hkv
          obtain ⟨N2, hN2⟩ : ∃ N2, N2 = q.kids.length := ⟨_, rfl⟩
          rw [← hN2] at c4 HK
          clear hN2
          obtain ⟨bk, -⟩ := HO.out.blk
          have hbf := lt_of_block bk
          have cb0 := cell_of_heap bk (i := 0)
          have cb1 := cell_of_heap bk (i := 1)
          have cb2 := cell_of_heap bk (i := 2)
          have cb3 := cell_of_heap bk (i := 3)
          have cb4 := cell_of_heap bk (i := 4)
          simp only [List.getElem?_toArray, List.getElem?_cons_succ, List.getElem?_cons_zero] at cb0 cb1 cb2 cb3 cb4
          clear bk
          obtain ⟨bk, -⟩ := HO.out.swap.blk
          have hbd' := lt_of_block bk
          have cd0 := cell_of_heap bk (i := 0)
          simp only [List.getElem?_toArray, List.getElem?_cons_succ, List.getElem?_cons_zero] at cd0
          clear bk
          iterate 7 (refine cl_do rfl rfl rfl (by first | rfl | simp [okB, lenV, plainV, Act.eval]) (fun _ _ => ?_); go_wp2_with fail)
          refine cl_call (i := 7) rfl rfl rfl (fun K hK => ?_)
          clear cb0 cb1 cb2 cb3 cb4 hbf cd0 hbd' c0 c1 c2 c3 c4 hg
          go_wp2_with fail
          go_at_call 48
          have hm := List.mem_of_getElem? HQ.out
          refine (HKI.out q _ W5 hm HK.out HWr.out).mono ?_
          rintro e W6 ⟨rfl, hb⟩
          have Hb := Lib.hid hb
          have HO6 := Lib.hid (HO.out.below hb)
          obtain ⟨x, hx⟩ : ∃ x, x = valueF d c q := ⟨_, rfl⟩
          rw [← hx]
          have HX2 := Lib.hid hx
          clear hx hb HO hm
          go_wp2_with fail
          refine And.intro Hb.out ?_
          clear Hb
          iterate 0 (refine cl_do rfl rfl rfl rfl (fun _ _ => ?_); go_wp2_with fail)
          refine cl_nil ?_
          cases x
          · have HC2 : Hid (valueAny d c (f.kids.take (k + 1)) = false) := by
              show _ = _
              rw [valueAny_take HQ.out, HC.out, ← HX2.out]; rfl
            clear HC HX2
            go_wp2_with fail
            go_roundg (N - (k + 1))
            case measure => omega
            case rel => exact ⟨k + 1, rfl, by omega, by go_num, HC2, HO6⟩
          · have HC2 : Hid (valueF d c f = true) := by
              show _ = _
              rw [HV.out]
              exact valueAny_true (List.mem_of_getElem? HQ.out) HX2.out.symm
            clear HC HX2
            clear hJ1 hK1
            go_wp2_with fail
            go_ret
            exact ⟨by rw [HC2.out]; rfl, HO6.out.base⟩
        · obtain rfl : k = N := by omega
          have HR : Hid (valueF d c f = false) := by
            show _ = _
            have := HC.out
            rw [HN.out, List.take_length] at this
            rw [HV.out, this]
          obtain ⟨bk, -⟩ := HO.out.blk
          have hbf := lt_of_block bk
          have cb0 := cell_of_heap bk (i := 0)
          have cb1 := cell_of_heap bk (i := 1)
          have cb2 := cell_of_heap bk (i := 2)
          have cb3 := cell_of_heap bk (i := 3)
          have cb4 := cell_of_heap bk (i := 4)
          simp only [List.getElem?_toArray, List.getElem?_cons_succ, List.getElem?_cons_zero] at cb0 cb1 cb2 cb3 cb4
          clear bk
          clear hJ1 hK1 hlt
          go_wp2_with fail
          go_ret
          exact ⟨by rw [HR.out]; rfl, HO.out.base⟩
set_option maxHeartbeats 4000000 in
theorem rHolds_c (f : Fm) (w : World) (kv : Value) (d : List Fact) (v : Value) (c : List Int) (u : Value) (hf : IsFm p w f kv) (hd : IsD w d v) (hc : IsC w c u) (hn : d.length ≤ 1000000) (hm : c.length ≤ 1000000) (hx : ∀ x ∈ d, x.name.length ≤ 140737488355328) {lim : Nat} (hlim : lim ≤ 140737488355328) (hs : short lim f = true) (hz : size f ≤ 900000) :
    Calls Tryz.prog 21 #[fval f kv, .agg #[v], u] w (fun e w' => e = .returned (.bool (holdsF d c f)) ∧ Below w.heap.size w w') := by
  have HS := Lib.hid hs
  have HLim := Lib.hid hlim
  have HD := Lib.hid hd
  have HC := Lib.hid hc
  have HX := Lib.hid hx
  have HDn := Lib.hid hn
  have HCn := Lib.hid hm
  have HZ := Lib.hid hz
  clear hs hlim hd hc hx hn hm hz
  obtain ⟨yd, md, hv⟩ := HD.out.form
  subst hv
  obtain ⟨M, hM⟩ : ∃ M, M = d.length := ⟨_, rfl⟩
  rw [← hM] at HD ⊢
  obtain ⟨yc, mc, hv⟩ := HC.out.form
  subst hv
  obtain ⟨Mc, hMc⟩ : ∃ Mc, Mc = c.length := ⟨_, rfl⟩
  have HMc := Lib.hid hMc
  rw [← hMc] at HC ⊢
  clear hM hMc
  obtain ⟨y, m, rfl⟩ := hf.form
  obtain ⟨N, hN⟩ : ∃ N, N = f.kids.length := ⟨_, rfl⟩
  have HN := Lib.hid hN
  rw [← hN] at hf ⊢
  have HF := Lib.hid hf
  clear hN hf
  obtain ⟨W1, hW1⟩ : ∃ W1, W1 = (w.alloc (fobj f (.slice y N m))).alloc (.cells #[.slice yd M md] 27) := ⟨_, rfl⟩
  obtain ⟨bf, hbf⟩ : ∃ bf, bf = w.heap.size := ⟨_, rfl⟩
  obtain ⟨bd, hbd⟩ : ∃ bd, bd = w.heap.size + 1 := ⟨_, rfl⟩
  have HO : Hid (Owns w W1 [blk bf (fobj f (.slice y N m)), blk bd (.cells #[.slice yd M md] 27 (0, 0))]) := by
    rw [hW1, hbf, hbd]
    have := ((Owns.start w).box (fobj f (.slice y N m))).box (.cells #[.slice yd M md] 27 (0, 0))
    rw [World.size_alloc] at this
    exact Lib.hid this.swap
  have HE : Hid (holdsF d c f = (fitsB d c && (decide (checkF d f = 0) && valueF d c f))) := rfl
  go_enter Tryz.func21, Tryz.ntmps21
  go_wp2_with fail
  rw [← hW1]
  try rw [← hbd]
  try rw [← hbf]
  clear hW1 hbf hbd
  go_at_call 47
  refine (rFits_c d c _ _ W1 (HD.out.later HO.out.base) (HC.out.later HO.out.base) HDn.out HCn.out HX.out).mono ?_
  rintro e W2 ⟨rfl, hb⟩
  replace HO := Lib.hid (HO.out.below hb)
  clear hb
  obtain ⟨F, hF⟩ : ∃ F, F = fitsB d c := ⟨_, rfl⟩
  have HFt := Lib.hid hF
  rw [← hF] at HE ⊢
  clear hF
  cases F
  · go_wp2_with fail
    go_ret
    exact ⟨by rw [HE.out]; rfl, HO.out.base⟩
  focus
    obtain ⟨bk, -⟩ := HO.out.blk
    have hbf := lt_of_block bk
    have cb0 := cell_of_heap bk (i := 0)
    have cb1 := cell_of_heap bk (i := 1)
    have cb2 := cell_of_heap bk (i := 2)
    have cb3 := cell_of_heap bk (i := 3)
    have cb4 := cell_of_heap bk (i := 4)
    simp only [List.getElem?_toArray, List.getElem?_cons_succ, List.getElem?_cons_zero] at cb0 cb1 cb2 cb3 cb4
    clear bk
    obtain ⟨bk, -⟩ := HO.out.swap.blk
    have hbd' := lt_of_block bk
    have cd0 := cell_of_heap bk (i := 0)
    simp only [List.getElem?_toArray, List.getElem?_cons_succ, List.getElem?_cons_zero] at cd0
    clear bk
    go_wp2_with fail
    clear cb0 cb1 cb2 cb3 cb4 hbf cd0 hbd'
  go_at_call 19
  refine (rCheck_c f W2 _ d _ (HF.out.later HO.out.base) (HD.out.later HO.out.base) HDn.out HX.out HLim.out HS.out HZ.out).mono ?_
  rintro e W3 ⟨rfl, hb⟩
  replace HO := Lib.hid (HO.out.below hb)
  clear hb
  obtain ⟨E, hE⟩ : ∃ E, E = checkF d f := ⟨_, rfl⟩
  have HEE := Lib.hid hE
  rw [← hE] at HE ⊢
  clear hE
  by_cases hE : E = 0
  · subst hE
    obtain ⟨hL, h0⟩ := check_zero HEE.out.symm
    have H0 := Lib.hid h0
    clear hL h0
    have HE2 : Hid (holdsF d c f = valueF d c f) := by show _ = _; rw [HE.out]; simp
    focus
      obtain ⟨bk, -⟩ := HO.out.blk
      have hbf := lt_of_block bk
      have cb0 := cell_of_heap bk (i := 0)
      have cb1 := cell_of_heap bk (i := 1)
      have cb2 := cell_of_heap bk (i := 2)
      have cb3 := cell_of_heap bk (i := 3)
      have cb4 := cell_of_heap bk (i := 4)
      simp only [List.getElem?_toArray, List.getElem?_cons_succ, List.getElem?_cons_zero] at cb0 cb1 cb2 cb3 cb4
      clear bk
      obtain ⟨bk, -⟩ := HO.out.swap.blk
      have hbd' := lt_of_block bk
      have cd0 := cell_of_heap bk (i := 0)
      simp only [List.getElem?_toArray, List.getElem?_cons_succ, List.getElem?_cons_zero] at cd0
      clear bk
      go_wp2_with fail
      clear cb0 cb1 cb2 cb3 cb4 hbf cd0 hbd'
    go_at_call 48
    obtain ⟨-, hlen, -⟩ := fits_valid HFt.out.symm
    refine (Value_c (p := p) w d c yd yc M md Mc mc HD.out HC.out HMc.out hlen HDn.out HX.out HLim.out f W3 _ HO.out.base HF.out HS.out HZ.out H0.out).mono ?_
    rintro e W5 ⟨rfl, hb⟩
    replace HO := Lib.hid (HO.out.below hb)
    obtain ⟨z, hz⟩ : ∃ z, z = valueF d c f := ⟨_, rfl⟩
    rw [← hz] at HE2 ⊢
    clear hb hlen hz
    go_wp2_with fail
    go_ret
    exact ⟨by rw [HE2.out]; rfl, HO.out.base⟩
  · have hE' : ((E : Int) == 0) = false := by simpa using hE
    have HE2 : Hid (holdsF d c f = false) := by show _ = _; rw [HE.out]; simp [hE]
    clear hE
    go_wp2_with fail
    go_ret
    exact ⟨by rw [HE2.out]; rfl, HO.out.base⟩
end
end Go.Proofs.YtagoefnibgobcaaGreatDoor
