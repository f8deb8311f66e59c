/-
  The reference's 'node' and 'Check'.
-/
import Derived.Test.YtakadfdnhlfijaaGreatDoorFmFirst
import Derived.Test.YtakadfdnhlfijaaGreatDoorFmRFormed
import Derived.Test.YtakadfdnhlfijaaGreatDoorFmRef24
namespace Go.Proofs.YtakadfdnhlfijaaGreatDoor
open Go.RowKit Go.Cz Go.Cz.Lx Go.Cz.Fo
set_option linter.unusedSimpArgs false
set_option linter.unusedVariables false
attribute [local go_sem] bs_size bs_extract bs_append bs_toList
attribute [local irreducible] cList cPlan
section
variable {p : Nat → Prop}
set_option maxHeartbeats 8000000 in
theorem node_c (w0 : World) {lim : Nat} (hlim : lim ≤ 140737488355328) (d : List Fact) (yd : Option Addr) (M md : Nat) (hd : IsD w0 d (.slice yd M md)) (hn : d.length ≤ 1000000) (hx : ∀ x ∈ d, x.name.length ≤ 140737488355328)
    (f : Fm) : ∀ (w : World) (kv : Value), Below w0.heap.size w0 w → IsFm p w0 f kv → short lim f = true → size f ≤ 900000 →
    Calls Tryz.prog 109 #[fval f kv, .agg #[.slice yd M md]] w (fun e w' => e = .returned (.int .i64 (firstF (nodeE d) f : Nat)) ∧ Below w.heap.size w w') := by
  have HD := Lib.hid hd
  have HX := Lib.hid hx
  have HDn := Lib.hid hn
  have HLim := Lib.hid hlim
  clear hd hx hn hlim
  refine Fm.induct (P := fun f => ∀ (w : World) (kv : Value), Below w0.heap.size w0 w → IsFm p w0 f kv → short lim f = true → size f ≤ 900000 →
    Calls Tryz.prog 109 #[fval f kv, .agg #[.slice yd M md]] w (fun e w' => e = .returned (.int .i64 (firstF (nodeE d) f : Nat)) ∧ Below w.heap.size w w')) ?_ f
  clear f
  intro f ih w kv hw hf hs hz
  have HI := Lib.hid ih
  have HS := Lib.hid hs
  have HZ := Lib.hid hz
  have HW := Lib.hid hw
  have hN9 := length_sizes f.kids
  rw [size_kids] at hz
  obtain ⟨y, m, rfl⟩ := hf.form
  obtain ⟨N, hN⟩ : ∃ N, N = f.kids.length := ⟨_, rfl⟩
  have HN := Lib.hid hN
  rw [← hN] at hf ⊢
  have HF := Lib.hid hf
  clear hN hf
  obtain ⟨W1, hW1⟩ : ∃ W1, W1 = (w.alloc (fobj f (.slice y N m))).alloc (.cells #[.slice yd M md] 25) := ⟨_, rfl⟩
  obtain ⟨bf, hbf⟩ : ∃ bf, bf = w.heap.size := ⟨_, rfl⟩
  obtain ⟨bd, hbd⟩ : ∃ bd, bd = w.heap.size + 1 := ⟨_, rfl⟩
  have HO : Hid (Owns w W1 [blk bf (fobj f (.slice y N m)), blk bd (.cells #[.slice yd M md] 25 (0, 0))]) := by
    rw [hW1, hbf, hbd]
    have := ((Owns.start w).box (fobj f (.slice y N m))).box (.cells #[.slice yd M md] 25 (0, 0))
    rw [World.size_alloc] at this
    exact Lib.hid this.swap
  have hN9 : N ≤ 900000 := by have := HN.out; omega
  clear ih hs hz hw
  obtain ⟨E, hE⟩ : ∃ E, E = nodeE d f := ⟨_, rfl⟩
  have HE : Hid (E = if formedB f = false then 1 else if f.op ≠ 3 then 0 else if f.num < 0 ∨ 1000000 < f.num then 10 else if idxD f.name d < 0 then 7 else 0) := hE
  have HEE : Hid (E = nodeE d f) := hE
  clear hE
  have HBad : Hid (E ≠ 0 → firstF (nodeE d) f = E) := fun h => by
    rw [HEE.out] at h ⊢
    rw [firstF_eq, if_pos h]
  go_enter Tryz.func109, Tryz.ntmps109
  go_wp2_with fail
  rw [← hW1, ← hbd, ← hbf]
  clear hW1 hbf hbd
  go_at_call 125
  refine (rformed_c f W1 _ (HF.out.later (HW.out.trans (HO.out.base.mono HW.out.size))) (Nat.le_trans (short_name HS.out) HLim.out)).mono ?_
  rintro e W2 ⟨rfl, hb⟩
  replace HO := Lib.hid (HO.out.below hb)
  clear hb
  obtain ⟨F, hF⟩ : ∃ F, F = formedB f := ⟨_, rfl⟩
  rw [← hF] at HE ⊢
  clear hF
  cases F
  · have HR : Hid (firstF (nodeE d) f = 1) := by
      have := HE.out
      rw [if_pos rfl] at this
      have h2 := HBad.out
      rw [this] at h2
      exact h2 (by decide)
    go_wp2_with fail
    go_ret
    exact ⟨by rw [HR.out]; rfl, HO.out.base⟩
  rw [if_neg (by simp)] at HE
  focus
    obtain ⟨bk, -⟩ := HO.out.blk
    have hbf := lt_of_block bk
    have cb0 := cell_of_heap bk (i := 0)
    have cb1 := cell_of_heap bk (i := 1)
    have cb2 := cell_of_heap bk (i := 2)
    have cb3 := cell_of_heap bk (i := 3)
    have cb4 := cell_of_heap bk (i := 4)
    simp only [List.getElem?_toArray, List.getElem?_cons_succ, List.getElem?_cons_zero] at cb0 cb1 cb2 cb3 cb4
    clear bk
    obtain ⟨bk, -⟩ := HO.out.swap.blk
    have hbd' := lt_of_block bk
    have cd0 := cell_of_heap bk (i := 0)
    simp only [List.getElem?_toArray, List.getElem?_cons_succ, List.getElem?_cons_zero] at cd0
    clear bk
    by_cases h3 : f.op = 3
    · have h3' : (f.op == 3) = true := by simpa using h3
      rw [if_neg (by simpa using h3)] at HE
      by_cases hl : f.num < 0
      · have HR : Hid (firstF (nodeE d) f = 10) := by
          have := HE.out
          rw [if_pos (.inl hl)] at this
          have h2 := HBad.out
          rw [this] at h2
          exact h2 (by decide)
        go_wp2_with fail
        go_ret
        exact ⟨by rw [HR.out]; rfl, HO.out.base⟩
      by_cases hh : 1000000 < f.num
      · have HR : Hid (firstF (nodeE d) f = 10) := by
          have := HE.out
          rw [if_pos (.inr hh)] at this
          have h2 := HBad.out
          rw [this] at h2
          exact h2 (by decide)
        go_wp2_with fail
        go_ret
        exact ⟨by rw [HR.out]; rfl, HO.out.base⟩
      rw [if_neg (by omega)] at HE
      go_wp2_with fail
      go_at_call 71
      have HWd := Lib.hid (HW.out.trans (HO.out.base.mono HW.out.size))
      refine (rIndex_c d f.name _ W2 (HD.out.later HWd.out) HX.out (Nat.le_trans (short_name HS.out) HLim.out) HDn.out).mono ?_
      rintro e W3 ⟨rfl, hb⟩
      replace HO := Lib.hid (HO.out.below hb)
      obtain ⟨u, hu⟩ : ∃ u, u = idxD f.name d := ⟨_, rfl⟩
      rw [← hu] at HE ⊢
      clear hu hb cb0 cb1 cb2 cb3 cb4 hbf cd0 hbd'
      by_cases hu : u < 0
      · have HR : Hid (firstF (nodeE d) f = 7) := by
          have := HE.out
          rw [if_pos hu] at this
          have h2 := HBad.out
          rw [this] at h2
          exact h2 (by decide)
        go_wp2_with fail
        go_ret
        exact ⟨by rw [HR.out]; rfl, HO.out.base⟩
      · rw [if_neg hu] at HE
        go_wp2_with fail
        have H0 : Hid (firsts (nodeE d) (f.kids.take 0) = 0) := by show _ = _; simp [firsts]
        go_loopg [5] N (fun gk i wr => ∃ k : Nat, gk = N - k ∧ k ≤ N ∧ i = .int .i64 (k : Int) ∧ Hid (firsts (nodeE d) (f.kids.take k) = 0) ∧ Hid (Owns w wr [blk bf (fobj f (.slice y N m)), blk bd (.cells #[.slice yd M md] 25 (0, 0))]))
        case atStart => exact ⟨0, rfl, Nat.zero_le _, rfl, H0, HO⟩
        case round =>
          rename_i J1 K1 hJ1 hK1
          clear HO H0 HBad
          obtain ⟨k, rfl, hk, rfl, HC, HO⟩ := hrel
          have HWr := Lib.hid (HW.out.trans (HO.out.base.mono HW.out.size))
          by_cases hlt : k < N
          · obtain ⟨q, hq⟩ : ∃ q, f.kids[k]? = some q := ⟨_, List.getElem?_eq_getElem (by rw [← HN.out]; exact hlt)⟩
            have HQ := Lib.hid hq
            obtain ⟨bk, -⟩ := HO.out.blk
            have hbf := lt_of_block bk
            have cb0 := cell_of_heap bk (i := 0)
            have cb1 := cell_of_heap bk (i := 1)
            have cb2 := cell_of_heap bk (i := 2)
            have cb3 := cell_of_heap bk (i := 3)
            have cb4 := cell_of_heap bk (i := 4)
            simp only [List.getElem?_toArray, List.getElem?_cons_succ, List.getElem?_cons_zero] at cb0 cb1 cb2 cb3 cb4
            clear bk
            go_wp2_with fail
            refine wp_region_can [6] (List.range 8) (by decide +kernel) (by decide +kernel) ?_
            clear cb0 cb1 cb2 cb3 cb4 hbf
            replace HO := Lib.hid HO.out.drew
            replace HWr := Lib.hid (HW.out.trans (HO.out.base.mono HW.out.size))
            obtain ⟨W5, hW5⟩ : ∃ W5, W5 = wr.drew := ⟨_, rfl⟩
            rw [← hW5] at HO HWr ⊢
            clear hW5
            obtain ⟨g, off, kv, rfl, hg, hkv, c0, c1, c2, c3, c4⟩ := HF.out.old HWr.out hq
            obtain ⟨y2, m2, rfl⟩ := hkv.form
            have HK := Lib.hid hkv
            clear hq hkv
            obtain ⟨N2, hN2⟩ : ∃ N2, N2 = q.kids.length := ⟨_, rfl⟩
            rw [← hN2] at c4 HK
            clear hN2
            obtain ⟨bk, -⟩ := HO.out.blk
            have hbf := lt_of_block bk
            have cb0 := cell_of_heap bk (i := 0)
            have cb1 := cell_of_heap bk (i := 1)
            have cb2 := cell_of_heap bk (i := 2)
            have cb3 := cell_of_heap bk (i := 3)
            have cb4 := cell_of_heap bk (i := 4)
            simp only [List.getElem?_toArray, List.getElem?_cons_succ, List.getElem?_cons_zero] at cb0 cb1 cb2 cb3 cb4
            clear bk
            obtain ⟨bk, -⟩ := HO.out.swap.blk
            have hbd' := lt_of_block bk
            have cd0 := cell_of_heap bk (i := 0)
            simp only [List.getElem?_toArray, List.getElem?_cons_succ, List.getElem?_cons_zero] at cd0
            clear bk
            iterate 6 (refine cl_do rfl rfl rfl (by first | rfl | simp [okB, lenV, plainV, Act.eval]) (fun _ _ => ?_); go_wp2_with fail)
            refine cl_call (i := 6) rfl rfl rfl (fun K hK => ?_)
            clear cb0 cb1 cb2 cb3 cb4 hbf cd0 hbd' c0 c1 c2 c3 c4 hg
            go_wp2_with fail
            go_at_call 109
            have hm := List.mem_of_getElem? HQ.out
            refine (HI.out q hm W5 _ HWr.out HK.out (short_kid HS.out hm) (by have := HZ.out; rw [size_kids] at this; have := size_mem hm; omega)).mono ?_
            rintro e W6 ⟨rfl, hb⟩
            have Hb := Lib.hid hb
            have HO6 := Lib.hid (HO.out.below hb)
            obtain ⟨x, hx⟩ : ∃ x, x = firstF (nodeE d) q := ⟨_, rfl⟩
            rw [← hx]
            have HX2 := Lib.hid hx
            clear hx hb HO hm
            go_wp2_with fail
            refine And.intro Hb.out ?_
            clear Hb
            refine cl_do rfl rfl rfl rfl (fun _ _ => ?_)
            go_wp2_with fail
            refine cl_nil ?_
            by_cases hx : x = 0
            · subst hx
              have HC2 : Hid (firsts (nodeE d) (f.kids.take (k + 1)) = 0) := by
                show _ = _
                rw [firsts_take HQ.out, HC.out, ← HX2.out]; rfl
              clear HC HX2
              go_wp2_with fail
              go_roundg (N - (k + 1))
              case measure => omega
              case rel => exact ⟨k + 1, rfl, by omega, by go_num, HC2, HO6⟩
            · have hx' : ((x : Int) != 0) = true := by simpa using hx
              have hx2 : ¬ (x : Int) = 0 := by omega
              have HR : Hid (firstF (nodeE d) f = x) := by
                show _ = _
                have h1 : firsts (nodeE d) (f.kids.take (k + 1)) = x := by
                  rw [firsts_take HQ.out, HC.out, ← HX2.out]; simp
                rw [firstF_eq, ← HEE.out, HE.out, if_neg (by simp), firsts_stop (j := k + 1) (by rw [h1]; exact hx), h1]
              clear hJ1 hK1 hx
              go_wp2_with fail
              go_ret
              exact ⟨by rw [HR.out]; rfl, HO6.out.base⟩
          · obtain rfl : k = N := by omega
            have HR : Hid (firstF (nodeE d) f = 0) := by
              show _ = _
              have := HC.out
              rw [HN.out, List.take_length] at this
              rw [firstF_eq, ← HEE.out, HE.out, if_neg (by simp), this]
            obtain ⟨bk, -⟩ := HO.out.blk
            have hbf := lt_of_block bk
            have cb0 := cell_of_heap bk (i := 0)
            have cb1 := cell_of_heap bk (i := 1)
            have cb2 := cell_of_heap bk (i := 2)
            have cb3 := cell_of_heap bk (i := 3)
            have cb4 := cell_of_heap bk (i := 4)
            simp only [List.getElem?_toArray, List.getElem?_cons_succ, List.getElem?_cons_zero] at cb0 cb1 cb2 cb3 cb4
            clear bk
            clear hJ1 hK1 hlt
            go_wp2_with fail
            go_ret
            exact ⟨by rw [HR.out]; rfl, HO.out.base⟩
    · have h3' : (f.op == 3) = false := by simpa using h3
      rw [if_pos h3] at HE
      go_wp2_with fail
      clear cb0 cb1 cb2 cb3 cb4 hbf cd0 hbd'
      have H0 : Hid (firsts (nodeE d) (f.kids.take 0) = 0) := by show _ = _; simp [firsts]
      go_loopg [5] N (fun gk i wr => ∃ k : Nat, gk = N - k ∧ k ≤ N ∧ i = .int .i64 (k : Int) ∧ Hid (firsts (nodeE d) (f.kids.take k) = 0) ∧ Hid (Owns w wr [blk bf (fobj f (.slice y N m)), blk bd (.cells #[.slice yd M md] 25 (0, 0))]))
      case atStart => exact ⟨0, rfl, Nat.zero_le _, rfl, H0, HO⟩
      case round =>
        rename_i J1 K1 hJ1 hK1
        clear HO H0 HBad
        obtain ⟨k, rfl, hk, rfl, HC, HO⟩ := hrel
        have HWr := Lib.hid (HW.out.trans (HO.out.base.mono HW.out.size))
        by_cases hlt : k < N
        · obtain ⟨q, hq⟩ : ∃ q, f.kids[k]? = some q := ⟨_, List.getElem?_eq_getElem (by rw [← HN.out]; exact hlt)⟩
          have HQ := Lib.hid hq
          obtain ⟨bk, -⟩ := HO.out.blk
          have hbf := lt_of_block bk
          have cb0 := cell_of_heap bk (i := 0)
          have cb1 := cell_of_heap bk (i := 1)
          have cb2 := cell_of_heap bk (i := 2)
          have cb3 := cell_of_heap bk (i := 3)
          have cb4 := cell_of_heap bk (i := 4)
          simp only [List.getElem?_toArray, List.getElem?_cons_succ, List.getElem?_cons_zero] at cb0 cb1 cb2 cb3 cb4
          clear bk
          go_wp2_with fail
          refine wp_region_can [6] (List.range 8) (by decide +kernel) (by decide +kernel) ?_
          clear cb0 cb1 cb2 cb3 cb4 hbf
          replace HO := Lib.hid HO.out.drew
          replace HWr := Lib.hid (HW.out.trans (HO.out.base.mono HW.out.size))
          obtain ⟨W5, hW5⟩ : ∃ W5, W5 = wr.drew := ⟨_, rfl⟩
          rw [← hW5] at HO HWr ⊢
          clear hW5
          obtain ⟨g, off, kv, rfl, hg, hkv, c0, c1, c2, c3, c4⟩ := HF.out.old HWr.out hq
          obtain ⟨y2, m2, rfl⟩ := hkv.form
          have HK := Lib.hid hkv
          clear hq hkv
          obtain ⟨N2, hN2⟩ : ∃ N2, N2 = q.kids.length := ⟨_, rfl⟩
          rw [← hN2] at c4 HK
          clear hN2
          obtain ⟨bk, -⟩ := HO.out.blk
          have hbf := lt_of_block bk
          have cb0 := cell_of_heap bk (i := 0)
          have cb1 := cell_of_heap bk (i := 1)
          have cb2 := cell_of_heap bk (i := 2)
          have cb3 := cell_of_heap bk (i := 3)
          have cb4 := cell_of_heap bk (i := 4)
          simp only [List.getElem?_toArray, List.getElem?_cons_succ, List.getElem?_cons_zero] at cb0 cb1 cb2 cb3 cb4
          clear bk
          obtain ⟨bk, -⟩ := HO.out.swap.blk
          have hbd' := lt_of_block bk
          have cd0 := cell_of_heap bk (i := 0)
          simp only [List.getElem?_toArray, List.getElem?_cons_succ, List.getElem?_cons_zero] at cd0
          clear bk
          iterate 6 (refine cl_do rfl rfl rfl (by first | rfl | simp [okB, lenV, plainV, Act.eval]) (fun _ _ => ?_); go_wp2_with fail)
          refine cl_call (i := 6) rfl rfl rfl (fun K hK => ?_)
          clear cb0 cb1 cb2 cb3 cb4 hbf cd0 hbd' c0 c1 c2 c3 c4 hg
          go_wp2_with fail
          go_at_call 109
          have hm := List.mem_of_getElem? HQ.out
          refine (HI.out q hm W5 _ HWr.out HK.out (short_kid HS.out hm) (by have := HZ.out; rw [size_kids] at this; have := size_mem hm; omega)).mono ?_
          rintro e W6 ⟨rfl, hb⟩
          have Hb := Lib.hid hb
          have HO6 := Lib.hid (HO.out.below hb)
          obtain ⟨x, hx⟩ : ∃ x, x = firstF (nodeE d) q := ⟨_, rfl⟩
          rw [← hx]
          have HX2 := Lib.hid hx
          clear hx hb HO hm
          go_wp2_with fail
          refine And.intro Hb.out ?_
          clear Hb
          refine cl_do rfl rfl rfl rfl (fun _ _ => ?_)
          go_wp2_with fail
          refine cl_nil ?_
          by_cases hx : x = 0
          · subst hx
            have HC2 : Hid (firsts (nodeE d) (f.kids.take (k + 1)) = 0) := by
              show _ = _
              rw [firsts_take HQ.out, HC.out, ← HX2.out]; rfl
            clear HC HX2
            go_wp2_with fail
            go_roundg (N - (k + 1))
            case measure => omega
            case rel => exact ⟨k + 1, rfl, by omega, by go_num, HC2, HO6⟩
          · have hx' : ((x : Int) != 0) = true := by simpa using hx
            have hx2 : ¬ (x : Int) = 0 := by omega
            have HR : Hid (firstF (nodeE d) f = x) := by
              show _ = _
              have h1 : firsts (nodeE d) (f.kids.take (k + 1)) = x := by
                rw [firsts_take HQ.out, HC.out, ← HX2.out]; simp
              rw [firstF_eq, ← HEE.out, HE.out, if_neg (by simp), firsts_stop (j := k + 1) (by rw [h1]; exact hx), h1]
            clear hJ1 hK1 hx
            go_wp2_with fail
            go_ret
            exact ⟨by rw [HR.out]; rfl, HO6.out.base⟩
        · obtain rfl : k = N := by omega
          have HR : Hid (firstF (nodeE d) f = 0) := by
            show _ = _
            have := HC.out
            rw [HN.out, List.take_length] at this
            rw [firstF_eq, ← HEE.out, HE.out, if_neg (by simp), this]
          obtain ⟨bk, -⟩ := HO.out.blk
          have hbf := lt_of_block bk
          have cb0 := cell_of_heap bk (i := 0)
          have cb1 := cell_of_heap bk (i := 1)
          have cb2 := cell_of_heap bk (i := 2)
          have cb3 := cell_of_heap bk (i := 3)
          have cb4 := cell_of_heap bk (i := 4)
          simp only [List.getElem?_toArray, List.getElem?_cons_succ, List.getElem?_cons_zero] at cb0 cb1 cb2 cb3 cb4
          clear bk
          clear hJ1 hK1 hlt
          go_wp2_with fail
          go_ret
          exact ⟨by rw [HR.out]; rfl, HO.out.base⟩
theorem rCheck_c (f : Fm) (w : World) (kv : Value) (d : List Fact) (v : Value) (hf : IsFm p w f kv) (hd : IsD w d v) (hn : d.length ≤ 1000000) (hx : ∀ x ∈ d, x.name.length ≤ 140737488355328) {lim : Nat} (hlim : lim ≤ 140737488355328) (hs : short lim f = true) (hz : size f ≤ 900000) :
    Calls Tryz.prog 89 #[fval f kv, .agg #[v]] w (fun e w' => e = .returned (.int .i64 (checkF d f : Nat)) ∧ Below w.heap.size w w') := by
  have HS := Lib.hid hs
  have HLim := Lib.hid hlim
  have HD := Lib.hid hd
  have HX := Lib.hid hx
  have HDn := Lib.hid hn
  have HZ := Lib.hid hz
  obtain ⟨yd, md, hv⟩ := HD.out.form
  subst hv
  obtain ⟨M, hM⟩ : ∃ M, M = d.length := ⟨_, rfl⟩
  rw [← hM] at HD ⊢
  clear hs hd hx hn hz hM hlim
  obtain ⟨y, m, rfl⟩ := hf.form
  obtain ⟨N, hN⟩ : ∃ N, N = f.kids.length := ⟨_, rfl⟩
  have HN := Lib.hid hN
  rw [← hN] at hf ⊢
  have HF := Lib.hid hf
  clear hN hf
  obtain ⟨W1, hW1⟩ : ∃ W1, W1 = (w.alloc (fobj f (.slice y N m))).alloc (.cells #[.slice yd M md] 25) := ⟨_, rfl⟩
  obtain ⟨bf, hbf⟩ : ∃ bf, bf = w.heap.size := ⟨_, rfl⟩
  obtain ⟨bd, hbd⟩ : ∃ bd, bd = w.heap.size + 1 := ⟨_, rfl⟩
  have HO : Hid (Owns w W1 [blk bf (fobj f (.slice y N m)), blk bd (.cells #[.slice yd M md] 25 (0, 0))]) := by
    rw [hW1, hbf, hbd]
    have := ((Owns.start w).box (fobj f (.slice y N m))).box (.cells #[.slice yd M md] 25 (0, 0))
    rw [World.size_alloc] at this
    exact Lib.hid this.swap
  have HE : Hid (checkF d f = if largeB f = true then 2 else firstF (nodeE d) f) := rfl
  go_enter Tryz.func89, Tryz.ntmps89
  go_wp2_with fail
  rw [← hW1, ← hbd, ← hbf]
  clear hW1 hbf hbd
  go_at_call 108
  refine (rLarge_c f W1 _ (HF.out.later HO.out.base) HZ.out).mono ?_
  rintro e W2 ⟨rfl, hb⟩
  replace HO := Lib.hid (HO.out.below hb)
  clear hb
  obtain ⟨L, hL⟩ : ∃ L, L = largeB f := ⟨_, rfl⟩
  rw [← hL] at HE ⊢
  clear hL
  cases L
  · rw [if_neg (by simp)] at HE
    obtain ⟨bk, -⟩ := HO.out.blk
    have hbf := lt_of_block bk
    have cb0 := cell_of_heap bk (i := 0)
    have cb1 := cell_of_heap bk (i := 1)
    have cb2 := cell_of_heap bk (i := 2)
    have cb3 := cell_of_heap bk (i := 3)
    have cb4 := cell_of_heap bk (i := 4)
    simp only [List.getElem?_toArray, List.getElem?_cons_succ, List.getElem?_cons_zero] at cb0 cb1 cb2 cb3 cb4
    clear bk
    obtain ⟨bk, -⟩ := HO.out.swap.blk
    have hbd' := lt_of_block bk
    have cd0 := cell_of_heap bk (i := 0)
    simp only [List.getElem?_toArray, List.getElem?_cons_succ, List.getElem?_cons_zero] at cd0
    clear bk
    go_wp2_with fail
    go_at_call 109
    refine (node_c (p := p) w HLim.out d yd M md HD.out HDn.out HX.out f W2 _ HO.out.base HF.out HS.out HZ.out).mono ?_
    rintro e W3 ⟨rfl, hb⟩
    replace HO := Lib.hid (HO.out.below hb)
    clear hb cb0 cb1 cb2 cb3 cb4 hbf cd0 hbd'
    go_wp2_with fail
    go_ret
    exact ⟨by rw [HE.out]; rfl, HO.out.base⟩
  · rw [if_pos rfl] at HE
    go_wp2_with fail
    go_ret
    exact ⟨by rw [HE.out]; rfl, HO.out.base⟩
end
end Go.Proofs.YtakadfdnhlfijaaGreatDoor
