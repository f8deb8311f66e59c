/-
  'VerdictMeans' returns true: the walk.
-/
import Derived.Test.YtakadfdnhlfijaaGreatDoorVdLaw
import Derived.Test.YtakadfdnhlfijaaGreatDoorVdMeans
import Derived.Deep.DeepCutAuto
namespace Go.Cz.Vd
open Go.Cz.Lx Go.Cz.Fo
theorem any_next {α : Type} {q : α → Bool} {l : List α} {j : Nat} {m : α} (h : l[j]? = some m) : (l.take (j + 1)).any q = ((l.take j).any q || q m) := by
  rw [List.take_add_one, h, List.any_append]
  simp
theorem decide_bad {l : List Me} {s : Sc} (h : (decideV l s).2 ≠ 0) : (decideV l s).1 = ⟨0, [], []⟩ := by
  unfold decideV licensedV at h ⊢
  by_cases hc : checkV l s = 0
  · rw [if_neg (by simp [hc])] at h; exact absurd rfl h
  · rw [if_pos hc]
end Go.Cz.Vd
namespace Go.Proofs.YtakadfdnhlfijaaGreatDoor
open Go.RowKit Go.Cz Go.Cz.Lx Go.Cz.Fo Go.Cz.Vd
set_option linter.unusedSimpArgs false
set_option linter.unusedVariables false
attribute [local go_sem] bs_size bs_extract bs_append bs_toList
attribute [local irreducible] cList cPlan
set_option maxRecDepth 100000 in
set_option maxHeartbeats 16000000 in
theorem VerdictMeans_walk (w : World) (l : List Me) (lv : Value) (hl : MeIn w l lv) (s : Sc) (vd va vz vc : Value) (hs : ScIn w s vd va vz vc) :
    Calls Tryz.prog 4 #[lv, sval s vd va vz vc] w fun e w' => e = .returned (.bool true) ∧ Below w.heap.size w w' := by
  have HFew := Lib.hid (few_c2 hl hs)
  have HML := Lib.hid hl
  have HSL := Lib.hid hs
  have HIn := Lib.hid fun h : fewV l s = true => few_in h hl hs
  obtain ⟨y, c, rfl⟩ := hl.row.form
  obtain ⟨N, hN⟩ : ∃ N, N = l.length := ⟨_, rfl⟩
  have HN := Lib.hid hN
  clear hl
  obtain ⟨yd, md, rfl⟩ := hs.sc.dom.form
  obtain ⟨ya, ma, rfl⟩ := hs.sc.auths.form
  obtain ⟨yz, mz, rfl⟩ := hs.sc.zones.form
  obtain ⟨yc, mc, rfl⟩ := hs.sc.cases.form
  have HS := Lib.hid hs
  have HSs := Lib.hid hs.sc
  obtain ⟨ND, hND⟩ : ∃ n, n = s.dom.length := ⟨_, rfl⟩
  obtain ⟨NA, hNA⟩ : ∃ n, n = s.auths.length := ⟨_, rfl⟩
  obtain ⟨NZ, hNZ⟩ : ∃ n, n = s.zones.length := ⟨_, rfl⟩
  obtain ⟨NC, hNC⟩ : ∃ n, n = s.cases.length := ⟨_, rfl⟩
  rw [← hND, ← hNA, ← hNZ, ← hNC] at HS HSs ⊢
  clear hs
  rw [← hN] at HML HFew ⊢
  rw [← hND, ← hNA, ← hNZ, ← hNC] at HFew
  clear hN hND hNA hNZ hNC HSL
  obtain ⟨W1, hW1⟩ : ∃ W1, W1 = w.alloc (sobj s (.slice yd ND md) (.slice ya NA ma) (.slice yz NZ mz) (.slice yc NC mc)) := ⟨_, rfl⟩
  obtain ⟨bx, hbx⟩ : ∃ b, b = w.heap.size := ⟨_, rfl⟩
  have HO : Hid (Owns w W1 [blk bx (sobj s (.slice yd ND md) (.slice ya NA ma) (.slice yz NZ mz) (.slice yc NC mc))]) := by
    rw [hW1, hbx]
    exact Lib.hid ((Owns.start w).box _)
  go_enter Tryz.func4, Tryz.ntmps4
  go_wp2_with fail
  rw [← hW1, ← hbx]
  clear hW1 hbx
  go_at_call 9
  refine (head_c W1).mono ?_
  rintro e W2 ⟨rfl, hb⟩
  replace HO := Lib.hid (HO.out.below hb)
  clear hb
  obtain ⟨bk, -⟩ := HO.out.blk
  have hbx := lt_of_block bk
  have x0 := cell_of_heap bk (i := 0)
  have x1 := cell_of_heap bk (i := 1)
  have x2 := cell_of_heap bk (i := 2)
  have x3 := cell_of_heap bk (i := 3)
  have x4 := cell_of_heap bk (i := 4)
  have x5 := cell_of_heap bk (i := 5)
  simp only [List.getElem?_toArray, List.getElem?_cons_succ, List.getElem?_cons_zero] at x0 x1 x2 x3 x4 x5
  clear bk
  go_wp2_with fail
  clear hbx x0 x1 x2 x3 x4 x5
  go_at_call 10
  refine (HFew.out W2 HO.out.base).mono ?_
  rintro e W3 ⟨rfl, hb⟩
  replace HO := Lib.hid (HO.out.below hb)
  clear hb HFew
  obtain ⟨q, hq⟩ : ∃ q, q = fewV l s := ⟨_, rfl⟩
  rw [← hq]
  have HQ := Lib.hid hq
  clear hq
  cases q
  · go_wp2_with fail
    go_ret
    exact ⟨rfl, HO.out.base⟩
  have HI := Lib.hid (HIn.out HQ.out.symm)
  clear HIn HQ
  have hN8 : N ≤ 8 := by rw [HN.out]; exact HI.out.ms8
  obtain ⟨bk, -⟩ := HO.out.blk
  have hbx := lt_of_block bk
  have x0 := cell_of_heap bk (i := 0)
  have x1 := cell_of_heap bk (i := 1)
  have x2 := cell_of_heap bk (i := 2)
  have x3 := cell_of_heap bk (i := 3)
  have x4 := cell_of_heap bk (i := 4)
  have x5 := cell_of_heap bk (i := 5)
  simp only [List.getElem?_toArray, List.getElem?_cons_succ, List.getElem?_cons_zero] at x0 x1 x2 x3 x4 x5
  clear bk
  go_wp2_with fail
  clear hbx x0 x1 x2 x3 x4 x5
  go_at_call 13
  refine (decide_c l s _ _ _ _ _ W3 (HML.out.row.later HO.out.base) (HSs.out.later HO.out.base) HI.out.ms HI.out.sc HI.out.a HI.out.z HI.out.c).mono ?_
  rintro e W4 ⟨fv, bv, rfl, h1⟩
  have HTx := Lib.hid (ve_tx (l := l) (s := s) (cov := []) HI.out.ms)
  rw [show licensedV l s [] = decideV l s from rfl] at HTx
  have HBad := Lib.hid (decide_bad (l := l) (s := s))
  have HLaw := Lib.hid (means_law (l := l) (s := s))
  have HZ := Lib.hid fun h : (decideV l s).2 = 0 => (decide_forbids h).1
  obtain ⟨r, hr⟩ : ∃ r, r = decideV l s := ⟨_, rfl⟩
  rw [← hr] at h1 HTx HBad HLaw HZ ⊢
  obtain ⟨⟨kd, fl, bl⟩, q⟩ := r
  dsimp only at h1 HTx HBad HLaw HZ ⊢
  have HO2 := Lib.hid (Owns.app HO.out h1)
  clear h1 hr HO
  obtain ⟨fy, fc, rfl, -⟩ := HO2.out.txIs
  obtain ⟨by1, bc, rfl, -⟩ := HO2.out.pop.txIs
  obtain ⟨nf0, hnf⟩ : ∃ n, n = fl.length := ⟨_, rfl⟩
  obtain ⟨nb0, hnb⟩ : ∃ n, n = bl.length := ⟨_, rfl⟩
  rw [← hnf, ← hnb] at HO2 ⊢
  have HNf := Lib.hid hnf
  have HNb := Lib.hid hnb
  clear hnf hnb
  obtain ⟨b6, hb6⟩ : ∃ b, b = W4.heap.size := ⟨_, rfl⟩
  obtain ⟨W5, hW5⟩ : ∃ W, W = W4.alloc (vobj kd (.slice fy nf0 fc) (.slice by1 nb0 bc)) := ⟨_, rfl⟩
  have HO : Hid (Owns w W5 [blk b6 (vobj kd (.slice fy nf0 fc) (.slice by1 nb0 bc)), txP (.slice fy nf0 fc) fl, txP (.slice by1 nb0 bc) bl, blk bx (sobj s (.slice yd ND md) (.slice ya NA ma) (.slice yz NZ mz) (.slice yc NC mc))]) := by
    rw [hW5, hb6]
    exact Lib.hid (HO2.out.box _)
  clear HO2
  by_cases hq0 : q = 0
  rotate_left
  · have hq1 : ((q : Int) != 0) = true := by simp; omega
    have hv := HBad.out hq0
    simp only [Ve.mk.injEq] at hv
    obtain ⟨rfl, rfl, rfl⟩ := hv
    have z1 : nf0 = 0 := HNf.out
    have z2 : nb0 = 0 := HNb.out
    subst z1 z2
    clear hq0
    go_wp2_with fail
    go_ret
    exact ⟨rfl, by rw [← hW5]; exact HO.out.base⟩
  have hq1 : ((q : Int) != 0) = false := by simp; omega
  replace HLaw := Lib.hid (HLaw.out hq0)
  have HPr := Lib.hid (Go.Cz.Vd.check_zero.1 (HZ.out hq0)).1
  clear hq0 HBad HZ
  go_wp2_with fail
  rw [← hW5, ← hb6]
  clear hW5 hb6 hq1
  go_loopg [8, 9, 10] N (fun gk a b i wr => ∃ j : Nat, gk = N - j ∧ j ≤ N ∧ a = .int .i64 (((l.take j).filter (fB l s)).length : Nat) ∧ b = .int .i64 (((l.take j).filter (bB l s fl)).length : Nat) ∧ i = .int .i64 (j : Int) ∧ Hid (Owns w wr [blk b6 (vobj kd (.slice fy nf0 fc) (.slice by1 nb0 bc)), txP (.slice fy nf0 fc) fl, txP (.slice by1 nb0 bc) bl, blk bx (sobj s (.slice yd ND md) (.slice ya NA ma) (.slice yz NZ mz) (.slice yc NC mc))]))
  case atStart => exact ⟨0, rfl, Nat.zero_le _, rfl, rfl, rfl, HO⟩
  case round =>
    rename_i J1 K1 hJ1 hK1
    clear HO
    obtain ⟨j, rfl, hj, rfl, rfl, rfl, HO⟩ := hrel
    obtain ⟨nf, hnf⟩ : ∃ n, n = ((l.take j).filter (fB l s)).length := ⟨_, rfl⟩
    obtain ⟨nb, hnb⟩ : ∃ n, n = ((l.take j).filter (bB l s fl)).length := ⟨_, rfl⟩
    rw [← hnf, ← hnb]
    have HF0 := Lib.hid hnf
    have HB0 := Lib.hid hnb
    have hnf9 : nf ≤ 1000 := by rw [hnf]; have := List.length_filter_le (fB l s) (l.take j); rw [List.length_take] at this; omega
    have hnb9 : nb ≤ 1000 := by rw [hnb]; have := List.length_filter_le (bB l s fl) (l.take j); rw [List.length_take] at this; omega
    clear hnf hnb
    by_cases hlt : j < N
    · obtain ⟨m, hx⟩ : ∃ x, l[j]? = some x := ⟨_, List.getElem?_eq_getElem (by rw [← HN.out]; exact hlt)⟩
      obtain ⟨g, off, kv, rfl, hgw, hm, hf⟩ := HML.out.row.get (Below.refl _ _) hx
      have HMx := Lib.hid hx
      have HMs := Lib.hid (HI.out.ms.each m (List.mem_of_getElem? hx))
      obtain ⟨ky, kn, rfl⟩ := hf.form
      obtain ⟨n2, hn2⟩ : ∃ n, n = m.cond.kids.length := ⟨_, rfl⟩
      rw [← hn2] at hm hf
      have HFm := Lib.hid hf
      have HMA := Lib.hid hm
      clear hx hf hn2 hm
      obtain ⟨exT, hexT⟩ : ∃ f : Nat → Bool, f = fun k => (l.take k).any fun k => decide (k.kind = 2) && (decide (k.target = m.id) && (decide (k.auth = m.auth) && countsB s k)) := ⟨_, rfl⟩
      obtain ⟨agT, hagT⟩ : ∃ f : Nat → Bool, f = fun k => (l.take k).any fun k => decide (k.auth = m.target) && (decide (k.kind = 1) && fl.contains k.id) := ⟨_, rfl⟩
      have HExT := Lib.hid hexT
      have HAg := Lib.hid hagT
      have e0 : exT 0 = false := by rw [hexT]; rfl
      have a0 : agT 0 = false := by rw [hagT]; rfl
      clear hexT hagT
      go_wp2_with fail
      go_loopg [11, 12, 13] N (fun gk a b i wr => ∃ k : Nat, gk = N - k ∧ k ≤ N ∧ a = .bool (exT k) ∧ b = .bool (agT k) ∧ i = .int .i64 (k : Int) ∧ Hid (Owns w wr [blk b6 (vobj kd (.slice fy nf0 fc) (.slice by1 nb0 bc)), txP (.slice fy nf0 fc) fl, txP (.slice by1 nb0 bc) bl, blk bx (sobj s (.slice yd ND md) (.slice ya NA ma) (.slice yz NZ mz) (.slice yc NC mc))]))
      case atStart => exact ⟨0, rfl, Nat.zero_le _, by rw [e0], by rw [a0], rfl, HO⟩
      case round =>
        rename_i J2 K2 hJ2 hK2
        clear HO e0 a0
        obtain ⟨k, rfl, hk, rfl, rfl, rfl, HO⟩ := hrel
        obtain ⟨ex, hex⟩ : ∃ b, b = exT k := ⟨_, rfl⟩
        obtain ⟨ag, hag⟩ : ∃ b, b = agT k := ⟨_, rfl⟩
        rw [← hex, ← hag]
        by_cases hlt2 : k < N
        · obtain ⟨x, hx⟩ : ∃ x, l[k]? = some x := ⟨_, List.getElem?_eq_getElem (by rw [← HN.out]; exact hlt2)⟩
          obtain ⟨g', off', kvx, e, hgw', hm', hf'⟩ := HML.out.row.get (Below.refl _ _) hx
          cases e
          have HX := Lib.hid hx
          have HXs := Lib.hid (HI.out.ms.each x (List.mem_of_getElem? hx))
          obtain ⟨kxy, kxn, rfl⟩ := hf'.form
          obtain ⟨nx2, hnx2⟩ : ∃ n, n = x.cond.kids.length := ⟨_, rfl⟩
          rw [← hnx2] at hm' hf'
          have HXf := Lib.hid hf'
          have HXA := Lib.hid hm'
          have hexk := hex
          rw [HExT.out] at hexk
          have HExk := Lib.hid hexk.symm
          have hagk := hag
          rw [HAg.out] at hagk
          have HAgk := Lib.hid hagk.symm
          clear hx hf' hm' hnx2 hgw' hex hag hexk hagk
          dsimp only at HExk HAgk
          go_upto_region 15 with fail
          go_cut [11] (fun v wx => v = .bool (exT (k + 1)) ∧ Hid (Owns w wx [blk b6 (vobj kd (.slice fy nf0 fc) (.slice by1 nb0 bc)), txP (.slice fy nf0 fc) fl, txP (.slice by1 nb0 bc) bl, blk bx (sobj s (.slice yd ND md) (.slice ya NA ma) (.slice yz NZ mz) (.slice yc NC mc))]))
          case first =>
            as_aux_lemma =>
              go_wp2_with fail
              refine wp_region_can [40] (List.range 44) (by decide +kernel) (by decide +kernel) ?_
              replace HO := Lib.hid HO.out.drew
              obtain ⟨W6, hWx⟩ : ∃ W, W = World.drew wr := ⟨_, rfl⟩
              rw [← hWx] at HO ⊢
              clear hWx
              cases ex
              rotate_left
              · iterate 44 (first | (refine cl_do rfl rfl rfl rfl (fun _ _ => ?_); go_wp2_with fail) | (refine cl_yes rfl rfl rfl rfl (by first | rfl | simp [okB, lenV, plainV, Act.eval]) (fun _ _ => ?_); go_wp2_with fail) | (refine cl_no rfl rfl rfl ?_; go_simp) | (refine cl_skip rfl (by rfl) ?_; go_simp))
                have HEx2 : Hid (exT (k + 1) = true) := by
                  show _ = _
                  rw [HExT.out]; dsimp only; rw [any_next HX.out, HExk.out]; simp
                refine cl_nil ?_
                go_wp2_with fail
                go_meet
                exact ⟨by rw [HEx2.out], HO⟩
              have phg : g < W6.heap.size := Nat.lt_of_lt_of_le hgw HO.out.base.size
              obtain ⟨p0, p1, p2, p3, p4, p5, p6, p7, p8, p9, pa, pb⟩ := MeAt.later HXA.out hgw HO.out.base
              have rhg : g < W6.heap.size := Nat.lt_of_lt_of_le hgw HO.out.base.size
              obtain ⟨r0, r1, r2, r3, r4, r5, r6, r7, r8, r9, ra, rb⟩ := MeAt.later HMA.out hgw HO.out.base
              by_cases h1 : x.kind = 2
              rotate_left
              · have h1' : (x.kind == 2) = false := by simpa using h1
                have h1c := Lib.hid (decide_eq_false h1)
                clear h1
                iterate 44 (first | (refine cl_do rfl rfl rfl rfl (fun _ _ => ?_); go_wp2_with fail) | (refine cl_yes rfl rfl rfl rfl (by first | rfl | simp [okB, lenV, plainV, Act.eval]) (fun _ _ => ?_); go_wp2_with fail) | (refine cl_no rfl rfl rfl ?_; go_simp) | (refine cl_skip rfl (by rfl) ?_; go_simp))
                clear h1'
                clear phg p0 p1 p2 p3 p4 p5 p6 p7 p8 p9 pa pb
                clear rhg r0 r1 r2 r3 r4 r5 r6 r7 r8 r9 ra rb
                have HEx2 : Hid (exT (k + 1) = false) := by
                  show _ = _
                  rw [HExT.out]; dsimp only; rw [any_next HX.out, HExk.out, h1c.out]; simp
                refine cl_nil ?_
                go_wp2_with fail
                go_meet
                exact ⟨by rw [HEx2.out], HO⟩
              have h1' : (x.kind == 2) = true := by simpa using h1
              have h1c := Lib.hid (decide_eq_true h1)
              clear h1
              by_cases h2 : x.target = m.id
              rotate_left
              · have h2' : (x.target == m.id) = false := by simpa using h2
                have h2c := Lib.hid (decide_eq_false h2)
                clear h2
                iterate 44 (first | (refine cl_do rfl rfl rfl rfl (fun _ _ => ?_); go_wp2_with fail) | (refine cl_yes rfl rfl rfl rfl (by first | rfl | simp [okB, lenV, plainV, Act.eval]) (fun _ _ => ?_); go_wp2_with fail) | (refine cl_no rfl rfl rfl ?_; go_simp) | (refine cl_skip rfl (by rfl) ?_; go_simp))
                clear h1' h2'
                clear phg p0 p1 p2 p3 p4 p5 p6 p7 p8 p9 pa pb
                clear rhg r0 r1 r2 r3 r4 r5 r6 r7 r8 r9 ra rb
                have HEx2 : Hid (exT (k + 1) = false) := by
                  show _ = _
                  rw [HExT.out]; dsimp only; rw [any_next HX.out, HExk.out, h1c.out, h2c.out]; simp
                refine cl_nil ?_
                go_wp2_with fail
                go_meet
                exact ⟨by rw [HEx2.out], HO⟩
              have h2' : (x.target == m.id) = true := by simpa using h2
              have h2c := Lib.hid (decide_eq_true h2)
              clear h2
              by_cases h3 : x.auth = m.auth
              rotate_left
              · have h3' : (x.auth == m.auth) = false := by simpa using h3
                have h3c := Lib.hid (decide_eq_false h3)
                clear h3
                iterate 44 (first | (refine cl_do rfl rfl rfl rfl (fun _ _ => ?_); go_wp2_with fail) | (refine cl_yes rfl rfl rfl rfl (by first | rfl | simp [okB, lenV, plainV, Act.eval]) (fun _ _ => ?_); go_wp2_with fail) | (refine cl_no rfl rfl rfl ?_; go_simp) | (refine cl_skip rfl (by rfl) ?_; go_simp))
                clear h1' h2' h3'
                clear phg p0 p1 p2 p3 p4 p5 p6 p7 p8 p9 pa pb
                clear rhg r0 r1 r2 r3 r4 r5 r6 r7 r8 r9 ra rb
                have HEx2 : Hid (exT (k + 1) = false) := by
                  show _ = _
                  rw [HExT.out]; dsimp only; rw [any_next HX.out, HExk.out, h1c.out, h2c.out, h3c.out]; simp
                refine cl_nil ?_
                go_wp2_with fail
                go_meet
                exact ⟨by rw [HEx2.out], HO⟩
              have h3' : (x.auth == m.auth) = true := by simpa using h3
              have h3c := Lib.hid (decide_eq_true h3)
              clear h3
              obtain ⟨bk, -⟩ := (Owns.drop HO.out 3).blk
              have hbx := lt_of_block bk
              have x0 := cell_of_heap bk (i := 0)
              have x1 := cell_of_heap bk (i := 1)
              have x2 := cell_of_heap bk (i := 2)
              have x3 := cell_of_heap bk (i := 3)
              have x4 := cell_of_heap bk (i := 4)
              have x5 := cell_of_heap bk (i := 5)
              simp only [List.getElem?_toArray, List.getElem?_cons_succ, List.getElem?_cons_zero] at x0 x1 x2 x3 x4 x5
              clear bk
              iterate 40 (first | (refine cl_do rfl rfl rfl rfl (fun _ _ => ?_); go_wp2_with fail) | (refine cl_yes rfl rfl rfl rfl (by first | rfl | simp [okB, lenV, plainV, Act.eval]) (fun _ _ => ?_); go_wp2_with fail) | (refine cl_no rfl rfl rfl ?_; go_simp) | (refine cl_skip rfl (by rfl) ?_; go_simp))
              clear h1' h2' h3'
              clear phg p0 p1 p2 p3 p4 p5 p6 p7 p8 p9 pa pb
              clear rhg r0 r1 r2 r3 r4 r5 r6 r7 r8 r9 ra rb
              clear hbx x0 x1 x2 x3 x4 x5
              refine cl_ycall (i := 40) rfl rfl rfl rfl (fun K hK => ?_)
              go_wp2_with fail
              go_at_call 18
              refine (counts_c x _ s _ _ _ _ W6 (HXf.out.later HO.out.base) HXs.out.1 HXs.out.2 (HSs.out.later HO.out.base) HI.out.sc HPr.out).mono ?_
              rintro e W9 ⟨rfl, hb⟩
              replace HO := Lib.hid (HO.out.below hb)
              have Hb := Lib.hid hb
              clear hb
              obtain ⟨q4, hq4⟩ : ∃ q, q = countsB s x := ⟨_, rfl⟩
              rw [← hq4]
              have HQ4 := Lib.hid hq4
              clear hq4
              go_wp2_with fail
              refine And.intro Hb.out ?_
              clear Hb
              iterate 3 (first | (refine cl_do rfl rfl rfl rfl (fun _ _ => ?_); go_wp2_with fail) | (refine cl_yes rfl rfl rfl rfl (by first | rfl | simp [okB, lenV, plainV, Act.eval]) (fun _ _ => ?_); go_wp2_with fail) | (refine cl_no rfl rfl rfl ?_; go_simp) | (refine cl_skip rfl (by rfl) ?_; go_simp))
              have HEx2 : Hid (exT (k + 1) = q4) := by
                show _ = _
                rw [HExT.out]; dsimp only; rw [any_next HX.out, HExk.out, h1c.out, h2c.out, h3c.out, ← HQ4.out]; simp
              refine cl_nil ?_
              go_wp2_with fail
              go_meet
              exact ⟨by rw [HEx2.out], HO⟩
          case rest =>
            clear HO
            obtain ⟨rfl, HO⟩ := hcut
            go_wp2_with fail
            refine wp_region_can [29] (List.range 33) (by decide +kernel) (by decide +kernel) ?_
            replace HO := Lib.hid HO.out.drew
            obtain ⟨W7, hWx⟩ : ∃ W, W = World.drew wc := ⟨_, rfl⟩
            rw [← hWx] at HO ⊢
            clear hWx
            cases ag
            rotate_left
            · iterate 33 (first | (refine cl_do rfl rfl rfl rfl (fun _ _ => ?_); go_wp2_with fail) | (refine cl_yes rfl rfl rfl rfl (by first | rfl | simp [okB, lenV, plainV, Act.eval]) (fun _ _ => ?_); go_wp2_with fail) | (refine cl_no rfl rfl rfl ?_; go_simp) | (refine cl_skip rfl (by rfl) ?_; go_simp))
              have HG2 : Hid (agT (k + 1) = true) := by
                show _ = _
                rw [HAg.out]; dsimp only; rw [any_next HX.out, HAgk.out]; simp
              refine cl_nil ?_
              as_aux_lemma =>
                go_wp2_with fail
                go_roundg (N - (k + 1))
                case measure => omega
                case rel => exact ⟨k + 1, rfl, by omega, rfl, by rw [HG2.out], by go_num, HO⟩
            have phg : g < W7.heap.size := Nat.lt_of_lt_of_le hgw HO.out.base.size
            obtain ⟨p0, p1, p2, p3, p4, p5, p6, p7, p8, p9, pa, pb⟩ := MeAt.later HXA.out hgw HO.out.base
            have rhg : g < W7.heap.size := Nat.lt_of_lt_of_le hgw HO.out.base.size
            obtain ⟨r0, r1, r2, r3, r4, r5, r6, r7, r8, r9, ra, rb⟩ := MeAt.later HMA.out hgw HO.out.base
            by_cases h1 : x.auth = m.target
            rotate_left
            · have h1' : (x.auth == m.target) = false := by simpa using h1
              have h1b := Lib.hid (decide_eq_false h1)
              clear h1
              iterate 33 (first | (refine cl_do rfl rfl rfl rfl (fun _ _ => ?_); go_wp2_with fail) | (refine cl_yes rfl rfl rfl rfl (by first | rfl | simp [okB, lenV, plainV, Act.eval]) (fun _ _ => ?_); go_wp2_with fail) | (refine cl_no rfl rfl rfl ?_; go_simp) | (refine cl_skip rfl (by rfl) ?_; go_simp))
              clear h1'
              clear phg p0 p1 p2 p3 p4 p5 p6 p7 p8 p9 pa pb
              clear rhg r0 r1 r2 r3 r4 r5 r6 r7 r8 r9 ra rb
              have HG2 : Hid (agT (k + 1) = false) := by
                show _ = _
                rw [HAg.out]; dsimp only; rw [any_next HX.out, HAgk.out, h1b.out]; simp
              refine cl_nil ?_
              as_aux_lemma =>
                go_wp2_with fail
                go_roundg (N - (k + 1))
                case measure => omega
                case rel => exact ⟨k + 1, rfl, by omega, rfl, by rw [HG2.out], by go_num, HO⟩
            have h1' : (x.auth == m.target) = true := by simpa using h1
            have h1b := Lib.hid (decide_eq_true h1)
            clear h1
            by_cases h2 : x.kind = 1
            rotate_left
            · have h2' : (x.kind == 1) = false := by simpa using h2
              have h2b := Lib.hid (decide_eq_false h2)
              clear h2
              iterate 33 (first | (refine cl_do rfl rfl rfl rfl (fun _ _ => ?_); go_wp2_with fail) | (refine cl_yes rfl rfl rfl rfl (by first | rfl | simp [okB, lenV, plainV, Act.eval]) (fun _ _ => ?_); go_wp2_with fail) | (refine cl_no rfl rfl rfl ?_; go_simp) | (refine cl_skip rfl (by rfl) ?_; go_simp))
              clear h1' h2'
              clear phg p0 p1 p2 p3 p4 p5 p6 p7 p8 p9 pa pb
              clear rhg r0 r1 r2 r3 r4 r5 r6 r7 r8 r9 ra rb
              have HG2 : Hid (agT (k + 1) = false) := by
                show _ = _
                rw [HAg.out]; dsimp only; rw [any_next HX.out, HAgk.out, h1b.out, h2b.out]; simp
              refine cl_nil ?_
              as_aux_lemma =>
                go_wp2_with fail
                go_roundg (N - (k + 1))
                case measure => omega
                case rel => exact ⟨k + 1, rfl, by omega, rfl, by rw [HG2.out], by go_num, HO⟩
            have h2' : (x.kind == 1) = true := by simpa using h2
            have h2b := Lib.hid (decide_eq_true h2)
            clear h2
            obtain ⟨bk, -⟩ := Owns.blk HO.out
            have hbv := lt_of_block bk
            have ev0 := cell_of_heap bk (i := 0)
            have ev1 := cell_of_heap bk (i := 1)
            have ev2 := cell_of_heap bk (i := 2)
            simp only [List.getElem?_toArray, List.getElem?_cons_succ, List.getElem?_cons_zero] at ev0 ev1 ev2
            clear bk
            iterate 29 (first | (refine cl_do rfl rfl rfl rfl (fun _ _ => ?_); go_wp2_with fail) | (refine cl_yes rfl rfl rfl rfl (by first | rfl | simp [okB, lenV, plainV, Act.eval]) (fun _ _ => ?_); go_wp2_with fail) | (refine cl_no rfl rfl rfl ?_; go_simp) | (refine cl_skip rfl (by rfl) ?_; go_simp))
            clear h1' h2' hbv ev0 ev1 ev2
            clear phg p0 p1 p2 p3 p4 p5 p6 p7 p8 p9 pa pb
            clear rhg r0 r1 r2 r3 r4 r5 r6 r7 r8 r9 ra rb
            refine cl_ycall (i := 29) rfl rfl rfl rfl (fun K hK => ?_)
            go_wp2_with fail
            go_at_call 19
            refine (has_c fl x.id _ W7 HO.out.pop.txIs (by have := HTx.out.1.len; omega)).mono ?_
            rintro e W8 ⟨rfl, hw⟩
            subst hw
            obtain ⟨q, hq⟩ : ∃ q, q = fl.contains x.id := ⟨_, rfl⟩
            rw [← hq]
            have HQ3 := Lib.hid hq
            clear hq
            go_wp2_with fail
            refine And.intro (Below.refl _ _) ?_
            iterate 3 (first | (refine cl_do rfl rfl rfl rfl (fun _ _ => ?_); go_wp2_with fail) | (refine cl_yes rfl rfl rfl rfl (by first | rfl | simp [okB, lenV, plainV, Act.eval]) (fun _ _ => ?_); go_wp2_with fail) | (refine cl_no rfl rfl rfl ?_; go_simp) | (refine cl_skip rfl (by rfl) ?_; go_simp))
            have HG2 : Hid (agT (k + 1) = q) := by
              show _ = _
              rw [HAg.out]; dsimp only; rw [any_next HX.out, HAgk.out, h1b.out, h2b.out, ← HQ3.out]; simp
            refine cl_nil ?_
            as_aux_lemma =>
              go_wp2_with fail
              go_roundg (N - (k + 1))
              case measure => omega
              case rel => exact ⟨k + 1, rfl, by omega, rfl, by rw [HG2.out], by go_num, HO⟩
        · obtain rfl : k = N := by omega
          have HEx : Hid (ex = exB l s m) := by
            show _ = _
            rw [hex, HExT.out]
            dsimp only
            rw [HN.out, List.take_length]; rfl
          have HAx : Hid (ag = agB l fl m) := by
            show _ = _
            rw [hag, HAg.out]
            dsimp only
            rw [HN.out, List.take_length]; rfl
          have HLm : Hid (fB l s m = fl.contains m.id ∧ bB l s fl m = bl.contains m.id) := Lib.hid (HLaw.out.1 m (List.mem_of_getElem? HMx.out))
          clear hJ2 hK2 hlt2 hex hag HExT HAg
          go_upto_region 17 with fail
          go_cut [14] (fun v wx => v = .bool (fB l s m) ∧ Hid (Owns w wx [blk b6 (vobj kd (.slice fy nf0 fc) (.slice by1 nb0 bc)), txP (.slice fy nf0 fc) fl, txP (.slice by1 nb0 bc) bl, blk bx (sobj s (.slice yd ND md) (.slice ya NA ma) (.slice yz NZ mz) (.slice yc NC mc))]))
          case first =>
            as_aux_lemma =>
              go_wp2_with fail
              refine wp_region_can [12] (List.range 19) (by decide +kernel) (by decide +kernel) ?_
              replace HO := Lib.hid HO.out.drew
              obtain ⟨W6, hWx⟩ : ∃ W, W = World.drew wr := ⟨_, rfl⟩
              rw [← hWx] at HO ⊢
              clear hWx
              have rhg : g < W6.heap.size := Nat.lt_of_lt_of_le hgw HO.out.base.size
              obtain ⟨r0, r1, r2, r3, r4, r5, r6, r7, r8, r9, ra, rb⟩ := MeAt.later HMA.out hgw HO.out.base
              by_cases h1 : m.kind = 1
              rotate_left
              · have h1' : (m.kind == 1) = false := by simpa using h1
                have HFv : Hid (fB l s m = false) := by
                  show _ = _
                  unfold fB
                  rw [decide_eq_false h1]; rfl
                clear h1
                iterate 19 (first | (refine cl_do rfl rfl rfl rfl (fun _ _ => ?_); go_wp2_with fail) | (refine cl_yes rfl rfl rfl rfl (by first | rfl | simp [okB, lenV, plainV, Act.eval]) (fun _ _ => ?_); go_wp2_with fail) | (refine cl_no rfl rfl rfl ?_; go_simp) | (refine cl_skip rfl (by rfl) ?_; go_simp))
                clear h1'
                clear rhg r0 r1 r2 r3 r4 r5 r6 r7 r8 r9 ra rb
                refine cl_nil ?_
                go_wp2_with fail
                go_meet
                exact ⟨by rw [HFv.out], HO⟩
              have h1' : (m.kind == 1) = true := by simpa using h1
              have h1c := Lib.hid (decide_eq_true h1)
              clear h1
              obtain ⟨bk, -⟩ := (Owns.drop HO.out 3).blk
              have hbx := lt_of_block bk
              have x0 := cell_of_heap bk (i := 0)
              have x1 := cell_of_heap bk (i := 1)
              have x2 := cell_of_heap bk (i := 2)
              have x3 := cell_of_heap bk (i := 3)
              have x4 := cell_of_heap bk (i := 4)
              have x5 := cell_of_heap bk (i := 5)
              simp only [List.getElem?_toArray, List.getElem?_cons_succ, List.getElem?_cons_zero] at x0 x1 x2 x3 x4 x5
              clear bk
              iterate 12 (first | (refine cl_do rfl rfl rfl rfl (fun _ _ => ?_); go_wp2_with fail) | (refine cl_yes rfl rfl rfl rfl (by first | rfl | simp [okB, lenV, plainV, Act.eval]) (fun _ _ => ?_); go_wp2_with fail) | (refine cl_no rfl rfl rfl ?_; go_simp) | (refine cl_skip rfl (by rfl) ?_; go_simp))
              clear h1'
              clear rhg r0 r1 r2 r3 r4 r5 r6 r7 r8 r9 ra rb
              clear hbx x0 x1 x2 x3 x4 x5
              refine cl_ycall (i := 12) rfl rfl rfl rfl (fun K hK => ?_)
              go_wp2_with fail
              go_at_call 18
              refine (counts_c m _ s _ _ _ _ W6 (HFm.out.later HO.out.base) HMs.out.1 HMs.out.2 (HSs.out.later HO.out.base) HI.out.sc HPr.out).mono ?_
              rintro e W9 ⟨rfl, hb⟩
              replace HO := Lib.hid (HO.out.below hb)
              have Hb := Lib.hid hb
              clear hb
              obtain ⟨q4, hq4⟩ : ∃ q, q = countsB s m := ⟨_, rfl⟩
              rw [← hq4]
              have HQ4 := Lib.hid hq4
              clear hq4
              go_wp2_with fail
              refine And.intro Hb.out ?_
              clear Hb
              cases q4
              · have HFv : Hid (fB l s m = false) := by
                  show _ = _
                  unfold fB
                  rw [← HQ4.out]; simp
                iterate 6 (first | (refine cl_do rfl rfl rfl rfl (fun _ _ => ?_); go_wp2_with fail) | (refine cl_yes rfl rfl rfl rfl (by first | rfl | simp [okB, lenV, plainV, Act.eval]) (fun _ _ => ?_); go_wp2_with fail) | (refine cl_no rfl rfl rfl ?_; go_simp) | (refine cl_skip rfl (by rfl) ?_; go_simp))
                refine cl_nil ?_
                go_wp2_with fail
                go_meet
                exact ⟨by rw [HFv.out], HO⟩
              have HFv : Hid (fB l s m = !ex) := by
                show _ = _
                unfold fB
                rw [← HEx.out, ← HQ4.out, h1c.out]; rfl
              iterate 6 (first | (refine cl_do rfl rfl rfl rfl (fun _ _ => ?_); go_wp2_with fail) | (refine cl_yes rfl rfl rfl rfl (by first | rfl | simp [okB, lenV, plainV, Act.eval]) (fun _ _ => ?_); go_wp2_with fail) | (refine cl_no rfl rfl rfl ?_; go_simp) | (refine cl_skip rfl (by rfl) ?_; go_simp))
              refine cl_nil ?_
              go_wp2_with fail
              go_meet
              exact ⟨by rw [HFv.out], HO⟩
          case rest =>
            clear HO
            obtain ⟨rfl, HO⟩ := hcut
            go_upto_region 18 with fail
            go_cut [15] (fun v wx => v = .bool (bB l s fl m) ∧ Hid (Owns w wx [blk b6 (vobj kd (.slice fy nf0 fc) (.slice by1 nb0 bc)), txP (.slice fy nf0 fc) fl, txP (.slice by1 nb0 bc) bl, blk bx (sobj s (.slice yd ND md) (.slice ya NA ma) (.slice yz NZ mz) (.slice yc NC mc))]))
            case first =>
              as_aux_lemma =>
                go_wp2_with fail
                refine wp_region_can [12] (List.range 18) (by decide +kernel) (by decide +kernel) ?_
                replace HO := Lib.hid HO.out.drew
                obtain ⟨WD, hWx⟩ : ∃ W, W = World.drew wc := ⟨_, rfl⟩
                rw [← hWx] at HO ⊢
                clear hWx
                have rhg : g < WD.heap.size := Nat.lt_of_lt_of_le hgw HO.out.base.size
                obtain ⟨r0, r1, r2, r3, r4, r5, r6, r7, r8, r9, ra, rb⟩ := MeAt.later HMA.out hgw HO.out.base
                by_cases h3 : m.kind = 3
                rotate_left
                · have h3' : (m.kind == 3) = false := by simpa using h3
                  have HBv : Hid (bB l s fl m = false) := by
                    show _ = _
                    unfold bB
                    rw [decide_eq_false h3]; rfl
                  clear h3
                  iterate 18 (first | (refine cl_do rfl rfl rfl rfl (fun _ _ => ?_); go_wp2_with fail) | (refine cl_yes rfl rfl rfl rfl (by first | rfl | simp [okB, lenV, plainV, Act.eval]) (fun _ _ => ?_); go_wp2_with fail) | (refine cl_no rfl rfl rfl ?_; go_simp) | (refine cl_skip rfl (by rfl) ?_; go_simp))
                  clear h3'
                  clear rhg r0 r1 r2 r3 r4 r5 r6 r7 r8 r9 ra rb
                  refine cl_nil ?_
                  go_wp2_with fail
                  go_meet
                  exact ⟨by rw [HBv.out], HO⟩
                have h3' : (m.kind == 3) = true := by simpa using h3
                have h3c := Lib.hid (decide_eq_true h3)
                clear h3
                obtain ⟨bk, -⟩ := (Owns.drop HO.out 3).blk
                have hbx := lt_of_block bk
                have x0 := cell_of_heap bk (i := 0)
                have x1 := cell_of_heap bk (i := 1)
                have x2 := cell_of_heap bk (i := 2)
                have x3 := cell_of_heap bk (i := 3)
                have x4 := cell_of_heap bk (i := 4)
                have x5 := cell_of_heap bk (i := 5)
                simp only [List.getElem?_toArray, List.getElem?_cons_succ, List.getElem?_cons_zero] at x0 x1 x2 x3 x4 x5
                clear bk
                iterate 12 (first | (refine cl_do rfl rfl rfl rfl (fun _ _ => ?_); go_wp2_with fail) | (refine cl_yes rfl rfl rfl rfl (by first | rfl | simp [okB, lenV, plainV, Act.eval]) (fun _ _ => ?_); go_wp2_with fail) | (refine cl_no rfl rfl rfl ?_; go_simp) | (refine cl_skip rfl (by rfl) ?_; go_simp))
                clear h3'
                clear rhg r0 r1 r2 r3 r4 r5 r6 r7 r8 r9 ra rb
                clear hbx x0 x1 x2 x3 x4 x5
                refine cl_ycall (i := 12) rfl rfl rfl rfl (fun K hK => ?_)
                go_wp2_with fail
                go_at_call 18
                refine (counts_c m _ s _ _ _ _ WD (HFm.out.later HO.out.base) HMs.out.1 HMs.out.2 (HSs.out.later HO.out.base) HI.out.sc HPr.out).mono ?_
                rintro e WE ⟨rfl, hb⟩
                replace HO := Lib.hid (HO.out.below hb)
                have Hb := Lib.hid hb
                clear hb
                obtain ⟨q5, hq5⟩ : ∃ q, q = countsB s m := ⟨_, rfl⟩
                rw [← hq5]
                have HQ5 := Lib.hid hq5
                clear hq5
                go_wp2_with fail
                refine And.intro Hb.out ?_
                clear Hb
                cases q5
                · have HBv : Hid (bB l s fl m = false) := by
                    show _ = _
                    unfold bB
                    rw [← HQ5.out]; simp
                  iterate 5 (first | (refine cl_do rfl rfl rfl rfl (fun _ _ => ?_); go_wp2_with fail) | (refine cl_yes rfl rfl rfl rfl (by first | rfl | simp [okB, lenV, plainV, Act.eval]) (fun _ _ => ?_); go_wp2_with fail) | (refine cl_no rfl rfl rfl ?_; go_simp) | (refine cl_skip rfl (by rfl) ?_; go_simp))
                  refine cl_nil ?_
                  go_wp2_with fail
                  go_meet
                  exact ⟨by rw [HBv.out], HO⟩
                have HBv : Hid (bB l s fl m = ag) := by
                  show _ = _
                  unfold bB
                  rw [← HAx.out, ← HQ5.out, h3c.out]; rfl
                iterate 5 (first | (refine cl_do rfl rfl rfl rfl (fun _ _ => ?_); go_wp2_with fail) | (refine cl_yes rfl rfl rfl rfl (by first | rfl | simp [okB, lenV, plainV, Act.eval]) (fun _ _ => ?_); go_wp2_with fail) | (refine cl_no rfl rfl rfl ?_; go_simp) | (refine cl_skip rfl (by rfl) ?_; go_simp))
                refine cl_nil ?_
                go_wp2_with fail
                go_meet
                exact ⟨by rw [HBv.out], HO⟩
            case rest =>
              clear HO
              obtain ⟨rfl, HO⟩ := hcut
              have HFn : Hid (((l.take (j + 1)).filter (fB l s)).length = nf + if fB l s m then 1 else 0) := by
                show _ = _
                rw [List.take_add_one, HMx.out, List.filter_append, List.length_append, ← HF0.out]
                cases h : fB l s m <;> simp [h]
              have HBn : Hid (((l.take (j + 1)).filter (bB l s fl)).length = nb + if bB l s fl m then 1 else 0) := by
                show _ = _
                rw [List.take_add_one, HMx.out, List.filter_append, List.length_append, ← HB0.out]
                cases h : bB l s fl m <;> simp [h]
              obtain ⟨bf, hbf⟩ : ∃ b, b = fB l s m := ⟨_, rfl⟩
              obtain ⟨bb, hbb⟩ : ∃ b, b = bB l s fl m := ⟨_, rfl⟩
              rw [← hbf] at HFn HLm ⊢
              rw [← hbb] at HBn HLm ⊢
              clear hbf hbb
              go_upto_region 19 with fail
              go_cut [190] (fun v wx => v = .bool false ∧ Hid (Owns w wx [blk b6 (vobj kd (.slice fy nf0 fc) (.slice by1 nb0 bc)), txP (.slice fy nf0 fc) fl, txP (.slice by1 nb0 bc) bl, blk bx (sobj s (.slice yd ND md) (.slice ya NA ma) (.slice yz NZ mz) (.slice yc NC mc))]))
              case first =>
                as_aux_lemma =>
                  go_wp2_with fail
                  refine wp_region_can [8, 19] (List.range 22) (by decide +kernel) (by decide +kernel) ?_
                  replace HO := Lib.hid HO.out.drew
                  obtain ⟨WA, hWx⟩ : ∃ W, W = World.drew wc := ⟨_, rfl⟩
                  rw [← hWx] at HO ⊢
                  clear hWx
                  have rhg : g < WA.heap.size := Nat.lt_of_lt_of_le hgw HO.out.base.size
                  obtain ⟨r0, r1, r2, r3, r4, r5, r6, r7, r8, r9, ra, rb⟩ := MeAt.later HMA.out hgw HO.out.base
                  obtain ⟨bk, -⟩ := Owns.blk HO.out
                  have hbv := lt_of_block bk
                  have ev0 := cell_of_heap bk (i := 0)
                  have ev1 := cell_of_heap bk (i := 1)
                  have ev2 := cell_of_heap bk (i := 2)
                  simp only [List.getElem?_toArray, List.getElem?_cons_succ, List.getElem?_cons_zero] at ev0 ev1 ev2
                  clear bk
                  iterate 8 (first | (refine cl_do rfl rfl rfl rfl (fun _ _ => ?_); go_wp2_with fail) | (refine cl_yes rfl rfl rfl rfl (by first | rfl | simp [okB, lenV, plainV, Act.eval]) (fun _ _ => ?_); go_wp2_with fail) | (refine cl_no rfl rfl rfl ?_; go_simp) | (refine cl_skip rfl (by rfl) ?_; go_simp))
                  clear rhg r0 r1 r2 r3 r4 r5 r6 r7 r8 r9 ra rb
                  clear hbv ev0 ev1 ev2
                  refine cl_call (i := 8) rfl rfl rfl (fun K hK => ?_)
                  go_wp2_with fail
                  go_at_call 19
                  refine (has_c fl m.id _ WA HO.out.pop.txIs (by have := HTx.out.1.len; omega)).mono ?_
                  rintro e WB ⟨rfl, hw⟩
                  subst hw
                  rw [← HLm.out.1]
                  go_wp2_with fail
                  refine And.intro (Below.refl _ _) ?_
                  have hbf : (bf != bf) = false := by cases bf <;> rfl
                  have hbb : (bb != bb) = false := by cases bb <;> rfl
                  iterate 3 (first | (refine cl_do rfl rfl rfl rfl (fun _ _ => ?_); go_wp2_with fail) | (refine cl_yes rfl rfl rfl rfl (by first | rfl | simp [okB, lenV, plainV, Act.eval]) (fun _ _ => ?_); go_wp2_with fail) | (refine cl_no rfl rfl rfl ?_; go_simp) | (refine cl_skip rfl (by rfl) ?_; go_simp))
                  have rhg : g < WB.heap.size := Nat.lt_of_lt_of_le hgw HO.out.base.size
                  obtain ⟨r0, r1, r2, r3, r4, r5, r6, r7, r8, r9, ra, rb⟩ := MeAt.later HMA.out hgw HO.out.base
                  obtain ⟨bk, -⟩ := Owns.blk HO.out
                  have hbv := lt_of_block bk
                  have ev0 := cell_of_heap bk (i := 0)
                  have ev1 := cell_of_heap bk (i := 1)
                  have ev2 := cell_of_heap bk (i := 2)
                  simp only [List.getElem?_toArray, List.getElem?_cons_succ, List.getElem?_cons_zero] at ev0 ev1 ev2
                  clear bk
                  iterate 7 (first | (refine cl_do rfl rfl rfl rfl (fun _ _ => ?_); go_wp2_with fail) | (refine cl_yes rfl rfl rfl rfl (by first | rfl | simp [okB, lenV, plainV, Act.eval]) (fun _ _ => ?_); go_wp2_with fail) | (refine cl_no rfl rfl rfl ?_; go_simp) | (refine cl_skip rfl (by rfl) ?_; go_simp))
                  clear rhg r0 r1 r2 r3 r4 r5 r6 r7 r8 r9 ra rb
                  clear hbv ev0 ev1 ev2
                  refine cl_ycall (i := 19) rfl rfl rfl rfl (fun K hK => ?_)
                  go_wp2_with fail
                  go_at_call 19
                  refine (has_c bl m.id _ WB HO.out.pop.pop.txIs (by have := HTx.out.2.len; omega)).mono ?_
                  rintro e WC ⟨rfl, hw⟩
                  subst hw
                  rw [← HLm.out.2]
                  go_wp2_with fail
                  refine And.intro (Below.refl _ _) ?_
                  iterate 2 (first | (refine cl_do rfl rfl rfl rfl (fun _ _ => ?_); go_wp2_with fail) | (refine cl_yes rfl rfl rfl rfl (by first | rfl | simp [okB, lenV, plainV, Act.eval]) (fun _ _ => ?_); go_wp2_with fail) | (refine cl_no rfl rfl rfl ?_; go_simp) | (refine cl_skip rfl (by rfl) ?_; go_simp))
                  refine cl_nil ?_
                  go_wp2_with fail
                  go_meet
                  exact ⟨by rfl, HO⟩
              case rest =>
                clear HO
                obtain ⟨rfl, HO⟩ := hcut
                cases bf
                · cases bb
                  · go_wp2_with fail
                    go_roundg (k - (j + 1))
                    case measure => omega
                    case rel => exact ⟨j + 1, rfl, by omega, by rw [HFn.out]; go_num, by rw [HBn.out]; go_num, by go_num, HO⟩
                  · go_wp2_with fail
                    go_roundg (k - (j + 1))
                    case measure => omega
                    case rel => exact ⟨j + 1, rfl, by omega, by rw [HFn.out]; go_num, by rw [HBn.out]; go_num, by go_num, HO⟩
                · cases bb
                  · go_wp2_with fail
                    go_roundg (k - (j + 1))
                    case measure => omega
                    case rel => exact ⟨j + 1, rfl, by omega, by rw [HFn.out]; go_num, by rw [HBn.out]; go_num, by go_num, HO⟩
                  · go_wp2_with fail
                    go_roundg (k - (j + 1))
                    case measure => omega
                    case rel => exact ⟨j + 1, rfl, by omega, by rw [HFn.out]; go_num, by rw [HBn.out]; go_num, by go_num, HO⟩
    · obtain rfl : j = N := by omega
      have hl1 := HLaw.out.2.1
      have hl2 := HLaw.out.2.2.1
      have hl3 := HLaw.out.2.2.2
      have f0 := HF0.out
      have b0 := HB0.out
      rw [HN.out, List.take_length] at f0 b0
      rw [← f0, ← HNf.out] at hl1
      rw [← b0, ← HNb.out] at hl2
      rw [← f0, ← b0] at hl3
      subst hl1 hl2
      clear f0 b0
      obtain ⟨bk, -⟩ := Owns.blk HO.out
      have hbv := lt_of_block bk
      have ev0 := cell_of_heap bk (i := 0)
      have ev1 := cell_of_heap bk (i := 1)
      have ev2 := cell_of_heap bk (i := 2)
      simp only [List.getElem?_toArray, List.getElem?_cons_succ, List.getElem?_cons_zero] at ev0 ev1 ev2
      clear bk
      clear hJ1 hK1 hlt HLaw HF0 HB0
      by_cases z1 : 0 < nf0
      · have z1' : (0 : Int) < (nf0 : Int) := by omega
        by_cases z2 : 0 < nb0
        · have z2' : (0 : Int) < (nb0 : Int) := by omega
          rw [if_pos z2] at hl3
          subst hl3
          clear z1 z2
          go_wp2_with fail
          go_ret
          exact ⟨rfl, HO.out.base⟩
        · have z2' : ¬ (0 : Int) < (nb0 : Int) := by omega
          rw [if_neg z2, if_pos z1] at hl3
          subst hl3
          clear z1 z2
          go_wp2_with fail
          go_ret
          exact ⟨rfl, HO.out.base⟩
      · have z1' : ¬ (0 : Int) < (nf0 : Int) := by omega
        by_cases z2 : 0 < nb0
        · have z2' : (0 : Int) < (nb0 : Int) := by omega
          rw [if_pos z2] at hl3
          subst hl3
          clear z1 z2
          go_wp2_with fail
          go_ret
          exact ⟨rfl, HO.out.base⟩
        · have z2' : ¬ (0 : Int) < (nb0 : Int) := by omega
          rw [if_neg z2, if_neg z1] at hl3
          subst hl3
          clear z1 z2
          go_wp2_with fail
          go_ret
          exact ⟨rfl, HO.out.base⟩
end Go.Proofs.YtakadfdnhlfijaaGreatDoor
