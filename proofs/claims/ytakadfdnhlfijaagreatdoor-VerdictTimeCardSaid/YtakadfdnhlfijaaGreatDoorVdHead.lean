/-
  'head' returns true.
-/
import Derived.Test.YtakadfdnhlfijaaGreatDoorVdHdL
namespace Go.Proofs.YtakadfdnhlfijaaGreatDoor
open Go.RowKit Go.Cz Go.Cz.Lx Go.Cz.Fo Go.Cz.Vd
open Go.Cz.Ck (Shift validB)
set_option linter.unusedSimpArgs false
set_option linter.unusedVariables false
attribute [local go_sem] bs_size bs_extract bs_append bs_toList
attribute [local irreducible] cList cPlan
theorem ex_msLen : MsLen exMs := ⟨by simp [exMs], fun m hm => by
  simp only [exMs, List.mem_cons, List.not_mem_nil, or_false] at hm
  rcases hm with rfl | rfl | rfl
  · exact ⟨⟨by simp [tM1], by simp [tEu], by simp⟩, ⟨by decide, by decide⟩⟩
  · exact ⟨⟨by simp [tX1], by simp [tEu], by simp [tM1]⟩, ⟨by decide, by decide⟩⟩
  · exact ⟨⟨by simp [tB1], by simp [tUs], by simp [tEu]⟩, ⟨by decide, by decide⟩⟩⟩
theorem ex_scLen (d : Int) : ScLen (exSc d) := ⟨⟨by simp [exSc], fun x hx => by
  simp only [exSc, List.mem_cons, List.not_mem_nil, or_false] at hx
  subst hx
  simp [tVal]⟩, fun a ha => by
  simp only [exSc, List.mem_cons, List.not_mem_nil, or_false] at ha
  rcases ha with rfl | rfl
  · simp [tEu]
  · simp [tUs], fun c hc => by
  simp only [exSc, List.mem_cons, List.not_mem_nil, or_false] at hc
  rcases hc with rfl | rfl <;> simp⟩
theorem tx_small {l : List Bytes} (h : l.length ≤ 1 ∧ ∀ x ∈ l, x.length ≤ 2) : TxLen l := ⟨by have := h.1; omega, fun x hx => by have := h.2 x hx; omega⟩
set_option maxRecDepth 100000 in
set_option maxHeartbeats 4000000 in
theorem is_c (d : Int) (h0 : 0 ≤ d) (h1 : d ≤ 1000) (cov f b : List Bytes) (k : Int) (cv fv bv : Value) (w : World) (hr : licensedV exMs (exSc d) cov = (⟨k, f, b⟩, 0)) (hc : IsTxR w cov cv) (hf : IsTxR w f fv) (hb : IsTxR w b bv) (lc : cov.length ≤ 1 ∧ ∀ x ∈ cov, x.length ≤ 2) (lf : f.length ≤ 1 ∧ ∀ x ∈ f, x.length ≤ 2) (lb : b.length ≤ 1 ∧ ∀ x ∈ b, x.length ≤ 2) :
    Calls Tryz.prog 23 #[.int .i64 d, cv, .int .i64 k, fv, bv] w fun e w' => e = .returned (.bool true) ∧ Below w.heap.size w w' := by
  have HC := Lib.hid hc
  have HF := Lib.hid hf
  have HB := Lib.hid hb
  have HLc := Lib.hid lc
  have HLf := Lib.hid lf
  have HLb := Lib.hid lb
  have HR := Lib.hid hr
  obtain ⟨y1, c1, rfl⟩ := hc.form
  obtain ⟨y2, c2, rfl⟩ := hf.form
  obtain ⟨y3, c3, rfl⟩ := hb.form
  obtain ⟨n1, hn1⟩ : ∃ n, n = cov.length := ⟨_, rfl⟩
  obtain ⟨n2, hn2⟩ : ∃ n, n = f.length := ⟨_, rfl⟩
  obtain ⟨n3, hn3⟩ : ∃ n, n = b.length := ⟨_, rfl⟩
  rw [← hn1] at HC ⊢
  rw [← hn2] at HF ⊢
  rw [← hn3] at HB ⊢
  clear hc hf hb lc lf lb hr hn1 hn2 hn3
  go_enter Tryz.func23, Tryz.ntmps23
  go_wp2_with fail
  go_at_call 24
  refine (measures_c w).mono ?_
  rintro e W1 ⟨lv, rfl, hl, hb⟩
  have HM := Lib.hid hl
  have Hb := Lib.hid hb
  obtain ⟨ly, lc, rfl⟩ := hl.form
  clear hl hb
  go_wp2_with fail
  go_at_call 25
  refine (scene_c d h0 h1 W1).mono ?_
  rintro e W2 ⟨vd, va, vz, vc, rfl, hs, hb⟩
  have HS := Lib.hid hs
  replace HM := Lib.hid (HM.out.later hb)
  replace Hb := Lib.hid (Hb.out.trans (hb.mono Hb.out.size))
  clear hs hb
  go_wp2_with fail
  go_at_call 11
  refine (licensed_c exMs (exSc d) cov _ vd va vz vc _ W2 HM.out HS.out (HC.out.later Hb.out) ex_msLen (ex_scLen d) (by simp [exSc]) (by simp [exSc]) (by simp [exSc]) (fun x hx => by have := HLc.out.2 x hx; omega) (by have := HLc.out.1; omega)).mono ?_
  rintro e W3 ⟨fv, bv, rfl, ho⟩
  rw [HR.out] at ho ⊢
  have HO := Lib.hid ho
  clear ho
  obtain ⟨gy, gc, rfl, -⟩ := HO.out.txIs
  obtain ⟨hy, hc, rfl, -⟩ := HO.out.pop.txIs
  obtain ⟨W4, hW4⟩ : ∃ W, W = W3.alloc (vobj k (.slice gy f.length gc) (.slice hy b.length hc)) := ⟨_, rfl⟩
  have HW4 : Hid (Owns W2 W4 [txP (.slice gy f.length gc) f, txP (.slice hy b.length hc) b]) := by rw [hW4]; exact Lib.hid (HO.out.alloc _)
  replace Hb : Hid (Below w.heap.size w W4) := Lib.hid (Hb.out.trans (HW4.out.base.mono Hb.out.size))
  clear HO HR HC HLc HM HS
  go_wp2_with fail
  rw [← hW4]
  clear hW4
  go_at_call 17
  refine (same_c ⟨k, f, b⟩ ⟨k, f, b⟩ _ _ _ _ W4 HW4.out.txIs HW4.out.pop.txIs (HF.out.later Hb.out) (HB.out.later Hb.out) (tx_small HLf.out) (tx_small HLb.out) (tx_small HLf.out) (tx_small HLb.out)).mono ?_
  rintro e W5 ⟨rfl, hb⟩
  replace Hb := Lib.hid (Hb.out.trans (hb.mono Hb.out.size))
  clear hb
  rw [sameV_iff.2 rfl]
  go_wp2_with fail
  go_ret
  exact ⟨rfl, Hb.out⟩
set_option maxRecDepth 100000 in
set_option maxHeartbeats 4000000 in
theorem head_c (w : World) : Calls Tryz.prog 9 #[] w fun e w' => e = .returned (.bool true) ∧ Below w.heap.size w w' := by
  obtain ⟨W1, hW1⟩ : ∃ W, W = w.alloc (.cells #[.string (bs tM1)] 9) := ⟨_, rfl⟩
  obtain ⟨g1, hg1⟩ : ∃ g, g = w.heap.size := ⟨_, rfl⟩
  have HT : Hid (IsTxR W1 [tM1] (.slice (some ⟨g1, 0, none⟩) 1 1) ∧ Below w.heap.size w W1) := by
    have h := new_heap w (.cells #[.string (bs tM1)] 9 (0, 0)) g1 hg1
    rw [← hW1] at h
    refine ⟨⟨_, 1, rfl, .inr ⟨g1, 0, rfl, lt_of_block h, Nat.le_refl _, fun j x hj => ?_⟩⟩, by rw [hW1]; exact (Below.refl _ _).alloc (Nat.le_refl _) _⟩
    rcases j with _ | j
    · obtain rfl : _ = x := by simpa using hj
      rw [cell_of_heap h]; rfl
    · simp at hj
  go_enter Tryz.func9, Tryz.ntmps9
  go_wp2_with fail
  rw [show w.alloc (.cells #[.string ⟨#[109, 49]⟩] 9 (0, 0)) = W1 from hW1.symm, ← hg1]
  clear hW1 hg1
  have l0 : ([] : List Bytes).length ≤ 1 ∧ ∀ x ∈ ([] : List Bytes), x.length ≤ 2 := ⟨by simp, by simp⟩
  have lm : [tM1].length ≤ 1 ∧ ∀ x ∈ [tM1], x.length ≤ 2 := ⟨by simp, by simp [tM1]⟩
  have lb : [tB1].length ≤ 1 ∧ ∀ x ∈ [tB1], x.length ≤ 2 := ⟨by simp, by simp [tB1]⟩
  have L0 := Lib.hid l0
  have LM := Lib.hid lm
  have LB := Lib.hid lb
  clear l0 lm lb
  go_at_call 23
  refine (is_c 1 (by omega) (by omega) [] [] [] 1 _ _ _ _ ex_licensed.1 (no_texts _) (no_texts _) (no_texts _) L0.out L0.out L0.out).mono ?_
  rintro e W2 ⟨rfl, hb⟩
  replace HT : Hid (IsTxR W2 [tM1] (.slice (some ⟨g1, 0, none⟩) 1 1) ∧ Below w.heap.size w W2) := ⟨HT.out.1.later hb, HT.out.2.trans (hb.mono HT.out.2.size)⟩
  clear hb
  go_wp2_with fail
  go_at_call 23
  refine (is_c 2 (by omega) (by omega) [] [tM1] [] 2 _ _ _ _ ex_licensed.2.1 (no_texts _) HT.out.1 (no_texts _) L0.out LM.out L0.out).mono ?_
  rintro e W3 ⟨rfl, hb⟩
  replace HT : Hid (IsTxR W3 [tM1] (.slice (some ⟨g1, 0, none⟩) 1 1) ∧ Below w.heap.size w W3) := ⟨HT.out.1.later hb, HT.out.2.trans (hb.mono HT.out.2.size)⟩
  clear hb
  obtain ⟨W4, hW4⟩ : ∃ W, W = W3.alloc (.cells #[.string (bs tB1)] 9) := ⟨_, rfl⟩
  obtain ⟨g2, hg2⟩ : ∃ g, g = W3.heap.size := ⟨_, rfl⟩
  have HT2 : Hid (IsTxR W4 [tB1] (.slice (some ⟨g2, 0, none⟩) 1 1)) := by
    have h := new_heap W3 (.cells #[.string (bs tB1)] 9 (0, 0)) g2 hg2
    rw [← hW4] at h
    refine ⟨_, 1, rfl, .inr ⟨g2, 0, rfl, lt_of_block h, Nat.le_refl _, fun j x hj => ?_⟩⟩
    rcases j with _ | j
    · obtain rfl : _ = x := by simpa using hj
      rw [cell_of_heap h]; rfl
    · simp at hj
  have hb : Below W3.heap.size W3 W4 := by rw [hW4]; exact (Below.refl _ _).alloc (Nat.le_refl _) _
  replace HT : Hid (IsTxR W4 [tM1] (.slice (some ⟨g1, 0, none⟩) 1 1) ∧ Below w.heap.size w W4) := ⟨HT.out.1.later hb, HT.out.2.trans (hb.mono HT.out.2.size)⟩
  clear hb
  go_wp2_with fail
  rw [show W3.alloc (.cells #[.string ⟨#[98, 49]⟩] 9 (0, 0)) = W4 from hW4.symm, ← hg2]
  clear hW4 hg2
  go_at_call 23
  refine (is_c 5 (by omega) (by omega) [] [tM1] [tB1] 3 _ _ _ _ ex_licensed.2.2.1 (no_texts _) HT.out.1 HT2.out L0.out LM.out LB.out).mono ?_
  rintro e W5 ⟨rfl, hb⟩
  replace HT : Hid (IsTxR W5 [tM1] (.slice (some ⟨g1, 0, none⟩) 1 1) ∧ Below w.heap.size w W5) := ⟨HT.out.1.later hb, HT.out.2.trans (hb.mono HT.out.2.size)⟩
  clear hb HT2
  go_wp2_with fail
  go_at_call 24
  refine (measures_c W5).mono ?_
  rintro e W6 ⟨lv, rfl, hl, hb⟩
  have HM := Lib.hid hl
  obtain ⟨ly, lc, rfl⟩ := hl.form
  replace HT : Hid (IsTxR W6 [tM1] (.slice (some ⟨g1, 0, none⟩) 1 1) ∧ Below w.heap.size w W6) := ⟨HT.out.1.later hb, HT.out.2.trans (hb.mono HT.out.2.size)⟩
  clear hl hb
  go_wp2_with fail
  go_at_call 25
  refine (scene_c 5 (by omega) (by omega) W6).mono ?_
  rintro e W7 ⟨vd, va, vz, vc, rfl, hs, hb⟩
  have HS := Lib.hid hs
  replace HM := Lib.hid (HM.out.later hb)
  replace HT : Hid (IsTxR W7 [tM1] (.slice (some ⟨g1, 0, none⟩) 1 1) ∧ Below w.heap.size w W7) := ⟨HT.out.1.later hb, HT.out.2.trans (hb.mono HT.out.2.size)⟩
  clear hs hb
  go_wp2_with fail
  go_at_call 13
  refine (decide_c exMs (exSc 5) _ vd va vz vc W7 HM.out HS.out ex_msLen (ex_scLen 5) (by simp [exSc]) (by simp [exSc]) (by simp [exSc])).mono ?_
  rintro e W8 ⟨fv, bv, rfl, ho⟩
  rw [show decideV exMs (exSc 5) = _ from ex_licensed.2.2.1] at ho ⊢
  have HO := Lib.hid ho
  replace HT : Hid (IsTxR W8 [tM1] (.slice (some ⟨g1, 0, none⟩) 1 1) ∧ Below w.heap.size w W8) := ⟨HT.out.1.later ho.base, HT.out.2.trans (ho.base.mono HT.out.2.size)⟩
  clear ho HM HS
  obtain ⟨gy, gc, rfl, -⟩ := HO.out.txIs
  obtain ⟨hy, hc, rfl, -⟩ := HO.out.pop.txIs
  obtain ⟨W9, hW9⟩ : ∃ W, W = W8.alloc (vobj 3 (.slice gy 1 gc) (.slice hy 1 hc)) := ⟨_, rfl⟩
  obtain ⟨b3, hb3⟩ : ∃ b, b = W8.heap.size := ⟨_, rfl⟩
  have HB3 : Hid (W9.heap[b3]? = some (vobj 3 (.slice gy 1 gc) (.slice hy 1 hc))) := by rw [hW9]; exact Lib.hid (new_heap W8 _ b3 hb3)
  have hb : Below W8.heap.size W8 W9 := by rw [hW9]; exact (Below.refl _ _).alloc (Nat.le_refl _) _
  replace HT : Hid (IsTxR W9 [tM1] (.slice (some ⟨g1, 0, none⟩) 1 1) ∧ Below w.heap.size w W9) := ⟨HT.out.1.later hb, HT.out.2.trans (hb.mono HT.out.2.size)⟩
  clear HO hb
  go_wp2_with fail
  rw [← hW9, ← hb3]
  clear hW9 hb3
  go_at_call 23
  refine (is_c 5 (by omega) (by omega) [tM1] [tM1] [] 4 _ _ _ _ ex_licensed.2.2.2.1 HT.out.1 HT.out.1 (no_texts _) LM.out LM.out L0.out).mono ?_
  rintro e W10 ⟨rfl, hb⟩
  replace HT : Hid (Below w.heap.size w W10) := HT.out.2.trans (hb.mono HT.out.2.size)
  replace HB3 : Hid (W10.heap[b3]? = some (vobj 3 (.slice gy 1 gc) (.slice hy 1 hc))) := Lib.hid ((hb.block b3 (lt_of_block HB3.out)).trans HB3.out)
  clear hb
  go_wp2_with fail
  go_at_call 23
  refine (is_c 8 (by omega) (by omega) [] [] [] 1 _ _ _ _ ex_licensed.2.2.2.2 (no_texts _) (no_texts _) (no_texts _) L0.out L0.out L0.out).mono ?_
  rintro e W11 ⟨rfl, hb⟩
  replace HT : Hid (Below w.heap.size w W11) := HT.out.trans (hb.mono HT.out.size)
  replace HB3 : Hid (W11.heap[b3]? = some (vobj 3 (.slice gy 1 gc) (.slice hy 1 hc))) := Lib.hid ((hb.block b3 (lt_of_block HB3.out)).trans HB3.out)
  clear hb
  have h3 := lt_of_block HB3.out
  have c3 : W11.cell? ⟨b3, 0, none⟩ = some (.int .i64 3) := by rw [cell_of_heap HB3.out]; rfl
  go_wp2_with fail
  clear h3 c3 HB3
  go_at_call 25
  refine (scene_c 3 (by omega) (by omega) W11).mono ?_
  rintro e W12 ⟨vd, va, vz, vc, rfl, hs, hb⟩
  have HS := Lib.hid hs
  replace HT : Hid (Below w.heap.size w W12) := HT.out.trans (hb.mono HT.out.size)
  clear hs hb
  go_wp2_with fail
  go_at_call 15
  refine (proper_c (exSc 3) vd va vz vc W12 HS.out (ex_scLen 3) (by simp [exSc]) (by simp [exSc]) (by simp [exSc])).mono ?_
  rintro e W13 ⟨rfl, hb⟩
  replace HT : Hid (Below w.heap.size w W13) := HT.out.trans (hb.mono HT.out.size)
  clear hb
  rw [ex_proper]
  go_wp2_with fail
  go_ret
  exact ⟨rfl, HT.out⟩
end Go.Proofs.YtakadfdnhlfijaaGreatDoor
