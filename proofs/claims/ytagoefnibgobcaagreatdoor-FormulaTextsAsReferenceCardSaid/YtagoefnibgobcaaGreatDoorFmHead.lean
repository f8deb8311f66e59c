/-
  'head' returns true.
-/
import Derived.Test.YtagoefnibgobcaaGreatDoorFmHdL
namespace Go.Proofs.YtagoefnibgobcaaGreatDoor
open Go.RowKit Go.Cz Go.Cz.Lx Go.Cz.Fo
set_option linter.unusedSimpArgs false
set_option linter.unusedVariables false
attribute [local go_sem] bs_size bs_extract bs_append bs_toList
attribute [local irreducible] cList cPlan
structure HdE (w W : World) (yd yc yf : Nat) (mf : Nat) (b1 b3 : Nat) : Prop where
  below : Below w.heap.size w W
  dom : IsD W hD (.slice (some ⟨yd, 0, none⟩) 2 2)
  cas : IsC W hC (.slice (some ⟨yc, 0, none⟩) 2 2)
  fm : IsFm (fun _ => True) W hF (.slice (some ⟨yf, 0, none⟩) 2 mf)
  box1 : W.heap[b1]? = some (.cells #[.slice (some ⟨yd, 0, none⟩) 2 2] 27 (0, 0))
  box3 : W.heap[b3]? = some (.cells #[.int .i64 5, .string (bs []), .int .i64 0, .int .i64 0, .slice (some ⟨yf, 0, none⟩) 2 mf] 24 (0, 0))
theorem HdE.later {w W W' : World} {yd yc yf mf b1 b3 : Nat} (h : HdE w W yd yc yf mf b1 b3) (hb : Below W.heap.size W W') : Hid (HdE w W' yd yc yf mf b1 b3) :=
  ⟨h.below.trans (hb.mono h.below.size), h.dom.later hb, h.cas.later hb, h.fm.later hb, (hb.block _ (lt_of_block h.box1)).trans h.box1, (hb.block _ (lt_of_block h.box3)).trans h.box3⟩
structure HdG (W : World) (yg : Option Addr) (ng mg : Nat) (b8 : Nat) : Prop where
  fm : IsFm (fun _ => True) W hG (.slice yg ng mg)
  box : W.heap[b8]? = some (.cells #[.int .i64 hG.op, .string (bs hG.name), .int .i64 hG.cmp, .int .i64 hG.num, .slice yg ng mg] 24 (0, 0))
theorem HdG.later {W W' : World} {yg : Option Addr} {ng mg b8 : Nat} (h : HdG W yg ng mg b8) (hb : Below W.heap.size W W') : Hid (HdG W' yg ng mg b8) :=
  ⟨h.fm.later hb, (hb.block _ (lt_of_block h.box)).trans h.box⟩
theorem hd_dom {W : World} {g : Nat} {t : TypeId} {fr : Nat × Nat} (h : W.heap[g]? = some (.cells #[.string (bs wWeight), .int .i64 2, .int .i64 0, .int .i64 150, .string (bs wUsed), .int .i64 1, .int .i64 0, .int .i64 1] t fr)) : IsD W hD (.slice (some ⟨g, 0, none⟩) 2 2) := by
  refine ⟨_, 2, rfl, .inr ⟨g, 0, rfl, lt_of_block h, Nat.le_refl _, fun j x hj => ?_⟩⟩
  rcases j with _ | _ | j
  · simp [hD] at hj; subst hj
    exact ⟨by rw [cell_of_heap h]; rfl, by rw [cell_of_heap h]; rfl, by rw [cell_of_heap h]; rfl, by rw [cell_of_heap h]; rfl⟩
  · simp [hD] at hj; subst hj
    exact ⟨by rw [cell_of_heap h]; rfl, by rw [cell_of_heap h]; rfl, by rw [cell_of_heap h]; rfl, by rw [cell_of_heap h]; rfl⟩
  · simp [hD] at hj
theorem hd_cas {W : World} {g : Nat} {t : TypeId} {fr : Nat × Nat} (h : W.heap[g]? = some (.cells #[.int .i64 20, .int .i64 0] t fr)) : IsC W hC (.slice (some ⟨g, 0, none⟩) 2 2) := by
  refine ⟨_, 2, rfl, .inr ⟨g, 0, rfl, lt_of_block h, Nat.le_refl _, fun j x hj => ?_⟩⟩
  rcases j with _ | _ | j
  · simp [hC] at hj; subst hj
    rw [cell_of_heap h]; rfl
  · simp [hC] at hj; subst hj
    rw [cell_of_heap h]; rfl
  · simp [hC] at hj
set_option maxRecDepth 100000 in
set_option maxHeartbeats 8000000 in
theorem head_c (w : World) (hs : Std w) : Calls Tryz.prog 12 #[] w fun e w' => e = .returned (.bool true) ∧ Below w.heap.size w w' := by
  have HS := Lib.hid hs
  clear hs
  obtain ⟨W1, hW1⟩ : ∃ W1, W1 = ((w.alloc (.cells #[.string ⟨#[119, 101, 105, 103, 104, 116]⟩, .int .i64 2, .int .i64 0, .int .i64 150, .string ⟨#[117, 115, 101, 100]⟩, .int .i64 1, .int .i64 0, .int .i64 1] 49)).alloc (.cells #[.slice (some ⟨w.heap.size, 0, none⟩) 2 2] 27)).alloc (.cells #[.int .i64 20, .int .i64 0] 3) := ⟨_, rfl⟩
  obtain ⟨yd, hyd⟩ : ∃ yd, yd = w.heap.size := ⟨_, rfl⟩
  obtain ⟨b1, hb1⟩ : ∃ b1, b1 = w.heap.size + 1 := ⟨_, rfl⟩
  obtain ⟨yc, hyc⟩ : ∃ yc, yc = w.heap.size + 1 + 1 := ⟨_, rfl⟩
  have HO : Hid (Owns w W1 [blk yc (.cells #[.int .i64 20, .int .i64 0] 3 (0, 0)), blk b1 (.cells #[.slice (some ⟨yd, 0, none⟩) 2 2] 27 (0, 0)), blk yd (.cells #[.string ⟨#[119, 101, 105, 103, 104, 116]⟩, .int .i64 2, .int .i64 0, .int .i64 150, .string ⟨#[117, 115, 101, 100]⟩, .int .i64 1, .int .i64 0, .int .i64 1] 49 (0, 0))]) := by
    have h := (((Owns.start w).box (.cells #[.string ⟨#[119, 101, 105, 103, 104, 116]⟩, .int .i64 2, .int .i64 0, .int .i64 150, .string ⟨#[117, 115, 101, 100]⟩, .int .i64 1, .int .i64 0, .int .i64 1] 49 (0, 0))).box (.cells #[.slice (some ⟨w.heap.size, 0, none⟩) 2 2] 27 (0, 0))).box (.cells #[.int .i64 20, .int .i64 0] 3 (0, 0))
    simp only [World.size_alloc] at h
    rw [hW1, hyd, hb1, hyc]
    exact Lib.hid h
  go_enter Tryz.func12, Tryz.ntmps12
  go_wp2_with fail
  rw [← hW1, ← hyc, ← hb1, ← hyd]
  clear hW1 hyc hb1 hyd
  go_at_call 32
  refine (test_c wWeight 6 18 W1).mono ?_
  rintro e W2 ⟨rfl, hb⟩
  replace HO := Lib.hid (HO.out.below hb)
  clear hb
  go_wp2_with fail
  go_at_call 32
  refine (test_c wUsed 1 1 W2).mono ?_
  rintro e W3 ⟨rfl, hb⟩
  replace HO := Lib.hid (HO.out.below hb)
  clear hb
  obtain ⟨W4, hW4⟩ : ∃ W4, W4 = W3.alloc (.cells #[.int .i64 3, .string (bs wUsed), .int .i64 1, .int .i64 1, .slice none 0 0] 24) := ⟨_, rfl⟩
  obtain ⟨y1, hy1⟩ : ∃ y1, y1 = W3.heap.size := ⟨_, rfl⟩
  replace HO := Lib.hid (HO.out.box (.cells #[.int .i64 3, .string (bs wUsed), .int .i64 1, .int .i64 1, .slice none 0 0] 24 (0, 0)))
  rw [← hW4, ← hy1] at HO
  go_wp2_with fail
  rw [← hW4, ← hy1]
  clear hW4 hy1
  go_at_call 29
  refine (both_c 4 _ 1 1 W4).mono ?_
  rintro e W5 ⟨rfl, hb⟩
  replace HO := Lib.hid (HO.out.below hb)
  clear hb
  obtain ⟨W6, hW6⟩ : ∃ W6, W6 = W5.alloc (.cells #[.int .i64 3, .string (bs wWeight), .int .i64 6, .int .i64 18, .slice none 0 0, .int .i64 4, .string (bs []), .int .i64 0, .int .i64 0, .slice (some ⟨y1, 0, none⟩) 1 1] 24) := ⟨_, rfl⟩
  obtain ⟨yf, hyf⟩ : ∃ yf, yf = W5.heap.size := ⟨_, rfl⟩
  replace HO := Lib.hid (HO.out.box (.cells #[.int .i64 3, .string (bs wWeight), .int .i64 6, .int .i64 18, .slice none 0 0, .int .i64 4, .string (bs []), .int .i64 0, .int .i64 0, .slice (some ⟨y1, 0, none⟩) 1 1] 24 (0, 0)))
  rw [← hW6, ← hyf] at HO
  go_wp2_with fail
  rw [← hW6, ← hyf]
  clear hW6 hyf
  go_at_call 29
  refine (both_c 5 _ 2 2 W6).mono ?_
  rintro e W7 ⟨rfl, hb⟩
  replace HO := Lib.hid (HO.out.below hb)
  clear hb
  obtain ⟨W8, hW8⟩ : ∃ W8, W8 = W7.alloc (.cells #[.int .i64 5, .string (bs []), .int .i64 0, .int .i64 0, .slice (some ⟨yf, 0, none⟩) 2 2] 24) := ⟨_, rfl⟩
  obtain ⟨b3, hb3⟩ : ∃ b3, b3 = W7.heap.size := ⟨_, rfl⟩
  replace HO := Lib.hid (HO.out.box (.cells #[.int .i64 5, .string (bs []), .int .i64 0, .int .i64 0, .slice (some ⟨yf, 0, none⟩) 2 2] 24 (0, 0)))
  rw [← hW8, ← hb3] at HO
  have HE : Hid (HdE w W8 yd yc yf 2 b1 b3) := by
    have k3 := HO.out.blk.1
    have kf := HO.out.pop.blk.1
    have k1 := HO.out.pop.pop.blk.1
    have kc := HO.out.pop.pop.pop.blk.1
    have kb := HO.out.pop.pop.pop.pop.blk.1
    have kd := HO.out.pop.pop.pop.pop.pop.blk.1
    have f1 := IsFm.row (p := fun _ => True) [(hU, .slice none 0 0)] k1 (by simp; exact .leaf 3 wUsed 1 1 none 0) trivial (Nat.le_refl _) 4 [] 0 0
    have f2 := IsFm.row (p := fun _ => True) [(hT, .slice none 0 0), (hN, .slice (some ⟨y1, 0, none⟩) 1 1)] kf (by
      intro q hq
      simp only [List.mem_cons, List.not_mem_nil, or_false] at hq
      rcases hq with rfl | rfl
      · exact .leaf 3 wWeight 6 18 none 0
      · exact f1) trivial (Nat.le_refl _) 5 [] 0 0
    exact ⟨HO.out.base, hd_dom kd, hd_cas kc, f2, kb, k3⟩
  clear HO
  go_wp2_with fail
  rw [← hW8, ← hb3]
  clear hW8 hb3
  go_at_call 16
  refine (Size_c hF W8 _ HE.out.fm (by decide +kernel)).mono ?_
  rintro e W9 ⟨rfl, hb⟩
  rw [hd_size.1, hd_size.2]
  replace HE := HE.out.later hb
  clear hb
  focus
    have c0 := cell_of_heap HE.out.box3 (i := 0)
    have c1 := cell_of_heap HE.out.box3 (i := 1)
    have c2 := cell_of_heap HE.out.box3 (i := 2)
    have c3 := cell_of_heap HE.out.box3 (i := 3)
    have c4 := cell_of_heap HE.out.box3 (i := 4)
    have hb3 := lt_of_block HE.out.box3
    simp only [List.getElem?_toArray, List.getElem?_cons_succ, List.getElem?_cons_zero] at c0 c1 c2 c3 c4
    go_wp2_with fail
    clear c0 c1 c2 c3 c4 hb3
  go_at_call 24
  refine (Text_c (p := fun _ => True) hF W9 _ (HS.out.below HE.out.below) HE.out.fm (lim := 60) (by omega) (by decide +kernel) (by decide +kernel)).mono ?_
  rintro e W10 ⟨rfl, hb⟩
  rw [hd_texts.1, if_pos rfl, hd_textF]
  replace HE := HE.out.later hb
  clear hb
  go_wp2_with fail
  go_at_call 26
  refine (Parse_c tP W10 (by decide)).mono ?_
  rintro e W11 ⟨kv, he, hf, hb⟩
  rw [hd_parseP] at he hf
  simp only at he
  subst he
  replace HE := HE.out.later hb
  obtain ⟨yg, mg, rfl⟩ := hf.form
  obtain ⟨ng, hng⟩ : ∃ ng, ng = hG.kids.length := ⟨_, rfl⟩
  rw [← hng] at hf ⊢
  obtain ⟨W12, hW12⟩ : ∃ W12, W12 = W11.alloc (.cells #[.int .i64 hG.op, .string (bs hG.name), .int .i64 hG.cmp, .int .i64 hG.num, .slice yg ng mg] 24) := ⟨_, rfl⟩
  obtain ⟨b8, hb8⟩ : ∃ b8, b8 = W11.heap.size := ⟨_, rfl⟩
  have hb12 : Below W11.heap.size W11 W12 := by rw [hW12]; exact (Below.refl _ _).alloc (Nat.le_refl _) _
  have HG : Hid (HdG W12 yg ng mg b8) := by
    refine Lib.hid ⟨(hf.mono fun _ _ _ => trivial).later hb12, ?_⟩
    rw [hW12, hb8]
    exact new_heap _ _ _ rfl
  replace HE := HE.out.later hb12
  clear hf hb hb12 hng
  go_wp2_with fail
  rw [← hW12, ← hb8]
  clear hW12 hb8
  go_at_call 24
  refine (Text_c (p := fun _ => True) hG W12 _ (HS.out.below HE.out.below) HG.out.fm (lim := 60) (by omega) (by decide +kernel) (by decide +kernel)).mono ?_
  rintro e W13 ⟨rfl, hb⟩
  rw [hd_texts.2, if_pos rfl, hd_textG]
  replace HE := HE.out.later hb
  replace HG := HG.out.later hb
  clear hb
  go_wp2_with fail
  go_at_call 26
  refine (Parse_c tQ W13 (by decide)).mono ?_
  rintro e W14 ⟨kv, he, hf, hb⟩
  rw [hd_parseQ] at he hf
  simp only at he
  subst he
  replace HE := HE.out.later hb
  replace HG := HG.out.later hb
  obtain ⟨yW14, mW14, rfl⟩ := hf.form
  replace HE := HE.out.later (W' := W14.alloc (.cells #[.int .i64 zeroF.op, .string (bs zeroF.name), .int .i64 zeroF.cmp, .int .i64 zeroF.num, .slice yW14 zeroF.kids.length mW14] 24)) ((Below.refl _ _).alloc (Nat.le_refl _) _)
  replace HG := HG.out.later (W' := W14.alloc (.cells #[.int .i64 zeroF.op, .string (bs zeroF.name), .int .i64 zeroF.cmp, .int .i64 zeroF.num, .slice yW14 zeroF.kids.length mW14] 24)) ((Below.refl _ _).alloc (Nat.le_refl _) _)
  clear hb hf
  go_wp2_with fail
  go_at_call 26
  refine (Parse_c tR _ (by decide)).mono ?_
  rintro e W15 ⟨kv, he, hf, hb⟩
  rw [hd_parseR] at he hf
  simp only at he
  subst he
  replace HE := HE.out.later hb
  replace HG := HG.out.later hb
  obtain ⟨yW15, mW15, rfl⟩ := hf.form
  replace HE := HE.out.later (W' := W15.alloc (.cells #[.int .i64 zeroF.op, .string (bs zeroF.name), .int .i64 zeroF.cmp, .int .i64 zeroF.num, .slice yW15 zeroF.kids.length mW15] 24)) ((Below.refl _ _).alloc (Nat.le_refl _) _)
  replace HG := HG.out.later (W' := W15.alloc (.cells #[.int .i64 zeroF.op, .string (bs zeroF.name), .int .i64 zeroF.cmp, .int .i64 zeroF.num, .slice yW15 zeroF.kids.length mW15] 24)) ((Below.refl _ _).alloc (Nat.le_refl _) _)
  clear hb hf
  go_wp2_with fail
  go_at_call 26
  refine (Parse_c tS _ (by decide)).mono ?_
  rintro e W16 ⟨kv, he, hf, hb⟩
  rw [hd_parseS] at he hf
  simp only at he
  subst he
  replace HE := HE.out.later hb
  replace HG := HG.out.later hb
  obtain ⟨yW16, mW16, rfl⟩ := hf.form
  replace HE := HE.out.later (W' := W16.alloc (.cells #[.int .i64 zeroF.op, .string (bs zeroF.name), .int .i64 zeroF.cmp, .int .i64 zeroF.num, .slice yW16 zeroF.kids.length mW16] 24)) ((Below.refl _ _).alloc (Nat.le_refl _) _)
  replace HG := HG.out.later (W' := W16.alloc (.cells #[.int .i64 zeroF.op, .string (bs zeroF.name), .int .i64 zeroF.cmp, .int .i64 zeroF.num, .slice yW16 zeroF.kids.length mW16] 24)) ((Below.refl _ _).alloc (Nat.le_refl _) _)
  clear hb hf
  go_wp2_with fail
  have HX : Hid (∀ x ∈ hD, x.name.length ≤ 140737488355328) := by
    intro x hx
    simp only [hD, List.mem_cons, List.not_mem_nil, or_false] at hx
    rcases hx with rfl | rfl <;> decide
  refine wp_region_can [3, 13, 15, 19, 21, 27, 29] [0, 1, 2, 3, 4, 5, 6, 7, 8, 9, 10, 11, 12, 14, 13, 15, 16, 17, 18, 20, 19, 21, 22, 23, 24, 28, 25, 26, 27, 29, 30, 31, 32] (by decide +kernel) (by decide +kernel) ?_
  have he1 := (HE.out.later (Below.refl _ _).drew).out
  have hg1 := (HG.out.later (Below.refl _ _).drew).out
  generalize hWd : World.drew _ = W17 at he1 hg1 ⊢
  replace HE := Lib.hid he1
  replace HG := Lib.hid hg1
  clear hWd he1 hg1
  focus
    have c0 := cell_of_heap HE.out.box3 (i := 0)
    have c1 := cell_of_heap HE.out.box3 (i := 1)
    have c2 := cell_of_heap HE.out.box3 (i := 2)
    have c3 := cell_of_heap HE.out.box3 (i := 3)
    have c4 := cell_of_heap HE.out.box3 (i := 4)
    have d0 := cell_of_heap HE.out.box1 (i := 0)
    have hb3 := lt_of_block HE.out.box3
    have hb1 := lt_of_block HE.out.box1
    simp only [List.getElem?_toArray, List.getElem?_cons_succ, List.getElem?_cons_zero] at c0 c1 c2 c3 c4 d0
    iterate 3 (refine cl_do rfl rfl rfl (by first | rfl | simp [okB, lenV, plainV, Act.eval]) (fun _ _ => ?_); go_wp2_with fail)
    clear c0 c1 c2 c3 c4 d0 hb3 hb1
  refine cl_call (i := 3) rfl rfl (by first | rfl | simp [okB, lenV, plainV, Act.eval]) (fun K hK => ?_)
  go_wp2_with fail
  go_at_call 20
  refine (Holds_c (p := fun _ => True) hF W17 _ hD _ hC _ HE.out.fm HE.out.dom HE.out.cas (by decide) (by decide) HX.out (lim := 60) (by omega) (by decide +kernel) (by decide +kernel)).mono ?_
  rintro e w2 ⟨rfl, hb⟩
  rw [hd_holds]
  have Hb := Lib.hid hb
  replace HE := HE.out.later hb
  replace HG := HG.out.later hb
  clear hb
  go_wp2_with fail
  refine And.intro Hb.out ?_
  clear Hb
  iterate 9 (first | (refine cl_do rfl rfl rfl (by first | rfl | simp [okB, lenV, plainV, Act.eval]) (fun _ _ => ?_); go_wp2_with fail) | (refine cl_yes rfl rfl rfl rfl (by first | rfl | simp [okB, lenV, plainV, Act.eval]) (fun _ _ => ?_); go_wp2_with fail))
  focus
    have c0 := cell_of_heap HE.out.box3 (i := 0)
    have c1 := cell_of_heap HE.out.box3 (i := 1)
    have c2 := cell_of_heap HE.out.box3 (i := 2)
    have c3 := cell_of_heap HE.out.box3 (i := 3)
    have c4 := cell_of_heap HE.out.box3 (i := 4)
    have d0 := cell_of_heap HE.out.box1 (i := 0)
    have hb3 := lt_of_block HE.out.box3
    have hb1 := lt_of_block HE.out.box1
    simp only [List.getElem?_toArray, List.getElem?_cons_succ, List.getElem?_cons_zero] at c0 c1 c2 c3 c4 d0
    (first | (refine cl_do rfl rfl rfl (by first | rfl | simp [okB, lenV, plainV, Act.eval]) (fun _ _ => ?_); go_wp2_with fail) | (refine cl_yes rfl rfl rfl rfl (by first | rfl | simp [okB, lenV, plainV, Act.eval]) (fun _ _ => ?_); go_wp2_with fail))
    clear c0 c1 c2 c3 c4 d0 hb3 hb1
  refine cl_ycall (i := 13) rfl rfl rfl (by first | rfl | simp [okB, lenV, plainV, Act.eval]) (fun K hK => ?_)
  go_wp2_with fail
  go_at_call 32
  refine (test_c wWeight 1 1000001 _).mono ?_
  rintro e w2 ⟨rfl, hb⟩
  have Hb := Lib.hid hb
  replace HE := HE.out.later hb
  replace HG := HG.out.later hb
  clear hb
  go_wp2_with fail
  refine And.intro Hb.out ?_
  clear Hb
  refine cl_ycall (i := 15) rfl rfl rfl (by first | rfl | simp [okB, lenV, plainV, Act.eval]) (fun K hK => ?_)
  go_wp2_with fail
  go_at_call 18
  refine (Check_c (p := fun _ => True) hM _ _ hD _ (.leaf 3 wWeight 1 1000001 none 0) HE.out.dom (by decide) HX.out (lim := 60) (by omega) (by decide +kernel) (by decide +kernel)).mono ?_
  rintro e w2 ⟨rfl, hb⟩
  rw [hd_checks.1]
  have Hb := Lib.hid hb
  replace HE := HE.out.later hb
  replace HG := HG.out.later hb
  clear hb
  go_wp2_with fail
  refine And.intro Hb.out ?_
  clear Hb
  iterate 3 (first | (refine cl_do rfl rfl rfl (by first | rfl | simp [okB, lenV, plainV, Act.eval]) (fun _ _ => ?_); go_wp2_with fail) | (refine cl_yes rfl rfl rfl rfl (by first | rfl | simp [okB, lenV, plainV, Act.eval]) (fun _ _ => ?_); go_wp2_with fail))
  focus
    have c0 := cell_of_heap HE.out.box3 (i := 0)
    have c1 := cell_of_heap HE.out.box3 (i := 1)
    have c2 := cell_of_heap HE.out.box3 (i := 2)
    have c3 := cell_of_heap HE.out.box3 (i := 3)
    have c4 := cell_of_heap HE.out.box3 (i := 4)
    have d0 := cell_of_heap HE.out.box1 (i := 0)
    have hb3 := lt_of_block HE.out.box3
    have hb1 := lt_of_block HE.out.box1
    simp only [List.getElem?_toArray, List.getElem?_cons_succ, List.getElem?_cons_zero] at c0 c1 c2 c3 c4 d0
    (first | (refine cl_do rfl rfl rfl (by first | rfl | simp [okB, lenV, plainV, Act.eval]) (fun _ _ => ?_); go_wp2_with fail) | (refine cl_yes rfl rfl rfl rfl (by first | rfl | simp [okB, lenV, plainV, Act.eval]) (fun _ _ => ?_); go_wp2_with fail))
    clear c0 c1 c2 c3 c4 d0 hb3 hb1
  refine cl_ycall (i := 19) rfl rfl rfl (by first | rfl | simp [okB, lenV, plainV, Act.eval]) (fun K hK => ?_)
  go_wp2_with fail
  go_at_call 32
  refine (test_c [110, 111, 110, 101] 1 1 _).mono ?_
  rintro e w2 ⟨rfl, hb⟩
  have Hb := Lib.hid hb
  replace HE := HE.out.later hb
  replace HG := HG.out.later hb
  clear hb
  go_wp2_with fail
  refine And.intro Hb.out ?_
  clear Hb
  refine cl_ycall (i := 21) rfl rfl rfl (by first | rfl | simp [okB, lenV, plainV, Act.eval]) (fun K hK => ?_)
  go_wp2_with fail
  go_at_call 18
  refine (Check_c (p := fun _ => True) hO _ _ hD _ (.leaf 3 [110, 111, 110, 101] 1 1 none 0) HE.out.dom (by decide) HX.out (lim := 60) (by omega) (by decide +kernel) (by decide +kernel)).mono ?_
  rintro e w2 ⟨rfl, hb⟩
  rw [hd_checks.2.1]
  have Hb := Lib.hid hb
  replace HE := HE.out.later hb
  replace HG := HG.out.later hb
  clear hb
  go_wp2_with fail
  refine And.intro Hb.out ?_
  clear Hb
  iterate 3 (first | (refine cl_do rfl rfl rfl (by first | rfl | simp [okB, lenV, plainV, Act.eval]) (fun _ _ => ?_); go_wp2_with fail) | (refine cl_yes rfl rfl rfl rfl (by first | rfl | simp [okB, lenV, plainV, Act.eval]) (fun _ _ => ?_); go_wp2_with fail))
  focus
    have c0 := cell_of_heap HE.out.box3 (i := 0)
    have c1 := cell_of_heap HE.out.box3 (i := 1)
    have c2 := cell_of_heap HE.out.box3 (i := 2)
    have c3 := cell_of_heap HE.out.box3 (i := 3)
    have c4 := cell_of_heap HE.out.box3 (i := 4)
    have d0 := cell_of_heap HE.out.box1 (i := 0)
    have hb3 := lt_of_block HE.out.box3
    have hb1 := lt_of_block HE.out.box1
    simp only [List.getElem?_toArray, List.getElem?_cons_succ, List.getElem?_cons_zero] at c0 c1 c2 c3 c4 d0
    iterate 2 (first | (refine cl_do rfl rfl rfl (by first | rfl | simp [okB, lenV, plainV, Act.eval]) (fun _ _ => ?_); go_wp2_with fail) | (refine cl_yes rfl rfl rfl rfl (by first | rfl | simp [okB, lenV, plainV, Act.eval]) (fun _ _ => ?_); go_wp2_with fail))
    clear c0 c1 c2 c3 c4 d0 hb3 hb1
  generalize w2 = W20 at HE HG ⊢
  obtain ⟨W21, hW21⟩ : ∃ W21, W21 = W20.alloc (.cells #[.int .i64 5, .string (bs []), .int .i64 0, .int .i64 0, .slice (some ⟨yf, 0, none⟩) 2 2] 24) := ⟨_, rfl⟩
  obtain ⟨yw, hyw⟩ : ∃ yw, yw = W20.heap.size := ⟨_, rfl⟩
  have hb21 : Below W20.heap.size W20 W21 := by rw [hW21]; exact (Below.refl _ _).alloc (Nat.le_refl _) _
  replace HE := HE.out.later hb21
  replace HG := HG.out.later hb21
  have HW : Hid (IsFm (fun _ => True) W21 hW (.slice (some ⟨yw, 0, none⟩) 1 1)) := by
    have hk : W21.heap[yw]? = some (.cells #[.int .i64 5, .string (bs []), .int .i64 0, .int .i64 0, .slice (some ⟨yf, 0, none⟩) 2 2] 24 (0, 0)) := by
      rw [hW21, hyw]; exact new_heap _ _ _ rfl
    exact Lib.hid (IsFm.row (p := fun _ => True) [(hF, .slice (some ⟨yf, 0, none⟩) 2 2)] hk (by simp; exact HE.out.fm) trivial (Nat.le_refl _) 5 [] 0 0)
  clear hb21
  (refine cl_yes rfl rfl rfl rfl (by first | rfl | simp [okB, lenV, plainV, Act.eval]) (fun _ _ => ?_); go_wp2_with fail)
  rw [← hW21, ← hyw]
  clear hW21 hyw
  refine cl_ycall (i := 27) rfl rfl rfl (by first | rfl | simp [okB, lenV, plainV, Act.eval]) (fun K hK => ?_)
  go_wp2_with fail
  go_at_call 29
  refine (both_c 5 _ 1 1 _).mono ?_
  rintro e w2 ⟨rfl, hb⟩
  have Hb := Lib.hid hb
  replace HE := HE.out.later hb
  replace HG := HG.out.later hb
  replace HW := Lib.hid (HW.out.later hb)
  clear hb
  go_wp2_with fail
  refine And.intro Hb.out ?_
  clear Hb
  refine cl_ycall (i := 29) rfl rfl rfl (by first | rfl | simp [okB, lenV, plainV, Act.eval]) (fun K hK => ?_)
  go_wp2_with fail
  go_at_call 18
  refine (Check_c (p := fun _ => True) hW _ _ hD _ HW.out HE.out.dom (by decide) HX.out (lim := 60) (by omega) (by decide +kernel) (by decide +kernel)).mono ?_
  rintro e w2 ⟨rfl, hb⟩
  rw [hd_checks.2.2]
  have Hb := Lib.hid hb
  replace HE := HE.out.later hb
  replace HG := HG.out.later hb
  replace HW := Lib.hid (HW.out.later hb)
  clear hb
  go_wp2_with fail
  refine And.intro Hb.out ?_
  clear Hb
  iterate 3 (first | (refine cl_do rfl rfl rfl (by first | rfl | simp [okB, lenV, plainV, Act.eval]) (fun _ _ => ?_); go_wp2_with fail) | (refine cl_yes rfl rfl rfl rfl (by first | rfl | simp [okB, lenV, plainV, Act.eval]) (fun _ _ => ?_); go_wp2_with fail))
  refine cl_nil ?_
  focus
    have c0 := cell_of_heap HE.out.box3 (i := 0)
    have c1 := cell_of_heap HE.out.box3 (i := 1)
    have c2 := cell_of_heap HE.out.box3 (i := 2)
    have c3 := cell_of_heap HE.out.box3 (i := 3)
    have c4 := cell_of_heap HE.out.box3 (i := 4)
    have g0 := cell_of_heap HG.out.box (i := 0)
    have g1 := cell_of_heap HG.out.box (i := 1)
    have g2 := cell_of_heap HG.out.box (i := 2)
    have g3 := cell_of_heap HG.out.box (i := 3)
    have g4 := cell_of_heap HG.out.box (i := 4)
    have hb3 := lt_of_block HE.out.box3
    have hb8 := lt_of_block HG.out.box
    simp only [List.getElem?_toArray, List.getElem?_cons_succ, List.getElem?_cons_zero] at c0 c1 c2 c3 c4 g0 g1 g2 g3 g4
    go_wp2_with fail
    clear c0 c1 c2 c3 c4 g0 g1 g2 g3 g4 hb3 hb8
  go_at_call 22
  refine (Same_c (p := fun _ => True) _ hF hF _ _ _ (Below.refl _ _) HE.out.fm HE.out.fm (by decide +kernel) (by decide +kernel)).mono ?_
  rintro e w3 ⟨rfl, hb⟩
  rw [hd_same.1]
  replace HE := HE.out.later hb
  replace HG := HG.out.later hb
  clear hb
  focus
    have c0 := cell_of_heap HE.out.box3 (i := 0)
    have c1 := cell_of_heap HE.out.box3 (i := 1)
    have c2 := cell_of_heap HE.out.box3 (i := 2)
    have c3 := cell_of_heap HE.out.box3 (i := 3)
    have c4 := cell_of_heap HE.out.box3 (i := 4)
    have g0 := cell_of_heap HG.out.box (i := 0)
    have g1 := cell_of_heap HG.out.box (i := 1)
    have g2 := cell_of_heap HG.out.box (i := 2)
    have g3 := cell_of_heap HG.out.box (i := 3)
    have g4 := cell_of_heap HG.out.box (i := 4)
    have hb3 := lt_of_block HE.out.box3
    have hb8 := lt_of_block HG.out.box
    simp only [List.getElem?_toArray, List.getElem?_cons_succ, List.getElem?_cons_zero] at c0 c1 c2 c3 c4 g0 g1 g2 g3 g4
    go_wp2_with fail
    clear c0 c1 c2 c3 c4 g0 g1 g2 g3 g4 hb3 hb8
  go_at_call 22
  refine (Same_c (p := fun _ => True) _ hF hG _ _ _ (Below.refl _ _) HE.out.fm HG.out.fm (by decide +kernel) (by decide +kernel)).mono ?_
  rintro e w4 ⟨rfl, hb⟩
  rw [hd_same.2]
  replace HE := HE.out.later hb
  clear hb
  go_wp2_with fail
  go_ret
  exact ⟨rfl, HE.out.below⟩
end Go.Proofs.YtagoefnibgobcaaGreatDoor
