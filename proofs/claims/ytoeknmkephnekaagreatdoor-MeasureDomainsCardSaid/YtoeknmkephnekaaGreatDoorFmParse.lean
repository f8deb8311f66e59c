/-
  'Parse'.
-/
import Derived.Test.YtoeknmkephnekaaGreatDoorFmOne
import Derived.Test.YtoeknmkephnekaaGreatDoorFmSized
import Derived.Test.YtoeknmkephnekaaGreatDoorAnyOrd
namespace Go.Proofs.YtoeknmkephnekaaGreatDoor
open Go.RowKit Go.Cz Go.Cz.Lx Go.Cz.Fo
set_option linter.unusedSimpArgs false
set_option linter.unusedVariables false
attribute [local go_sem] bs_size bs_extract bs_append bs_toList
attribute [local irreducible] cList cPlan cWalk
theorem parse_res {W : World} {tmps : Array Value} {g : Nat} {v0 v1 v2 v3 v4 : Value} (h4 : tmps.getD 2 undef = .pointer (some ⟨g, 0, none⟩)) (hb : W.heap[g]? = some (.cells #[v0, v1, v2, v3, v4] 24 (0, 0))) :
    (results Tryz.f75 tmps).run Tryz.prog W = .ok (.tuple #[.agg #[v0, v1, v2, v3, v4], tmps.getD 3 undef, tmps.getD 4 undef]) W := by
  have c0 : W.cell? ⟨g, 0, none⟩ = some v0 := by rw [cell_of_heap hb]; rfl
  have c1 : W.cell? ⟨g, 1, none⟩ = some v1 := by rw [cell_of_heap hb]; rfl
  have c2 : W.cell? ⟨g, 2, none⟩ = some v2 := by rw [cell_of_heap hb]; rfl
  have c3 : W.cell? ⟨g, 3, none⟩ = some v3 := by rw [cell_of_heap hb]; rfl
  have c4 : W.cell? ⟨g, 4, none⟩ = some v4 := by rw [cell_of_heap hb]; rfl
  have h4' : tmps[2]?.getD undef = .pointer (some ⟨g, 0, none⟩) := by simpa using h4
  simp [results, Tryz.results75, go_sem, h4', c0, c1, c2, c3, c4]
/-- What 'Parse' leaves. -/
def ParsePost (w : World) (l : Bytes) (e : Ending) (w' : World) : Prop := ∃ kv, e = .returned (.tuple #[fval (parseF l).1 kv, .int .i64 ((parseF l).2.1 : Nat), .int .i64 (parseF l).2.2]) ∧ IsFm (fun g => w.heap.size ≤ g) w' (parseF l).1 kv ∧ Below w.heap.size w w'
/-- What the parser's last state answers. -/
def endF (f : Fm) : PSt → Fm × Nat × Int
  | .error e => (zeroF, e.1, e.2)
  | .ok (t :: _) => (zeroF, 5, t.pos)
  | .ok [] => if largeB f = true then (zeroF, 2, -1) else (f, 0, 0)
theorem parse_end {l : Bytes} {f : Fm} {s : PSt} (h0 : (lexAll l).2.1 = 0) (h : Did (eitherF l.length ((lexAll l).1.length + 1)) (.ok (lexAll l).1) f s) : parseF l = endF f s := by
  obtain ⟨h1, h2, h3⟩ := h
  unfold parseF
  rw [if_neg (by simpa using h0)]
  simp only at h3
  cases hp : eitherF l.length ((lexAll l).1.length + 1) (lexAll l).1 with
  | error e => rw [hp] at h3; simp only at h3; subst h3; rfl
  | ok z =>
    obtain ⟨g, r⟩ := z
    rw [hp] at h3
    obtain ⟨rfl, rfl⟩ := h3
    cases r <;> rfl
/-- The world once the result is stored. -/
abbrev set5 (W : World) (b : Nat) (v0 v1 v2 v3 v4 : Value) : World := ((((W.setCell ⟨b, 0, none⟩ v0).setCell ⟨b, 1, none⟩ v1).setCell ⟨b, 2, none⟩ v2).setCell ⟨b, 3, none⟩ v3).setCell ⟨b, 4, none⟩ v4
theorem set5_owns {w W : World} {ps : List Piece} {b : Nat} (h : Owns w W (blk b fobj0 :: ps)) (v0 v1 v2 v3 v4 : Value) : Owns w (set5 W b v0 v1 v2 v3 v4) (blk b (.cells #[v0, v1, v2, v3, v4] 24 (0, 0)) :: ps) :=
  ((((h.store (i := 0) v0).store (i := 1) v1).store (i := 2) v2).store (i := 3) v3).store (i := 4) v4
theorem set5_fm {W : World} {b n : Nat} {f : Fm} {kv v0 v1 v2 v3 v4 : Value} (h : IsFm (fun g => n ≤ g) W f kv) (hb : b < n) : IsFm (fun g => n ≤ g) (set5 W b v0 v1 v2 v3 v4) f kv :=
  h.keep fun g hg hl => by
    have hm : Mod [b] W (set5 W b v0 v1 v2 v3 v4) := ((((((Mod.refl [b] W).setCell (.inl (by simp)) v0).setCell (.inl (by simp)) v1).setCell (.inl (by simp)) v2).setCell (.inl (by simp)) v3).setCell (.inl (by simp)) v4)
    exact hm.block g hl (by simp; omega)
set_option maxRecDepth 100000 in
set_option maxHeartbeats 4000000 in
theorem Parse_c (l : Bytes) (w : World) (hl : l.length ≤ 140737488355328) : Calls Tryz.prog 75 #[.string (bs l)] w (ParsePost w l) := by
  have hll : (l.length : Int) ≤ 140737488355328 := by omega
  obtain ⟨W1, hW1⟩ : ∃ W1, W1 = w.alloc (.cells #[.int .i64 0, .string ⟨#[]⟩, .int .i64 0, .int .i64 0, .slice none 0 0] 24) := ⟨_, rfl⟩
  obtain ⟨b2, hb2⟩ : ∃ b2, b2 = w.heap.size := ⟨_, rfl⟩
  have HO0 : Hid (Owns w W1 [blk b2 fobj0]) := by
    rw [hW1, hb2]
    exact Lib.hid ((Owns.start w).box fobj0)
  have HB2 : Hid (w.heap.size ≤ b2) := by rw [hb2]; exact Nat.le_refl _
  go_enter Tryz.func75, Tryz.ntmps75
  go_wp2_with fail
  rw [← hW1, ← hb2]
  clear hW1 hb2
  go_at_call 14
  refine (Lex_c l (fun _ => idxAny) W1 hl).mono ?_
  rintro e W2 ⟨v, rfl, htk, hb⟩
  replace HO0 := Lib.hid (HO0.out.below hb)
  have HW2 : Hid (w.heap.size ≤ W2.heap.size ∧ b2 < W2.heap.size) := ⟨HO0.out.base.size, lt_of_block HO0.out.blk.1⟩
  have HTk : Hid (TokL W2 v (lexAll l).1) := Lib.hid (TokL.of htk)
  clear htk hb
  obtain ⟨ts, hts⟩ : ∃ ts, ts = (lexAll l).1 := ⟨_, rfl⟩
  obtain ⟨ec, hec⟩ : ∃ ec, ec = (lexAll l).2.1 := ⟨_, rfl⟩
  obtain ⟨ep, hep⟩ : ∃ ep, ep = (lexAll l).2.2 := ⟨_, rfl⟩
  have HTs := Lib.hid hts
  have HEc := Lib.hid hec
  have HEp := Lib.hid hep
  rw [← hts] at HTk
  rw [← hec, ← hep]
  clear hts hec hep
  by_cases h0 : ec = 0
  case neg =>
    have h0' : ((ec : Int) != 0) = true := by simpa using h0
    have HR : Hid (parseF l = (zeroF, ec, ep)) := by
      show _ = _
      unfold parseF
      rw [if_pos (by rw [← HEc.out]; exact h0), ← HEc.out, ← HEp.out]
    clear h0
    have HO := HO0
    simp only [fobj0] at HO
    obtain ⟨bk, -⟩ := HO.out.blk
    have hbe := lt_of_block bk
    have fe0 := free_of_heap bk (i := 0)
    have fe1 := free_of_heap bk (i := 1)
    have fe2 := free_of_heap bk (i := 2)
    have fe3 := free_of_heap bk (i := 3)
    have fe4 := free_of_heap bk (i := 4)
    have ce0 := cell_of_heap bk (i := 0)
    have ce1 := cell_of_heap bk (i := 1)
    have ce2 := cell_of_heap bk (i := 2)
    have ce3 := cell_of_heap bk (i := 3)
    have ce4 := cell_of_heap bk (i := 4)
    simp only [List.getElem?_toArray, List.getElem?_cons_succ, List.getElem?_cons_zero] at ce0 ce1 ce2 ce3 ce4
    clear bk
    repeat (first | go_values | go_skip | go_guarded | go_step | go_upon | (simp only [Int.not_lt, Int.not_le] at *; go_simp))
    have h2 := set5_owns HO0.out (.int .i64 0) (.string ⟨#[]⟩) (.int .i64 0) (.int .i64 0) (.slice none 0 0)
    refine bodyPost_ret (parse_res rfl h2.blk.1) (by rfl) ⟨.slice none 0 0, ?_, ?_, h2.base⟩
    · rw [HR.out]; rfl
    · rw [HR.out]; exact .leaf _ _ _ _ _ _
  have h0' : ((ec : Int) != 0) = false := by simpa using h0
  replace h0 : Hid ((lexAll l).2.1 = 0) := by rw [← HEc.out]; exact Lib.hid h0
  obtain ⟨y, m, rfl⟩ := HTk.out.form
  obtain ⟨N, hN⟩ : ∃ N, N = ts.length := ⟨_, rfl⟩
  have HN := Lib.hid hN
  have hN5 : N ≤ 5000 := by rw [hN, HTs.out]; exact lexAll_len l
  rw [← hN] at HTk ⊢
  obtain ⟨W3, hW3⟩ : ∃ W3, W3 = W2.alloc (.cells #[.slice y N m, .int .i64 (l.length : Int), .int .i64 0, .int .i64 0] 134) := ⟨_, rfl⟩
  obtain ⟨bp, hbp⟩ : ∃ bp, bp = W2.heap.size := ⟨_, rfl⟩
  have HO : Hid (Owns W2 W3 [parP W2 bp (l.length : Int) (.ok ts)]) := by
    rw [hW3, hbp]
    exact Lib.hid (Owns.asPar (v := .slice y N m) ((Owns.start W2).box _) trivial HTk.out)
  clear hN
  go_wp2_with fail
  rw [← hW3, ← hbp]
  clear hW3 hbp h0'
  go_at_call 105
  refine ((eitherN_c (w0 := W2) (bp := bp) (fin := (l.length : Int)) N (by omega)) [] (.ok ts) W3 (by rw [HN.out]; exact Nat.le_refl _) HO.out).mono ?_
  rintro e W4 ⟨f, kv, s, rfl, hd, ho⟩
  have HD := Lib.hid hd
  have HE : Hid (parseF l = endF f s) := by
    have h := parse_end (l := l) (f := f) (s := s) h0.out
    rw [← HTs.out, ← HN.out] at h
    exact h hd
  obtain ⟨y2, m2, rfl⟩ := ho.fm.form
  obtain ⟨N2, hN2⟩ : ∃ N2, N2 = f.kids.length := ⟨_, rfl⟩
  have HF := ho.fm
  rw [← hN2] at ho HF ⊢
  obtain ⟨W5, hW5⟩ : ∃ W5, W5 = W4.alloc (.cells #[.int .i64 f.op, .string (bs f.name), .int .i64 f.cmp, .int .i64 f.num, .slice y2 N2 m2] 24) := ⟨_, rfl⟩
  obtain ⟨b9, hb9⟩ : ∃ b9, b9 = W4.heap.size := ⟨_, rfl⟩
  replace HO : Hid (Owns W2 W5 [parP W2 bp (l.length : Int) s, blk b9 (fobj f (.slice y2 N2 m2)), fmP f (.slice y2 N2 m2)]) := by
    rw [hW5, hb9]
    exact Lib.hid ((ho.box (fobj f (.slice y2 N2 m2))).re [2, 0, 1])
  clear ho hd hN2 HF
  subst hW5 hb9
  rcases s with x | (_ | ⟨t, r⟩)
  · have HR : Hid (parseF l = (zeroF, x.1, x.2)) := HE.out
    obtain ⟨hf, yp, mp, hv, hp⟩ := HO.out.par
    have hx : ¬ (x).1 = 0 := hf
    obtain ⟨c, hc⟩ : ∃ c, c = (x).1 := ⟨_, rfl⟩
    obtain ⟨ax, hax⟩ : ∃ ax, ax = (x).2 := ⟨_, rfl⟩
    simp only [pobj, code, pos, toks, List.length_nil] at hp
    replace HR : Hid (parseF l = (zeroF, c, ax)) := by rw [hc, hax]; exact HR
    rw [← hc, ← hax] at hp
    have hx1 : ((c : Int) == 0) = false := by simp; omega
    have hx2 : ((c : Int) != 0) = true := by simp; omega
    focus
      obtain ⟨bk, -⟩ := hp.blk
      have hbp := lt_of_block bk
      have cp0 := cell_of_heap bk (i := 0)
      have cp1 := cell_of_heap bk (i := 1)
      have cp2 := cell_of_heap bk (i := 2)
      have cp3 := cell_of_heap bk (i := 3)
      simp only [List.getElem?_toArray, List.getElem?_cons_succ, List.getElem?_cons_zero] at cp0 cp1 cp2 cp3
      clear bk
      clear hf hv hx hc hax
      go_wp2_with fail
      clear hbp cp0 cp1 cp2 cp3
    clear hx1 hx2
    refine wp_region_walk [] 12 rfl (by decide +kernel) ?_
    have ho1 := hp.drew
    have ho2 := (HO0.out.below HO.out.base).drew
    generalize hWd : World.drew _ = Wd at ho1 ho2 ⊢
    clear hWd hp HO
    have nb : b2 ≠ bp := by
      have := ho1.blk.2
      have := HW2.out.2
      omega
    have nb' := nb.symm
    have h2 := set5_owns ho2 (.int .i64 0) (.string ⟨#[]⟩) (.int .i64 0) (.int .i64 0) (.slice none 0 0)
    have HOe := ho2
    simp only [fobj0] at HOe
    obtain ⟨bk, -⟩ := ho1.blk
    have hbp := lt_of_block bk
    have cp0 := cell_of_heap bk (i := 0)
    have cp1 := cell_of_heap bk (i := 1)
    have cp2 := cell_of_heap bk (i := 2)
    have cp3 := cell_of_heap bk (i := 3)
    simp only [List.getElem?_toArray, List.getElem?_cons_succ, List.getElem?_cons_zero] at cp0 cp1 cp2 cp3
    clear bk
    obtain ⟨bk, -⟩ := HOe.blk
    have hbe := lt_of_block bk
    have fe0 := free_of_heap bk (i := 0)
    have fe1 := free_of_heap bk (i := 1)
    have fe2 := free_of_heap bk (i := 2)
    have fe3 := free_of_heap bk (i := 3)
    have fe4 := free_of_heap bk (i := 4)
    have ce0 := cell_of_heap bk (i := 0)
    have ce1 := cell_of_heap bk (i := 1)
    have ce2 := cell_of_heap bk (i := 2)
    have ce3 := cell_of_heap bk (i := 3)
    have ce4 := cell_of_heap bk (i := 4)
    simp only [List.getElem?_toArray, List.getElem?_cons_succ, List.getElem?_cons_zero] at ce0 ce1 ce2 ce3 ce4
    clear bk
    have H2 := Lib.hid h2
    clear ho1 ho2 HOe h2 HO0
    refine cw_step 0 (by decide +kernel) (by decide +kernel) (by decide +kernel) ?_; (refine cw_do rfl rfl rfl (by first | rfl | simp [okB, lenV, plainV, Act.eval]) (fun _ _ => ?_); go_wp2_with fail)
    refine cw_step 1 (by decide +kernel) (by decide +kernel) (by decide +kernel) ?_; (refine cw_do rfl rfl rfl (by first | rfl | simp [okB, lenV, plainV, Act.eval]) (fun _ _ => ?_); go_wp2_with fail)
    refine cw_step 2 (by decide +kernel) (by decide +kernel) (by decide +kernel) ?_; (refine cw_do rfl rfl rfl (by first | rfl | simp [okB, lenV, plainV, Act.eval]) (fun _ _ => ?_); go_wp2_with fail)
    refine cw_step 3 (by decide +kernel) (by decide +kernel) (by decide +kernel) ?_; (refine cw_do rfl rfl rfl (by first | rfl | simp [okB, lenV, plainV, Act.eval]) (fun _ _ => ?_); go_wp2_with fail)
    refine cw_step 5 (by decide +kernel) (by decide +kernel) (by decide +kernel) ?_; (refine cw_do rfl rfl rfl (by first | rfl | simp [okB, lenV, plainV, Act.eval]) (fun _ _ => ?_); go_wp2_with fail)
    refine cw_step 6 (by decide +kernel) (by decide +kernel) (by decide +kernel) ?_; (refine cw_do rfl rfl rfl (by first | rfl | simp [okB, lenV, plainV, Act.eval]) (fun _ _ => ?_); go_wp2_with fail)
    refine cw_step 7 (by decide +kernel) (by decide +kernel) (by decide +kernel) ?_; (refine cw_do rfl rfl rfl (by first | rfl | simp [okB, lenV, plainV, Act.eval]) (fun _ _ => ?_); go_wp2_with fail)
    repeat' (first | (refine cw_step 4 (by decide +kernel) (by decide +kernel) (by decide +kernel) ?_; (refine cw_do rfl rfl rfl (by first | rfl | simp [okB, lenV, plainV, Act.eval]) (fun _ _ => ?_); go_wp2_with fail)) | (refine cw_step 8 (by decide +kernel) (by decide +kernel) (by decide +kernel) ?_; (refine cw_do rfl rfl rfl (by first | rfl | simp [okB, lenV, plainV, Act.eval]) (fun _ _ => ?_); go_wp2_with fail)) | (refine cw_step 9 (by decide +kernel) (by decide +kernel) (by decide +kernel) ?_; (refine cw_do rfl rfl rfl (by first | rfl | simp [okB, lenV, plainV, Act.eval]) (fun _ _ => ?_); go_wp2_with fail)) | (refine cw_step 10 (by decide +kernel) (by decide +kernel) (by decide +kernel) ?_; (refine cw_do rfl rfl rfl (by first | rfl | simp [okB, lenV, plainV, Act.eval]) (fun _ _ => ?_); go_wp2_with fail)) | (refine cw_step 11 (by decide +kernel) (by decide +kernel) (by decide +kernel) ?_; (refine cw_do rfl rfl rfl (by first | rfl | simp [okB, lenV, plainV, Act.eval]) (fun _ _ => ?_); go_wp2_with fail)) | (refine cw_three 4 8 9 (by decide +kernel) ?_ ?_ ?_ <;> (refine cw_do rfl rfl rfl (by first | rfl | simp [okB, lenV, plainV, Act.eval]) (fun _ _ => ?_); go_wp2_with fail)) | (refine cw_two 4 8 (by decide +kernel) ?_ ?_ <;> (refine cw_do rfl rfl rfl (by first | rfl | simp [okB, lenV, plainV, Act.eval]) (fun _ _ => ?_); go_wp2_with fail)) | (refine cw_two 4 9 (by decide +kernel) ?_ ?_ <;> (refine cw_do rfl rfl rfl (by first | rfl | simp [okB, lenV, plainV, Act.eval]) (fun _ _ => ?_); go_wp2_with fail)) | (refine cw_two 8 9 (by decide +kernel) ?_ ?_ <;> (refine cw_do rfl rfl rfl (by first | rfl | simp [okB, lenV, plainV, Act.eval]) (fun _ _ => ?_); go_wp2_with fail)) | (refine cw_two 8 10 (by decide +kernel) ?_ ?_ <;> (refine cw_do rfl rfl rfl (by first | rfl | simp [okB, lenV, plainV, Act.eval]) (fun _ _ => ?_); go_wp2_with fail)) | (refine cw_two 4 10 (by decide +kernel) ?_ ?_ <;> (refine cw_do rfl rfl rfl (by first | rfl | simp [okB, lenV, plainV, Act.eval]) (fun _ _ => ?_); go_wp2_with fail)) | (refine cw_nil (by decide +kernel) ?_; repeat (first | go_values | go_skip | go_guarded | go_step | go_upon)))
    all_goals exact bodyPost_ret (parse_res rfl H2.out.blk.1) (by rfl) ⟨.slice none 0 0, by rw [HR.out]; rfl, by rw [HR.out]; exact .leaf _ _ _ _ _ _, H2.out.base⟩
  · have HR : Hid (parseF l = if largeB f = true then (zeroF, 2, -1) else (f, 0, 0)) := HE.out
    have HZ : Hid (size f ≤ 900000) := by
      obtain ⟨-, -, h3⟩ := HD.out
      simp only at h3
      cases hp : eitherF (l.length : Int) (N + 1) ts with
      | error e => rw [hp] at h3; cases h3
      | ok z =>
        obtain ⟨g, r⟩ := z
        rw [hp] at h3
        obtain ⟨rfl, -⟩ := h3
        have h4 := either_sized _ _ _ _ hp
        have h5 := HN.out
        show _ ≤ _
        omega
    obtain ⟨hf, yp, mp, hv, hp⟩ := HO.out.par
    simp only [pobj, code, pos, toks, List.length_nil] at hp
    focus
      obtain ⟨bk, -⟩ := hp.blk
      have hbp := lt_of_block bk
      have cp0 := cell_of_heap bk (i := 0)
      have cp1 := cell_of_heap bk (i := 1)
      have cp2 := cell_of_heap bk (i := 2)
      have cp3 := cell_of_heap bk (i := 3)
      simp only [List.getElem?_toArray, List.getElem?_cons_succ, List.getElem?_cons_zero] at cp0 cp1 cp2 cp3
      clear bk
      clear hf hv hp
      obtain ⟨bk, -⟩ := HO.out.swap.blk
      have hbv := lt_of_block bk
      have fv0 := free_of_heap bk (i := 0)
      have fv1 := free_of_heap bk (i := 1)
      have fv2 := free_of_heap bk (i := 2)
      have fv3 := free_of_heap bk (i := 3)
      have fv4 := free_of_heap bk (i := 4)
      have cv0 := cell_of_heap bk (i := 0)
      have cv1 := cell_of_heap bk (i := 1)
      have cv2 := cell_of_heap bk (i := 2)
      have cv3 := cell_of_heap bk (i := 3)
      have cv4 := cell_of_heap bk (i := 4)
      simp only [List.getElem?_toArray, List.getElem?_cons_succ, List.getElem?_cons_zero] at cv0 cv1 cv2 cv3 cv4
      clear bk
      go_wp2_with fail
      clear hbp cp0 cp1 cp2 cp3 hbv fv0 fv1 fv2 fv3 fv4 cv0 cv1 cv2 cv3 cv4
    go_at_call 47
    refine (large_c f _ _ (HO.out.pop.pop.fm) HZ.out).mono ?_
    rintro e W6 ⟨rfl, hb⟩
    replace HO := Lib.hid (HO.out.below hb)
    obtain ⟨L, hL⟩ : ∃ L, L = largeB f := ⟨_, rfl⟩
    rw [← hL] at HR ⊢
    clear hL hb
    cases L
    · replace HR : Hid (parseF l = (f, 0, 0)) := HR.out
      obtain ⟨hf, yp, mp, hv, hp⟩ := HO.out.par
      simp only [pobj, code, pos, toks, List.length_nil] at hp
      obtain ⟨bk, -⟩ := hp.blk
      have hbp := lt_of_block bk
      have cp0 := cell_of_heap bk (i := 0)
      have cp1 := cell_of_heap bk (i := 1)
      have cp2 := cell_of_heap bk (i := 2)
      have cp3 := cell_of_heap bk (i := 3)
      simp only [List.getElem?_toArray, List.getElem?_cons_succ, List.getElem?_cons_zero] at cp0 cp1 cp2 cp3
      clear bk
      clear hf hv hp
      have HOv := Lib.hid (HO0.out.below HO.out.base)
      have HO5 := Lib.hid (HO0.out.below HO.out.base)
      simp only [fobj0] at HOv
      obtain ⟨bk, -⟩ := HO.out.swap.blk
      have hbv := lt_of_block bk
      have fv0 := free_of_heap bk (i := 0)
      have fv1 := free_of_heap bk (i := 1)
      have fv2 := free_of_heap bk (i := 2)
      have fv3 := free_of_heap bk (i := 3)
      have fv4 := free_of_heap bk (i := 4)
      have cv0 := cell_of_heap bk (i := 0)
      have cv1 := cell_of_heap bk (i := 1)
      have cv2 := cell_of_heap bk (i := 2)
      have cv3 := cell_of_heap bk (i := 3)
      have cv4 := cell_of_heap bk (i := 4)
      simp only [List.getElem?_toArray, List.getElem?_cons_succ, List.getElem?_cons_zero] at cv0 cv1 cv2 cv3 cv4
      clear bk
      obtain ⟨bk, -⟩ := HOv.out.blk
      have hbe := lt_of_block bk
      have fe0 := free_of_heap bk (i := 0)
      have fe1 := free_of_heap bk (i := 1)
      have fe2 := free_of_heap bk (i := 2)
      have fe3 := free_of_heap bk (i := 3)
      have fe4 := free_of_heap bk (i := 4)
      have ce0 := cell_of_heap bk (i := 0)
      have ce1 := cell_of_heap bk (i := 1)
      have ce2 := cell_of_heap bk (i := 2)
      have ce3 := cell_of_heap bk (i := 3)
      have ce4 := cell_of_heap bk (i := 4)
      simp only [List.getElem?_toArray, List.getElem?_cons_succ, List.getElem?_cons_zero] at ce0 ce1 ce2 ce3 ce4
      clear bk
      repeat (first | go_values | go_skip | go_guarded | go_step | go_upon | (simp only [Int.not_lt, Int.not_le] at *; go_simp))
      have h2 := set5_owns HO5.out (.int .i64 f.op) (.string (bs f.name)) (.int .i64 f.cmp) (.int .i64 f.num) (.slice y2 N2 m2)
      have hF := (set5_fm (v0 := .int .i64 f.op) (v1 := .string (bs f.name)) (v2 := .int .i64 f.cmp) (v3 := .int .i64 f.num) (v4 := .slice y2 N2 m2) HO.out.pop.pop.fm HW2.out.2).mono (q := fun g => w.heap.size ≤ g) fun g hg _ => Nat.le_trans HW2.out.1 hg
      exact bodyPost_ret (parse_res rfl h2.blk.1) (by rfl) ⟨.slice y2 N2 m2, by rw [HR.out]; rfl, by rw [HR.out]; exact hF, h2.base⟩
    · replace HR : Hid (parseF l = (zeroF, 2, -1)) := HR.out
      go_wp2_with fail
      go_at_call 106
      refine (fail_c (w0 := W2) (bp := bp) (fin := (l.length : Int)) [blk W4.heap.size (fobj f (.slice y2 N2 m2)), fmP f (.slice y2 N2 m2)] (.ok []) 2 (-1) (by omega) (by omega) W6 HO.out).mono ?_
      rintro e W7 ⟨rfl, ho⟩
      replace HO : Hid (Owns W2 W7 [parP W2 bp (l.length : Int) (.error (2, -1)), blk W4.heap.size (fobj f (.slice y2 N2 m2)), fmP f (.slice y2 N2 m2)]) := Lib.hid ho
      obtain ⟨x, hx0⟩ : ∃ x : Nat × Int, x = (2, -1) := ⟨_, rfl⟩
      rw [← hx0] at HO
      replace HR : Hid (parseF l = (zeroF, x.1, x.2)) := by rw [hx0]; exact HR
      clear ho hx0
      obtain ⟨hf, yp, mp, hv, hp⟩ := HO.out.par
      have hx : ¬ (x).1 = 0 := hf
      obtain ⟨c, hc⟩ : ∃ c, c = (x).1 := ⟨_, rfl⟩
      obtain ⟨ax, hax⟩ : ∃ ax, ax = (x).2 := ⟨_, rfl⟩
      simp only [pobj, code, pos, toks, List.length_nil] at hp
      replace HR : Hid (parseF l = (zeroF, c, ax)) := by rw [hc, hax]; exact HR
      rw [← hc, ← hax] at hp
      have hx1 : ((c : Int) == 0) = false := by simp; omega
      have hx2 : ((c : Int) != 0) = true := by simp; omega
      focus
        obtain ⟨bk, -⟩ := hp.blk
        have hbp := lt_of_block bk
        have cp0 := cell_of_heap bk (i := 0)
        have cp1 := cell_of_heap bk (i := 1)
        have cp2 := cell_of_heap bk (i := 2)
        have cp3 := cell_of_heap bk (i := 3)
        simp only [List.getElem?_toArray, List.getElem?_cons_succ, List.getElem?_cons_zero] at cp0 cp1 cp2 cp3
        clear bk
        clear hf hv hx hc hax
        go_wp2_with fail
        clear hbp cp0 cp1 cp2 cp3
      clear hx1 hx2
      refine wp_region_walk [] 12 rfl (by decide +kernel) ?_
      have ho1 := hp.drew
      have ho2 := (HO0.out.below HO.out.base).drew
      generalize hWd : World.drew _ = Wd at ho1 ho2 ⊢
      clear hWd hp HO
      have nb : b2 ≠ bp := by
        have := ho1.blk.2
        have := HW2.out.2
        omega
      have nb' := nb.symm
      have h2 := set5_owns ho2 (.int .i64 0) (.string ⟨#[]⟩) (.int .i64 0) (.int .i64 0) (.slice none 0 0)
      have HOe := ho2
      simp only [fobj0] at HOe
      obtain ⟨bk, -⟩ := ho1.blk
      have hbp := lt_of_block bk
      have cp0 := cell_of_heap bk (i := 0)
      have cp1 := cell_of_heap bk (i := 1)
      have cp2 := cell_of_heap bk (i := 2)
      have cp3 := cell_of_heap bk (i := 3)
      simp only [List.getElem?_toArray, List.getElem?_cons_succ, List.getElem?_cons_zero] at cp0 cp1 cp2 cp3
      clear bk
      obtain ⟨bk, -⟩ := HOe.blk
      have hbe := lt_of_block bk
      have fe0 := free_of_heap bk (i := 0)
      have fe1 := free_of_heap bk (i := 1)
      have fe2 := free_of_heap bk (i := 2)
      have fe3 := free_of_heap bk (i := 3)
      have fe4 := free_of_heap bk (i := 4)
      have ce0 := cell_of_heap bk (i := 0)
      have ce1 := cell_of_heap bk (i := 1)
      have ce2 := cell_of_heap bk (i := 2)
      have ce3 := cell_of_heap bk (i := 3)
      have ce4 := cell_of_heap bk (i := 4)
      simp only [List.getElem?_toArray, List.getElem?_cons_succ, List.getElem?_cons_zero] at ce0 ce1 ce2 ce3 ce4
      clear bk
      have H2 := Lib.hid h2
      clear ho1 ho2 HOe h2 HO0
      refine cw_step 0 (by decide +kernel) (by decide +kernel) (by decide +kernel) ?_; (refine cw_do rfl rfl rfl (by first | rfl | simp [okB, lenV, plainV, Act.eval]) (fun _ _ => ?_); go_wp2_with fail)
      refine cw_step 1 (by decide +kernel) (by decide +kernel) (by decide +kernel) ?_; (refine cw_do rfl rfl rfl (by first | rfl | simp [okB, lenV, plainV, Act.eval]) (fun _ _ => ?_); go_wp2_with fail)
      refine cw_step 2 (by decide +kernel) (by decide +kernel) (by decide +kernel) ?_; (refine cw_do rfl rfl rfl (by first | rfl | simp [okB, lenV, plainV, Act.eval]) (fun _ _ => ?_); go_wp2_with fail)
      refine cw_step 3 (by decide +kernel) (by decide +kernel) (by decide +kernel) ?_; (refine cw_do rfl rfl rfl (by first | rfl | simp [okB, lenV, plainV, Act.eval]) (fun _ _ => ?_); go_wp2_with fail)
      refine cw_step 5 (by decide +kernel) (by decide +kernel) (by decide +kernel) ?_; (refine cw_do rfl rfl rfl (by first | rfl | simp [okB, lenV, plainV, Act.eval]) (fun _ _ => ?_); go_wp2_with fail)
      refine cw_step 6 (by decide +kernel) (by decide +kernel) (by decide +kernel) ?_; (refine cw_do rfl rfl rfl (by first | rfl | simp [okB, lenV, plainV, Act.eval]) (fun _ _ => ?_); go_wp2_with fail)
      refine cw_step 7 (by decide +kernel) (by decide +kernel) (by decide +kernel) ?_; (refine cw_do rfl rfl rfl (by first | rfl | simp [okB, lenV, plainV, Act.eval]) (fun _ _ => ?_); go_wp2_with fail)
      repeat' (first | (refine cw_step 4 (by decide +kernel) (by decide +kernel) (by decide +kernel) ?_; (refine cw_do rfl rfl rfl (by first | rfl | simp [okB, lenV, plainV, Act.eval]) (fun _ _ => ?_); go_wp2_with fail)) | (refine cw_step 8 (by decide +kernel) (by decide +kernel) (by decide +kernel) ?_; (refine cw_do rfl rfl rfl (by first | rfl | simp [okB, lenV, plainV, Act.eval]) (fun _ _ => ?_); go_wp2_with fail)) | (refine cw_step 9 (by decide +kernel) (by decide +kernel) (by decide +kernel) ?_; (refine cw_do rfl rfl rfl (by first | rfl | simp [okB, lenV, plainV, Act.eval]) (fun _ _ => ?_); go_wp2_with fail)) | (refine cw_step 10 (by decide +kernel) (by decide +kernel) (by decide +kernel) ?_; (refine cw_do rfl rfl rfl (by first | rfl | simp [okB, lenV, plainV, Act.eval]) (fun _ _ => ?_); go_wp2_with fail)) | (refine cw_step 11 (by decide +kernel) (by decide +kernel) (by decide +kernel) ?_; (refine cw_do rfl rfl rfl (by first | rfl | simp [okB, lenV, plainV, Act.eval]) (fun _ _ => ?_); go_wp2_with fail)) | (refine cw_three 4 8 9 (by decide +kernel) ?_ ?_ ?_ <;> (refine cw_do rfl rfl rfl (by first | rfl | simp [okB, lenV, plainV, Act.eval]) (fun _ _ => ?_); go_wp2_with fail)) | (refine cw_two 4 8 (by decide +kernel) ?_ ?_ <;> (refine cw_do rfl rfl rfl (by first | rfl | simp [okB, lenV, plainV, Act.eval]) (fun _ _ => ?_); go_wp2_with fail)) | (refine cw_two 4 9 (by decide +kernel) ?_ ?_ <;> (refine cw_do rfl rfl rfl (by first | rfl | simp [okB, lenV, plainV, Act.eval]) (fun _ _ => ?_); go_wp2_with fail)) | (refine cw_two 8 9 (by decide +kernel) ?_ ?_ <;> (refine cw_do rfl rfl rfl (by first | rfl | simp [okB, lenV, plainV, Act.eval]) (fun _ _ => ?_); go_wp2_with fail)) | (refine cw_two 8 10 (by decide +kernel) ?_ ?_ <;> (refine cw_do rfl rfl rfl (by first | rfl | simp [okB, lenV, plainV, Act.eval]) (fun _ _ => ?_); go_wp2_with fail)) | (refine cw_two 4 10 (by decide +kernel) ?_ ?_ <;> (refine cw_do rfl rfl rfl (by first | rfl | simp [okB, lenV, plainV, Act.eval]) (fun _ _ => ?_); go_wp2_with fail)) | (refine cw_nil (by decide +kernel) ?_; repeat (first | go_values | go_skip | go_guarded | go_step | go_upon)))
      all_goals exact bodyPost_ret (parse_res rfl H2.out.blk.1) (by rfl) ⟨.slice none 0 0, by rw [HR.out]; rfl, by rw [HR.out]; exact .leaf _ _ _ _ _ _, H2.out.base⟩
  · have HR : Hid (parseF l = (zeroF, 5, (t.pos : Int))) := HE.out
    obtain ⟨N3, hN3⟩ : ∃ N3, N3 = (toks (.ok (t :: r))).length := ⟨_, rfl⟩
    have hN30 : 0 < N3 := by rw [hN3]; simp [toks]
    obtain ⟨hf, yp, mp, hv, hp⟩ := HO.out.par
    rw [← hN3] at hv hp
    obtain ⟨g, off, rfl, hNm, hg, c0, c1, c2, c3⟩ := hv.get (j := 0) HO.out.base rfl
    simp only [pobj, code, pos] at hp
    simp only [Nat.zero_mul, Nat.add_zero] at c0 c1 c2 c3
    focus
      obtain ⟨bk, -⟩ := hp.blk
      have hbp := lt_of_block bk
      have cp0 := cell_of_heap bk (i := 0)
      have cp1 := cell_of_heap bk (i := 1)
      have cp2 := cell_of_heap bk (i := 2)
      have cp3 := cell_of_heap bk (i := 3)
      simp only [List.getElem?_toArray, List.getElem?_cons_succ, List.getElem?_cons_zero] at cp0 cp1 cp2 cp3
      clear bk
      clear hf hv hp hN3
      go_wp2_with fail
      clear hbp cp0 cp1 cp2 cp3 c0 c1 c2 c3 hg hNm hN30
    go_at_call 106
    refine (fail_c (w0 := W2) (bp := bp) (fin := (l.length : Int)) [blk W4.heap.size (fobj f (.slice y2 N2 m2)), fmP f (.slice y2 N2 m2)] (.ok (t :: r)) 5 t.pos (by omega) (by omega) _ HO.out).mono ?_
    clear HO
    rintro e W7 ⟨rfl, ho⟩
    have HO : Hid (Owns W2 W7 [parP W2 bp (l.length : Int) (.error (5, (t.pos : Int))), blk W4.heap.size (fobj f (.slice y2 N2 m2)), fmP f (.slice y2 N2 m2)]) := Lib.hid ho
    obtain ⟨x, hx0⟩ : ∃ x : Nat × Int, x = (5, (t.pos : Int)) := ⟨_, rfl⟩
    rw [← hx0] at HO
    replace HR : Hid (parseF l = (zeroF, x.1, x.2)) := by rw [hx0]; exact HR
    clear ho hx0
    obtain ⟨hf, yp, mp, hv, hp⟩ := HO.out.par
    have hx : ¬ (x).1 = 0 := hf
    obtain ⟨c, hc⟩ : ∃ c, c = (x).1 := ⟨_, rfl⟩
    obtain ⟨ax, hax⟩ : ∃ ax, ax = (x).2 := ⟨_, rfl⟩
    simp only [pobj, code, pos, toks, List.length_nil] at hp
    replace HR : Hid (parseF l = (zeroF, c, ax)) := by rw [hc, hax]; exact HR
    rw [← hc, ← hax] at hp
    have hx1 : ((c : Int) == 0) = false := by simp; omega
    have hx2 : ((c : Int) != 0) = true := by simp; omega
    focus
      obtain ⟨bk, -⟩ := hp.blk
      have hbp := lt_of_block bk
      have cp0 := cell_of_heap bk (i := 0)
      have cp1 := cell_of_heap bk (i := 1)
      have cp2 := cell_of_heap bk (i := 2)
      have cp3 := cell_of_heap bk (i := 3)
      simp only [List.getElem?_toArray, List.getElem?_cons_succ, List.getElem?_cons_zero] at cp0 cp1 cp2 cp3
      clear bk
      clear hf hv hx hc hax
      go_wp2_with fail
      clear hbp cp0 cp1 cp2 cp3
    clear hx1 hx2
    refine wp_region_walk [] 12 rfl (by decide +kernel) ?_
    have ho1 := hp.drew
    have ho2 := (HO0.out.below HO.out.base).drew
    generalize hWd : World.drew _ = Wd at ho1 ho2 ⊢
    clear hWd hp HO
    have nb : b2 ≠ bp := by
      have := ho1.blk.2
      have := HW2.out.2
      omega
    have nb' := nb.symm
    have h2 := set5_owns ho2 (.int .i64 0) (.string ⟨#[]⟩) (.int .i64 0) (.int .i64 0) (.slice none 0 0)
    have HOe := ho2
    simp only [fobj0] at HOe
    obtain ⟨bk, -⟩ := ho1.blk
    have hbp := lt_of_block bk
    have cp0 := cell_of_heap bk (i := 0)
    have cp1 := cell_of_heap bk (i := 1)
    have cp2 := cell_of_heap bk (i := 2)
    have cp3 := cell_of_heap bk (i := 3)
    simp only [List.getElem?_toArray, List.getElem?_cons_succ, List.getElem?_cons_zero] at cp0 cp1 cp2 cp3
    clear bk
    obtain ⟨bk, -⟩ := HOe.blk
    have hbe := lt_of_block bk
    have fe0 := free_of_heap bk (i := 0)
    have fe1 := free_of_heap bk (i := 1)
    have fe2 := free_of_heap bk (i := 2)
    have fe3 := free_of_heap bk (i := 3)
    have fe4 := free_of_heap bk (i := 4)
    have ce0 := cell_of_heap bk (i := 0)
    have ce1 := cell_of_heap bk (i := 1)
    have ce2 := cell_of_heap bk (i := 2)
    have ce3 := cell_of_heap bk (i := 3)
    have ce4 := cell_of_heap bk (i := 4)
    simp only [List.getElem?_toArray, List.getElem?_cons_succ, List.getElem?_cons_zero] at ce0 ce1 ce2 ce3 ce4
    clear bk
    have H2 := Lib.hid h2
    clear ho1 ho2 HOe h2 HO0
    refine cw_step 0 (by decide +kernel) (by decide +kernel) (by decide +kernel) ?_; (refine cw_do rfl rfl rfl (by first | rfl | simp [okB, lenV, plainV, Act.eval]) (fun _ _ => ?_); go_wp2_with fail)
    refine cw_step 1 (by decide +kernel) (by decide +kernel) (by decide +kernel) ?_; (refine cw_do rfl rfl rfl (by first | rfl | simp [okB, lenV, plainV, Act.eval]) (fun _ _ => ?_); go_wp2_with fail)
    refine cw_step 2 (by decide +kernel) (by decide +kernel) (by decide +kernel) ?_; (refine cw_do rfl rfl rfl (by first | rfl | simp [okB, lenV, plainV, Act.eval]) (fun _ _ => ?_); go_wp2_with fail)
    refine cw_step 3 (by decide +kernel) (by decide +kernel) (by decide +kernel) ?_; (refine cw_do rfl rfl rfl (by first | rfl | simp [okB, lenV, plainV, Act.eval]) (fun _ _ => ?_); go_wp2_with fail)
    refine cw_step 5 (by decide +kernel) (by decide +kernel) (by decide +kernel) ?_; (refine cw_do rfl rfl rfl (by first | rfl | simp [okB, lenV, plainV, Act.eval]) (fun _ _ => ?_); go_wp2_with fail)
    refine cw_step 6 (by decide +kernel) (by decide +kernel) (by decide +kernel) ?_; (refine cw_do rfl rfl rfl (by first | rfl | simp [okB, lenV, plainV, Act.eval]) (fun _ _ => ?_); go_wp2_with fail)
    refine cw_step 7 (by decide +kernel) (by decide +kernel) (by decide +kernel) ?_; (refine cw_do rfl rfl rfl (by first | rfl | simp [okB, lenV, plainV, Act.eval]) (fun _ _ => ?_); go_wp2_with fail)
    repeat' (first | (refine cw_step 4 (by decide +kernel) (by decide +kernel) (by decide +kernel) ?_; (refine cw_do rfl rfl rfl (by first | rfl | simp [okB, lenV, plainV, Act.eval]) (fun _ _ => ?_); go_wp2_with fail)) | (refine cw_step 8 (by decide +kernel) (by decide +kernel) (by decide +kernel) ?_; (refine cw_do rfl rfl rfl (by first | rfl | simp [okB, lenV, plainV, Act.eval]) (fun _ _ => ?_); go_wp2_with fail)) | (refine cw_step 9 (by decide +kernel) (by decide +kernel) (by decide +kernel) ?_; (refine cw_do rfl rfl rfl (by first | rfl | simp [okB, lenV, plainV, Act.eval]) (fun _ _ => ?_); go_wp2_with fail)) | (refine cw_step 10 (by decide +kernel) (by decide +kernel) (by decide +kernel) ?_; (refine cw_do rfl rfl rfl (by first | rfl | simp [okB, lenV, plainV, Act.eval]) (fun _ _ => ?_); go_wp2_with fail)) | (refine cw_step 11 (by decide +kernel) (by decide +kernel) (by decide +kernel) ?_; (refine cw_do rfl rfl rfl (by first | rfl | simp [okB, lenV, plainV, Act.eval]) (fun _ _ => ?_); go_wp2_with fail)) | (refine cw_three 4 8 9 (by decide +kernel) ?_ ?_ ?_ <;> (refine cw_do rfl rfl rfl (by first | rfl | simp [okB, lenV, plainV, Act.eval]) (fun _ _ => ?_); go_wp2_with fail)) | (refine cw_two 4 8 (by decide +kernel) ?_ ?_ <;> (refine cw_do rfl rfl rfl (by first | rfl | simp [okB, lenV, plainV, Act.eval]) (fun _ _ => ?_); go_wp2_with fail)) | (refine cw_two 4 9 (by decide +kernel) ?_ ?_ <;> (refine cw_do rfl rfl rfl (by first | rfl | simp [okB, lenV, plainV, Act.eval]) (fun _ _ => ?_); go_wp2_with fail)) | (refine cw_two 8 9 (by decide +kernel) ?_ ?_ <;> (refine cw_do rfl rfl rfl (by first | rfl | simp [okB, lenV, plainV, Act.eval]) (fun _ _ => ?_); go_wp2_with fail)) | (refine cw_two 8 10 (by decide +kernel) ?_ ?_ <;> (refine cw_do rfl rfl rfl (by first | rfl | simp [okB, lenV, plainV, Act.eval]) (fun _ _ => ?_); go_wp2_with fail)) | (refine cw_two 4 10 (by decide +kernel) ?_ ?_ <;> (refine cw_do rfl rfl rfl (by first | rfl | simp [okB, lenV, plainV, Act.eval]) (fun _ _ => ?_); go_wp2_with fail)) | (refine cw_nil (by decide +kernel) ?_; repeat (first | go_values | go_skip | go_guarded | go_step | go_upon)))
    all_goals exact bodyPost_ret (parse_res rfl H2.out.blk.1) (by rfl) ⟨.slice none 0 0, by rw [HR.out]; rfl, by rw [HR.out]; exact .leaf _ _ _ _ _ _, H2.out.base⟩
end Go.Proofs.YtoeknmkephnekaaGreatDoor
