/-
  Texts of this claim, put together by a program: FmRParse, MsRForm, MsRParse, MsO, MsDom, MsRText, MeasureMatchesReferenceW, MeasureMatchesReference.
-/
import Derived.Test.YtoeknmkephnekaaGreatDoorPk5
import Derived.Deep.DeepCutAuto
import Derived.SizedLaws
import Derived.Test.YtoeknmkephnekaaGreatDoorRows
import Derived.ChangeSame
import Derived.ShutString
import Derived.ProofKit
import Derived.LaidLaws
import Derived.Stop.LaidErr
import Derived.Lib.LaidTab
import Derived.JoinedOf
import Derived.JoinedAt
import Derived.RowKit
import Derived.RowKit3
import Derived.RowKitTokens
import Derived.HandedFrom
import Derived.ChangeVars
import Derived.ChangeMaps5
import Derived.Lib.ItoaLen
import Derived.Test.YtoeknmkephnekaaGreatDoorTie
import Derived.Test.YtoeknmkephnekaaGreatDoorCards
import Derived.SevenTiedAt
import Derived.WalkKit
import Derived.OpenShut
import Derived.ChangeOld
import Derived.Below
set_option linter.unusedSimpArgs false
set_option linter.unusedVariables false
namespace Go.Proofs.YtoeknmkephnekaaGreatDoor
open Go.RowKit Go.Cz Go.Cz.Lx Go.Cz.Fo
attribute [local go_sem] bs_size bs_extract bs_append bs_toList
attribute [local irreducible] cList cPlan cWalk
theorem rparse_res {W : World} {tmps : Array Value} {g : Nat} {v0 v1 v2 v3 v4 : Value} (h4 : tmps.getD 2 undef = .pointer (some ⟨g, 0, none⟩)) (hb : W.heap[g]? = some (.cells #[v0, v1, v2, v3, v4] 24 (0, 0))) :
  (results Tryz.f96 tmps).run Tryz.prog W = .ok (.tuple #[.agg #[v0, v1, v2, v3, v4], tmps.getD 3 undef, tmps.getD 4 undef]) W := by
 have c0 : W.cell? ⟨g, 0, none⟩ = some v0 := by rw [cell_of_heap hb]; rfl
 have c1 : W.cell? ⟨g, 1, none⟩ = some v1 := by rw [cell_of_heap hb]; rfl
 have c2 : W.cell? ⟨g, 2, none⟩ = some v2 := by rw [cell_of_heap hb]; rfl
 have c3 : W.cell? ⟨g, 3, none⟩ = some v3 := by rw [cell_of_heap hb]; rfl
 have c4 : W.cell? ⟨g, 4, none⟩ = some v4 := by rw [cell_of_heap hb]; rfl
 have h4' : tmps[2]?.getD undef = .pointer (some ⟨g, 0, none⟩) := by simpa using h4
 simp [results, Tryz.results96, go_sem, h4', c0, c1, c2, c3, c4]
set_option maxRecDepth 100000 in
set_option maxHeartbeats 4000000 in
theorem rParse_c (l : Bytes) (w : World) (hl : l.length <= 140737488355328) : Calls Tryz.prog 96 #[.string (bs l)] w (ParsePost w l) := by
 have hll : (l.length : Int) <= 140737488355328 := by omega
 obtain ⟨W1, hW1⟩ : ∃ W1, W1 = w.alloc (.cells #[.int .i64 0, .string ⟨#[]⟩, .int .i64 0, .int .i64 0, .slice none 0 0] 24) := ⟨_, rfl⟩; obtain ⟨b2, hb2⟩ : ∃ b2, b2 = w.heap.size := ⟨_, rfl⟩; have HO0 : Hid (Owns w W1 [blk b2 fobj0]) := by
  rw [hW1, hb2]; exact Lib.hid ((Owns.start w).box fobj0)
 have HB2 : Hid (w.heap.size <= b2) := by rw [hb2]; exact Nat.le_refl _
 go_enter Tryz.func96, Tryz.ntmps96
 go_wp2_with fail
 rw [<- hW1, <- hb2]; clear hW1 hb2
 try go_at_call 56
 refine (rLex_c l W1 hl).mono ?_; rintro e W2 ⟨v, rfl, htk, hb⟩; replace HO0 := Lib.hid (HO0.out.below hb); have HW2 : Hid (w.heap.size <= W2.heap.size /\ b2 < W2.heap.size) := ⟨HO0.out.base.size, lt_of_block HO0.out.blk.1⟩; have HTk : Hid (TokL W2 v (lexAll l).1) := Lib.hid (TokL.of htk); clear htk hb; obtain ⟨ts, hts⟩ : ∃ ts, ts = (lexAll l).1 := ⟨_, rfl⟩; obtain ⟨ec, hec⟩ : ∃ ec, ec = (lexAll l).2.1 := ⟨_, rfl⟩; obtain ⟨ep, hep⟩ : ∃ ep, ep = (lexAll l).2.2 := ⟨_, rfl⟩; have HTs := Lib.hid hts; have HEc := Lib.hid hec; have HEp := Lib.hid hep; rw [<- hts] at HTk; rw [<- hec, <- hep]; clear hts hec hep; by_cases h0 : ec = 0
 case neg =>
  have h0' : ((ec : Int) != 0) = true := by simpa using h0
  have HR : Hid (parseF l = (zeroF, ec, ep)) := by
   show _ = _; unfold parseF; rw [if_pos (by rw [<- HEc.out]; exact h0), <- HEc.out, <- HEp.out]
  clear h0; have HO := HO0; simp only [fobj0] at HO; obtain ⟨hbe, ⟨fe0, fe1, fe2, fe3, fe4⟩, ce0, ce1, ce2, ce3, ce4⟩ := bx5 HO.out.blk; repeat (first | go_values | go_skip | go_guarded | go_step | go_upon | (simp only [Int.not_lt, Int.not_le] at *; go_simp))
  have h2 := set5_owns HO0.out (.int .i64 0) (.string ⟨#[]⟩) (.int .i64 0) (.int .i64 0) (.slice none 0 0); refine bodyPost_ret (rparse_res rfl h2.blk.1) (by rfl) ⟨.slice none 0 0, ?_, ?_, h2.base⟩
  ·rw [HR.out]; rfl
  ·rw [HR.out]; exact .leaf _ _ _ _ _ _
 have h0' : ((ec : Int) != 0) = false := by simpa using h0
 replace h0 : Hid ((lexAll l).2.1 = 0) := by rw [<- HEc.out]; exact Lib.hid h0
 obtain ⟨y, m, rfl⟩ := HTk.out.form; obtain ⟨N, hN⟩ : ∃ N, N = ts.length := ⟨_, rfl⟩; have HN := Lib.hid hN; have hN5 : N <= 5000 := by rw [hN, HTs.out]; exact lexAll_len l
 rw [<- hN] at HTk ⊢; have HNm : Hid (NameOk ts) := by rw [HTs.out]; exact Lib.hid (lexAll_names l)
 obtain ⟨W3, hW3⟩ : ∃ W3, W3 = W2.alloc (.cells #[.slice y N m, .int .i64 0, .int .i64 (l.length : Int), .int .i64 0, .int .i64 0] 150) := ⟨_, rfl⟩; obtain ⟨bp, hbp⟩ : ∃ bp, bp = W2.heap.size := ⟨_, rfl⟩; have HO : Hid (Owns W2 W3 [rdP W2 bp (l.length : Int) ts (.slice y N m) (.ok ts)]) := by
  rw [hW3, hbp]; exact Lib.hid (Owns.asRd (v := .slice y N m) (i := 0) ((Owns.start W2).box _) trivial HTk.out (Nat.zero_le _) (fun ts' h => by cases h; rfl))
 clear hN; go_wp2_with fail
 rw [<- hW3, <- hbp]; clear hW3 hbp h0'
 try go_at_call 124
 refine ((rformN_c (w0 := W2) (bp := bp) (fin := (l.length : Int)) (all := ts) (v := .slice y N m) N (by omega) (by have := HN.out; omega) HNm.out) [] (.ok ts) W3 (by rw [HN.out]; exact Nat.le_refl _) HO.out).mono ?_; rintro e W4 ⟨f, kv, s, rfl, hd, ho⟩; have HD := Lib.hid hd; have HE : Hid (parseF l = endF f s) := by
  have h := parse_end (l := l) (f := f) (s := s) h0.out; rw [<- HTs.out, <- HN.out] at h; exact h hd
 obtain ⟨y2, m2, rfl⟩ := ho.fm.form; obtain ⟨N2, hN2⟩ : ∃ N2, N2 = f.kids.length := ⟨_, rfl⟩; have HF := ho.fm; rw [<- hN2] at ho HF ⊢; obtain ⟨W5, hW5⟩ : ∃ W5, W5 = W4.alloc (.cells #[.int .i64 f.op, .string (bs f.name), .int .i64 f.cmp, .int .i64 f.num, .slice y2 N2 m2] 24) := ⟨_, rfl⟩; obtain ⟨b9, hb9⟩ : ∃ b9, b9 = W4.heap.size := ⟨_, rfl⟩; replace HO : Hid (Owns W2 W5 [rdP W2 bp (l.length : Int) ts (.slice y N m) s, blk b9 (fobj f (.slice y2 N2 m2)), fmP f (.slice y2 N2 m2)]) := by
  rw [hW5, hb9]; exact Lib.hid ((ho.box (fobj f (.slice y2 N2 m2))).re [2, 0, 1])
 clear ho hd hN2 HF; subst hW5 hb9; rcases s with x | (_ | ⟨t, r⟩)
 ·have HR : Hid (parseF l = (zeroF, x.1, x.2)) := HE.out; obtain ⟨hf, hv, i, hi, hd, hp⟩ := HO.out.rd; have hiN : i <= N := by rw [HN.out]; exact hi
  by_cases hlt : i < N
  ·obtain ⟨t, ht⟩ : ∃ t, ts[i]? = some t := ⟨_, List.getElem?_eq_getElem (by rw [<- HN.out]; exact hlt)⟩; obtain ⟨g, off, rfl, hNm, hg, c0, c1, c2, c3⟩ := hv.get (j := i) HO.out.base ht; simp only [rdobj] at hp
   focus
    obtain ⟨hbp, -, cp0, cp1, cp2, cp3, cp4⟩ := bx5 hp.blk; clear hf hv hp hi hd ht; go_wp2_with fail
    clear hbp cp0 cp1 cp2 cp3 cp4 c0 c1 c2 c3 hg hNm
   try go_at_call 125
   refine (rfail_c (w0 := W2) (bp := bp) (fin := (l.length : Int)) (all := ts) (v := .slice (some ⟨g, off, none⟩) N m) [blk W4.heap.size (fobj f (.slice y2 N2 m2)), fmP f (.slice y2 N2 m2)] (.error x) 5 t.pos (by omega) (by omega) _ HO.out).mono ?_; clear HO hlt hiN; rintro e W7 ⟨rfl, ho⟩; have HO : Hid (Owns W2 W7 [rdP W2 bp (l.length : Int) ts (.slice (some ⟨g, off, none⟩) N m) (.error x), blk W4.heap.size (fobj f (.slice y2 N2 m2)), fmP f (.slice y2 N2 m2)]) := Lib.hid ho; clear ho; obtain ⟨hf, hv, i, hi, hd, hp⟩ := HO.out.rd; have hx : ¬ (x).1 = 0 := hf; obtain ⟨c, hc⟩ : ∃ c, c = (x).1 := ⟨_, rfl⟩; obtain ⟨ax, hax⟩ : ∃ ax, ax = (x).2 := ⟨_, rfl⟩; simp only [rdobj, code, pos] at hp; replace HR : Hid (parseF l = (zeroF, c, ax)) := by rw [hc, hax]; exact HR
   rw [<- hc, <- hax] at hp; have hx2 : ((c : Int) != 0) = true := by simp; omega
   focus
    obtain ⟨hbp, -, cp0, cp1, cp2, cp3, cp4⟩ := bx5 hp.blk; clear hf hv hx hc hax hi hd; go_wp2_with fail
    clear hbp cp0 cp1 cp2 cp3 cp4
   clear hx2; refine wp_region_walk [] 12 rfl (by decide +kernel) ?_; have ho1 := hp.drew; have ho2 := (HO0.out.below HO.out.base).drew; generalize hWd : World.drew _ = Wd at ho1 ho2 ⊢; clear hWd hp HO; have nb : b2 ≠ bp := by
    have := ho1.blk.2; have := HW2.out.2; omega
   have nb' := nb.symm; have h2 := set5_owns ho2 (.int .i64 0) (.string ⟨#[]⟩) (.int .i64 0) (.int .i64 0) (.slice none 0 0); have HOe := ho2; simp only [fobj0] at HOe; obtain ⟨hbp, -, cp0, cp1, cp2, cp3, cp4⟩ := bx5 ho1.blk; obtain ⟨hbe, ⟨fe0, fe1, fe2, fe3, fe4⟩, ce0, ce1, ce2, ce3, ce4⟩ := bx5 HOe.blk; have H2 := Lib.hid h2; clear ho1 ho2 HOe h2 HO0; refine cw_stepA 0 ?_; (refine cw_doA rfl rfl rfl (fun _ _ => ?_); go_wp2_with fail); refine cw_stepA 1 ?_; (refine cw_doA rfl rfl rfl (fun _ _ => ?_); go_wp2_with fail); refine cw_stepA 2 ?_; (refine cw_doA rfl rfl rfl (fun _ _ => ?_); go_wp2_with fail); refine cw_stepA 3 ?_; (refine cw_doA rfl rfl rfl (fun _ _ => ?_); go_wp2_with fail); refine cw_stepA 5 ?_; (refine cw_doA rfl rfl rfl (fun _ _ => ?_); go_wp2_with fail); refine cw_stepA 6 ?_; (refine cw_doA rfl rfl rfl (fun _ _ => ?_); go_wp2_with fail); refine cw_stepA 7 ?_; (refine cw_doA rfl rfl rfl (fun _ _ => ?_); go_wp2_with fail); repeat' (first | (refine cw_stepA 4 ?_; (refine cw_doA rfl rfl rfl (fun _ _ => ?_); go_wp2_with fail)) | (refine cw_stepA 8 ?_; (refine cw_doA rfl rfl rfl (fun _ _ => ?_); go_wp2_with fail)) | (refine cw_stepA 9 ?_; (refine cw_doA rfl rfl rfl (fun _ _ => ?_); go_wp2_with fail)) | (refine cw_stepA 10 ?_; (refine cw_doA rfl rfl rfl (fun _ _ => ?_); go_wp2_with fail)) | (refine cw_stepA 11 ?_; (refine cw_doA rfl rfl rfl (fun _ _ => ?_); go_wp2_with fail)) | (refine cw_three 4 8 9 (by decide +kernel) ?_ ?_ ?_ <;> (refine cw_doA rfl rfl rfl (fun _ _ => ?_); go_wp2_with fail)) | (refine cw_two 4 8 (by decide +kernel) ?_ ?_ <;> (refine cw_doA rfl rfl rfl (fun _ _ => ?_); go_wp2_with fail)) | (refine cw_two 4 9 (by decide +kernel) ?_ ?_ <;> (refine cw_doA rfl rfl rfl (fun _ _ => ?_); go_wp2_with fail)) | (refine cw_two 8 9 (by decide +kernel) ?_ ?_ <;> (refine cw_doA rfl rfl rfl (fun _ _ => ?_); go_wp2_with fail)) | (refine cw_two 8 10 (by decide +kernel) ?_ ?_ <;> (refine cw_doA rfl rfl rfl (fun _ _ => ?_); go_wp2_with fail)) | (refine cw_two 4 10 (by decide +kernel) ?_ ?_ <;> (refine cw_doA rfl rfl rfl (fun _ _ => ?_); go_wp2_with fail)) | (refine cw_nil (by decide +kernel) ?_; repeat (first | go_values | go_skip | go_guarded | go_step | go_upon)))
   all_goals exact bodyPost_ret (rparse_res rfl H2.out.blk.1) (by rfl) ⟨.slice none 0 0, by rw [HR.out]; rfl, by rw [HR.out]; exact .leaf _ _ _ _ _ _, H2.out.base⟩
  ·have hx : ¬ (x).1 = 0 := hf; obtain ⟨c, hc⟩ : ∃ c, c = (x).1 := ⟨_, rfl⟩; obtain ⟨ax, hax⟩ : ∃ ax, ax = (x).2 := ⟨_, rfl⟩; simp only [rdobj, code, pos] at hp; replace HR : Hid (parseF l = (zeroF, c, ax)) := by rw [hc, hax]; exact HR
   rw [<- hc, <- hax] at hp; have hx2 : ((c : Int) != 0) = true := by simp; omega
   focus
    obtain ⟨hbp, -, cp0, cp1, cp2, cp3, cp4⟩ := bx5 hp.blk; clear hf hv hx hc hax hi hd; go_wp2_with fail
    clear hbp cp0 cp1 cp2 cp3 cp4
   clear hx2; refine wp_region_walk [] 12 rfl (by decide +kernel) ?_; have ho1 := hp.drew; have ho2 := (HO0.out.below HO.out.base).drew; generalize hWd : World.drew _ = Wd at ho1 ho2 ⊢; clear hWd hp HO; have nb : b2 ≠ bp := by
    have := ho1.blk.2; have := HW2.out.2; omega
   have nb' := nb.symm; have h2 := set5_owns ho2 (.int .i64 0) (.string ⟨#[]⟩) (.int .i64 0) (.int .i64 0) (.slice none 0 0); have HOe := ho2; simp only [fobj0] at HOe; obtain ⟨hbp, -, cp0, cp1, cp2, cp3, cp4⟩ := bx5 ho1.blk; obtain ⟨hbe, ⟨fe0, fe1, fe2, fe3, fe4⟩, ce0, ce1, ce2, ce3, ce4⟩ := bx5 HOe.blk; have H2 := Lib.hid h2; clear ho1 ho2 HOe h2 HO0; refine cw_stepA 0 ?_; (refine cw_doA rfl rfl rfl (fun _ _ => ?_); go_wp2_with fail); refine cw_stepA 1 ?_; (refine cw_doA rfl rfl rfl (fun _ _ => ?_); go_wp2_with fail); refine cw_stepA 2 ?_; (refine cw_doA rfl rfl rfl (fun _ _ => ?_); go_wp2_with fail); refine cw_stepA 3 ?_; (refine cw_doA rfl rfl rfl (fun _ _ => ?_); go_wp2_with fail); refine cw_stepA 5 ?_; (refine cw_doA rfl rfl rfl (fun _ _ => ?_); go_wp2_with fail); refine cw_stepA 6 ?_; (refine cw_doA rfl rfl rfl (fun _ _ => ?_); go_wp2_with fail); refine cw_stepA 7 ?_; (refine cw_doA rfl rfl rfl (fun _ _ => ?_); go_wp2_with fail); repeat' (first | (refine cw_stepA 4 ?_; (refine cw_doA rfl rfl rfl (fun _ _ => ?_); go_wp2_with fail)) | (refine cw_stepA 8 ?_; (refine cw_doA rfl rfl rfl (fun _ _ => ?_); go_wp2_with fail)) | (refine cw_stepA 9 ?_; (refine cw_doA rfl rfl rfl (fun _ _ => ?_); go_wp2_with fail)) | (refine cw_stepA 10 ?_; (refine cw_doA rfl rfl rfl (fun _ _ => ?_); go_wp2_with fail)) | (refine cw_stepA 11 ?_; (refine cw_doA rfl rfl rfl (fun _ _ => ?_); go_wp2_with fail)) | (refine cw_three 4 8 9 (by decide +kernel) ?_ ?_ ?_ <;> (refine cw_doA rfl rfl rfl (fun _ _ => ?_); go_wp2_with fail)) | (refine cw_two 4 8 (by decide +kernel) ?_ ?_ <;> (refine cw_doA rfl rfl rfl (fun _ _ => ?_); go_wp2_with fail)) | (refine cw_two 4 9 (by decide +kernel) ?_ ?_ <;> (refine cw_doA rfl rfl rfl (fun _ _ => ?_); go_wp2_with fail)) | (refine cw_two 8 9 (by decide +kernel) ?_ ?_ <;> (refine cw_doA rfl rfl rfl (fun _ _ => ?_); go_wp2_with fail)) | (refine cw_two 8 10 (by decide +kernel) ?_ ?_ <;> (refine cw_doA rfl rfl rfl (fun _ _ => ?_); go_wp2_with fail)) | (refine cw_two 4 10 (by decide +kernel) ?_ ?_ <;> (refine cw_doA rfl rfl rfl (fun _ _ => ?_); go_wp2_with fail)) | (refine cw_nil (by decide +kernel) ?_; repeat (first | go_values | go_skip | go_guarded | go_step | go_upon)))
   all_goals exact bodyPost_ret (rparse_res rfl H2.out.blk.1) (by rfl) ⟨.slice none 0 0, by rw [HR.out]; rfl, by rw [HR.out]; exact .leaf _ _ _ _ _ _, H2.out.base⟩
 ·have HR : Hid (parseF l = if largeB f = true then (zeroF, 2, -1) else (f, 0, 0)) := HE.out; have HZ : Hid (size f <= 900000) := by
   obtain ⟨-, -, h3⟩ := HD.out; simp only at h3; cases hp : eitherF (l.length : Int) (N + 1) ts with
   | error e => rw [hp] at h3; cases h3
   | ok z =>
    obtain ⟨g, r⟩ := z; rw [hp] at h3; obtain ⟨rfl, -⟩ := h3; have h4 := either_sized _ _ _ _ hp; have h5 := HN.out; show _ <= _; omega
  obtain ⟨hf, hv, i, hi, hd, hp⟩ := HO.out.rd; obtain rfl : N = i := by rw [HN.out]; exact (drop_nil (hd [] rfl) hi).symm
  simp only [rdobj, code, pos] at hp
  focus
   obtain ⟨hbp, -, cp0, cp1, cp2, cp3, cp4⟩ := bx5 hp.blk; clear hf hv hp hi hd; obtain ⟨hbv, ⟨fv0, fv1, fv2, fv3, fv4⟩, cv0, cv1, cv2, cv3, cv4⟩ := bx5 HO.out.swap.blk; go_wp2_with fail
   clear hbp cp0 cp1 cp2 cp3 cp4 hbv fv0 fv1 fv2 fv3 fv4 cv0 cv1 cv2 cv3 cv4
  try go_at_call 87
  refine (rLarge_c f _ _ (HO.out.pop.pop.fm) HZ.out).mono ?_; rintro e W6 ⟨rfl, hb⟩; replace HO := Lib.hid (HO.out.below hb); obtain ⟨L, hL⟩ : ∃ L, L = largeB f := ⟨_, rfl⟩; rw [<- hL] at HR ⊢; clear hL hb; cases L
  ·replace HR : Hid (parseF l = (f, 0, 0)) := HR.out; have HOv := Lib.hid (HO0.out.below HO.out.base); have HO5 := Lib.hid (HO0.out.below HO.out.base); simp only [fobj0] at HOv; obtain ⟨hbv, ⟨fv0, fv1, fv2, fv3, fv4⟩, cv0, cv1, cv2, cv3, cv4⟩ := bx5 HO.out.swap.blk; obtain ⟨hbe, ⟨fe0, fe1, fe2, fe3, fe4⟩, ce0, ce1, ce2, ce3, ce4⟩ := bx5 HOv.out.blk; repeat (first | go_values | go_skip | go_guarded | go_step | go_upon | (simp only [Int.not_lt, Int.not_le] at *; go_simp))
   have h2 := set5_owns HO5.out (.int .i64 f.op) (.string (bs f.name)) (.int .i64 f.cmp) (.int .i64 f.num) (.slice y2 N2 m2); have hF := (set5_fm (v0 := .int .i64 f.op) (v1 := .string (bs f.name)) (v2 := .int .i64 f.cmp) (v3 := .int .i64 f.num) (v4 := .slice y2 N2 m2) HO.out.pop.pop.fm HW2.out.2).mono (q := fun g => w.heap.size <= g) fun g hg _ => Nat.le_trans HW2.out.1 hg; exact bodyPost_ret (rparse_res rfl h2.blk.1) (by rfl) ⟨.slice y2 N2 m2, by rw [HR.out]; rfl, by rw [HR.out]; exact hF, h2.base⟩
  ·replace HR : Hid (parseF l = (zeroF, 2, -1)) := HR.out; have HOv := Lib.hid (HO0.out.below HO.out.base); have HO5 := Lib.hid (HO0.out.below HO.out.base); simp only [fobj0] at HOv; obtain ⟨hbe, ⟨fe0, fe1, fe2, fe3, fe4⟩, ce0, ce1, ce2, ce3, ce4⟩ := bx5 HOv.out.blk; repeat (first | go_values | go_skip | go_guarded | go_step | go_upon | (simp only [Int.not_lt, Int.not_le] at *; go_simp))
   have h2 := set5_owns HO5.out (.int .i64 0) (.string ⟨#[]⟩) (.int .i64 0) (.int .i64 0) (.slice none 0 0); exact bodyPost_ret (rparse_res rfl h2.blk.1) (by rfl) ⟨.slice none 0 0, by rw [HR.out]; rfl, by rw [HR.out]; exact .leaf _ _ _ _ _ _, h2.base⟩
 ·have HR : Hid (parseF l = (zeroF, 5, (t.pos : Int))) := HE.out; obtain ⟨hf, hv, i, hi, hd, hp⟩ := HO.out.rd; obtain ⟨hlt, ht, -⟩ := drop_cons (hd _ rfl); rw [<- HN.out] at hlt; obtain ⟨g, off, rfl, hNm, hg, c0, c1, c2, c3⟩ := hv.get (j := i) HO.out.base ht; simp only [rdobj, code, pos] at hp
  focus
   obtain ⟨hbp, -, cp0, cp1, cp2, cp3, cp4⟩ := bx5 hp.blk; clear hf hv hp hi hd ht; go_wp2_with fail
   clear hbp cp0 cp1 cp2 cp3 cp4 c0 c1 c2 c3 hg hNm
  try go_at_call 125
  refine (rfail_c (w0 := W2) (bp := bp) (fin := (l.length : Int)) (all := ts) (v := .slice (some ⟨g, off, none⟩) N m) [blk W4.heap.size (fobj f (.slice y2 N2 m2)), fmP f (.slice y2 N2 m2)] (.ok (t :: r)) 5 t.pos (by omega) (by omega) _ HO.out).mono ?_; clear HO hlt; rintro e W7 ⟨rfl, ho⟩; have HO : Hid (Owns W2 W7 [rdP W2 bp (l.length : Int) ts (.slice (some ⟨g, off, none⟩) N m) (.error (5, (t.pos : Int))), blk W4.heap.size (fobj f (.slice y2 N2 m2)), fmP f (.slice y2 N2 m2)]) := Lib.hid ho; obtain ⟨x, hx0⟩ : ∃ x : Nat × Int, x = (5, (t.pos : Int)) := ⟨_, rfl⟩; rw [<- hx0] at HO; replace HR : Hid (parseF l = (zeroF, x.1, x.2)) := by rw [hx0]; exact HR
  clear ho hx0; obtain ⟨hf, hv, i, hi, hd, hp⟩ := HO.out.rd; have hx : ¬ (x).1 = 0 := hf; obtain ⟨c, hc⟩ : ∃ c, c = (x).1 := ⟨_, rfl⟩; obtain ⟨ax, hax⟩ : ∃ ax, ax = (x).2 := ⟨_, rfl⟩; simp only [rdobj, code, pos] at hp; replace HR : Hid (parseF l = (zeroF, c, ax)) := by rw [hc, hax]; exact HR
  rw [<- hc, <- hax] at hp; have hx2 : ((c : Int) != 0) = true := by simp; omega
  focus
   obtain ⟨hbp, -, cp0, cp1, cp2, cp3, cp4⟩ := bx5 hp.blk; clear hf hv hx hc hax hi hd; go_wp2_with fail
   clear hbp cp0 cp1 cp2 cp3 cp4
  clear hx2; refine wp_region_walk [] 12 rfl (by decide +kernel) ?_; have ho1 := hp.drew; have ho2 := (HO0.out.below HO.out.base).drew; generalize hWd : World.drew _ = Wd at ho1 ho2 ⊢; clear hWd hp HO; have nb : b2 ≠ bp := by
   have := ho1.blk.2; have := HW2.out.2; omega
  have nb' := nb.symm; have h2 := set5_owns ho2 (.int .i64 0) (.string ⟨#[]⟩) (.int .i64 0) (.int .i64 0) (.slice none 0 0); have HOe := ho2; simp only [fobj0] at HOe; obtain ⟨hbp, -, cp0, cp1, cp2, cp3, cp4⟩ := bx5 ho1.blk; obtain ⟨hbe, ⟨fe0, fe1, fe2, fe3, fe4⟩, ce0, ce1, ce2, ce3, ce4⟩ := bx5 HOe.blk; have H2 := Lib.hid h2; clear ho1 ho2 HOe h2 HO0; refine cw_stepA 0 ?_; (refine cw_doA rfl rfl rfl (fun _ _ => ?_); go_wp2_with fail); refine cw_stepA 1 ?_; (refine cw_doA rfl rfl rfl (fun _ _ => ?_); go_wp2_with fail); refine cw_stepA 2 ?_; (refine cw_doA rfl rfl rfl (fun _ _ => ?_); go_wp2_with fail); refine cw_stepA 3 ?_; (refine cw_doA rfl rfl rfl (fun _ _ => ?_); go_wp2_with fail); refine cw_stepA 5 ?_; (refine cw_doA rfl rfl rfl (fun _ _ => ?_); go_wp2_with fail); refine cw_stepA 6 ?_; (refine cw_doA rfl rfl rfl (fun _ _ => ?_); go_wp2_with fail); refine cw_stepA 7 ?_; (refine cw_doA rfl rfl rfl (fun _ _ => ?_); go_wp2_with fail); repeat' (first | (refine cw_stepA 4 ?_; (refine cw_doA rfl rfl rfl (fun _ _ => ?_); go_wp2_with fail)) | (refine cw_stepA 8 ?_; (refine cw_doA rfl rfl rfl (fun _ _ => ?_); go_wp2_with fail)) | (refine cw_stepA 9 ?_; (refine cw_doA rfl rfl rfl (fun _ _ => ?_); go_wp2_with fail)) | (refine cw_stepA 10 ?_; (refine cw_doA rfl rfl rfl (fun _ _ => ?_); go_wp2_with fail)) | (refine cw_stepA 11 ?_; (refine cw_doA rfl rfl rfl (fun _ _ => ?_); go_wp2_with fail)) | (refine cw_three 4 8 9 (by decide +kernel) ?_ ?_ ?_ <;> (refine cw_doA rfl rfl rfl (fun _ _ => ?_); go_wp2_with fail)) | (refine cw_two 4 8 (by decide +kernel) ?_ ?_ <;> (refine cw_doA rfl rfl rfl (fun _ _ => ?_); go_wp2_with fail)) | (refine cw_two 4 9 (by decide +kernel) ?_ ?_ <;> (refine cw_doA rfl rfl rfl (fun _ _ => ?_); go_wp2_with fail)) | (refine cw_two 8 9 (by decide +kernel) ?_ ?_ <;> (refine cw_doA rfl rfl rfl (fun _ _ => ?_); go_wp2_with fail)) | (refine cw_two 8 10 (by decide +kernel) ?_ ?_ <;> (refine cw_doA rfl rfl rfl (fun _ _ => ?_); go_wp2_with fail)) | (refine cw_two 4 10 (by decide +kernel) ?_ ?_ <;> (refine cw_doA rfl rfl rfl (fun _ _ => ?_); go_wp2_with fail)) | (refine cw_nil (by decide +kernel) ?_; repeat (first | go_values | go_skip | go_guarded | go_step | go_upon)))
  all_goals exact bodyPost_ret (rparse_res rfl H2.out.blk.1) (by rfl) ⟨.slice none 0 0, by rw [HR.out]; rfl, by rw [HR.out]; exact .leaf _ _ _ _ _ _, H2.out.base⟩
end Go.Proofs.YtoeknmkephnekaaGreatDoor
namespace Go.Proofs.YtoeknmkephnekaaGreatDoor
open Go.RowKit Go.Cz Go.Cz.Lx Go.Cz.Fo Go.Cz.Vd
attribute [local go_sem] bs_size bs_extract bs_append bs_toList
attribute [local irreducible] cList cPlan
section
variable {w0 W0 : World} {bp : Nat} {l : Bytes} {all : List Lx.Tok} {v : Value}
set_option maxRecDepth 100000 in
set_option maxHeartbeats 4000000 in
theorem term30_c (ps : List Piece) (s : PSt) (k : Nat) (w : World) (hW : Below W0.heap.size W0 w) (h : Owns w0 w (r3P W0 bp l all v s :: ps)) (hN9 : all.length <= 1000000) (hk : k < all.length) :
  Calls Tryz.prog 95 #[.pointer (some ⟨bp, 0, none⟩), .int .i64 (k : Int)] w fun x w' => x = .returned (.bool (termB (all.drop k))) /\ Owns w0 w' (r3P W0 bp l all v s :: ps) := by
 obtain ⟨hf, hv, i, -, -, h1⟩ := h.r3; have HP := Lib.hid h; have HW := Lib.hid hW; clear h hW; obtain ⟨y, m, rfl⟩ := hv.form; obtain ⟨N, hN⟩ : ∃ N, N = all.length := ⟨_, rfl⟩; rw [<- hN] at h1 hv hN9 hk HP; simp only [<- hN]; obtain ⟨t, ht⟩ : ∃ t, all[k]? = some t := ⟨_, List.getElem?_eq_getElem (by rw [<- hN]; exact hk)⟩; obtain ⟨g, off, rfl, hNm, hg, c0, c1, c2, c3⟩ := hv.get HW.out ht; have HA := Lib.hid (term_at ht); have HO := Lib.hid h1; have HV := Lib.hid hv; have HN := Lib.hid hN; clear hv hN ht h1; simp only [r3obj] at HO; obtain ⟨hbp, ⟨fp0, fp1, fp2, fp3, fp4⟩, cp0, cp1, cp2, cp3, cp4⟩ := bx5 HO.out.blk; by_cases h3 : k + 1 < N
 rotate_left
 ·have h3c : Hid (all[k + 1]? = none) := Lib.hid (List.getElem?_eq_none (by rw [<- HN.out]; omega)); have h3' : ¬ (k : Int) + 1 < (N : Int) := by omega
  clear h3; have HE : Hid (termB (all.drop k) = false) := by show _ = _; rw [HA.out, h3c.out]; simp
  go_enter Tryz.func95, Tryz.ntmps95
  go_wp2_with fail
  go_ret
  rw [HE.out]; exact ⟨rfl, HP.out⟩
 obtain ⟨u, hu⟩ : ∃ u, all[k + 1]? = some u := ⟨_, List.getElem?_eq_getElem (by rw [<- HN.out]; exact h3)⟩; obtain ⟨g', off', e, -, -, d0, -⟩ := HV.out.get HW.out hu; cases e
 have h3' : (k : Int) + 1 < (N : Int) := by omega
 have h3c := Lib.hid hu; clear h3 hu; by_cases h1 : t.kind = 1
 rotate_left
 ·have h1' : ((t.kind : Int) == 1) = false := by simp; omega
  have h1c := Lib.hid (decide_eq_false h1); clear h1; have HE : Hid (termB (all.drop k) = false) := by show _ = _; rw [HA.out, h1c.out]; simp
  go_enter Tryz.func95, Tryz.ntmps95
  go_wp2_with fail
  go_ret
  rw [HE.out]; exact ⟨rfl, HP.out⟩
 have h1' : ((t.kind : Int) == 1) = true := by simp; omega
 have h1c := Lib.hid (decide_eq_true h1); clear h1; by_cases h2 : t.text = wFrom
 rotate_left
 ·have h2' : (t.text == [102, 114, 111, 109]) = false := by simpa [wFrom] using h2
  have h2c := Lib.hid (decide_eq_false h2); clear h2; have HE : Hid (termB (all.drop k) = false) := by show _ = _; rw [HA.out, h1c.out, h2c.out]; simp
  go_enter Tryz.func95, Tryz.ntmps95
  go_wp2_with fail
  go_ret
  rw [HE.out]; exact ⟨rfl, HP.out⟩
 have h2' : (t.text == [102, 114, 111, 109]) = true := by simpa [wFrom] using h2
 have h2c := Lib.hid (decide_eq_true h2); clear h2; obtain ⟨k1, hk1⟩ : ∃ n : Nat, n = k + 1 := ⟨_, rfl⟩; have HE : Hid (termB (all.drop k) = ((u.kind : Int) == 2)) := by
  show _ = _; rw [HA.out, h1c.out, h2c.out, h3c.out]; by_cases h4 : u.kind = 2
  ·simp [h4]
  ·have : ¬ ((u.kind : Int) = 2) := by omega
   simp [h4, this]
 go_enter Tryz.func95, Tryz.ntmps95
 go_wp2_with fail
 go_ret
 rw [HE.out]; exact ⟨rfl, HP.out⟩
theorem r3at {w0 w W : World} {ps : List Piece} {bp k : Nat} {l : Bytes} {v : Value} {all : List Lx.Tok} (h : Owns w0 w (r3P W bp l all v (.ok (all.drop k)) :: ps)) (hk : k <= all.length) : Owns w0 w (blk bp (r3obj l v k (.ok [])) :: ps) := by
 obtain ⟨-, -, i, hi2, hd2, h1⟩ := h.r3; have e1 := hd2 _ rfl; have e2 : i = k := by
  have h2 := congrArg List.length e1; rw [List.length_drop, List.length_drop] at h2; omega
 subst e2; exact h1
theorem form30_res {W : World} {tmps : Array Value} {g : Nat} {v0 v1 v2 v3 v4 : Value} (h4 : tmps.getD 4 undef = .pointer (some ⟨g, 0, none⟩)) (hb : W.heap[g]? = some (.cells #[v0, v1, v2, v3, v4] 24 (0, 0))) :
  (results Tryz.f60 tmps).run Tryz.prog W = .ok (.agg #[v0, v1, v2, v3, v4]) W := by
 have c0 : W.cell? ⟨g, 0, none⟩ = some v0 := by rw [cell_of_heap hb]; rfl
 have c1 : W.cell? ⟨g, 1, none⟩ = some v1 := by rw [cell_of_heap hb]; rfl
 have c2 : W.cell? ⟨g, 2, none⟩ = some v2 := by rw [cell_of_heap hb]; rfl
 have c3 : W.cell? ⟨g, 3, none⟩ = some v3 := by rw [cell_of_heap hb]; rfl
 have c4 : W.cell? ⟨g, 4, none⟩ = some v4 := by rw [cell_of_heap hb]; rfl
 have h4' : tmps[4]?.getD undef = .pointer (some ⟨g, 0, none⟩) := by simpa using h4
 simp [results, Tryz.results60, go_sem, h4', c0, c1, c2, c3, c4]
set_option maxRecDepth 100000 in
set_option maxHeartbeats 4000000 in
theorem formula30_c (ps : List Piece) (ts : List Lx.Tok) (begin : Nat) (w : World) (h : Owns w0 w (r3P w0 bp l all v (.ok ts) :: ps)) (hl : l.length <= 20000) (hN9 : all.length <= 1000000) (hbe : begin <= endM l (ts.drop (fromM ts))) (hel : endM l (ts.drop (fromM ts)) <= l.length) :
  Calls Tryz.prog 60 #[.pointer (some ⟨bp, 0, none⟩), .int .i64 (begin : Int)] w fun x w' => ∃ kv, x = .returned (fval (condR l begin ts).1 kv) /\ Owns w0 w' (fmP (condR l begin ts).1 kv :: r3P w0 bp l all v (condR l begin ts).2 :: ps) := by
 have HP := Lib.hid h; have HBE := Lib.hid hbe; have HEL := Lib.hid hel; have HT := Lib.hid fun ps s k w => term30_c (w0 := w0) (W0 := w0) (bp := bp) (l := l) (all := all) (v := v) ps s k w; obtain ⟨-, hv, i0, hi, hd, -⟩ := h.r3; have hts := hd ts rfl; obtain ⟨y, m, rfl⟩ := hv.form; have HV := Lib.hid hv; clear hbe hel h hv hd; obtain ⟨N, hN⟩ : ∃ N, N = all.length := ⟨_, rfl⟩; have HN := Lib.hid hN; rw [<- hN] at hN9 hi HP HV HT; simp only [<- hN]; clear hN; obtain ⟨b4, hb4⟩ : ∃ b, b = w.heap.size := ⟨_, rfl⟩; obtain ⟨W1, hW1⟩ : ∃ W1, W1 = w.alloc (.cells #[.int .i64 0, .string ⟨#[]⟩, .int .i64 0, .int .i64 0, .slice none 0 0] 24) := ⟨_, rfl⟩; have HO : Hid (Owns w0 W1 (r3P w0 bp l all (.slice y N m) (.ok ts) :: blk b4 fobj0 :: ps)) := by
  rw [hW1, hb4]; exact Lib.hid (HP.out.box fobj0).swap
 go_enter Tryz.func60, Tryz.ntmps60
 go_wp2_with fail
 rw [<- hW1, <- hb4]; clear hW1 hb4 HP; have HTs := Lib.hid hts; clear hts; have H0 : Hid (i0 + fromM ts = i0 + fromM (all.drop i0)) := by show _ = _; rw [HTs.out]
 have HOi : Hid (Owns w0 W1 (blk bp (r3obj l (.slice y N m) i0 (.ok [])) :: blk b4 fobj0 :: ps)) := by
  obtain ⟨-, -, i, hi2, hd2, h1⟩ := HO.out.r3; have e1 := hd2 ts rfl; have e2 : i = i0 := by
   have h2 := congrArg List.length (e1.trans HTs.out.symm); rw [List.length_drop, List.length_drop] at h2; have := HN.out; omega
  subst e2; exact Lib.hid h1
 go_loopg [] (N - i0) (fun gk wr => ∃ k : Nat, gk = N - k /\ i0 <= k /\ k <= N /\ Hid (i0 + fromM ts = k + fromM (all.drop k)) /\ Hid (Owns w0 wr (blk bp (r3obj l (.slice y N m) k (.ok [])) :: blk b4 fobj0 :: ps)))
 case atStart => exact ⟨i0, by omega, Nat.le_refl _, hi, H0, HOi⟩
 case round =>
  rename_i J1 K1 hJ1 hK1; clear HO HOi H0; obtain ⟨k, rfl, hk0, hk, HI, HO⟩ := hrel; simp only [r3obj, code, pos] at HO; go_wp2_with fail
  refine wp_region_canA [] (List.range 19) ?_; replace HO := Lib.hid HO.out.drew; generalize hWd : World.drew _ = W2 at HO ⊢; clear hWd; by_cases hlt : k < N
  ·have hlt' : (k : Int) < (N : Int) := by omega
   focus
    obtain ⟨hbp, ⟨fp0, fp1, fp2, fp3, fp4⟩, cp0, cp1, cp2, cp3, cp4⟩ := bx5 HO.out.blk; iterate 16 (first | (refine cl_doA rfl rfl rfl (fun _ _ => ?_); go_wp2_with fail) | (refine cl_yesA rfl rfl rfl rfl (fun _ _ => ?_); go_wp2_with fail))
    clear hbp fp0 fp1 fp2 fp3 fp4 cp0 cp1 cp2 cp3 cp4
   refine cl_yesA rfl rfl rfl rfl (fun _ _ => ?_); go_wp2_with fail
   refine (HT.out (blk b4 fobj0 :: ps) (.ok (all.drop k)) k W2 HO.out.base (Owns.asR3 (i := k) (s := .ok (all.drop k)) HO.out trivial HV.out (by rw [<- HN.out]; exact hk) (fun ts h => by cases h; rfl)) hN9 hlt).mono ?_; rintro e W3 ⟨rfl, ho⟩; replace HO := Lib.hid (r3at ho (by rw [<- HN.out]; exact hk)); simp only [r3obj, code, pos] at HO; clear ho; have hfn := from_next (ts := all) (k := k) (by rw [<- HN.out]; exact hlt); obtain ⟨q, hq⟩ : ∃ q, q = termB (all.drop k) := ⟨_, rfl⟩; rw [<- hq] at hfn ⊢; have HFn := Lib.hid hfn; clear hq hfn; go_wp2_with fail
   iterate 2 (first | (refine cl_doA rfl rfl rfl (fun _ _ => ?_); go_wp2_with fail) | (refine cl_yesA rfl rfl rfl rfl (fun _ _ => ?_); go_wp2_with fail))
   refine cl_nil ?_; cases q
   ·have HI2 : Hid (i0 + fromM ts = k + 1 + fromM (all.drop (k + 1))) := by
     show _ = _; have := HFn.out; rw [if_neg (by simp)] at this; rw [HI.out, this]; omega
    clear HI HFn; have HO3 := Lib.hid (HO.out.store (i := 2) (.int .i64 ((k : Int) + 1))); obtain ⟨hbp, ⟨fp0, fp1, fp2, fp3, fp4⟩, cp0, cp1, cp2, cp3, cp4⟩ := bx5 HO.out.blk; go_wp2_with fail
    go_roundg (N - (k + 1))
    case measure => omega
    case rel =>
     refine ⟨k + 1, rfl, by omega, by omega, HI2, ?_⟩; rw [show ((k : Int) + 1) = ((k + 1 : Nat) : Int) by omega] at HO3 ⊢; exact HO3
   ·have HFr : Hid (i0 + fromM ts = k) := by
     show _ = _; have := HFn.out; rw [if_pos rfl] at this; rw [HI.out, this]; rfl
    clear HI HFn hJ1 hK1; obtain ⟨t, ht⟩ : ∃ t, all[k]? = some t := ⟨_, List.getElem?_eq_getElem (by rw [<- HN.out]; exact hlt)⟩; have hdk : all.drop k = t :: all.drop (k + 1) := by
     obtain ⟨h1, rfl⟩ := List.getElem?_eq_some_iff.1 ht; exact List.drop_eq_getElem_cons h1
    have HDk : Hid (ts.drop (fromM ts) = all.drop k) := by
     show _ = _; have h1 := HFr.out; rw [<- HTs.out] at h1 ⊢; rw [List.drop_drop]
     congr 1
    have HCl : Hid (decide (fromM ts < ts.length) = true) := by
     show _ = _; have h1 := HFr.out; have h2 := congrArg List.length HTs.out; rw [List.length_drop, <- HN.out] at h2; first | (apply decide_eq_true; omega) | (apply decide_eq_false; omega)
    have hE : endM l (ts.drop (fromM ts)) = t.pos := by rw [HDk.out, hdk]; rfl
    have hbE : begin <= t.pos := by rw [<- hE]; exact HBE.out
    have hEl : t.pos <= l.length := by rw [<- hE]; exact HEL.out
    have HE0 := Lib.hid hE; have HTt := Lib.hid ht; clear hE hdk ht
    focus
     obtain ⟨hbp, ⟨fp0, fp1, fp2, fp3, fp4⟩, cp0, cp1, cp2, cp3, cp4⟩ := bx5 HO.out.blk; go_wp2_with fail
     clear hbp fp0 fp1 fp2 fp3 fp4 cp0 cp1 cp2 cp3 cp4
    refine wp_region_canA [] (List.range 10) ?_; replace HO := Lib.hid HO.out.drew; generalize hWd : World.drew _ = W4 at HO ⊢; clear hWd
    focus
     obtain ⟨hbp, ⟨fp0, fp1, fp2, fp3, fp4⟩, cp0, cp1, cp2, cp3, cp4⟩ := bx5 HO.out.blk; iterate 10 (first | (refine cl_doA rfl rfl rfl (fun _ _ => ?_); go_wp2_with fail) | (refine cl_yesA rfl rfl rfl rfl (fun _ _ => ?_); go_wp2_with fail) | (refine cl_no rfl rfl rfl ?_; go_simp))
     refine cl_nil ?_; clear hbp fp0 fp1 fp2 fp3 fp4 cp0 cp1 cp2 cp3 cp4
    focus
     obtain ⟨hbp, ⟨fp0, fp1, fp2, fp3, fp4⟩, cp0, cp1, cp2, cp3, cp4⟩ := bx5 HO.out.blk; go_wp2_with fail
     clear hbp fp0 fp1 fp2 fp3 fp4 cp0 cp1 cp2 cp3 cp4
    refine wp_region_canA [] (List.range 12) ?_; replace HO := Lib.hid HO.out.drew; generalize hWd : World.drew _ = W5 at HO ⊢; clear hWd; have hkeep := Lib.hid HV.out; obtain ⟨g, off, hy, hNm, hg, c0, c1, c2, c3⟩ := HV.out.get HO.out.base HTt.out; rw [hy] at HO
    focus
     obtain ⟨hbp, ⟨fp0, fp1, fp2, fp3, fp4⟩, cp0, cp1, cp2, cp3, cp4⟩ := bx5 HO.out.blk; iterate 12 (first | (refine cl_doA rfl rfl rfl (fun _ _ => ?_); go_wp2_with fail) | (refine cl_yesA rfl rfl rfl rfl (fun _ _ => ?_); go_wp2_with fail) | (refine cl_no rfl rfl rfl ?_; go_simp))
     refine cl_nil ?_; clear hbp fp0 fp1 fp2 fp3 fp4 cp0 cp1 cp2 cp3 cp4
    rw [<- hy] at HO; clear c0 c1 c2 c3 hg hkeep HTt hy hNm; obtain ⟨E, hE⟩ : ∃ E, E = t.pos := ⟨_, rfl⟩; rw [<- hE] at HE0 hbE hEl ⊢; clear hE
    focus
     obtain ⟨hbp, ⟨fp0, fp1, fp2, fp3, fp4⟩, cp0, cp1, cp2, cp3, cp4⟩ := bx5 HO.out.blk; go_wp2_with fail
     clear hbp fp0 fp1 fp2 fp3 fp4 cp0 cp1 cp2 cp3 cp4
    rw [<- List.drop_take]; have hXl : ((l.take E).drop begin).length <= 140737488355328 := by rw [List.length_drop, List.length_take]; omega
    obtain ⟨X, hX⟩ : ∃ X, X = (l.take E).drop begin := ⟨_, rfl⟩; rw [<- hX] at hXl ⊢
    try go_at_call 96
    refine (rParse_c X _ hXl).mono ?_; rintro e W8 ⟨kv, rfl, hf, hb⟩; obtain ⟨p, hp⟩ : ∃ p, p = parseF X := ⟨_, rfl⟩; rw [<- hp] at hf ⊢; have HC : Hid (condR l begin ts = (p.1, match condE begin E true p with | some e => .error e | none => .ok (all.drop k))) := by
     show _ = _; unfold condR; rw [HE0.out, HCl.out, HDk.out, <- hX, <- hp]
     rfl
    have hpp := parse_pos X; rw [<- hp, hX, List.length_drop, List.length_take] at hpp; have hpl : -1 <= p.2.2 /\ p.2.2 <= 20000 := by omega
    clear hp hX hXl hpp; obtain ⟨f, ec, po⟩ := p; dsimp only at hf HC hpl ⊢; obtain ⟨hp1, hp2⟩ := hpl; obtain ⟨ky, km, rfl⟩ := hf.form; replace HO := Lib.hid (HO.out.fmPush hb hf); obtain ⟨n2, hn2⟩ : ∃ n, n = f.kids.length := ⟨_, rfl⟩; rw [<- hn2] at HO ⊢; clear hf hb hn2 HE0 HFr HCl HDk; simp only [fval]; obtain ⟨W9, hW9⟩ : ∃ W9, W9 = W8.alloc (fobj f (.slice ky n2 km)) := ⟨_, rfl⟩; obtain ⟨b6, hb6⟩ : ∃ b, b = W8.heap.size := ⟨_, rfl⟩; replace HO : Hid (Owns w0 W9 (blk b6 (fobj f (.slice ky n2 km)) :: fmP f (.slice ky n2 km) :: blk bp (r3obj l (.slice y N m) k (.ok [])) :: blk b4 fobj0 :: ps)) := by
     rw [hW9, hb6]; exact Lib.hid (HO.out.box (fobj f (.slice ky n2 km)))
    go_upto_region 7 with fail
    rw [<- hW9, <- hb6]; clear hW9 hb6; by_cases h6 : ec = 6
    ·have h61 : ((ec : Int) == 6) = true := by simp; omega
     have hlt2 : (k : Int) < (N : Int) := by omega
     have HX : Hid (condR l begin ts = (f, .error (5, (E : Int)))) := by show _ = _; rw [HC.out]; simp [condE, h6]
     clear h6; refine wp_region_canA [] (List.range 14) ?_; replace HO := Lib.hid HO.out.drew; generalize hWd : World.drew _ = W10 at HO ⊢; clear hWd; simp only [r3obj, code, pos] at HO
     focus
      obtain ⟨hbp, ⟨fp0, fp1, fp2, fp3, fp4⟩, cp0, cp1, cp2, cp3, cp4⟩ := bx5 HO.out.pop.pop.blk; iterate 14 (first | (refine cl_doA rfl rfl rfl (fun _ _ => ?_); go_wp2_with fail) | (refine cl_yesA rfl rfl rfl rfl (fun _ _ => ?_); go_wp2_with fail) | (refine cl_no rfl rfl rfl ?_; go_simp))
      refine cl_nil ?_; go_wp2_with fail
      clear hbp fp0 fp1 fp2 fp3 fp4 cp0 cp1 cp2 cp3 cp4
     refine (fault30_c (blk b6 (fobj f (.slice ky n2 km)) :: fmP f (.slice ky n2 km) :: blk b4 fobj0 :: ps) (.ok (all.drop k)) (5) (E) (by omega) W10 (Owns.asR3 (i := k) (s := .ok (all.drop k)) (HO.out.re [2, 0, 1]) trivial HV.out (by have := HN.out; omega) (fun ts h => by cases h; rfl))).mono ?_; rintro e W11 ⟨rfl, ho⟩; have hO := Lib.hid (ho.re [1, 3, 2, 0]); clear ho; simp only []; obtain ⟨hb6, -, c60, c61, c62, c63, c64⟩ := bx5 hO.out.blk; obtain ⟨hb4, ⟨f40, f41, f42, f43, f44⟩, c40, c41, c42, c43, c44⟩ := bx5 hO.out.pop.blk; repeat (first | go_values | go_skip | go_guarded | go_step | go_upon)
     have h2 := set5_ownsM (hO.out.swap) (.int .i64 f.op) (.string (bs f.name)) (.int .i64 f.cmp) (.int .i64 f.num) (.slice ky n2 km); refine bodyPost_ret (form30_res rfl h2.blk.1) (by rfl) ?_; rw [HX.out]; exact ⟨.slice ky n2 km, rfl, h2.pop.pop⟩
    have h61 : ((ec : Int) == 6) = false := by simp; omega
    have HN6 : Hid (¬ ec = 6) := Lib.hid h6; clear h6; by_cases h0 : ec = 0
    rotate_left
    ·have h01 : ((ec : Int) != 0) = true := by simp; omega
     by_cases hp : po < 0
     ·have HX : Hid (condR l begin ts = (f, .error (ec, po))) := by show _ = _; rw [HC.out]; simp [condE, HN6.out, h0, hp]
      refine wp_region_canA [] (List.range 14) ?_; replace HO := Lib.hid HO.out.drew; generalize hWd : World.drew _ = W10 at HO ⊢; clear hWd; simp only [r3obj, code, pos] at HO
      focus
       obtain ⟨hbp, ⟨fp0, fp1, fp2, fp3, fp4⟩, cp0, cp1, cp2, cp3, cp4⟩ := bx5 HO.out.pop.pop.blk; iterate 14 (first | (refine cl_doA rfl rfl rfl (fun _ _ => ?_); go_wp2_with fail) | (refine cl_yesA rfl rfl rfl rfl (fun _ _ => ?_); go_wp2_with fail) | (refine cl_no rfl rfl rfl ?_; go_simp))
       refine cl_nil ?_; go_wp2_with fail
       clear hbp fp0 fp1 fp2 fp3 fp4 cp0 cp1 cp2 cp3 cp4
      refine (fault30_c (blk b6 (fobj f (.slice ky n2 km)) :: fmP f (.slice ky n2 km) :: blk b4 fobj0 :: ps) (.ok (all.drop k)) (ec) (po) (by omega) W10 (Owns.asR3 (i := k) (s := .ok (all.drop k)) (HO.out.re [2, 0, 1]) trivial HV.out (by have := HN.out; omega) (fun ts h => by cases h; rfl))).mono ?_; rintro e W11 ⟨rfl, ho⟩; have hO := Lib.hid (ho.re [1, 3, 2, 0]); clear ho; simp only []; obtain ⟨hb6, -, c60, c61, c62, c63, c64⟩ := bx5 hO.out.blk; obtain ⟨hb4, ⟨f40, f41, f42, f43, f44⟩, c40, c41, c42, c43, c44⟩ := bx5 hO.out.pop.blk; repeat (first | go_values | go_skip | go_guarded | go_step | go_upon)
      have h2 := set5_ownsM (hO.out.swap) (.int .i64 f.op) (.string (bs f.name)) (.int .i64 f.cmp) (.int .i64 f.num) (.slice ky n2 km); refine bodyPost_ret (form30_res rfl h2.blk.1) (by rfl) ?_; rw [HX.out]; exact ⟨.slice ky n2 km, rfl, h2.pop.pop⟩
     ·have HX : Hid (condR l begin ts = (f, .error (ec, (begin : Int) + po))) := by show _ = _; rw [HC.out]; simp [condE, HN6.out, h0, hp]
      refine wp_region_canA [] (List.range 14) ?_; replace HO := Lib.hid HO.out.drew; generalize hWd : World.drew _ = W10 at HO ⊢; clear hWd; simp only [r3obj, code, pos] at HO
      focus
       obtain ⟨hbp, ⟨fp0, fp1, fp2, fp3, fp4⟩, cp0, cp1, cp2, cp3, cp4⟩ := bx5 HO.out.pop.pop.blk; iterate 14 (first | (refine cl_doA rfl rfl rfl (fun _ _ => ?_); go_wp2_with fail) | (refine cl_yesA rfl rfl rfl rfl (fun _ _ => ?_); go_wp2_with fail) | (refine cl_no rfl rfl rfl ?_; go_simp))
       refine cl_nil ?_; go_wp2_with fail
       clear hbp fp0 fp1 fp2 fp3 fp4 cp0 cp1 cp2 cp3 cp4
      refine (fault30_c (blk b6 (fobj f (.slice ky n2 km)) :: fmP f (.slice ky n2 km) :: blk b4 fobj0 :: ps) (.ok (all.drop k)) (ec) ((begin : Int) + po) (by omega) W10 (Owns.asR3 (i := k) (s := .ok (all.drop k)) (HO.out.re [2, 0, 1]) trivial HV.out (by have := HN.out; omega) (fun ts h => by cases h; rfl))).mono ?_; rintro e W11 ⟨rfl, ho⟩; have hO := Lib.hid (ho.re [1, 3, 2, 0]); clear ho; simp only []; obtain ⟨hb6, -, c60, c61, c62, c63, c64⟩ := bx5 hO.out.blk; obtain ⟨hb4, ⟨f40, f41, f42, f43, f44⟩, c40, c41, c42, c43, c44⟩ := bx5 hO.out.pop.blk; repeat (first | go_values | go_skip | go_guarded | go_step | go_upon)
      have h2 := set5_ownsM (hO.out.swap) (.int .i64 f.op) (.string (bs f.name)) (.int .i64 f.cmp) (.int .i64 f.num) (.slice ky n2 km); refine bodyPost_ret (form30_res rfl h2.blk.1) (by rfl) ?_; rw [HX.out]; exact ⟨.slice ky n2 km, rfl, h2.pop.pop⟩
    have h01 : ((ec : Int) != 0) = false := by simp; omega
    have HX : Hid (condR l begin ts = (f, .ok (all.drop k))) := by show _ = _; rw [HC.out]; simp [condE, h0]
    clear h0; refine wp_region_canA [] (List.range 14) ?_; replace HO := Lib.hid HO.out.drew; generalize hWd : World.drew _ = W10 at HO ⊢; clear hWd; simp only [r3obj, code, pos] at HO
    focus
     obtain ⟨hbp, ⟨fp0, fp1, fp2, fp3, fp4⟩, cp0, cp1, cp2, cp3, cp4⟩ := bx5 HO.out.pop.pop.blk; iterate 14 (first | (refine cl_doA rfl rfl rfl (fun _ _ => ?_); go_wp2_with fail) | (refine cl_yesA rfl rfl rfl rfl (fun _ _ => ?_); go_wp2_with fail) | (refine cl_no rfl rfl rfl ?_; go_simp))
     refine cl_nil ?_; go_upto_region 13 with fail
     clear hbp fp0 fp1 fp2 fp3 fp4 cp0 cp1 cp2 cp3 cp4
    have hO := Lib.hid (Owns.re (Owns.asR3 (i := k) (s := .ok (all.drop k)) (HO.out.re [2, 0, 1]) trivial HV.out (by have := HN.out; omega) (fun ts h => by cases h; rfl)) [1, 3, 2, 0]); obtain ⟨hb6, -, c60, c61, c62, c63, c64⟩ := bx5 hO.out.blk; obtain ⟨hb4, ⟨f40, f41, f42, f43, f44⟩, c40, c41, c42, c43, c44⟩ := bx5 hO.out.pop.blk; repeat (first | go_values | go_skip | go_guarded | go_step | go_upon)
    have h2 := set5_ownsM (hO.out.swap) (.int .i64 f.op) (.string (bs f.name)) (.int .i64 f.cmp) (.int .i64 f.num) (.slice ky n2 km); refine bodyPost_ret (form30_res rfl h2.blk.1) (by rfl) ?_; rw [HX.out]; exact ⟨.slice ky n2 km, rfl, h2.pop.pop⟩
  ·obtain rfl : k = N := by omega
   have HFr : Hid (i0 + fromM ts = k) := by
    show _ = _; rw [HI.out, HN.out, List.drop_length]; rfl
   clear HI hJ1 hK1 hlt
   focus
    obtain ⟨hbp, ⟨fp0, fp1, fp2, fp3, fp4⟩, cp0, cp1, cp2, cp3, cp4⟩ := bx5 HO.out.blk; iterate 16 (first | (refine cl_doA rfl rfl rfl (fun _ _ => ?_); go_wp2_with fail) | (refine cl_no rfl rfl rfl ?_; go_simp))
    iterate 3 (first | (refine cl_doA rfl rfl rfl (fun _ _ => ?_); go_wp2_with fail) | (refine cl_no rfl rfl rfl ?_; go_simp))
    clear hbp fp0 fp1 fp2 fp3 fp4 cp0 cp1 cp2 cp3 cp4
   refine cl_nil ?_; have HDk : Hid (ts.drop (fromM ts) = all.drop k) := by
    show _ = _; have h1 := HFr.out; rw [<- HTs.out] at h1 ⊢; rw [List.drop_drop]
    congr 1
   have HCl : Hid (decide (fromM ts < ts.length) = false) := by
    show _ = _; have h1 := HFr.out; have h2 := congrArg List.length HTs.out; rw [List.length_drop, <- HN.out] at h2; first | (apply decide_eq_true; omega) | (apply decide_eq_false; omega)
   have hE : endM l (ts.drop (fromM ts)) = l.length := by rw [HDk.out, HN.out, List.drop_length]; rfl
   have hbE : begin <= l.length := by rw [<- hE]; exact HBE.out
   have HE0 := Lib.hid hE; clear hE
   focus
    obtain ⟨hbp, ⟨fp0, fp1, fp2, fp3, fp4⟩, cp0, cp1, cp2, cp3, cp4⟩ := bx5 HO.out.blk; go_wp2_with fail
    clear hbp fp0 fp1 fp2 fp3 fp4 cp0 cp1 cp2 cp3 cp4
   refine wp_region_canA [] (List.range 10) ?_; replace HO := Lib.hid HO.out.drew; generalize hWd : World.drew _ = W4 at HO ⊢; clear hWd
   focus
    obtain ⟨hbp, ⟨fp0, fp1, fp2, fp3, fp4⟩, cp0, cp1, cp2, cp3, cp4⟩ := bx5 HO.out.blk; iterate 10 (first | (refine cl_doA rfl rfl rfl (fun _ _ => ?_); go_wp2_with fail) | (refine cl_yesA rfl rfl rfl rfl (fun _ _ => ?_); go_wp2_with fail) | (refine cl_no rfl rfl rfl ?_; go_simp))
    refine cl_nil ?_; clear hbp fp0 fp1 fp2 fp3 fp4 cp0 cp1 cp2 cp3 cp4
   obtain ⟨E, hE⟩ : ∃ E, E = l.length := ⟨_, rfl⟩; rw [<- hE] at HE0 hbE ⊢; have hEl : E <= l.length := by omega
   clear hE
   focus
    obtain ⟨hbp, ⟨fp0, fp1, fp2, fp3, fp4⟩, cp0, cp1, cp2, cp3, cp4⟩ := bx5 HO.out.blk; go_wp2_with fail
    clear hbp fp0 fp1 fp2 fp3 fp4 cp0 cp1 cp2 cp3 cp4
   rw [<- List.drop_take]; have hXl : ((l.take E).drop begin).length <= 140737488355328 := by rw [List.length_drop, List.length_take]; omega
   obtain ⟨X, hX⟩ : ∃ X, X = (l.take E).drop begin := ⟨_, rfl⟩; rw [<- hX] at hXl ⊢
   try go_at_call 96
   refine (rParse_c X _ hXl).mono ?_; rintro e W8 ⟨kv, rfl, hf, hb⟩; obtain ⟨p, hp⟩ : ∃ p, p = parseF X := ⟨_, rfl⟩; rw [<- hp] at hf ⊢; have HC : Hid (condR l begin ts = (p.1, match condE begin E false p with | some e => .error e | none => .ok (all.drop k))) := by
    show _ = _; unfold condR; rw [HE0.out, HCl.out, HDk.out, <- hX, <- hp]
    rfl
   have hpp := parse_pos X; rw [<- hp, hX, List.length_drop, List.length_take] at hpp; have hpl : -1 <= p.2.2 /\ p.2.2 <= 20000 := by omega
   clear hp hX hXl hpp; obtain ⟨f, ec, po⟩ := p; dsimp only at hf HC hpl ⊢; obtain ⟨hp1, hp2⟩ := hpl; obtain ⟨ky, km, rfl⟩ := hf.form; replace HO := Lib.hid (HO.out.fmPush hb hf); obtain ⟨n2, hn2⟩ : ∃ n, n = f.kids.length := ⟨_, rfl⟩; rw [<- hn2] at HO ⊢; clear hf hb hn2 HE0 HFr HCl HDk; simp only [fval]; obtain ⟨W9, hW9⟩ : ∃ W9, W9 = W8.alloc (fobj f (.slice ky n2 km)) := ⟨_, rfl⟩; obtain ⟨b6, hb6⟩ : ∃ b, b = W8.heap.size := ⟨_, rfl⟩; replace HO : Hid (Owns w0 W9 (blk b6 (fobj f (.slice ky n2 km)) :: fmP f (.slice ky n2 km) :: blk bp (r3obj l (.slice y k m) k (.ok [])) :: blk b4 fobj0 :: ps)) := by
    rw [hW9, hb6]; exact Lib.hid (HO.out.box (fobj f (.slice ky n2 km)))
   go_upto_region 7 with fail
   rw [<- hW9, <- hb6]; clear hW9 hb6; by_cases h6 : ec = 6
   ·have h61 : ((ec : Int) == 6) = true := by simp; omega
    clear h6; by_cases h0 : ec = 0
    rotate_left
    ·have h01 : ((ec : Int) != 0) = true := by simp; omega
     by_cases hp : po < 0
     ·have HX : Hid (condR l begin ts = (f, .error (ec, po))) := by show _ = _; rw [HC.out]; simp [condE, not_false_eq_true, h0, hp]
      refine wp_region_canA [] (List.range 14) ?_; replace HO := Lib.hid HO.out.drew; generalize hWd : World.drew _ = W10 at HO ⊢; clear hWd; simp only [r3obj, code, pos] at HO
      focus
       obtain ⟨hbp, ⟨fp0, fp1, fp2, fp3, fp4⟩, cp0, cp1, cp2, cp3, cp4⟩ := bx5 HO.out.pop.pop.blk; iterate 14 (first | (refine cl_doA rfl rfl rfl (fun _ _ => ?_); go_wp2_with fail) | (refine cl_yesA rfl rfl rfl rfl (fun _ _ => ?_); go_wp2_with fail) | (refine cl_no rfl rfl rfl ?_; go_simp))
       refine cl_nil ?_; go_wp2_with fail
       clear hbp fp0 fp1 fp2 fp3 fp4 cp0 cp1 cp2 cp3 cp4
      refine (fault30_c (blk b6 (fobj f (.slice ky n2 km)) :: fmP f (.slice ky n2 km) :: blk b4 fobj0 :: ps) (.ok (all.drop k)) (ec) (po) (by omega) W10 (Owns.asR3 (i := k) (s := .ok (all.drop k)) (HO.out.re [2, 0, 1]) trivial HV.out (by have := HN.out; omega) (fun ts h => by cases h; rfl))).mono ?_; rintro e W11 ⟨rfl, ho⟩; have hO := Lib.hid (ho.re [1, 3, 2, 0]); clear ho; simp only []; obtain ⟨hb6, -, c60, c61, c62, c63, c64⟩ := bx5 hO.out.blk; obtain ⟨hb4, ⟨f40, f41, f42, f43, f44⟩, c40, c41, c42, c43, c44⟩ := bx5 hO.out.pop.blk; repeat (first | go_values | go_skip | go_guarded | go_step | go_upon)
      have h2 := set5_ownsM (hO.out.swap) (.int .i64 f.op) (.string (bs f.name)) (.int .i64 f.cmp) (.int .i64 f.num) (.slice ky n2 km); refine bodyPost_ret (form30_res rfl h2.blk.1) (by rfl) ?_; rw [HX.out]; exact ⟨.slice ky n2 km, rfl, h2.pop.pop⟩
     ·have HX : Hid (condR l begin ts = (f, .error (ec, (begin : Int) + po))) := by show _ = _; rw [HC.out]; simp [condE, not_false_eq_true, h0, hp]
      refine wp_region_canA [] (List.range 14) ?_; replace HO := Lib.hid HO.out.drew; generalize hWd : World.drew _ = W10 at HO ⊢; clear hWd; simp only [r3obj, code, pos] at HO
      focus
       obtain ⟨hbp, ⟨fp0, fp1, fp2, fp3, fp4⟩, cp0, cp1, cp2, cp3, cp4⟩ := bx5 HO.out.pop.pop.blk; iterate 14 (first | (refine cl_doA rfl rfl rfl (fun _ _ => ?_); go_wp2_with fail) | (refine cl_yesA rfl rfl rfl rfl (fun _ _ => ?_); go_wp2_with fail) | (refine cl_no rfl rfl rfl ?_; go_simp))
       refine cl_nil ?_; go_wp2_with fail
       clear hbp fp0 fp1 fp2 fp3 fp4 cp0 cp1 cp2 cp3 cp4
      refine (fault30_c (blk b6 (fobj f (.slice ky n2 km)) :: fmP f (.slice ky n2 km) :: blk b4 fobj0 :: ps) (.ok (all.drop k)) (ec) ((begin : Int) + po) (by omega) W10 (Owns.asR3 (i := k) (s := .ok (all.drop k)) (HO.out.re [2, 0, 1]) trivial HV.out (by have := HN.out; omega) (fun ts h => by cases h; rfl))).mono ?_; rintro e W11 ⟨rfl, ho⟩; have hO := Lib.hid (ho.re [1, 3, 2, 0]); clear ho; simp only []; obtain ⟨hb6, -, c60, c61, c62, c63, c64⟩ := bx5 hO.out.blk; obtain ⟨hb4, ⟨f40, f41, f42, f43, f44⟩, c40, c41, c42, c43, c44⟩ := bx5 hO.out.pop.blk; repeat (first | go_values | go_skip | go_guarded | go_step | go_upon)
      have h2 := set5_ownsM (hO.out.swap) (.int .i64 f.op) (.string (bs f.name)) (.int .i64 f.cmp) (.int .i64 f.num) (.slice ky n2 km); refine bodyPost_ret (form30_res rfl h2.blk.1) (by rfl) ?_; rw [HX.out]; exact ⟨.slice ky n2 km, rfl, h2.pop.pop⟩
    have h01 : ((ec : Int) != 0) = false := by simp; omega
    have HX : Hid (condR l begin ts = (f, .ok (all.drop k))) := by show _ = _; rw [HC.out]; simp [condE, h0]
    clear h0; refine wp_region_canA [] (List.range 14) ?_; replace HO := Lib.hid HO.out.drew; generalize hWd : World.drew _ = W10 at HO ⊢; clear hWd; simp only [r3obj, code, pos] at HO
    focus
     obtain ⟨hbp, ⟨fp0, fp1, fp2, fp3, fp4⟩, cp0, cp1, cp2, cp3, cp4⟩ := bx5 HO.out.pop.pop.blk; iterate 14 (first | (refine cl_doA rfl rfl rfl (fun _ _ => ?_); go_wp2_with fail) | (refine cl_yesA rfl rfl rfl rfl (fun _ _ => ?_); go_wp2_with fail) | (refine cl_no rfl rfl rfl ?_; go_simp))
     refine cl_nil ?_; go_upto_region 13 with fail
     clear hbp fp0 fp1 fp2 fp3 fp4 cp0 cp1 cp2 cp3 cp4
    have hO := Lib.hid (Owns.re (Owns.asR3 (i := k) (s := .ok (all.drop k)) (HO.out.re [2, 0, 1]) trivial HV.out (by have := HN.out; omega) (fun ts h => by cases h; rfl)) [1, 3, 2, 0]); obtain ⟨hb6, -, c60, c61, c62, c63, c64⟩ := bx5 hO.out.blk; obtain ⟨hb4, ⟨f40, f41, f42, f43, f44⟩, c40, c41, c42, c43, c44⟩ := bx5 hO.out.pop.blk; repeat (first | go_values | go_skip | go_guarded | go_step | go_upon)
    have h2 := set5_ownsM (hO.out.swap) (.int .i64 f.op) (.string (bs f.name)) (.int .i64 f.cmp) (.int .i64 f.num) (.slice ky n2 km); refine bodyPost_ret (form30_res rfl h2.blk.1) (by rfl) ?_; rw [HX.out]; exact ⟨.slice ky n2 km, rfl, h2.pop.pop⟩
   ·have h61 : ((ec : Int) == 6) = false := by simp; omega
    clear h6; by_cases h0 : ec = 0
    rotate_left
    ·have h01 : ((ec : Int) != 0) = true := by simp; omega
     by_cases hp : po < 0
     ·have HX : Hid (condR l begin ts = (f, .error (ec, po))) := by show _ = _; rw [HC.out]; simp [condE, not_false_eq_true, h0, hp]
      refine wp_region_canA [] (List.range 14) ?_; replace HO := Lib.hid HO.out.drew; generalize hWd : World.drew _ = W10 at HO ⊢; clear hWd; simp only [r3obj, code, pos] at HO
      focus
       obtain ⟨hbp, ⟨fp0, fp1, fp2, fp3, fp4⟩, cp0, cp1, cp2, cp3, cp4⟩ := bx5 HO.out.pop.pop.blk; iterate 14 (first | (refine cl_doA rfl rfl rfl (fun _ _ => ?_); go_wp2_with fail) | (refine cl_yesA rfl rfl rfl rfl (fun _ _ => ?_); go_wp2_with fail) | (refine cl_no rfl rfl rfl ?_; go_simp))
       refine cl_nil ?_; go_wp2_with fail
       clear hbp fp0 fp1 fp2 fp3 fp4 cp0 cp1 cp2 cp3 cp4
      refine (fault30_c (blk b6 (fobj f (.slice ky n2 km)) :: fmP f (.slice ky n2 km) :: blk b4 fobj0 :: ps) (.ok (all.drop k)) (ec) (po) (by omega) W10 (Owns.asR3 (i := k) (s := .ok (all.drop k)) (HO.out.re [2, 0, 1]) trivial HV.out (by have := HN.out; omega) (fun ts h => by cases h; rfl))).mono ?_; rintro e W11 ⟨rfl, ho⟩; have hO := Lib.hid (ho.re [1, 3, 2, 0]); clear ho; simp only []; obtain ⟨hb6, -, c60, c61, c62, c63, c64⟩ := bx5 hO.out.blk; obtain ⟨hb4, ⟨f40, f41, f42, f43, f44⟩, c40, c41, c42, c43, c44⟩ := bx5 hO.out.pop.blk; repeat (first | go_values | go_skip | go_guarded | go_step | go_upon)
      have h2 := set5_ownsM (hO.out.swap) (.int .i64 f.op) (.string (bs f.name)) (.int .i64 f.cmp) (.int .i64 f.num) (.slice ky n2 km); refine bodyPost_ret (form30_res rfl h2.blk.1) (by rfl) ?_; rw [HX.out]; exact ⟨.slice ky n2 km, rfl, h2.pop.pop⟩
     ·have HX : Hid (condR l begin ts = (f, .error (ec, (begin : Int) + po))) := by show _ = _; rw [HC.out]; simp [condE, not_false_eq_true, h0, hp]
      refine wp_region_canA [] (List.range 14) ?_; replace HO := Lib.hid HO.out.drew; generalize hWd : World.drew _ = W10 at HO ⊢; clear hWd; simp only [r3obj, code, pos] at HO
      focus
       obtain ⟨hbp, ⟨fp0, fp1, fp2, fp3, fp4⟩, cp0, cp1, cp2, cp3, cp4⟩ := bx5 HO.out.pop.pop.blk; iterate 14 (first | (refine cl_doA rfl rfl rfl (fun _ _ => ?_); go_wp2_with fail) | (refine cl_yesA rfl rfl rfl rfl (fun _ _ => ?_); go_wp2_with fail) | (refine cl_no rfl rfl rfl ?_; go_simp))
       refine cl_nil ?_; go_wp2_with fail
       clear hbp fp0 fp1 fp2 fp3 fp4 cp0 cp1 cp2 cp3 cp4
      refine (fault30_c (blk b6 (fobj f (.slice ky n2 km)) :: fmP f (.slice ky n2 km) :: blk b4 fobj0 :: ps) (.ok (all.drop k)) (ec) ((begin : Int) + po) (by omega) W10 (Owns.asR3 (i := k) (s := .ok (all.drop k)) (HO.out.re [2, 0, 1]) trivial HV.out (by have := HN.out; omega) (fun ts h => by cases h; rfl))).mono ?_; rintro e W11 ⟨rfl, ho⟩; have hO := Lib.hid (ho.re [1, 3, 2, 0]); clear ho; simp only []; obtain ⟨hb6, -, c60, c61, c62, c63, c64⟩ := bx5 hO.out.blk; obtain ⟨hb4, ⟨f40, f41, f42, f43, f44⟩, c40, c41, c42, c43, c44⟩ := bx5 hO.out.pop.blk; repeat (first | go_values | go_skip | go_guarded | go_step | go_upon)
      have h2 := set5_ownsM (hO.out.swap) (.int .i64 f.op) (.string (bs f.name)) (.int .i64 f.cmp) (.int .i64 f.num) (.slice ky n2 km); refine bodyPost_ret (form30_res rfl h2.blk.1) (by rfl) ?_; rw [HX.out]; exact ⟨.slice ky n2 km, rfl, h2.pop.pop⟩
    have h01 : ((ec : Int) != 0) = false := by simp; omega
    have HX : Hid (condR l begin ts = (f, .ok (all.drop k))) := by show _ = _; rw [HC.out]; simp [condE, h0]
    clear h0; refine wp_region_canA [] (List.range 14) ?_; replace HO := Lib.hid HO.out.drew; generalize hWd : World.drew _ = W10 at HO ⊢; clear hWd; simp only [r3obj, code, pos] at HO
    focus
     obtain ⟨hbp, ⟨fp0, fp1, fp2, fp3, fp4⟩, cp0, cp1, cp2, cp3, cp4⟩ := bx5 HO.out.pop.pop.blk; iterate 14 (first | (refine cl_doA rfl rfl rfl (fun _ _ => ?_); go_wp2_with fail) | (refine cl_yesA rfl rfl rfl rfl (fun _ _ => ?_); go_wp2_with fail) | (refine cl_no rfl rfl rfl ?_; go_simp))
     refine cl_nil ?_; go_upto_region 13 with fail
     clear hbp fp0 fp1 fp2 fp3 fp4 cp0 cp1 cp2 cp3 cp4
    have hO := Lib.hid (Owns.re (Owns.asR3 (i := k) (s := .ok (all.drop k)) (HO.out.re [2, 0, 1]) trivial HV.out (by have := HN.out; omega) (fun ts h => by cases h; rfl)) [1, 3, 2, 0]); obtain ⟨hb6, -, c60, c61, c62, c63, c64⟩ := bx5 hO.out.blk; obtain ⟨hb4, ⟨f40, f41, f42, f43, f44⟩, c40, c41, c42, c43, c44⟩ := bx5 hO.out.pop.blk; repeat (first | go_values | go_skip | go_guarded | go_step | go_upon)
    have h2 := set5_ownsM (hO.out.swap) (.int .i64 f.op) (.string (bs f.name)) (.int .i64 f.cmp) (.int .i64 f.num) (.slice ky n2 km); refine bodyPost_ret (form30_res rfl h2.blk.1) (by rfl) ?_; rw [HX.out]; exact ⟨.slice ky n2 km, rfl, h2.pop.pop⟩
end
end Go.Proofs.YtoeknmkephnekaaGreatDoor
namespace Go.Cz.Vd
open Go.Cz.Lx Go.Cz.Fo
def endR : PSt -> PSt
 | .ok (t :: _) => .error (5, (t.pos : Int))
 | s => s
def kW (l : Bytes) (x : SM) : SM := (endR (takeR l.length 4 [59] x.1).2, x.2)
def kU (l : Bytes) (x : SM) : SM := kW l (stW l.length x)
def kF (l : Bytes) (x : SM) : SM := kU l (stU l.length x)
def kC (l : Bytes) (x : SM) : SM := kF l (stF l.length x)
def kA (l : Bytes) (x : SM) : SM := kC l (stC l x)
def kO (l : Bytes) (x : SM) : SM := kA l (stA l.length x)
def kI (l : Bytes) (x : SM) : SM := kO l (stO l.length x)
def kK (l : Bytes) (x : SM) : SM := kI l (stI l.length x)
theorem stE_end (l : Bytes) (x : SM) : stE l.length x = kW l x := by
 unfold stE kW; rcases (takeR (l.length : Int) 4 [59] x.1).2 with e | (_ | ⟨t, r⟩) <;> rfl
theorem refM_k (l : Bytes) (ts : List Lx.Tok) : refM l ts = kK l (stK l.length (.ok ts, startM 1)) := by
 unfold refM; rw [stE_end]
 rfl
theorem parse_ref {l : Bytes} {ts : List Lx.Tok} {s : PSt} {m : Me} (h1 : ts = (lexAll l).1) (h2 : (lexAll l).2.1 = 0) (h : refM l ts = (s, m)) : parseM l = finR (s, m) := by
 have h3 := refM_eq (l := l) (ts := ts) (by rw [h1]; exact lexAll_names l); rw [h] at h3; unfold parseM; rw [if_neg (by simp [h2]), <- h1, h3]; rcases measureM l ts with e | m <;> rfl
end Go.Cz.Vd
namespace Go.Proofs.YtoeknmkephnekaaGreatDoor
open Go.RowKit Go.Cz Go.Cz.Lx Go.Cz.Fo Go.Cz.Vd
attribute [local go_sem] bs_size bs_extract bs_append bs_toList
attribute [local irreducible] cList cPlan cWalk
theorem rmparse_res {W : World} {tmps : Array Value} {b : Nat} {m : Me} {kv : Value} (h2 : tmps.getD 2 undef = .pointer (some ⟨b, 0, none⟩)) (bk : W.heap[b]? = some (mobj m kv)) :
  (results Tryz.f21 tmps).run Tryz.prog W = .ok (.tuple #[mval m kv, tmps.getD 3 undef, tmps.getD 4 undef]) W := by
 have cm0 := cell_of_heap bk (i := 0); have cm1 := cell_of_heap bk (i := 1); have cm2 := cell_of_heap bk (i := 2); have cm3 := cell_of_heap bk (i := 3); have cm4 := cell_of_heap bk (i := 4); have cm5 := cell_of_heap bk (i := 5); have cm6 := cell_of_heap bk (i := 6); have cm7 := cell_of_heap bk (i := 7); have cm8 := cell_of_heap bk (i := 8); have cm9 := cell_of_heap bk (i := 9); have cm10 := cell_of_heap bk (i := 10); have cm11 := cell_of_heap bk (i := 11); simp only [List.getElem?_toArray, List.getElem?_cons_succ, List.getElem?_cons_zero] at cm0 cm1 cm2 cm3 cm4 cm5 cm6 cm7 cm8 cm9 cm10 cm11; have h2' : tmps[2]?.getD undef = .pointer (some ⟨b, 0, none⟩) := by simpa using h2
 simp [results, Tryz.results21, go_sem, h2', cm0, cm1, cm2, cm3, cm4, cm5, cm6, cm7, cm8, cm9, cm10, cm11]
theorem set12_fm {W : World} {b n : Nat} {f : Fm} {kv : Value} (m : Me) (kv' : Value) (h : IsFm (fun g => n <= g) W f kv) (hb : b < n) : IsFm (fun g => n <= g) (set12 W b m kv') f kv :=
 h.keep fun g hg hl => by
  have hm : Mod [b] W (set12 W b m kv') := (((((((((((((Mod.refl [b] W).setCell (.inl (by simp)) _).setCell (.inl (by simp)) _).setCell (.inl (by simp)) _).setCell (.inl (by simp)) _).setCell (.inl (by simp)) _).setCell (.inl (by simp)) _).setCell (.inl (by simp)) _).setCell (.inl (by simp)) _).setCell (.inl (by simp)) _).setCell (.inl (by simp)) _).setCell (.inl (by simp)) _).setCell (.inl (by simp)) _); exact hm.block g hl (by simp; omega)
theorem skip30 {w0 w W : World} {ps : List Piece} {bp : Nat} {l : Bytes} {v : Value} {all r : List Lx.Tok} {t : Lx.Tok} (h : Owns w0 w (r3P W bp l all v (.ok (t :: r)) :: ps)) :
  ∃ i, i < all.length /\ all[i]? = some t /\ TokL W v all /\ all = all.take i ++ t :: r /\ Owns w0 w (blk bp (r3obj l v i (.ok [])) :: ps) /\ ∀ w' qs, Owns w0 w' (blk bp (.cells #[.string (bs l), v, .int .i64 ((i : Int) + 1), .int .i64 0, .int .i64 0] 93 (0, 0)) :: qs) -> Owns w0 w' (r3P W bp l all v (.ok r) :: qs) := by
 obtain ⟨hf, hv, i, hi, hd, h1⟩ := h.r3; obtain ⟨hlt, hit, hdr⟩ := dropT_cons (hd _ rfl); refine ⟨i, hlt, hit, hv, by rw [<- hd _ rfl, List.take_append_drop], h1, fun w' qs h2 => Owns.asR3 (s := .ok r) (i := i + 1) ?_ trivial hv (by omega) (fun ts h => by cases h; exact hdr)⟩; rw [show ((i : Int) + 1) = ((i + 1 : Nat) : Int) by omega] at h2; exact h2
theorem field_text (k p n : Nat) (u : Bytes) (W : World) : (Instr.field 40 (.agg #[.int .i64 k, .int .i64 p, .int .i64 n, .string (bs u)]) 3).run Tryz.prog W = .ok (.string (bs u)) W := by kernel_rfl
theorem num_ok {fin a b : Int} {s : PSt} (h : okR (numR fin a b s).2 = true) : a <= (numR fin a b s).1 /\ (numR fin a b s).1 <= b := by
 revert h
 simp only [numR]; rcases takeR fin 2 [] s with ⟨t, e | ts⟩
 ·simp [okR]
 ·simp only [okR, true_and, failS]; by_cases h : (t.num : Int) < a ∨ b < (t.num : Int)
  ·simp [h]
  ·intro _; omega
theorem sees_ok {k : Nat} {u : Bytes} {s : PSt} (h : seesR k u s = true) : ∃ t r, s = .ok (t :: r) := by
 rcases s with e | (_ | ⟨t, r⟩)
 ·simp [seesR] at h
 ·simp [seesR] at h
 ·exact ⟨t, r, rfl⟩
def moreR : PSt -> Bool
 | .ok (_ :: _) => true
 | _ => false
def St30 (W2 : World) (bp bm : Nat) (l : Bytes) (ts : List Lx.Tok) (v : Value) (g : SM -> SM) (wx : World) : Prop := ∃ s m y n c, Hid (refM l ts = g (s, m)) /\ Hid (Owns W2 wx (r3P W2 bp l ts v s :: blk bm (mobj m (.slice y n c)) :: fmP m.cond (.slice y n c) :: []))
set_option maxRecDepth 100000 in
set_option maxHeartbeats 40000000 in
theorem rMParse_c (l : Bytes) (w : World) (hl : l.length <= 20000) : Calls Tryz.prog 21 #[.string (bs l)] w (MParsePost w l) := by
 obtain ⟨b2, hb2⟩ : ∃ b, b = w.heap.size := ⟨_, rfl⟩; obtain ⟨W1, hW1⟩ : ∃ W, W = w.alloc zobjM := ⟨_, rfl⟩; have HO0 : Hid (Owns w W1 [blk b2 (mobj zeroM (.slice none 0 0))]) := by
  rw [hW1, hb2]; exact Lib.hid ((Owns.start w).box zobjM)
 have HB2 : Hid (w.heap.size <= b2) := by rw [hb2]; exact Nat.le_refl _
 go_enter Tryz.func21, Tryz.ntmps21
 go_wp2_with fail
 rw [<- hW1, <- hb2]; clear hW1 hb2
 try go_at_call 56
 refine (rLex_c l W1 (by omega)).mono ?_; rintro e W2 ⟨v, rfl, htk, hb⟩; replace HO0 := Lib.hid (HO0.out.below hb); have HW2 : Hid (w.heap.size <= W2.heap.size /\ b2 < W2.heap.size) := ⟨HO0.out.base.size, lt_of_block HO0.out.blk.1⟩; have HTk : Hid (TokL W2 v (lexAll l).1) := Lib.hid (TokL.of htk); clear htk hb; obtain ⟨ts, hts⟩ : ∃ ts, ts = (lexAll l).1 := ⟨_, rfl⟩; obtain ⟨ec, hec⟩ : ∃ ec, ec = (lexAll l).2.1 := ⟨_, rfl⟩; obtain ⟨ep, hep⟩ : ∃ ep, ep = (lexAll l).2.2 := ⟨_, rfl⟩; have HTs := Lib.hid hts; have HEc := Lib.hid hec; have HEp := Lib.hid hep; rw [<- hts] at HTk; rw [<- hec, <- hep]; clear hts hec hep; by_cases h0 : ec = 0
 case neg =>
  have h0' : ((ec : Int) != 0) = true := by simpa using h0
  have HR : Hid (parseM l = (zeroM, ec, ep)) := by
   show _ = _; unfold parseM; rw [if_pos (by rw [<- HEc.out]; exact h0), <- HEc.out, <- HEp.out]
  clear h0; have HO := HO0; simp only [zeroM, zeroF] at HO; obtain ⟨hbm, ⟨fm0, fm1, fm2, fm3, fm4, fm5, fm6, fm7, fm8, fm9, fm10, fm11⟩, cm0, cm1, cm2, cm3, cm4, cm5, cm6, cm7, cm8, cm9, cm10, cm11⟩ := bx12 HO.out.blk; repeat (first | go_values | go_skip | go_guarded | go_step | go_upon | (simp only [Int.not_lt, Int.not_le] at *; go_simp))
  have h2 := set12_owns HO0.out zeroM (.slice none 0 0); refine bodyPost_ret (rmparse_res rfl h2.blk.1) (by rfl) ⟨.slice none 0 0, ?_, ?_, h2.base⟩
  ·rw [HR.out]; rfl
  ·rw [HR.out]; exact .leaf _ _ _ _ _ _
 have h0' : ((ec : Int) != 0) = false := by simpa using h0
 replace h0 : Hid ((lexAll l).2.1 = 0) := by rw [<- HEc.out]; exact Lib.hid h0
 obtain ⟨yv, mv, rfl⟩ := HTk.out.form; obtain ⟨N, hN⟩ : ∃ N, N = ts.length := ⟨_, rfl⟩; have HN := Lib.hid hN; have hN5 : N <= 5000 := by rw [hN, HTs.out]; exact lexAll_len l
 rw [<- hN] at HTk ⊢; obtain ⟨bp, hbp⟩ : ∃ bp, bp = W2.heap.size := ⟨_, rfl⟩; obtain ⟨bm, hbm⟩ : ∃ b, b = bp + 1 := ⟨_, rfl⟩; obtain ⟨W4, hW4⟩ : ∃ W4, W4 = (W2.alloc (.cells #[.string (bs l), .slice yv N mv, .int .i64 0, .int .i64 0, .int .i64 0] 93)).alloc (.cells #[.string ⟨#[]⟩, .string ⟨#[]⟩, .int .i64 1, .string ⟨#[]⟩, .int .i64 1, .string ⟨#[]⟩, .int .i64 0, .int .i64 0, .slice none 0 0, .int .i64 0, .int .i64 (-1), .int .i64 0] 26) := ⟨_, rfl⟩; have HO : Hid (Owns W2 W4 (r3P W2 bp l ts (.slice yv N mv) (.ok ts) :: blk bm (mobj (startM 1) (.slice none 0 0)) :: fmP trueF (.slice none 0 0) :: [])) := by
  have h1 := (((Owns.start W2).leaf 1 [] 0 0 none 0).box (r3obj l (.slice yv N mv) 0 (.ok []))).box (mobj (startM 1) (.slice none 0 0)); rw [World.size_alloc] at h1; rw [<- hbp, <- hbm] at h1; have h2 := h1.re [1, 0, 2]; rw [hW4]; exact Lib.hid (Owns.asR3 (i := 0) h2 trivial HTk.out (Nat.zero_le _) (fun ts' h => by cases h; rfl))
 have HN9 : Hid (ts.length <= 1000000) := by rw [<- HN.out]; exact Lib.hid (by omega)
 have HI : Hid (LexP l 0 ts) := by
  have h1 := lexAll_p h0.out; rw [HTs.out]; exact Lib.hid h1.1
 clear hN; go_upto_region 6 with fail
 rw [<- hbp, <- hbm, <- hW4]; clear hbp hbm hW4; obtain ⟨q1, hq1⟩ : ∃ q, q = seesR 1 wExempt (.ok ts) := ⟨_, rfl⟩; obtain ⟨q2, hq2⟩ : ∃ q, q = seesR 1 wBlock (.ok ts) := ⟨_, rfl⟩; have HQ1 := Lib.hid hq1; have HQ2 := Lib.hid hq2; clear hq1 hq2 h0'; go_cut [34] (fun v wx => v = .bool (q1 || q2) /\ Hid (Owns W2 wx (r3P W2 bp l ts (.slice yv N mv) (.ok ts) :: blk bm (mobj (startM 1) (.slice none 0 0)) :: fmP trueF (.slice none 0 0) :: [])))
 case first =>
  as_aux_lemma =>
   go_wp2_with fail
   go_at_call 57
   refine (sees30_c _ (.ok ts) 1 wExempt W4 HO.out.base HN9.out (by decide) HO.out).mono ?_; rintro e W5 ⟨rfl, ho⟩; replace HO := Lib.hid ho; rw [<- HQ1.out]; clear ho HQ1; cases q1
   ·go_wp2_with fail
    go_at_call 57
    refine (sees30_c _ (.ok ts) 1 wBlock W5 HO.out.base HN9.out (by decide) HO.out).mono ?_; rintro e W6 ⟨rfl, ho⟩; replace HO := Lib.hid ho; rw [<- HQ2.out]; clear ho HQ2; go_wp2_with fail
    go_meet
    exact ⟨by simp, HO⟩
   ·go_wp2_with fail
    go_meet
    exact ⟨by simp, HO⟩
 obtain ⟨rfl, HO1⟩ := hcut; clear HO; obtain ⟨W5, hWn⟩ : ∃ W, W = wc := ⟨_, rfl⟩; rw [<- hWn] at HO1 ⊢; clear hWn; have HO := HO1; clear HO1; go_upto_if 34 with fail
 go_cut [] (fun wx => St30 W2 bp bm l ts (.slice yv N mv) (kK l) wx)
 case first =>
  as_aux_lemma =>
   by_cases hq : (q1 || q2) = true
   ·obtain ⟨t, r, htr⟩ : ∃ t r, (Except.ok ts : PSt) = .ok (t :: r) := by
     rw [Bool.or_eq_true, HQ1.out, HQ2.out] at hq; rcases hq with h | h
     ·exact sees_ok h
     ·exact sees_ok h
    have HX : Hid (stK l.length (.ok ts, startM 1) = ((takeR l.length 1 [] (.ok r)).2, { startM 1 with kind := if q2 = true then 3 else 2, target := (takeR l.length 1 [] (.ok r)).1.text })) := by
     show _ = _; unfold stK; dsimp only; rw [if_pos (by rw [Bool.or_eq_true, HQ1.out, HQ2.out] at hq; exact hq), <- HQ2.out, htr]
     rfl
    rw [hq]; rw [htr] at HO HQ2; clear hq htr HQ1; obtain ⟨hbm, ⟨fm0, fm1, fm2, fm3, fm4, fm5, fm6, fm7, fm8, fm9, fm10, fm11⟩, cm0, cm1, cm2, cm3, cm4, cm5, cm6, cm7, cm8, cm9, cm10, cm11⟩ := bx12 HO.out.swap.blk; have HO2 : Hid (Owns W2 (W5.setCell ⟨bm, 2, none⟩ (.int .i64 2)) (r3P W2 bp l ts (.slice yv N mv) (.ok (t :: r)) :: blk bm (mobj { startM 1 with kind := 2 } (.slice none 0 0)) :: fmP trueF (.slice none 0 0) :: [])) := Lib.hid (HO.out.swap.store (i := 2) (.int .i64 2)).swap; go_wp2_with fail
    clear hbm fm0 fm1 fm2 fm3 fm4 fm5 fm6 fm7 fm8 fm9 fm10 fm11 cm0 cm1 cm2 cm3 cm4 cm5 cm6 cm7 cm8 cm9 cm10 cm11; replace HO := HO2; clear HO2; go_at_call 57
    refine (sees30_c _ (.ok (t :: r)) 1 wBlock _ HO.out.base HN9.out (by decide) HO.out).mono ?_; rintro e W6 ⟨rfl, ho⟩; replace HO := Lib.hid ho; rw [<- HQ2.out]; clear ho HQ2; cases q2
    ·
     obtain ⟨i, hlt, hit, htv, hsp, h1, hback⟩ := skip30 HO.out; have h3 := hback _ _ (h1.store (i := 2) (.int .i64 ((i : Int) + 1))); rw [<- HN.out] at hlt; have HIt := Lib.hid hit; have hlt' : (i : Int) < (N : Int) := by omega
     have hiN : i <= 5000 := by omega
     have HO3 := Lib.hid h3; simp only [r3obj, code, pos] at h1; obtain ⟨hbp, ⟨fp0, fp1, fp2, fp3, fp4⟩, cp0, cp1, cp2, cp3, cp4⟩ := bx5 h1.blk; clear hback h1 hit h3 htv hsp; go_wp2_with fail
     clear hbp fp0 fp1 fp2 fp3 fp4 cp0 cp1 cp2 cp3 cp4; replace HO := HO3; clear HO3; go_at_call 58
     refine (take30_c _ (.ok r) 1 [] _ HN9.out (by decide) hl HO.out).mono ?_; rintro e W7 ⟨rfl, ho⟩; obtain ⟨p, hp⟩ : ∃ p, p = takeR l.length 1 [] (.ok r) := ⟨_, rfl⟩; have HP := Lib.hid hp; rw [<- hp] at ho ⊢; obtain ⟨⟨k7, p7, n7, u7⟩, s1⟩ := p; clear hp; simp only [tkval] at ho ⊢; rw [<- HP.out] at HX; replace HO := Lib.hid ho; clear ho HP; obtain ⟨hbm, ⟨fm0, fm1, fm2, fm3, fm4, fm5, fm6, fm7, fm8, fm9, fm10, fm11⟩, cm0, cm1, cm2, cm3, cm4, cm5, cm6, cm7, cm8, cm9, cm10, cm11⟩ := bx12 HO.out.swap.blk; have hft := field_text k7 p7 n7 u7 W7; go_wp2_with fail
     go_meet
     exact ⟨s1, { startM 1 with kind := 2, target := u7 }, none, 0, 0, Lib.hid ((refM_k l ts).trans (congrArg (kK l) HX.out)), Lib.hid (HO.out.swap.store (i := 3) (.string (bs u7))).swap⟩
    ·obtain ⟨bk, -⟩ := HO.out.swap.blk; have hbm := lt_of_block bk; have fm0 := free_of_heap bk (i := 0); have fm1 := free_of_heap bk (i := 1); have fm2 := free_of_heap bk (i := 2); have fm3 := free_of_heap bk (i := 3); have fm4 := free_of_heap bk (i := 4); have fm5 := free_of_heap bk (i := 5); have fm6 := free_of_heap bk (i := 6); have fm7 := free_of_heap bk (i := 7); have fm8 := free_of_heap bk (i := 8); have fm9 := free_of_heap bk (i := 9); have fm10 := free_of_heap bk (i := 10); have fm11 := free_of_heap bk (i := 11); have cm0 := cell_of_heap bk (i := 0); have cm1 := cell_of_heap bk (i := 1); have cm2 := cell_of_heap bk (i := 2); have cm3 := cell_of_heap bk (i := 3); have cm4 := cell_of_heap bk (i := 4); have cm5 := cell_of_heap bk (i := 5); have cm6 := cell_of_heap bk (i := 6); have cm7 := cell_of_heap bk (i := 7); have cm8 := cell_of_heap bk (i := 8); have cm9 := cell_of_heap bk (i := 9); have cm10 := cell_of_heap bk (i := 10); have cm11 := cell_of_heap bk (i := 11); simp only [List.getElem?_toArray, List.getElem?_cons_succ, List.getElem?_cons_zero] at cm0 cm1 cm2 cm3 cm4 cm5 cm6 cm7 cm8 cm9 cm10 cm11; clear bk; have HO2 : Hid (Owns W2 (W6.setCell ⟨bm, 2, none⟩ (.int .i64 3)) (r3P W2 bp l ts (.slice yv N mv) (.ok (t :: r)) :: blk bm (mobj { startM 1 with kind := 3 } (.slice none 0 0)) :: fmP trueF (.slice none 0 0) :: [])) := Lib.hid (HO.out.swap.store (i := 2) (.int .i64 3)).swap; go_upto_region 10 with fail
     clear hbm fm0 fm1 fm2 fm3 fm4 fm5 fm6 fm7 fm8 fm9 fm10 fm11 cm0 cm1 cm2 cm3 cm4 cm5 cm6 cm7 cm8 cm9 cm10 cm11; replace HO := HO2; clear HO2; obtain ⟨i, hlt, hit, htv, hsp, h1, hback⟩ := skip30 HO.out; have h3 := hback _ _ (h1.store (i := 2) (.int .i64 ((i : Int) + 1))); rw [<- HN.out] at hlt; have HIt := Lib.hid hit; have hlt' : (i : Int) < (N : Int) := by omega
     have hiN : i <= 5000 := by omega
     have HO3 := Lib.hid h3; simp only [r3obj, code, pos] at h1; obtain ⟨hbp, ⟨fp0, fp1, fp2, fp3, fp4⟩, cp0, cp1, cp2, cp3, cp4⟩ := bx5 h1.blk; clear hback h1 hit h3 htv hsp; go_wp2_with fail
     clear hbp fp0 fp1 fp2 fp3 fp4 cp0 cp1 cp2 cp3 cp4; replace HO := HO3; clear HO3; go_at_call 58
     refine (take30_c _ (.ok r) 1 [] _ HN9.out (by decide) hl HO.out).mono ?_; rintro e W7 ⟨rfl, ho⟩; obtain ⟨p, hp⟩ : ∃ p, p = takeR l.length 1 [] (.ok r) := ⟨_, rfl⟩; have HP := Lib.hid hp; rw [<- hp] at ho ⊢; obtain ⟨⟨k7, p7, n7, u7⟩, s1⟩ := p; clear hp; simp only [tkval] at ho ⊢; rw [<- HP.out] at HX; replace HO := Lib.hid ho; clear ho HP; obtain ⟨hbm, ⟨fm0, fm1, fm2, fm3, fm4, fm5, fm6, fm7, fm8, fm9, fm10, fm11⟩, cm0, cm1, cm2, cm3, cm4, cm5, cm6, cm7, cm8, cm9, cm10, cm11⟩ := bx12 HO.out.swap.blk; have hft := field_text k7 p7 n7 u7 W7; go_wp2_with fail
     go_meet
     exact ⟨s1, { startM 1 with kind := 3, target := u7 }, none, 0, 0, Lib.hid ((refM_k l ts).trans (congrArg (kK l) HX.out)), Lib.hid (HO.out.swap.store (i := 3) (.string (bs u7))).swap⟩
   ·have HX : Hid (stK l.length (.ok ts, startM 1) = ((takeR l.length 1 wForbid (.ok ts)).2, startM 1)) := by
     show _ = _; unfold stK; rw [if_neg (by rw [Bool.or_eq_true, HQ1.out, HQ2.out] at hq; exact hq)]
    rw [show (q1 || q2) = false from by simpa using hq]; clear hq HQ1 HQ2; go_wp2_with fail
    go_at_call 58
    refine (take30_c _ (.ok ts) 1 wForbid _ HN9.out (by decide) hl HO.out).mono ?_; rintro e W7 ⟨rfl, ho⟩; go_wp2_with fail
    go_meet
    exact ⟨_, startM 1, none, 0, 0, Lib.hid ((refM_k l ts).trans (congrArg (kK l) HX.out)), Lib.hid ho⟩
 obtain ⟨s, m, y, n, c, HX, HO1⟩ := hcut; clear HO HQ1 HQ2; obtain ⟨W5, hWn⟩ : ∃ W, W = wc := ⟨_, rfl⟩; rw [<- hWn] at HO1 ⊢; clear hWn; have HO := HO1; clear HO1; go_wp2_with fail
 go_at_call 58
 refine (take30_c _ s 1 [] _ HN9.out (by decide) hl HO.out).mono ?_; rintro e W6 ⟨rfl, ho⟩; obtain ⟨p, hp⟩ : ∃ p, p = takeR l.length 1 [] s := ⟨_, rfl⟩; have HP := Lib.hid hp; rw [<- hp] at ho ⊢; obtain ⟨⟨k7, p7, n7, u7⟩, s1⟩ := p; clear hp; simp only [tkval] at ho ⊢; replace HX : Hid (refM l ts = kI l (if okR s1 = true /\ m.kind = 2 /\ u7 = m.target then failS s1 1 p7 else s1, { m with id := u7 })) := by
  show _ = _; rw [HX.out]; show kI l (stI l.length (s, m)) = _; unfold stI; dsimp only; rw [<- HP.out]
 clear HP; obtain ⟨W7, hW7⟩ : ∃ W, W = W6.alloc (t3obj k7 p7 n7 u7) := ⟨_, rfl⟩; obtain ⟨b7, hb7⟩ : ∃ b, b = W6.heap.size := ⟨_, rfl⟩; replace HO : Hid (Owns W2 W7 (blk b7 (t3obj k7 p7 n7 u7) :: r3P W2 bp l ts (.slice yv N mv) s1 :: blk bm (mobj m (.slice y n c)) :: fmP m.cond (.slice y n c) :: [])) := by
  rw [hW7, hb7]; exact Lib.hid (ho.box (t3obj k7 p7 n7 u7))
 go_upto_region 14 with fail
 rw [<- hW7, <- hb7]; clear hW7 hb7 ho; obtain ⟨ht6, -, ct0, ct1, ct2, ct3⟩ := bx4 HO.out.blk; obtain ⟨hbm, ⟨fm0, fm1, fm2, fm3, fm4, fm5, fm6, fm7, fm8, fm9, fm10, fm11⟩, cm0, cm1, cm2, cm3, cm4, cm5, cm6, cm7, cm8, cm9, cm10, cm11⟩ := bx12 ((HO.out.re [2, 0, 1]).blk); have HO2 : Hid (Owns W2 (W7.setCell ⟨bm, 0, none⟩ (.string (bs u7))) (blk b7 (t3obj k7 p7 n7 u7) :: r3P W2 bp l ts (.slice yv N mv) s1 :: blk bm (mobj { m with id := u7 } (.slice y n c)) :: fmP m.cond (.slice y n c) :: [])) := Lib.hid (((HO.out.re [2, 0, 1]).store (i := 0) (.string (bs u7))).re [1, 2, 0]); go_upto_region 15 with fail
 clear ht6 ct0 ct1 ct2 ct3; clear hbm fm0 fm1 fm2 fm3 fm4 fm5 fm6 fm7 fm8 fm9 fm10 fm11 cm0 cm1 cm2 cm3 cm4 cm5 cm6 cm7 cm8 cm9 cm10 cm11; obtain ⟨W8, hW8⟩ : ∃ W, W = W7.setCell ⟨bm, 0, none⟩ (.string (bs u7)) := ⟨_, rfl⟩; rw [<- hW8] at HO2 ⊢; replace HO := HO2; clear HO2 hW8; go_cut [73] (fun v wx => v = .bool (okR s1 && (decide (m.kind = 2) && decide (u7 = m.target))) /\ Hid (Owns W2 wx (blk b7 (t3obj k7 p7 n7 u7) :: r3P W2 bp l ts (.slice yv N mv) s1 :: blk bm (mobj { m with id := u7 } (.slice y n c)) :: fmP m.cond (.slice y n c) :: [])))
 case first =>
  as_aux_lemma =>
   obtain ⟨hf, hv, i, hi, hd, h1⟩ := (HO.out.swap).r3; rcases s1 with ⟨c0, a0⟩ | ts1
   ·have hx : ((c0 : Int) == 0) = false := by have h0 : c0 ≠ 0 := hf; simpa using h0
    simp only [r3obj, code, pos] at h1; obtain ⟨hbp, ⟨fp0, fp1, fp2, fp3, fp4⟩, cp0, cp1, cp2, cp3, cp4⟩ := bx5 h1.blk; clear hf hv hi hd h1; go_wp2_with fail
    go_meet
    exact ⟨by simp [okR], HO⟩
   ·simp only [r3obj, code, pos] at h1; obtain ⟨hbp, ⟨fp0, fp1, fp2, fp3, fp4⟩, cp0, cp1, cp2, cp3, cp4⟩ := bx5 h1.blk; obtain ⟨hbm, ⟨fm0, fm1, fm2, fm3, fm4, fm5, fm6, fm7, fm8, fm9, fm10, fm11⟩, cm0, cm1, cm2, cm3, cm4, cm5, cm6, cm7, cm8, cm9, cm10, cm11⟩ := bx12 ((HO.out.re [2, 0, 1]).blk); clear hf hv hi hd h1; by_cases hk : m.kind = 2
    ·have hk' : (m.kind == 2) = true := by simpa using hk
     by_cases hu : u7 = m.target
     ·have hu' : (u7 == m.target) = true := by simpa using hu
      have HE : Hid ((okR (.ok ts1) && (decide (m.kind = 2) && decide (u7 = m.target))) = true) := Lib.hid (by simp [okR, hk, hu]); clear hk hu; go_wp2_with fail
      go_meet
      exact ⟨by rw [HE.out], HO⟩
     ·have hu' : (u7 == m.target) = false := by simpa using hu
      have HE : Hid ((okR (.ok ts1) && (decide (m.kind = 2) && decide (u7 = m.target))) = false) := Lib.hid (by simp [okR, hu]); clear hk hu; go_wp2_with fail
      go_meet
      exact ⟨by rw [HE.out], HO⟩
    ·have hk' : (m.kind == 2) = false := by simpa using hk
     have HE : Hid ((okR (.ok ts1) && (decide (m.kind = 2) && decide (u7 = m.target))) = false) := Lib.hid (by simp [okR, hk]); clear hk; go_wp2_with fail
     go_meet
     exact ⟨by rw [HE.out], HO⟩
 obtain ⟨rfl, HO1⟩ := hcut; clear HO; obtain ⟨W9, hWn⟩ : ∃ W, W = wc := ⟨_, rfl⟩; rw [<- hWn] at HO1 ⊢; clear hWn; have HO := HO1; clear HO1; go_upto_if 73 with fail
 go_cut [] (fun wx => St30 W2 bp bm l ts (.slice yv N mv) (kI l) wx)
 case first =>
  as_aux_lemma =>
   by_cases hq : okR s1 = true /\ m.kind = 2 /\ u7 = m.target
   ·rw [show (okR s1 && (decide (m.kind = 2) && decide (u7 = m.target))) = true from by simp [hq]]; replace HX : Hid (refM l ts = kI l (failS s1 1 p7, { m with id := u7 })) := by
     show _ = _; rw [HX.out, if_pos hq]
    clear hq; obtain ⟨ht6, -, ct0, ct1, ct2, ct3⟩ := bx4 HO.out.blk; go_wp2_with fail
    clear ht6 ct0 ct1 ct2 ct3; go_at_call 59
    refine (fault30_c _ s1 1 p7 (by omega) _ HO.out.swap).mono ?_; rintro e W10 ⟨rfl, ho⟩; go_wp2_with fail
    go_meet
    exact ⟨_, _, y, n, c, HX, Lib.hid ho.swap.pop⟩
   ·rw [show (okR s1 && (decide (m.kind = 2) && decide (u7 = m.target))) = false from by
     simp only [not_and] at hq; rcases h : okR s1 with _ | _
     ·rfl
     ·by_cases hk : m.kind = 2
      ·simp [hk, hq h hk]
      ·simp [hk]]
    replace HX : Hid (refM l ts = kI l (s1, { m with id := u7 })) := by
     show _ = _; rw [HX.out, if_neg hq]
    clear hq; go_wp2_with fail
    go_meet
    exact ⟨_, _, y, n, c, HX, Lib.hid HO.out.pop⟩
 clear HO HX; obtain ⟨s, m, y, n, c, HX, HO1⟩ := hcut; obtain ⟨W5, hWn⟩ : ∃ W, W = wc := ⟨_, rfl⟩; rw [<- hWn] at HO1 ⊢; clear hWn; have HO := HO1; clear HO1; go_wp2_with fail
 go_at_call 58
 refine (take30_c _ s 1 wOf _ HN9.out (by decide) hl HO.out).mono ?_; rintro e W6 ⟨rfl, ho⟩; replace HX : Hid (refM l ts = kO l ((takeR l.length 1 wOf s).2, m)) := HX; obtain ⟨s1, hs1⟩ : ∃ s1, s1 = (takeR l.length 1 wOf s).2 := ⟨_, rfl⟩; rw [<- hs1] at HX ho; obtain ⟨q, hq⟩ : ∃ q, q = tkval (takeR l.length 1 wOf s).1 := ⟨_, rfl⟩; rw [<- hq]; clear HO hs1 hq; obtain ⟨s, hs⟩ : ∃ s, s = s1 := ⟨_, rfl⟩; rw [<- hs] at HX ho; clear hs; have HO := Lib.hid ho; clear ho; go_wp2_with fail
 go_at_call 58
 refine (take30_c _ s 1 [] _ HN9.out (by decide) hl HO.out).mono ?_; rintro e W6 ⟨rfl, ho⟩; obtain ⟨p, hp⟩ : ∃ p, p = takeR l.length 1 [] s := ⟨_, rfl⟩; have HP := Lib.hid hp; rw [<- hp] at ho ⊢; obtain ⟨⟨k7, p7, n7, u7⟩, s1⟩ := p; clear hp; simp only [tkval] at ho ⊢; replace HX : Hid (refM l ts = kA l (if okR s1 = true /\ m.kind = 3 /\ u7 = m.target then failS s1 1 p7 else s1, { m with auth := u7 })) := by
  show _ = _; rw [HX.out]; show kA l (stA l.length (s, m)) = _; unfold stA; dsimp only; rw [<- HP.out]
 clear HP; obtain ⟨W7, hW7⟩ : ∃ W, W = W6.alloc (t3obj k7 p7 n7 u7) := ⟨_, rfl⟩; obtain ⟨b7, hb7⟩ : ∃ b, b = W6.heap.size := ⟨_, rfl⟩; replace HO : Hid (Owns W2 W7 (blk b7 (t3obj k7 p7 n7 u7) :: r3P W2 bp l ts (.slice yv N mv) s1 :: blk bm (mobj m (.slice y n c)) :: fmP m.cond (.slice y n c) :: [])) := by
  rw [hW7, hb7]; exact Lib.hid (ho.box (t3obj k7 p7 n7 u7))
 go_upto_region 19 with fail
 rw [<- hW7, <- hb7]; clear hW7 hb7 ho; obtain ⟨ht6, -, ct0, ct1, ct2, ct3⟩ := bx4 HO.out.blk; obtain ⟨hbm, ⟨fm0, fm1, fm2, fm3, fm4, fm5, fm6, fm7, fm8, fm9, fm10, fm11⟩, cm0, cm1, cm2, cm3, cm4, cm5, cm6, cm7, cm8, cm9, cm10, cm11⟩ := bx12 ((HO.out.re [2, 0, 1]).blk); have HO2 : Hid (Owns W2 (W7.setCell ⟨bm, 1, none⟩ (.string (bs u7))) (blk b7 (t3obj k7 p7 n7 u7) :: r3P W2 bp l ts (.slice yv N mv) s1 :: blk bm (mobj { m with auth := u7 } (.slice y n c)) :: fmP m.cond (.slice y n c) :: [])) := Lib.hid (((HO.out.re [2, 0, 1]).store (i := 1) (.string (bs u7))).re [1, 2, 0]); go_upto_region 20 with fail
 clear ht6 ct0 ct1 ct2 ct3; clear hbm fm0 fm1 fm2 fm3 fm4 fm5 fm6 fm7 fm8 fm9 fm10 fm11 cm0 cm1 cm2 cm3 cm4 cm5 cm6 cm7 cm8 cm9 cm10 cm11; obtain ⟨W8, hW8⟩ : ∃ W, W = W7.setCell ⟨bm, 1, none⟩ (.string (bs u7)) := ⟨_, rfl⟩; rw [<- hW8] at HO2 ⊢; replace HO := HO2; clear HO2 hW8; go_cut [101] (fun v wx => v = .bool (okR s1 && (decide (m.kind = 3) && decide (u7 = m.target))) /\ Hid (Owns W2 wx (blk b7 (t3obj k7 p7 n7 u7) :: r3P W2 bp l ts (.slice yv N mv) s1 :: blk bm (mobj { m with auth := u7 } (.slice y n c)) :: fmP m.cond (.slice y n c) :: [])))
 case first =>
  as_aux_lemma =>
   obtain ⟨hf, hv, i, hi, hd, h1⟩ := (HO.out.swap).r3; rcases s1 with ⟨c0, a0⟩ | ts1
   ·have hx : ((c0 : Int) == 0) = false := by have h0 : c0 ≠ 0 := hf; simpa using h0
    simp only [r3obj, code, pos] at h1; obtain ⟨hbp, ⟨fp0, fp1, fp2, fp3, fp4⟩, cp0, cp1, cp2, cp3, cp4⟩ := bx5 h1.blk; clear hf hv hi hd h1; go_wp2_with fail
    go_meet
    exact ⟨by simp [okR], HO⟩
   ·simp only [r3obj, code, pos] at h1; obtain ⟨hbp, ⟨fp0, fp1, fp2, fp3, fp4⟩, cp0, cp1, cp2, cp3, cp4⟩ := bx5 h1.blk; obtain ⟨hbm, ⟨fm0, fm1, fm2, fm3, fm4, fm5, fm6, fm7, fm8, fm9, fm10, fm11⟩, cm0, cm1, cm2, cm3, cm4, cm5, cm6, cm7, cm8, cm9, cm10, cm11⟩ := bx12 ((HO.out.re [2, 0, 1]).blk); clear hf hv hi hd h1; by_cases hk : m.kind = 3
    ·have hk' : (m.kind == 3) = true := by simpa using hk
     by_cases hu : u7 = m.target
     ·have hu' : (u7 == m.target) = true := by simpa using hu
      have HE : Hid ((okR (.ok ts1) && (decide (m.kind = 3) && decide (u7 = m.target))) = true) := Lib.hid (by simp [okR, hk, hu]); clear hk hu; go_wp2_with fail
      go_meet
      exact ⟨by rw [HE.out], HO⟩
     ·have hu' : (u7 == m.target) = false := by simpa using hu
      have HE : Hid ((okR (.ok ts1) && (decide (m.kind = 3) && decide (u7 = m.target))) = false) := Lib.hid (by simp [okR, hu]); clear hk hu; go_wp2_with fail
      go_meet
      exact ⟨by rw [HE.out], HO⟩
    ·have hk' : (m.kind == 3) = false := by simpa using hk
     have HE : Hid ((okR (.ok ts1) && (decide (m.kind = 3) && decide (u7 = m.target))) = false) := Lib.hid (by simp [okR, hk]); clear hk; go_wp2_with fail
     go_meet
     exact ⟨by rw [HE.out], HO⟩
 obtain ⟨rfl, HO1⟩ := hcut; clear HO; obtain ⟨W9, hWn⟩ : ∃ W, W = wc := ⟨_, rfl⟩; rw [<- hWn] at HO1 ⊢; clear hWn; have HO := HO1; clear HO1; go_upto_if 101 with fail
 go_cut [] (fun wx => St30 W2 bp bm l ts (.slice yv N mv) (kA l) wx)
 case first =>
  as_aux_lemma =>
   by_cases hq : okR s1 = true /\ m.kind = 3 /\ u7 = m.target
   ·rw [show (okR s1 && (decide (m.kind = 3) && decide (u7 = m.target))) = true from by simp [hq]]; replace HX : Hid (refM l ts = kA l (failS s1 1 p7, { m with auth := u7 })) := by
     show _ = _; rw [HX.out, if_pos hq]
    clear hq; obtain ⟨ht6, -, ct0, ct1, ct2, ct3⟩ := bx4 HO.out.blk; go_wp2_with fail
    clear ht6 ct0 ct1 ct2 ct3; go_at_call 59
    refine (fault30_c _ s1 1 p7 (by omega) _ HO.out.swap).mono ?_; rintro e W10 ⟨rfl, ho⟩; go_wp2_with fail
    go_meet
    exact ⟨_, _, y, n, c, HX, Lib.hid ho.swap.pop⟩
   ·rw [show (okR s1 && (decide (m.kind = 3) && decide (u7 = m.target))) = false from by
     simp only [not_and] at hq; rcases h : okR s1 with _ | _
     ·rfl
     ·by_cases hk : m.kind = 3
      ·simp [hk, hq h hk]
      ·simp [hk]]
    replace HX : Hid (refM l ts = kA l (s1, { m with auth := u7 })) := by
     show _ = _; rw [HX.out, if_neg hq]
    clear hq; go_wp2_with fail
    go_meet
    exact ⟨_, _, y, n, c, HX, Lib.hid HO.out.pop⟩
 clear HO HX; obtain ⟨s, m, y, n, c, HX, HO1⟩ := hcut; obtain ⟨W5, hWn⟩ : ∃ W, W = wc := ⟨_, rfl⟩; rw [<- hWn] at HO1 ⊢; clear hWn; have HO := HO1; clear HO1; go_wp2_with fail
 go_at_call 57
 refine (sees30_c _ s 1 wIf _ HO.out.base HN9.out (by decide) HO.out).mono ?_; rintro e W6 ⟨rfl, ho⟩; replace HO := Lib.hid ho; obtain ⟨q, hq⟩ : ∃ q, q = seesR 1 wIf s := ⟨_, rfl⟩; rw [<- hq]; have HQ := Lib.hid hq; clear ho hq; go_upto_if 107 with fail
 go_cut [] (fun wx => St30 W2 bp bm l ts (.slice yv N mv) (kC l) wx)
 case first =>
  as_aux_lemma =>
   cases q
   ·replace HX : Hid (refM l ts = kC l (s, m)) := by
     show _ = _; rw [HX.out]; show kC l (stC l (s, m)) = _; unfold stC; rw [if_neg (by rw [<- HQ.out]; simp)]
    go_wp2_with fail
    go_meet
    exact ⟨s, m, y, n, c, HX, HO⟩
   ·obtain ⟨t, r, rfl⟩ := sees_ok HQ.out.symm; have hw : t.kind = 1 /\ t.text = wIf := by
     have h := HQ.out.symm
     simpa [seesR, show ¬ wIf = [] by decide] using h
    replace HX : Hid (refM l ts = kC l ((condR l (t.pos + 2) r).2, { m with cond := (condR l (t.pos + 2) r).1 })) := by
     show _ = _; rw [HX.out]; show kC l (stC l (.ok (t :: r), m)) = _; unfold stC; rw [if_pos HQ.out.symm]
     rfl
    obtain ⟨i, hlt, hit, htv, hsp, h1, hback⟩ := skip30 HO.out; have hb := if_bounds HI.out hsp hw.1 (by rw [hw.2]; rfl) (fromM r); obtain ⟨kb, hkb⟩ : ∃ k : Nat, (t.pos : Int) + 2 = (k : Int) := ⟨t.pos + 2, by omega⟩; have e1 : t.pos + 2 = kb := by omega
    rw [e1] at hb HX; have hkb9 : kb <= 20000 := by have := hb.1; have := hb.2; omega
    have HBd := Lib.hid hb; obtain ⟨i1, hi1⟩ : ∃ k : Nat, (i : Int) + 1 = (k : Int) := ⟨i + 1, by omega⟩; simp only [hi1] at hback; have h4 := h1.store (i := 2) (.int .i64 (i1 : Int)); have h3 := hback _ _ h4; have HO3 := Lib.hid h3; have HO4 : Hid (Owns W2 (W6.setCell ⟨bp, 2, none⟩ (.int .i64 (i1 : Int))) (blk bp (.cells #[.string (bs l), .slice yv N mv, .int .i64 (i1 : Int), .int .i64 0, .int .i64 0] 93 (0, 0)) :: blk bm (mobj m (.slice y n c)) :: fmP m.cond (.slice y n c) :: [])) := Lib.hid h4; have hsub : (i1 : Int) - 1 = (i : Int) := by omega
    rw [<- HN.out] at hlt; have hlt' : (i : Int) < (N : Int) := by omega
    have hiN : i <= 5000 := by omega
    have HIt := Lib.hid hit; simp only [r3obj, code, pos] at h1; obtain ⟨hbp, ⟨fp0, fp1, fp2, fp3, fp4⟩, cp0, cp1, cp2, cp3, cp4⟩ := bx5 h1.blk; clear hback h1 hit h3 h4 htv hsp hb hw HQ e1; go_upto_region 24 with fail
    clear hbp fp0 fp1 fp2 fp3 fp4 cp0 cp1 cp2 cp3 cp4; obtain ⟨W7, hW7⟩ : ∃ W, W = W6.setCell ⟨bp, 2, none⟩ (.int .i64 (i1 : Int)) := ⟨_, rfl⟩; rw [<- hW7] at HO3 HO4 ⊢; clear hW7 HO; obtain ⟨g, off, hy, hNm, hg, c0, c1, c2, c3⟩ := HTk.out.get HO3.out.base HIt.out; subst hy; have hp9 : t.pos <= 20000 := by omega
    obtain ⟨hbp, ⟨fp0, fp1, fp2, fp3, fp4⟩, cp0, cp1, cp2, cp3, cp4⟩ := bx5 HO4.out.blk; go_wp2_with fail
    clear hbp fp0 fp1 fp2 fp3 fp4 cp0 cp1 cp2 cp3 cp4; clear c0 c1 c2 c3 hg HO4; go_at_call 60
    refine (formula30_c _ r kb W7 HO3.out hl HN9.out HBd.out.1 HBd.out.2).mono ?_; rintro e W8 ⟨kv, rfl, ho⟩; obtain ⟨f, hf⟩ : ∃ f, f = (condR l kb r).1 := ⟨_, rfl⟩; obtain ⟨s1, hs1⟩ : ∃ s1, s1 = (condR l kb r).2 := ⟨_, rfl⟩; rw [<- hf, <- hs1] at ho HX; rw [<- hf]; clear hf hs1 HO3 HBd; obtain ⟨ky, km, rfl⟩ := (Owns.fm ho).form; obtain ⟨n2, hn2⟩ : ∃ n, n = f.kids.length := ⟨_, rfl⟩; rw [<- hn2] at ho ⊢; clear hn2; simp only [fval]; have HO := Lib.hid (ho.re [2, 0, 1]); clear ho; obtain ⟨hbm, ⟨fm0, fm1, fm2, fm3, fm4, fm5, fm6, fm7, fm8, fm9, fm10, fm11⟩, cm0, cm1, cm2, cm3, cm4, cm5, cm6, cm7, cm8, cm9, cm10, cm11⟩ := bx12 HO.out.blk; go_wp2_with fail
    go_meet
    exact ⟨s1, { m with cond := f }, ky, n2, km, HX, Lib.hid ((setF_owns HO.out f (.slice ky n2 km)).re [3, 2, 0, 1]).pop⟩
 clear HO HX HQ; obtain ⟨s, m, y, n, c, HX, HO1⟩ := hcut; obtain ⟨W5, hWn⟩ : ∃ W, W = wc := ⟨_, rfl⟩; rw [<- hWn] at HO1 ⊢; clear hWn; have HO := HO1; clear HO1; go_wp2_with fail
 go_at_call 58
 refine (take30_c _ s 1 wFrom _ HN9.out (by decide) hl HO.out).mono ?_; rintro e W6 ⟨rfl, ho⟩; obtain ⟨q, hq⟩ : ∃ q, q = tkval (takeR l.length 1 wFrom s).1 := ⟨_, rfl⟩; rw [<- hq]; obtain ⟨s0, hs0⟩ : ∃ s0, s0 = (takeR l.length 1 wFrom s).2 := ⟨_, rfl⟩; rw [<- hs0] at ho; replace HX : Hid (refM l ts = kF l ((numR l.length 0 100000 s0).2, { m with fr := (numR l.length 0 100000 s0).1 })) := by
  show _ = _; rw [HX.out, hs0]
  rfl
 clear hq hs0 HO; go_wp2_with fail
 go_at_call 61
 refine (number30_c _ s0 0 100000 _ HN9.out hl ho).mono ?_; clear ho; rintro e W7 ⟨rfl, ho⟩; have HB := Lib.hid (num_ok (fin := (l.length : Int)) (a := 0) (b := 100000) (s := s0)); obtain ⟨fr, hfr⟩ : ∃ x, x = (numR l.length 0 100000 s0).1 := ⟨_, rfl⟩; obtain ⟨s1, hs1⟩ : ∃ x, x = (numR l.length 0 100000 s0).2 := ⟨_, rfl⟩; rw [<- hfr, <- hs1] at HX HB; rw [<- hs1] at ho; rw [<- hfr]; clear hfr hs1; obtain ⟨s, hs⟩ : ∃ s, s = s1 := ⟨_, rfl⟩; rw [<- hs] at HX HB ho; clear hs; have HO := Lib.hid ho; clear ho; obtain ⟨hbm, ⟨fm0, fm1, fm2, fm3, fm4, fm5, fm6, fm7, fm8, fm9, fm10, fm11⟩, cm0, cm1, cm2, cm3, cm4, cm5, cm6, cm7, cm8, cm9, cm10, cm11⟩ := bx12 HO.out.swap.blk; have HO2 : Hid (Owns W2 (W7.setCell ⟨bm, 9, none⟩ (.int .i64 fr)) (r3P W2 bp l ts (.slice yv N mv) s :: blk bm (mobj { m with fr := fr } (.slice y n c)) :: fmP m.cond (.slice y n c) :: [])) := Lib.hid (HO.out.swap.store (i := 9) (.int .i64 fr)).swap; go_upto_region 27 with fail
 clear hbm fm0 fm1 fm2 fm3 fm4 fm5 fm6 fm7 fm8 fm9 fm10 fm11 cm0 cm1 cm2 cm3 cm4 cm5 cm6 cm7 cm8 cm9 cm10 cm11; obtain ⟨W8, hW8⟩ : ∃ W, W = W7.setCell ⟨bm, 9, none⟩ (.int .i64 fr) := ⟨_, rfl⟩; rw [<- hW8] at HO2 ⊢; replace HO := HO2; clear HO2 hW8; obtain ⟨m1, hm1⟩ : ∃ m1, m1 = { m with fr := fr } := ⟨_, rfl⟩; have e1 : m.cond = m1.cond := by rw [hm1]
 have e2 : fr = m1.fr := by rw [hm1]
 rw [<- hm1, e1] at HO; rw [<- hm1] at HX; rw [e2] at HB; clear hm1 e1 e2; obtain ⟨m, hm⟩ : ∃ m, m = m1 := ⟨_, rfl⟩; rw [<- hm] at HO HX HB; clear hm; go_wp2_with fail
 go_at_call 57
 refine (sees30_c _ s 1 wUntil _ HO.out.base HN9.out (by decide) HO.out).mono ?_; rintro e W6 ⟨rfl, ho⟩; replace HO := Lib.hid ho; obtain ⟨q, hq⟩ : ∃ q, q = seesR 1 wUntil s := ⟨_, rfl⟩; rw [<- hq]; have HQ := Lib.hid hq; clear ho hq; go_upto_if 134 with fail
 go_cut [] (fun wx => St30 W2 bp bm l ts (.slice yv N mv) (kU l) wx)
 case first =>
  as_aux_lemma =>
   cases q
   ·replace HX : Hid (refM l ts = kU l (s, m)) := by
     show _ = _; rw [HX.out]; show kU l (stU l.length (s, m)) = _; unfold stU; rw [if_neg (by rw [<- HQ.out]; simp)]
    go_wp2_with fail
    go_meet
    exact ⟨s, m, y, n, c, HX, HO⟩
   ·obtain ⟨t, r, rfl⟩ := sees_ok HQ.out.symm; obtain ⟨hf0, hf1⟩ := HB.out rfl; replace HX : Hid (refM l ts = kU l ((numR l.length (m.fr + 1) 100000 (.ok r)).2, { m with un := (numR l.length (m.fr + 1) 100000 (.ok r)).1 })) := by
     show _ = _; rw [HX.out]; show kU l (stU l.length (.ok (t :: r), m)) = _; unfold stU; rw [if_pos HQ.out.symm]
     rfl
    clear HQ HB; obtain ⟨i, hlt, hit, htv, hsp, h1, hback⟩ := skip30 HO.out; have h3 := hback _ _ (h1.store (i := 2) (.int .i64 ((i : Int) + 1))); rw [<- HN.out] at hlt; have HIt := Lib.hid hit; have hlt' : (i : Int) < (N : Int) := by omega
    have hiN : i <= 5000 := by omega
    have HO3 := Lib.hid h3; simp only [r3obj, code, pos] at h1; obtain ⟨hbp, ⟨fp0, fp1, fp2, fp3, fp4⟩, cp0, cp1, cp2, cp3, cp4⟩ := bx5 h1.blk; clear hback h1 hit h3 htv hsp; go_upto_region 29 with fail
    clear hbp fp0 fp1 fp2 fp3 fp4 cp0 cp1 cp2 cp3 cp4; replace HO := HO3; clear HO3; obtain ⟨hbm, ⟨fm0, fm1, fm2, fm3, fm4, fm5, fm6, fm7, fm8, fm9, fm10, fm11⟩, cm0, cm1, cm2, cm3, cm4, cm5, cm6, cm7, cm8, cm9, cm10, cm11⟩ := bx12 HO.out.swap.blk; go_wp2_with fail
    clear hbm fm0 fm1 fm2 fm3 fm4 fm5 fm6 fm7 fm8 fm9 fm10 fm11 cm0 cm1 cm2 cm3 cm4 cm5 cm6 cm7 cm8 cm9 cm10 cm11; go_at_call 61
    refine (number30_c _ (.ok r) (m.fr + 1) 100000 _ HN9.out hl HO.out).mono ?_; rintro e W7 ⟨rfl, ho⟩; obtain ⟨x, hx⟩ : ∃ x, x = (numR l.length (m.fr + 1) 100000 (.ok r)).1 := ⟨_, rfl⟩; obtain ⟨s1, hs1⟩ : ∃ x, x = (numR l.length (m.fr + 1) 100000 (.ok r)).2 := ⟨_, rfl⟩; rw [<- hx, <- hs1] at HX; rw [<- hs1] at ho; rw [<- hx]; clear hx hs1; replace HO := Lib.hid ho; clear ho; obtain ⟨hbm, ⟨fm0, fm1, fm2, fm3, fm4, fm5, fm6, fm7, fm8, fm9, fm10, fm11⟩, cm0, cm1, cm2, cm3, cm4, cm5, cm6, cm7, cm8, cm9, cm10, cm11⟩ := bx12 HO.out.swap.blk; go_wp2_with fail
    go_meet
    exact ⟨s1, { m with un := x }, y, n, c, HX, Lib.hid (HO.out.swap.store (i := 10) (.int .i64 x)).swap⟩
 clear HO HX HQ HB; obtain ⟨s, m, y, n, c, HX, HO1⟩ := hcut; obtain ⟨W5, hWn⟩ : ∃ W, W = wc := ⟨_, rfl⟩; rw [<- hWn] at HO1 ⊢; clear hWn; have HO := HO1; clear HO1; obtain ⟨q, hq⟩ : ∃ q, q = seesR 1 wWind s := ⟨_, rfl⟩; have HQ := Lib.hid hq; clear hq; go_upto_region 30 with fail
 go_cut [154] (fun v wx => v = .bool (decide (m.kind = 1) && q) /\ Hid (Owns W2 wx (r3P W2 bp l ts (.slice yv N mv) s :: blk bm (mobj m (.slice y n c)) :: fmP m.cond (.slice y n c) :: [])))
 case first =>
  as_aux_lemma =>
   obtain ⟨hbm, ⟨fm0, fm1, fm2, fm3, fm4, fm5, fm6, fm7, fm8, fm9, fm10, fm11⟩, cm0, cm1, cm2, cm3, cm4, cm5, cm6, cm7, cm8, cm9, cm10, cm11⟩ := bx12 HO.out.swap.blk; by_cases hk : m.kind = 1
   ·have hk' : (m.kind == 1) = true := by simpa using hk
    have HE : Hid ((decide (m.kind = 1) && q) = q) := Lib.hid (by simp [hk]); clear hk; go_wp2_with fail
    clear hbm fm0 fm1 fm2 fm3 fm4 fm5 fm6 fm7 fm8 fm9 fm10 fm11 cm0 cm1 cm2 cm3 cm4 cm5 cm6 cm7 cm8 cm9 cm10 cm11; go_at_call 57
    refine (sees30_c _ s 1 wWind _ HO.out.base HN9.out (by decide) HO.out).mono ?_; rintro e W6 ⟨rfl, ho⟩; rw [<- HQ.out]; go_wp2_with fail
    go_meet
    exact ⟨by rw [HE.out], Lib.hid ho⟩
   ·have hk' : (m.kind == 1) = false := by simpa using hk
    have HE : Hid ((decide (m.kind = 1) && q) = false) := Lib.hid (by simp [hk]); clear hk; go_wp2_with fail
    go_meet
    exact ⟨by rw [HE.out], HO⟩
 obtain ⟨rfl, HO1⟩ := hcut; clear HO; obtain ⟨W9, hWn⟩ : ∃ W, W = wc := ⟨_, rfl⟩; rw [<- hWn] at HO1 ⊢; clear hWn; have HO := HO1; clear HO1; go_upto_if 154 with fail
 go_cut [] (fun wx => St30 W2 bp bm l ts (.slice yv N mv) (kW l) wx)
 case first =>
  as_aux_lemma =>
   by_cases hq : m.kind = 1 /\ seesR 1 wWind s = true
   ·rw [show (decide (m.kind = 1) && q) = true from by rw [HQ.out]; simp [hq]]; obtain ⟨t, r, rfl⟩ := sees_ok hq.2; replace HX : Hid (refM l ts = kW l ((numR l.length 0 400 (.ok r)).2, { m with wi := (numR l.length 0 400 (.ok r)).1 })) := by
     show _ = _; rw [HX.out]; show kW l (stW l.length (.ok (t :: r), m)) = _; unfold stW; rw [if_pos hq]
     rfl
    clear HQ hq; obtain ⟨i, hlt, hit, htv, hsp, h1, hback⟩ := skip30 HO.out; have h3 := hback _ _ (h1.store (i := 2) (.int .i64 ((i : Int) + 1))); rw [<- HN.out] at hlt; have HIt := Lib.hid hit; have hlt' : (i : Int) < (N : Int) := by omega
    have hiN : i <= 5000 := by omega
    have HO3 := Lib.hid h3; simp only [r3obj, code, pos] at h1; obtain ⟨hbp, ⟨fp0, fp1, fp2, fp3, fp4⟩, cp0, cp1, cp2, cp3, cp4⟩ := bx5 h1.blk; clear hback h1 hit h3 htv hsp; go_wp2_with fail
    clear hbp fp0 fp1 fp2 fp3 fp4 cp0 cp1 cp2 cp3 cp4; replace HO := HO3; clear HO3; go_at_call 61
    refine (number30_c _ (.ok r) (0) 400 _ HN9.out hl HO.out).mono ?_; rintro e W7 ⟨rfl, ho⟩; obtain ⟨x, hx⟩ : ∃ x, x = (numR l.length (0) 400 (.ok r)).1 := ⟨_, rfl⟩; obtain ⟨s1, hs1⟩ : ∃ x, x = (numR l.length (0) 400 (.ok r)).2 := ⟨_, rfl⟩; rw [<- hx, <- hs1] at HX; rw [<- hs1] at ho; rw [<- hx]; clear hx hs1; replace HO := Lib.hid ho; clear ho; obtain ⟨hbm, ⟨fm0, fm1, fm2, fm3, fm4, fm5, fm6, fm7, fm8, fm9, fm10, fm11⟩, cm0, cm1, cm2, cm3, cm4, cm5, cm6, cm7, cm8, cm9, cm10, cm11⟩ := bx12 HO.out.swap.blk; go_wp2_with fail
    go_meet
    exact ⟨s1, { m with wi := x }, y, n, c, HX, Lib.hid (HO.out.swap.store (i := 11) (.int .i64 x)).swap⟩
   ·rw [show (decide (m.kind = 1) && q) = false from by
     rw [HQ.out]; by_cases hk : m.kind = 1
     ·rcases h : seesR 1 wWind s with _ | _
      ·simp
      ·exact absurd ⟨hk, h⟩ hq
     ·simp [hk]]
    replace HX : Hid (refM l ts = kW l (s, m)) := by
     show _ = _; rw [HX.out]; show kW l (stW l.length (s, m)) = _; unfold stW; rw [if_neg hq]
    clear HQ hq; go_wp2_with fail
    go_meet
    exact ⟨s, m, y, n, c, HX, HO⟩
 clear HO HX HQ; obtain ⟨s, m, y, n, c, HX, HO1⟩ := hcut; obtain ⟨W5, hWn⟩ : ∃ W, W = wc := ⟨_, rfl⟩; rw [<- hWn] at HO1 ⊢; clear hWn; have HO := HO1; clear HO1; go_wp2_with fail
 go_at_call 58
 refine (take30_c _ s 4 [59] _ HN9.out (by decide) hl HO.out).mono ?_; rintro e W6 ⟨rfl, ho⟩; obtain ⟨q, hq⟩ : ∃ q, q = tkval (takeR l.length 4 [59] s).1 := ⟨_, rfl⟩; rw [<- hq]; obtain ⟨s1, hs1⟩ : ∃ s1, s1 = (takeR l.length 4 [59] s).2 := ⟨_, rfl⟩; rw [<- hs1] at ho; replace HX : Hid (refM l ts = (endR s1, m)) := by
  show _ = _; rw [HX.out, hs1]
  rfl
 clear hq hs1 HO; have HO := Lib.hid ho; clear ho; go_upto_region 34 with fail
 go_cut [180] (fun v wx => v = .bool (moreR s1) /\ Hid (Owns W2 wx (r3P W2 bp l ts (.slice yv N mv) s1 :: blk bm (mobj m (.slice y n c)) :: fmP m.cond (.slice y n c) :: [])))
 case first =>
  as_aux_lemma =>
   obtain ⟨hf, hv, i, hi, hd, h1⟩ := HO.out.r3; rw [<- HN.out] at hi; rcases s1 with ⟨c0, a0⟩ | (_ | ⟨t, r⟩)
   ·have hx : ((c0 : Int) == 0) = false := by have h0 : c0 ≠ 0 := hf; simpa using h0
    simp only [r3obj, code, pos] at h1; obtain ⟨hbp, ⟨fp0, fp1, fp2, fp3, fp4⟩, cp0, cp1, cp2, cp3, cp4⟩ := bx5 h1.blk; clear hf hv hi hd h1; go_wp2_with fail
    go_meet
    exact ⟨rfl, HO⟩
   ·have hge : ¬ (i : Int) < (N : Int) := by
     have h := dropT_nil (hd _ rfl) (by rw [<- HN.out]; exact hi); rw [<- HN.out] at h; omega
    simp only [r3obj, code, pos] at h1; obtain ⟨hbp, ⟨fp0, fp1, fp2, fp3, fp4⟩, cp0, cp1, cp2, cp3, cp4⟩ := bx5 h1.blk; clear hf hv hi hd h1; go_wp2_with fail
    go_meet
    exact ⟨rfl, HO⟩
   ·have hlt : (i : Int) < (N : Int) := by
     have h := (dropT_cons (hd _ rfl)).1; rw [<- HN.out] at h; omega
    simp only [r3obj, code, pos] at h1; obtain ⟨hbp, ⟨fp0, fp1, fp2, fp3, fp4⟩, cp0, cp1, cp2, cp3, cp4⟩ := bx5 h1.blk; clear hf hv hi hd h1; go_wp2_with fail
    go_meet
    exact ⟨rfl, HO⟩
 obtain ⟨rfl, HO1⟩ := hcut; clear HO; obtain ⟨W9, hWn⟩ : ∃ W, W = wc := ⟨_, rfl⟩; rw [<- hWn] at HO1 ⊢; clear hWn; have HO := HO1; clear HO1; go_upto_if 180 with fail
 go_cut [] (fun wx => St30 W2 bp bm l ts (.slice yv N mv) (fun x => x) wx)
 case first =>
  as_aux_lemma =>
   rcases s1 with e1 | (_ | ⟨t, r⟩)
   ·go_wp2_with fail
    go_meet
    exact ⟨_, m, y, n, c, HX, HO⟩
   ·go_wp2_with fail
    go_meet
    exact ⟨_, m, y, n, c, HX, HO⟩
   ·obtain ⟨i, hlt, hit, htv, -, h1, -⟩ := skip30 HO.out; rw [<- HN.out] at hlt; have hlt' : (i : Int) < (N : Int) := by omega
    have hiN : i <= 5000 := by omega
    obtain ⟨g, off, hy, hNm, hg, c0, c1, c2, c3⟩ := HTk.out.get HO.out.base hit; simp only [r3obj, code, pos] at h1; obtain ⟨hbp, ⟨fp0, fp1, fp2, fp3, fp4⟩, cp0, cp1, cp2, cp3, cp4⟩ := bx5 h1.blk; clear h1 hit htv; cases hy
    go_wp2_with fail
    clear hbp fp0 fp1 fp2 fp3 fp4 cp0 cp1 cp2 cp3 cp4; clear c0 c1 c2 c3 hg; go_at_call 59
    refine (fault30_c _ (.ok (t :: r)) 5 t.pos (by omega) _ HO.out).mono ?_; rintro e W10 ⟨rfl, ho⟩; go_wp2_with fail
    go_meet
    exact ⟨_, m, y, n, c, HX, Lib.hid ho⟩
 clear HO HX; obtain ⟨s, m, y, n, c, HX, HO1⟩ := hcut; obtain ⟨W5, hWn⟩ : ∃ W, W = wc := ⟨_, rfl⟩; rw [<- hWn] at HO1 ⊢; clear hWn; have HO := HO1; clear HO1; have HOb := Lib.hid (HO0.out.below HO.out.base); rcases s with ⟨c0, a0⟩ | r0
 ·have HP : Hid (parseM l = (zeroM, c0, a0)) := by
   show _ = _; rw [parse_ref HTs.out h0.out HX.out]
   rfl
  obtain ⟨hf, -, i, -, -, h1⟩ := HO.out.r3; have hx : ((c0 : Int) != 0) = true := by have h0 : c0 ≠ 0 := hf; simp; omega
  simp only [r3obj, code, pos] at h1
  focus
   obtain ⟨hbp, ⟨fp0, fp1, fp2, fp3, fp4⟩, cp0, cp1, cp2, cp3, cp4⟩ := bx5 h1.blk; clear hf; go_wp2_with fail
   clear hbp fp0 fp1 fp2 fp3 fp4 cp0 cp1 cp2 cp3 cp4
  clear hx; refine wp_region_walk [] 12 rfl (by decide +kernel) ?_; have ho1 := h1.drew; have ho2 := HOb.out.drew; generalize hWd : World.drew _ = Wd at ho1 ho2 ⊢; clear hWd h1 HO; have nb : b2 ≠ bp := by
   have := ho1.blk.2; have := HW2.out.2; omega
  have nb' := nb.symm; have h2 := set12_owns ho2 zeroM (.slice none 0 0); have HOe := ho2; simp only [zeroM, zeroF] at HOe; obtain ⟨hbp, ⟨fp0, fp1, fp2, fp3, fp4⟩, cp0, cp1, cp2, cp3, cp4⟩ := bx5 ho1.blk; obtain ⟨hbm, ⟨fm0, fm1, fm2, fm3, fm4, fm5, fm6, fm7, fm8, fm9, fm10, fm11⟩, cm0, cm1, cm2, cm3, cm4, cm5, cm6, cm7, cm8, cm9, cm10, cm11⟩ := bx12 HOe.blk; have H2 := Lib.hid h2; clear ho1 ho2 HOe h2 HO0 HOb
  (refine cw_stepA 0 ?_; (refine cw_doA rfl rfl rfl (fun _ _ => ?_); go_wp2_with fail))
  (refine cw_stepA 1 ?_; (refine cw_doA rfl rfl rfl (fun _ _ => ?_); go_wp2_with fail))
  (refine cw_stepA 2 ?_; (refine cw_doA rfl rfl rfl (fun _ _ => ?_); go_wp2_with fail))
  (refine cw_stepA 3 ?_; (refine cw_doA rfl rfl rfl (fun _ _ => ?_); go_wp2_with fail))
  (refine cw_stepA 5 ?_; (refine cw_doA rfl rfl rfl (fun _ _ => ?_); go_wp2_with fail))
  (refine cw_stepA 6 ?_; (refine cw_doA rfl rfl rfl (fun _ _ => ?_); go_wp2_with fail))
  (refine cw_stepA 7 ?_; (refine cw_doA rfl rfl rfl (fun _ _ => ?_); go_wp2_with fail))
  repeat' (first | (refine cw_stepA 4 ?_; (refine cw_doA rfl rfl rfl (fun _ _ => ?_); go_wp2_with fail)) | (refine cw_stepA 8 ?_; (refine cw_doA rfl rfl rfl (fun _ _ => ?_); go_wp2_with fail)) | (refine cw_stepA 9 ?_; (refine cw_doA rfl rfl rfl (fun _ _ => ?_); go_wp2_with fail)) | (refine cw_stepA 10 ?_; (refine cw_doA rfl rfl rfl (fun _ _ => ?_); go_wp2_with fail)) | (refine cw_stepA 11 ?_; (refine cw_doA rfl rfl rfl (fun _ _ => ?_); go_wp2_with fail)) | (refine cw_three 4 8 9 (by decide +kernel) ?_ ?_ ?_ <;> (refine cw_doA rfl rfl rfl (fun _ _ => ?_); go_wp2_with fail)) | (refine cw_two 4 8 (by decide +kernel) ?_ ?_ <;> (refine cw_doA rfl rfl rfl (fun _ _ => ?_); go_wp2_with fail)) | (refine cw_two 4 9 (by decide +kernel) ?_ ?_ <;> (refine cw_doA rfl rfl rfl (fun _ _ => ?_); go_wp2_with fail)) | (refine cw_two 8 9 (by decide +kernel) ?_ ?_ <;> (refine cw_doA rfl rfl rfl (fun _ _ => ?_); go_wp2_with fail)) | (refine cw_two 8 10 (by decide +kernel) ?_ ?_ <;> (refine cw_doA rfl rfl rfl (fun _ _ => ?_); go_wp2_with fail)) | (refine cw_two 4 10 (by decide +kernel) ?_ ?_ <;> (refine cw_doA rfl rfl rfl (fun _ _ => ?_); go_wp2_with fail)) | (refine cw_nil (by decide +kernel) ?_; repeat (first | go_values | go_skip | go_guarded | go_step | go_upon)))
  all_goals exact bodyPost_ret (rmparse_res rfl H2.out.blk.1) (by rfl) ⟨.slice none 0 0, by rw [HP.out]; rfl, by rw [HP.out]; exact .leaf _ _ _ _ _ _, H2.out.base⟩
 ·have HP : Hid (parseM l = (m, 0, 0)) := by
   show _ = _; rw [parse_ref HTs.out h0.out HX.out]
   rfl
  obtain ⟨hf, -, i, -, -, h1⟩ := HO.out.r3; simp only [r3obj, code, pos] at h1; obtain ⟨hbp, ⟨fp0, fp1, fp2, fp3, fp4⟩, cp0, cp1, cp2, cp3, cp4⟩ := bx5 h1.blk; clear h1 hf; have HOe := HOb; simp only [zeroM, zeroF] at HOe; obtain ⟨hbm, ⟨fm0, fm1, fm2, fm3, fm4, fm5, fm6, fm7, fm8, fm9, fm10, fm11⟩, cm0, cm1, cm2, cm3, cm4, cm5, cm6, cm7, cm8, cm9, cm10, cm11⟩ := bx12 HO.out.swap.blk; obtain ⟨hbe, ⟨fe0, fe1, fe2, fe3, fe4, fe5, fe6, fe7, fe8, fe9, fe10, fe11⟩, ce0, ce1, ce2, ce3, ce4, ce5, ce6, ce7, ce8, ce9, ce10, ce11⟩ := bx12 HOe.out.blk; clear HOe; repeat (first | go_values | go_skip | go_guarded | go_step | go_upon | (simp only [Int.not_lt, Int.not_le] at *; go_simp))
  have h2 := set12_owns HOb.out m (.slice y n c); have hF := (set12_fm m (.slice y n c) HO.out.pop.pop.fm HW2.out.2).mono (q := fun g => w.heap.size <= g) fun g hg _ => Nat.le_trans HW2.out.1 hg; exact bodyPost_ret (rmparse_res rfl h2.blk.1) (by rfl) ⟨.slice y n c, by rw [HP.out]; rfl, by rw [HP.out]; exact hF, h2.base⟩
end Go.Proofs.YtoeknmkephnekaaGreatDoor
namespace Go.Proofs.YtoeknmkephnekaaGreatDoor
open Go.RowKit Go.Cz Go.Cz.Lx Go.Cz.Fo Go.Cz.Vd Go.ChangeShapes Go.WideShapes Go.Deep
theorem len5F {α : Type _} {l : List α} (h : l.length = 5) : ∃ a0 a1 a2 a3 a4, l = [a0, a1, a2, a3, a4] := by
 rcases l with _ | ⟨a0, l⟩
 ·simp at h
 rcases l with _ | ⟨a1, l⟩
 ·simp at h
 rcases l with _ | ⟨a2, l⟩
 ·simp at h
 rcases l with _ | ⟨a3, l⟩
 ·simp at h
 rcases l with _ | ⟨a4, l⟩
 ·simp at h
 rcases l with _ | ⟨b, l⟩
 ·exact ⟨_, _, _, _, _, rfl⟩
 ·simp at h
theorem len4 {α : Type _} {l : List α} (h : l.length = 4) : ∃ a0 a1 a2 a3, l = [a0, a1, a2, a3] := by
 rcases l with _ | ⟨a0, l⟩
 ·simp at h
 rcases l with _ | ⟨a1, l⟩
 ·simp at h
 rcases l with _ | ⟨a2, l⟩
 ·simp at h
 rcases l with _ | ⟨a3, l⟩
 ·simp at h
 rcases l with _ | ⟨b, l⟩
 ·exact ⟨_, _, _, _, rfl⟩
 ·simp at h
theorem len1 {α : Type _} {l : List α} (h : l.length = 1) : ∃ a0, l = [a0] := List.length_eq_one_iff.1 h
theorem len6 {α : Type _} {l : List α} (h : l.length = 6) : ∃ a0 a1 a2 a3 a4 a5, l = [a0, a1, a2, a3, a4, a5] := by
 rcases l with _ | ⟨a0, l⟩
 ·simp at h
 obtain ⟨a1, a2, a3, a4, a5, rfl⟩ := len5F (l := l) (by simpa using h); exact ⟨_, _, _, _, _, _, rfl⟩
theorem len8 {α : Type _} {l : List α} (h : l.length = 8) : ∃ a0 a1 a2 a3 a4 a5 a6 a7, l = [a0, a1, a2, a3, a4, a5, a6, a7] := by
 rcases l with _ | ⟨a0, _ | ⟨a1, l⟩⟩
 ·simp at h
 ·simp at h
 obtain ⟨a2, a3, a4, a5, a6, a7, rfl⟩ := len6 (l := l) (by simpa using h); exact ⟨_, _, _, _, _, _, _, _, rfl⟩
theorem len12 {α : Type _} {l : List α} (h : l.length = 12) : ∃ a0 a1 a2 a3 a4 a5 a6 a7 a8 a9 a10 a11, l = [a0, a1, a2, a3, a4, a5, a6, a7, a8, a9, a10, a11] := by
 obtain ⟨a, b, c, d, r, rfl⟩ : ∃ a b c d r, l = a :: b :: c :: d :: r := by
  rcases l with _ | ⟨a, _ | ⟨b, _ | ⟨c, _ | ⟨d, r⟩⟩⟩⟩
  ·simp at h
  ·simp at h
  ·simp at h
  ·simp at h
  ·exact ⟨a, b, c, d, r, rfl⟩
 obtain ⟨a0, a1, a2, a3, a4, a5, a6, a7, rfl⟩ := len8 (l := r) (by simpa using h); exact ⟨_, _, _, _, _, _, _, _, _, _, _, _, rfl⟩
abbrev mclM (m : Me) (kv : Value) : List Value := [.string (bs m.id), .string (bs m.auth), .int .i64 m.kind, .string (bs m.target), .int .i64 m.cond.op, .string (bs m.cond.name), .int .i64 m.cond.cmp, .int .i64 m.cond.num, kv, .int .i64 m.fr, .int .i64 m.un, .int .i64 m.wi]
theorem wf_in {r : Int} (hr : (Lit.int .i64 r).wf = true) : -9223372036854775808 <= r /\ r <= 9223372036854775807 := by
 simp only [Lit.wf, Bool.and_eq_true, decide_eq_true_eq] at hr; exact ⟨hr.1, hr.2⟩
section
variable {H : Type} {P : Program} {t e : TypeId} {R : Nat}
theorem wAll {d : DataW H} {n : Nat} : ∀ {l : List (DataW H)}, d ∈ l -> n ∈ d.weights P e -> n ∈ DataW.weightsAll P e l
 | a :: r, hd, h => by
  rw [DataW.weightsAll, List.mem_append]; rcases List.mem_cons.1 hd with rfl | hd
  ·exact .inl h
  ·exact .inr (wAll hd h)
theorem wStruct {fs : Array Field} (hu : P.underlying t = some (.struct fs)) {parts : List (DataW H)} (hz : ∀ n ∈ (DataW.agg parts).weights P t, n <= R) (i : Nat) {f : Field} {d : DataW H} (hf : fs[i]? = some f) (hd : parts[i]? = some d) : ∀ n ∈ d.weights P f.type, n <= R := by
 intro n hn
 apply hz
 rw [DataW.weights, hu]; exact DataW.weights_mem_each (j := i) (by simp [hf]) hd n hn
theorem wSlice (hu : P.underlying t = some (.slice e)) {elems spare : List (DataW H)} (hz : ∀ n ∈ (DataW.slice elems spare).weights P t, n <= R) {d : DataW H} (hd : d ∈ elems) : ∀ n ∈ d.weights P e, n <= R := by
 intro n hn
 apply hz
 rw [DataW.weights, hu]; exact List.mem_cons_of_mem _ (List.mem_append.2 (.inl (wAll hd hn)))
theorem wString {s : List UInt8} (hz : ∀ n ∈ (DataW.lit (.string s) : DataW H).weights P t, n <= R) : s.length <= R := hz _ (by rw [DataW.weights]; simp)
end
section
variable {H : Type} {enc : TypeId × Value -> H} {w : World} {base : Nat} {spare : Nat -> Bool} {held : Bool} {R : Nat}
theorem open_rowsZ {t e : TypeId} {sz : Nat} {T : Type} (d : T) (vals : T -> Array Value) (p : T -> Prop) (ht : Tryz.prog.underlying t = some (.slice e)) (hc : Tryz.prog.cellsOf e = sz) (hpos : 0 < sz) (hsz : ∀ y, (vals y).size = sz)
  {fuel : Nat} (open1 : ∀ (n : Nat) (cs : List Value) (x : DataW H × List MemPlace), n < fuel -> DataW.trod enc Tryz.prog w base spare held n e cs = some x -> (∀ k ∈ x.1.weights Tryz.prog e, k <= R) -> ∃ y, cs = (vals y).toList /\ p y)
  {cs : List Value} {x : DataW H × List MemPlace} (h : DataW.trod enc Tryz.prog w base spare held fuel t cs = some x) (hz : ∀ k ∈ x.1.weights Tryz.prog t, k <= R) :
  ∃ (a : Option Addr) (n c : Nat) (l : List T), cs = [.slice a n c] /\ l.length = n /\ n <= c /\ n <= 9223372036854775807 /\ (∀ y ∈ l, p y) /\ (n = 0 ∨ ∃ g off, a = some ⟨g, off, none⟩ /\ g < w.heap.size /\ ∀ (j : Nat) (y : T), l[j]? = some y -> ∀ (k : Nat) (u : Value), (vals y)[k]? = some u -> w.cell? ⟨g, off + j * sz + k, none⟩ = some u) := by
 rcases DataW.trod_slice ht h with ⟨rfl, _⟩ | ⟨a, len, cap, elems, rest, n, hfu, rfl, rfl, _, hl, hm, hlen, hel, _, _⟩
 ·exact ⟨none, 0, 0, [], rfl, rfl, Nat.le_refl _, by omega, by simp, .inl rfl⟩
 ·rw [hc] at hel; have hm63 : len <= 9223372036854775807 := by unfold maxLen at hm; omega
  have key : ∀ i, i < len -> ∃ y : T, p y /\ ∀ k v, (vals y)[k]? = some v -> w.cell? ((a.add (i * sz)).add k) = some v := by
   intro i hil; have h0 := hel i hil; rw [List.getElem?_eq_getElem (by omega), Option.bind_eq_some_iff] at h0; obtain ⟨cs', h1, h2⟩ := h0; obtain ⟨y, rfl, hp⟩ := open1 _ _ _ (by omega) h2 (wSlice ht hz (List.mem_map.2 ⟨_, List.getElem_mem _, rfl⟩)); obtain ⟨_, hlen, hat⟩ := World.cells?_some h1; refine ⟨y, hp, fun k v hk => ?_⟩; have hk6 : k < sz := by have := (Array.getElem?_eq_some_iff.1 hk).1; rw [hsz] at this; exact this
   have := hat k hk6; rw [this]
   simpa using hk
  by_cases h0 : len = 0
  ·subst h0; exact ⟨_, 0, cap, [], rfl, rfl, Nat.zero_le _, by omega, by simp, .inl rfl⟩
  ·obtain ⟨g, off, spot⟩ := a; obtain ⟨y0, -, hy0⟩ := key 0 (by omega); have h00 : (vals y0)[0]? = some ((vals y0)[0]'(by rw [hsz]; exact hpos)) := Array.getElem?_eq_getElem _; have hspot : spot = none := by
    have := World.cell?_spot (hy0 0 _ h00)
    simpa [Addr.add] using this
   subst hspot; have key2 : ∀ i, ∃ y : T, i < len -> p y /\ ∀ k v, (vals y)[k]? = some v -> w.cell? (((⟨g, off, none⟩ : Addr).add (i * sz)).add k) = some v := fun i => by
    by_cases h : i < len
    ·obtain ⟨y, hy⟩ := key i h; exact ⟨y, fun _ => hy⟩
    ·exact ⟨d, fun h' => absurd h' h⟩
   obtain ⟨f, hf⟩ := Classical.axiomOfChoice key2; refine ⟨_, len, cap, (List.range len).map f, rfl, by simp, hl, hm63, ?_, .inr ⟨g, off, rfl, ?_, ?_⟩⟩
   ·intro y hy; obtain ⟨i, hi, rfl⟩ := List.mem_map.1 hy; exact (hf i (List.mem_range.1 hi)).1
   ·have h6 := block_lt_of_cell (hy0 0 _ h00); have e : ((⟨g, off, none⟩ : Addr).add (0 * sz)).add 0 = ⟨g, off + 0 * sz + 0, none⟩ := by unfold Addr.add; split <;> split <;> simp_all
    rw [e] at h6; exact h6
   ·intro j y hy k u hu; have hj : j < len := by have := (List.getElem?_eq_some_iff.1 hy).1; simpa using this
    simp [hj] at hy
    have hs := (hf j hj).2; rw [hy] at hs; have e : ((⟨g, off, none⟩ : Addr).add (j * sz)).add k = ⟨g, off + j * sz + k, none⟩ := by unfold Addr.add; split <;> split <;> simp_all
    rw [<- e]; exact hs k u hu
theorem shorts_of {n : Nat} : ∀ {ks : List Fm}, (∀ k ∈ ks, short n k = true) -> shorts n ks = true
 | [], _ => rfl
 | k :: r, h => by rw [shorts, h k (by simp), shorts_of fun q hq => h q (by simp [hq])]; rfl
theorem open_fmZ : ∀ (fuel : Nat) (cs : List Value) (x : DataW H × List MemPlace), DataW.trod enc Tryz.prog w base spare held fuel 24 cs = some x -> (∀ k ∈ x.1.weights Tryz.prog 24, k <= R) -> ∃ (f : Fm) (kv : Value), cs = fcells f kv /\ IsFm (fun _ => True) w f kv /\ short R f = true := by
 intro fuel
 induction fuel using Nat.strongRecOn with
 | _ fuel ih =>
 intro cs x h hz; obtain ⟨xs, n, rfl, rfl, hlen, hxs, hf⟩ := DataW.trod_struct Tryz.underlying24 h; have hc : Tryz.prog.cellsOf 24 = 5 := by kernel_rfl
 rw [hc] at hlen; have c3 : Tryz.prog.cellsOf 3 = 1 := by kernel_rfl
 have c4 : Tryz.prog.cellsOf 9 = 1 := by kernel_rfl
 have c5 : Tryz.prog.cellsOf 22 = 1 := by kernel_rfl
 obtain ⟨v0, v1, v2, v3, v4, rfl⟩ := len5F hlen; obtain ⟨y0, y1, y2, y3, y4, rfl⟩ := len5F (show xs.length = 5 from hxs); have g0 : DataW.trod enc Tryz.prog w base spare held n 3 (([v0, v1, v2, v3, v4].drop 0).take (Tryz.prog.cellsOf 3)) = some y0 := hf 0 _ rfl; have g1 : DataW.trod enc Tryz.prog w base spare held n 9 (([v0, v1, v2, v3, v4].drop 1).take (Tryz.prog.cellsOf 9)) = some y1 := hf 1 _ rfl; have g2 : DataW.trod enc Tryz.prog w base spare held n 3 (([v0, v1, v2, v3, v4].drop 2).take (Tryz.prog.cellsOf 3)) = some y2 := hf 2 _ rfl; have g3 : DataW.trod enc Tryz.prog w base spare held n 3 (([v0, v1, v2, v3, v4].drop 3).take (Tryz.prog.cellsOf 3)) = some y3 := hf 3 _ rfl; have g4 : DataW.trod enc Tryz.prog w base spare held n 22 (([v0, v1, v2, v3, v4].drop 4).take (Tryz.prog.cellsOf 22)) = some y4 := hf 4 _ rfl; rw [c3] at g0 g2 g3; rw [c4] at g1; rw [c5] at g4; obtain ⟨k0, e0, _, _⟩ := DataW.trod_int Tryz.underlying3 g0; obtain ⟨k2, e2, _, _⟩ := DataW.trod_int Tryz.underlying3 g2; obtain ⟨k3, e3, _, _⟩ := DataW.trod_int Tryz.underlying3 g3; obtain ⟨s, e1, es, -⟩ := DataW.trod_string Tryz.underlying9 g1; obtain ⟨s, rfl⟩ := eq_bs s; have hsl : s.length <= R := by
  have h1 : ∀ n ∈ y1.1.weights Tryz.prog 9, n <= R := wStruct Tryz.underlying24 hz 1 rfl rfl; rw [es] at h1; have := wString h1
  simpa [bs] using this
 obtain ⟨a, nn, c, l, e4, hl, hle, h63, hp, hcells⟩ := open_rowsZ (zeroF, Value.slice none 0 0) (fun q => (fcells q.1 q.2).toArray) (fun q => IsFm (fun _ => True) w q.1 q.2 /\ short R q.1 = true) Tryz.underlying22 hc (by omega) (fun _ => by simp [fcells]) (fun m cs x hm hx hzx => by
  obtain ⟨f, kv, h1, h2⟩ := ih m (by omega) cs x hx hzx; exact ⟨(f, kv), by simp [h1], h2⟩) g4 (wStruct Tryz.underlying24 hz 4 rfl rfl)
 obtain rfl := List.cons.inj e0 |>.1; obtain rfl := List.cons.inj e1 |>.1; obtain rfl := List.cons.inj e2 |>.1; obtain rfl := List.cons.inj e3 |>.1; obtain rfl := List.cons.inj e4 |>.1; have hsh : shorts R (l.map Prod.fst) = true := shorts_of fun k hk => by
  obtain ⟨q, hq, rfl⟩ := List.mem_map.1 hk; exact (hp q hq).2
 refine ⟨.mk k0 s k2 k3 (l.map Prod.fst), .slice a nn c, rfl, ?_, by rw [short, hsh, decide_eq_true hsl]; rfl⟩; rcases hcells with h0 | ⟨g, off, rfl, hg, hcell⟩
 ·subst h0; have : l = [] := List.length_eq_zero_iff.1 hl; subst this; exact .leaf _ _ _ _ _ _
 ·have hks : (l.map Prod.fst).length = nn := by rw [List.length_map, hl]
  have get : ∀ (j : Nat) (k : Fm), (l.map Prod.fst)[j]? = some k -> ∃ q, l[j]? = some q /\ q.1 = k := fun j k hj => by
   rw [List.getElem?_map] at hj; cases hq : l[j]? with
   | none => rw [hq] at hj; simp at hj
   | some q => rw [hq] at hj; exact ⟨q, rfl, by simpa using hj⟩
  rw [<- hks]; refine .node k0 s k2 k3 (l.map Prod.fst) g off c (fun j => (l[j]?.map Prod.snd).getD (.bool false)) (by rw [hks]; exact hle) hg trivial (fun j k hj => ?_) fun j k hj => ?_
  ·obtain ⟨q, hq, rfl⟩ := get j k hj; have hh := hcell j q hq; refine ⟨hh 0 _ rfl, hh 1 _ rfl, hh 2 _ rfl, hh 3 _ rfl, ?_⟩; rw [hq]; exact hh 4 _ rfl
  ·obtain ⟨q, hq, rfl⟩ := get j k hj; rw [hq]; exact (hp q (List.mem_of_getElem? hq)).1
theorem open_factZ {fuel : Nat} {cs : List Value} {x : DataW H × List MemPlace} (h : DataW.trod enc Tryz.prog w base spare held fuel 47 cs = some x) (hz : ∀ k ∈ x.1.weights Tryz.prog 47, k <= R) : ∃ f : Fact, cs = [.string (bs f.name), .int .i64 f.kind, .int .i64 f.lo, .int .i64 f.hi] /\ f.name.length <= R := by
 obtain ⟨xs, n, rfl, rfl, hlen, hxs, hf⟩ := DataW.trod_struct Tryz.underlying47 h; have hc : Tryz.prog.cellsOf 47 = 4 := by kernel_rfl
 rw [hc] at hlen; have c3 : Tryz.prog.cellsOf 3 = 1 := by kernel_rfl
 have c4 : Tryz.prog.cellsOf 9 = 1 := by kernel_rfl
 obtain ⟨v0, v1, v2, v3, rfl⟩ := len4 hlen; obtain ⟨y0, y1, y2, y3, rfl⟩ := len4 (show xs.length = 4 from hxs); have g0 : DataW.trod enc Tryz.prog w base spare held n 9 (([v0, v1, v2, v3].drop 0).take (Tryz.prog.cellsOf 9)) = some y0 := hf 0 _ rfl; have g1 : DataW.trod enc Tryz.prog w base spare held n 3 (([v0, v1, v2, v3].drop 1).take (Tryz.prog.cellsOf 3)) = some y1 := hf 1 _ rfl; have g2 : DataW.trod enc Tryz.prog w base spare held n 3 (([v0, v1, v2, v3].drop 2).take (Tryz.prog.cellsOf 3)) = some y2 := hf 2 _ rfl; have g3 : DataW.trod enc Tryz.prog w base spare held n 3 (([v0, v1, v2, v3].drop 3).take (Tryz.prog.cellsOf 3)) = some y3 := hf 3 _ rfl; rw [c3] at g1 g2 g3; rw [c4] at g0; obtain ⟨k1, e1, _, _⟩ := DataW.trod_int Tryz.underlying3 g1; obtain ⟨k2, e2, _, _⟩ := DataW.trod_int Tryz.underlying3 g2; obtain ⟨k3, e3, _, _⟩ := DataW.trod_int Tryz.underlying3 g3; obtain ⟨s, e0, es, -⟩ := DataW.trod_string Tryz.underlying9 g0; obtain ⟨s, rfl⟩ := eq_bs s; have hsl : s.length <= R := by
  have h1 : ∀ n ∈ y0.1.weights Tryz.prog 9, n <= R := wStruct Tryz.underlying47 hz 0 rfl rfl; rw [es] at h1; have := wString h1
  simpa [bs] using this
 obtain rfl := List.cons.inj e0 |>.1; obtain rfl := List.cons.inj e1 |>.1; obtain rfl := List.cons.inj e2 |>.1; obtain rfl := List.cons.inj e3 |>.1; exact ⟨⟨s, k1, k2, k3⟩, rfl, hsl⟩
theorem open_domZ {fuel : Nat} {cs : List Value} {x : DataW H × List MemPlace} (h : DataW.trod enc Tryz.prog w base spare held fuel 45 cs = some x) (hz : ∀ k ∈ x.1.weights Tryz.prog 45, k <= R) : ∃ (d : List Fact) (v : Value), cs = [v] /\ IsD w d v /\ d.length <= 9223372036854775807 /\ ∀ f ∈ d, f.name.length <= R := by
 obtain ⟨xs, n, rfl, rfl, hlen, hxs, hf⟩ := DataW.trod_struct Tryz.underlying45 h; have hc : Tryz.prog.cellsOf 45 = 1 := by kernel_rfl
 rw [hc] at hlen; have c4 : Tryz.prog.cellsOf 43 = 1 := by kernel_rfl
 have c5 : Tryz.prog.cellsOf 47 = 4 := by kernel_rfl
 obtain ⟨v0, rfl⟩ := len1 hlen; obtain ⟨y0, rfl⟩ := len1 (show xs.length = 1 from hxs); have g0 : DataW.trod enc Tryz.prog w base spare held n 43 (([v0].drop 0).take (Tryz.prog.cellsOf 43)) = some y0 := hf 0 _ rfl; rw [c4] at g0; obtain ⟨a, nn, c, l, e4, hl, hle, h63, hp, hcells⟩ := open_rowsZ (⟨[], 0, 0, 0⟩ : Fact) (fun f => #[.string (bs f.name), .int .i64 f.kind, .int .i64 f.lo, .int .i64 f.hi]) (fun f => f.name.length <= R) Tryz.underlying43 c5 (by omega) (fun _ => rfl) (fun m cs x hm hx hzx => by
  obtain ⟨f, h1, h2⟩ := open_factZ hx hzx; exact ⟨f, by simp [h1], h2⟩) g0 (wStruct Tryz.underlying45 hz 0 rfl rfl)
 obtain rfl := List.cons.inj e4 |>.1; subst hl; refine ⟨l, _, rfl, ⟨a, c, rfl, ?_⟩, h63, hp⟩; rcases hcells with h0 | ⟨g, off, rfl, hg, hcell⟩
 ·exact .inl (List.length_eq_zero_iff.1 h0)
 ·exact .inr ⟨g, off, rfl, hg, hle, fun j x hj => ⟨hcell j x hj 0 _ rfl, hcell j x hj 1 _ rfl, hcell j x hj 2 _ rfl, hcell j x hj 3 _ rfl⟩⟩
theorem open_meZ {fuel : Nat} {cs : List Value} {x : DataW H × List MemPlace} (h : DataW.trod enc Tryz.prog w base spare held fuel 26 cs = some x) (hz : ∀ k ∈ x.1.weights Tryz.prog 26, k <= R) :
  ∃ (m : Me) (kv : Value), cs = mclM m kv /\ MeInt m /\ IsFm (fun _ => True) w m.cond kv /\ m.id.length <= R /\ m.auth.length <= R /\ m.target.length <= R /\ short R m.cond = true := by
 obtain ⟨xs, n, rfl, rfl, hlen, hxs, hf⟩ := DataW.trod_struct Tryz.underlying26 h; have hc : Tryz.prog.cellsOf 26 = 12 := by kernel_rfl
 rw [hc] at hlen; have ci : Tryz.prog.cellsOf 3 = 1 := by kernel_rfl
 have cst : Tryz.prog.cellsOf 9 = 1 := by kernel_rfl
 have cf : Tryz.prog.cellsOf 24 = 5 := by kernel_rfl
 obtain ⟨v0, v1, v2, v3, v4, v5, v6, v7, v8, v9, v10, v11, rfl⟩ := len12 hlen; obtain ⟨y0, y1, y2, y3, y4, y5, y6, y7, rfl⟩ := len8 (show xs.length = 8 from hxs); have g0 : DataW.trod enc Tryz.prog w base spare held n 9 (([v0, v1, v2, v3, v4, v5, v6, v7, v8, v9, v10, v11].drop 0).take (Tryz.prog.cellsOf 9)) = some y0 := hf 0 _ rfl; have g1 : DataW.trod enc Tryz.prog w base spare held n 9 (([v0, v1, v2, v3, v4, v5, v6, v7, v8, v9, v10, v11].drop 1).take (Tryz.prog.cellsOf 9)) = some y1 := hf 1 _ rfl; have g2 : DataW.trod enc Tryz.prog w base spare held n 3 (([v0, v1, v2, v3, v4, v5, v6, v7, v8, v9, v10, v11].drop 2).take (Tryz.prog.cellsOf 3)) = some y2 := hf 2 _ rfl; have g3 : DataW.trod enc Tryz.prog w base spare held n 9 (([v0, v1, v2, v3, v4, v5, v6, v7, v8, v9, v10, v11].drop 3).take (Tryz.prog.cellsOf 9)) = some y3 := hf 3 _ rfl; have g4 : DataW.trod enc Tryz.prog w base spare held n 24 (([v0, v1, v2, v3, v4, v5, v6, v7, v8, v9, v10, v11].drop 4).take (Tryz.prog.cellsOf 24)) = some y4 := hf 4 _ rfl; have g5 : DataW.trod enc Tryz.prog w base spare held n 3 (([v0, v1, v2, v3, v4, v5, v6, v7, v8, v9, v10, v11].drop 9).take (Tryz.prog.cellsOf 3)) = some y5 := hf 5 _ rfl; have g6 : DataW.trod enc Tryz.prog w base spare held n 3 (([v0, v1, v2, v3, v4, v5, v6, v7, v8, v9, v10, v11].drop 10).take (Tryz.prog.cellsOf 3)) = some y6 := hf 6 _ rfl; have g7 : DataW.trod enc Tryz.prog w base spare held n 3 (([v0, v1, v2, v3, v4, v5, v6, v7, v8, v9, v10, v11].drop 11).take (Tryz.prog.cellsOf 3)) = some y7 := hf 7 _ rfl; rw [ci] at g2 g5 g6 g7; rw [cst] at g0 g1 g3; rw [cf] at g4; obtain ⟨k0, e0, s0, -⟩ := DataW.trod_string Tryz.underlying9 g0; obtain ⟨k0, rfl⟩ := eq_bs k0; have l0 : k0.length <= R := by
  have h1 : ∀ n ∈ y0.1.weights Tryz.prog 9, n <= R := wStruct Tryz.underlying26 hz 0 rfl rfl; rw [s0] at h1; have := wString h1
  simpa [bs] using this
 obtain ⟨k1, e1, s1, -⟩ := DataW.trod_string Tryz.underlying9 g1; obtain ⟨k1, rfl⟩ := eq_bs k1; have l1 : k1.length <= R := by
  have h1 : ∀ n ∈ y1.1.weights Tryz.prog 9, n <= R := wStruct Tryz.underlying26 hz 1 rfl rfl; rw [s1] at h1; have := wString h1
  simpa [bs] using this
 obtain ⟨k3, e3, s3, -⟩ := DataW.trod_string Tryz.underlying9 g3; obtain ⟨k3, rfl⟩ := eq_bs k3; have l3 : k3.length <= R := by
  have h1 : ∀ n ∈ y3.1.weights Tryz.prog 9, n <= R := wStruct Tryz.underlying26 hz 3 rfl rfl; rw [s3] at h1; have := wString h1
  simpa [bs] using this
 obtain ⟨k2, e2, -, r2⟩ := DataW.trod_int Tryz.underlying3 g2; obtain ⟨k5, e5, -, r5⟩ := DataW.trod_int Tryz.underlying3 g5; obtain ⟨k6, e6, -, r6⟩ := DataW.trod_int Tryz.underlying3 g6; obtain ⟨k7, e7, -, r7⟩ := DataW.trod_int Tryz.underlying3 g7; obtain ⟨f, kv, e4, hfm, hsh⟩ := open_fmZ _ _ _ g4 (wStruct Tryz.underlying26 hz 4 rfl rfl); obtain rfl := List.cons.inj e0 |>.1; obtain rfl := List.cons.inj e1 |>.1; obtain rfl := List.cons.inj e2 |>.1; obtain rfl := List.cons.inj e3 |>.1; obtain rfl := List.cons.inj e5 |>.1; obtain rfl := List.cons.inj e6 |>.1; obtain rfl := List.cons.inj e7 |>.1; simp only [fcells, List.drop_succ_cons, List.drop_zero, List.take_succ_cons, List.take_zero, List.cons.injEq, and_true] at e4; obtain ⟨rfl, rfl, rfl, rfl, rfl⟩ := e4; exact ⟨⟨k0, k1, k2, k3, f, k5, k6, k7⟩, v8, rfl, ⟨wf_in r2, wf_in r5, wf_in r6, wf_in r7⟩, hfm, l0, l1, l3, hsh⟩
end
end Go.Proofs.YtoeknmkephnekaaGreatDoor
namespace Go.Proofs.YtoeknmkephnekaaGreatDoor
open Go.RowKit Go.Cz Go.Cz.Fo Go.Cz.Vd Go.ChangeShapes Go.WideShapes Go.ChangeAt
def laid5 : List (String × DataW Unit) := [("math/bits.deBruijn32tab", Rows.laid_math_bits_deBruijn32tab), ("math/bits.deBruijn64tab", Rows.laid_math_bits_deBruijn64tab), ("internal/strconv.uint64pow10", Rows.laid_internal_strconv_uint64pow10), ("strconv.ErrRange", Rows.laid_strconv_ErrRange), ("strconv.ErrSyntax", Rows.laid_strconv_ErrSyntax)]
theorem clock_own : ownKnob Tryz.prog.godebug = none := by kernel_rfl
theorem clock_laidOut : laidOutB Tryz.prog = true := by kernel_rfl
abbrev synS : ByteArray := { data := #[105, 110, 118, 97, 108, 105, 100, 32, 115, 121, 110, 116, 97, 120] }
abbrev rngS : ByteArray := { data := #[118, 97, 108, 117, 101, 32, 111, 117, 116, 32, 111, 102, 32, 114, 97, 110, 103, 101] }
noncomputable def low : Nat := (World.holding Tryz.prog default ⟨#[], #[], []⟩).heap.size
def litsOf : DataW Unit -> Array Value
 | .agg l => (l.map fun | .lit (.int k n) => Value.int k n | _ => .nilIface).toArray
 | _ => #[]
def lay (v : Array Value) : Obj -> Obj
 | .cells _ t frozen => .cells v t frozen
 | o => o
noncomputable def laidWorld (os : Os) : World :=
 let w0 := World.holding Tryz.prog os ⟨#[.cells #[.string synS] 186, .cells #[.string rngS] 186], #[], []⟩
 { w0 with heap := ((((w0.heap.modify 2 (lay #[.iface 184 (.pointer (some ⟨low, 0, none⟩))])).modify 3 (lay #[.iface 184 (.pointer (some ⟨low + 1, 0, none⟩))])).modify
   4 (lay (litsOf Rows.laid_math_bits_deBruijn32tab))).modify 5 (lay (litsOf Rows.laid_math_bits_deBruijn64tab))).modify 0 (lay (litsOf Rows.laid_internal_strconv_uint64pow10)) }
theorem laidWorld_met (os : Os) (args : Array Value) : laidMet Tryz.prog laid5 ((laidWorld os).forCall (fun _ _ => 0) ⟨#[], args, []⟩).memory :=
 laidMet_of_run' 8 (by kernel_rfl) (by kernel_rfl)
theorem std_of {W : World} (h : laidMet Tryz.prog laid5 W) : Std W :=
 ⟨Lib.tabIs_of_head g_tab (t := 172) (by kernel_rfl) Tryz.underlying172 Tryz.underlying122 (by kernel_rfl) (by kernel_rfl) h.tail.tail⟩
structure MIn (w : World) (m : Me) (kv : Value) : Prop where
 fm : IsFm (fun _ => True) w m.cond kv
 len : MeLen m
 names : short 140737488355328 m.cond = true
 ints : MeInt m
structure DIn (w : World) (d : List Fact) (v : Value) : Prop where
 dom : IsD w d v
 len : d.length <= 9223372036854775807
 names : ∀ f ∈ d, f.name.length <= 140737488355328
section
variable {H : Type} {enc : TypeId × Value -> H} {W : World}
theorem sized_each {ts : List TypeId} {ds : List (DataW H)} (hsz : (DataW.weightsEach Tryz.prog ts ds).all (· <= reachBytes) = true) {j : Nat} {t : TypeId} {d : DataW H} (ht : ts[j]? = some t) (hd : ds[j]? = some d) : ∀ k ∈ d.weights Tryz.prog t, k <= 140737488355328 := fun k hk => by
 have h1 := List.all_eq_true.1 hsz _ (DataW.weights_mem_each ht hd k hk); have h2 := reachBytes_lt; have e3 : (2 : Nat) ^ 47 = 140737488355328 := by decide
 simp only [decide_eq_true_eq] at h1; omega
theorem in_me {spare : Nat -> Bool} {held : Bool} {base fuel : Nat} {cs : List Value} {x : DataW H × List MemPlace} (h : DataW.trod enc Tryz.prog W base spare held fuel 26 cs = some x) (hz : ∀ k ∈ x.1.weights Tryz.prog 26, k <= 140737488355328) : ∃ m kv, cs = mclM m kv /\ MIn W m kv := by
 obtain ⟨l, v, h1, hi, h2, h3, h4, h5, h6⟩ := open_meZ h hz; exact ⟨l, v, h1, h2, ⟨h3, h4, h5⟩, h6, hi⟩
theorem in_dom {spare : Nat -> Bool} {held : Bool} {base fuel : Nat} {cs : List Value} {x : DataW H × List MemPlace} (h : DataW.trod enc Tryz.prog W base spare held fuel 45 cs = some x) (hz : ∀ k ∈ x.1.weights Tryz.prog 45, k <= 140737488355328) : ∃ d v, cs = [v] /\ DIn W d v := by
 obtain ⟨d, v, h1, h2, h3, h4⟩ := open_domZ h hz; exact ⟨d, v, h1, h2, h3, h4⟩
end
end Go.Proofs.YtoeknmkephnekaaGreatDoor
namespace Go.Proofs.YtoeknmkephnekaaGreatDoor
open Go.RowKit Go.Cz Go.Cz.Lx Go.Cz.Fo Go.Cz.Vd
theorem me_row2 {W : World} {g : Nat} {t : TypeId} {fr : Nat × Nat} {a b : Me} {ka kb : Value} (h : W.heap[g]? = some (.cells (mclM a ka ++ mclM b kb).toArray t fr)) (ha : IsFm (fun _ => True) W a.cond ka) (hb : IsFm (fun _ => True) W b.cond kb) : IsMeR W [a, b] (.slice (some ⟨g, 0, none⟩) 2 2) := by
 refine ⟨_, 2, rfl, .inr ⟨g, 0, rfl, lt_of_block h, Nat.le_refl _, fun j m hj => ?_⟩⟩; rcases j with _ | _ | j
 ·simp at hj; subst hj
  exact ⟨ka, ⟨by rw [cell_of_heap h]; rfl, by rw [cell_of_heap h]; rfl, by rw [cell_of_heap h]; rfl, by rw [cell_of_heap h]; rfl, by rw [cell_of_heap h]; rfl, by rw [cell_of_heap h]; rfl, by rw [cell_of_heap h]; rfl, by rw [cell_of_heap h]; rfl, by rw [cell_of_heap h]; rfl, by rw [cell_of_heap h]; rfl, by rw [cell_of_heap h]; rfl, by rw [cell_of_heap h]; rfl⟩, ha⟩
 ·simp at hj; subst hj
  exact ⟨kb, ⟨by rw [cell_of_heap h]; rfl, by rw [cell_of_heap h]; rfl, by rw [cell_of_heap h]; rfl, by rw [cell_of_heap h]; rfl, by rw [cell_of_heap h]; rfl, by rw [cell_of_heap h]; rfl, by rw [cell_of_heap h]; rfl, by rw [cell_of_heap h]; rfl, by rw [cell_of_heap h]; rfl, by rw [cell_of_heap h]; rfl, by rw [cell_of_heap h]; rfl, by rw [cell_of_heap h]; rfl⟩, hb⟩
 ·simp at hj
structure FewM (m : Me) : Prop where
 len : MeLen m
 cond : CoLen m.cond
 size : Go.Cz.Fo.size m.cond <= 900000
 ints : MeInt m
theorem few_of {W : World} {m : Me} {kv : Value} (h : fewM 60 m = true) (hi : MIn W m kv) : FewM m := by
 unfold fewM smallB at h; simp only [Bool.and_eq_true, decide_eq_true_eq] at h; exact ⟨hi.len, ⟨hi.names, by omega⟩, by omega, hi.ints⟩
theorem few2 {a b : Me} (h : fewL [a, b] = true) : fewM 60 a = true /\ fewM 60 b = true := by simpa [fewL] using h
theorem short_mono {a b : Nat} (hab : a <= b) (f : Fm) : short a f = true -> short b f = true := by
 refine Fm.induct (P := fun f => short a f = true -> short b f = true) ?_ f; clear f; intro f ih h; rw [short_kids, Bool.and_eq_true, decide_eq_true_eq] at h ⊢; exact ⟨shorts_of fun k hk => ih k hk (short_mem h.1 hk), by omega⟩
theorem few_wr {m : Me} (h : wrM m = true) : FewM m := by
 have h1 := wrM_parts h; have h2 := (largeB_false.1 h1.large).1; have n1 := name_le h1.id; have n2 := name_le h1.auth; have n3 : m.target.length <= 24 := by
  rcases h1.kind with h | h | h
  ·rw [h.2]; simp
  ·exact name_le h.2.1
  ·exact name_le h.2.1
 have hk : 0 <= m.kind /\ m.kind <= 3 := by rcases h1.kind with h | h | h <;> omega
 have h4 := h1.fr; have h5 := h1.un; have h6 := h1.wi; exact ⟨⟨by omega, by omega, by omega⟩, ⟨short_mono (by omega) _ (wr_short _ h1.wr), by omega⟩, by omega, ⟨⟨by omega, by omega⟩, ⟨by omega, by omega⟩, ⟨by omega, by omega⟩, ⟨by omega, by omega⟩⟩⟩
theorem text_len {m : Me} : (textM m).1.length <= 13000 := by
 unfold textM
 split
 ·rename_i h; exact (say_len (wrM_parts h)).1
 ·simp
end Go.Proofs.YtoeknmkephnekaaGreatDoor
namespace Go.Cz.Vd
open Go.Cz.Lx Go.Cz.Fo
open Go.Cz.Wn (datedB)
def few24 (d : List Fact) : Bool := (d.take 70).all (fun x => decide (x.name.length <= 100)) && decide (d.length <= 70)
end Go.Cz.Vd
namespace Go.Proofs.YtoeknmkephnekaaGreatDoor
open Go.RowKit Go.Cz Go.Cz.Lx Go.Cz.Fo Go.Cz.Vd
attribute [local go_sem] bs_size bs_extract bs_append bs_toList
attribute [local irreducible] cList cPlan
set_option maxRecDepth 100000 in
set_option maxHeartbeats 4000000 in
theorem few24_c (d : List Fact) (v : Value) (w : World) (hd : IsD w d v) (hn : d.length <= 9223372036854775807) (hx : ∀ x ∈ d, x.name.length <= 140737488355328) :
  Calls Tryz.prog 16 #[.agg #[v], .int .i64 70] w fun e w' => e = .returned (.bool (few24 d)) /\ Below w.heap.size w w' := by
 obtain ⟨y, c, rfl⟩ := hd.form; obtain ⟨N, hN⟩ : ∃ N, N = d.length := ⟨_, rfl⟩; rw [<- hN] at hd hn ⊢; have HD := Lib.hid hd; have HN := Lib.hid hN; have HX := Lib.hid hx; clear hd hN hx; obtain ⟨W1, hW1⟩ : ∃ W1, W1 = w.alloc (.cells #[.slice y N c] 45) := ⟨_, rfl⟩; obtain ⟨b2, hb2⟩ : ∃ b, b = w.heap.size := ⟨_, rfl⟩; have HO : Hid (Owns w W1 [blk b2 (.cells #[.slice y N c] 45 (0, 0))]) := by
  rw [hW1, hb2]; exact Lib.hid ((Owns.start w).box _)
 go_enter Tryz.func16, Tryz.ntmps16
 go_wp2_with fail
 rw [<- hW1, <- hb2]; clear hW1 hb2; have H0 : Hid ((d.take 0).all (fun x => decide (x.name.length <= 100)) = true) := Lib.hid rfl; obtain ⟨bk, -⟩ := HO.out.blk; have hbf := lt_of_block bk; have c0 := cell_of_heap bk (i := 0); simp only [List.getElem?_toArray, List.getElem?_cons_zero] at c0; clear bk; go_loopg [5] 71 (fun gk i wr => ∃ k : Nat, gk = 71 - k /\ k <= 70 /\ k <= N /\ i = .int .i64 (k : Int) /\ wr = W1 /\ Hid ((d.take k).all (fun x => decide (x.name.length <= 100)) = true))
 case atStart => exact ⟨0, rfl, by omega, Nat.zero_le _, rfl, rfl, H0⟩
 case round =>
  rename_i J1 K1 hJ1 hK1; clear H0; obtain ⟨k, rfl, hk, hkN, rfl, rfl, HT⟩ := hrel; by_cases hlt : k < N
  ·have hlt' : (k : Int) < (N : Int) := by omega
   by_cases hk7 : k < 70
   ·have hk7' : (k : Int) < 70 := by omega
    obtain ⟨x, hxk⟩ : ∃ x, d[k]? = some x := ⟨_, List.getElem?_eq_getElem (by rw [<- HN.out]; exact hlt)⟩; obtain ⟨g, off, rfl, hg, d0, d1, d2, d3⟩ := HD.out.get HO.out.base hxk; have hnl := HX.out x (List.mem_of_getElem? hxk); have HNx : Hid ((d.take (k + 1)).all (fun x => decide (x.name.length <= 100)) = decide (x.name.length <= 100)) := by
     show _ = _; rw [List.take_add_one, hxk, List.all_append, HT.out]; simp
    clear hxk; by_cases hn1 : x.name.length <= 100
    ·have hn1' : ¬ (100 : Int) < (x.name.length : Int) := by omega
     have HT2 : Hid ((d.take (k + 1)).all (fun x => decide (x.name.length <= 100)) = true) := by show _ = _; rw [HNx.out]; simp [hn1]
     clear HNx hn1; go_wp2_with fail
     clear d0 d1 d2 d3 hg; go_roundg (71 - (k + 1))
     case measure => omega
     case rel => exact ⟨k + 1, rfl, by omega, by omega, by go_num, rfl, HT2⟩
    ·have hn1' : (100 : Int) < (x.name.length : Int) := by omega
     have HE : Hid (few24 d = false) := by
      show _ = _; unfold few24; have h1 : (d.take 70).all (fun x => decide (x.name.length <= 100)) = false := by
       have h2 : (d.take (k + 1)).all (fun x => decide (x.name.length <= 100)) = false := by rw [HNx.out]; simp [hn1]
       have h3 : d.take 70 = d.take (k + 1) ++ (d.take 70).drop (k + 1) := by
        conv => lhs; rw [<- List.take_append_drop (k + 1) (d.take 70)]
        rw [List.take_take, Nat.min_eq_left (by omega)]
       rw [h3, List.all_append, h2]; rfl
      rw [h1]; rfl
     clear hn1 HNx hJ1 hK1; go_wp2_with fail
     go_ret
     exact ⟨by rw [HE.out]; rfl, HO.out.base⟩
   ·obtain rfl : k = 70 := by omega
    have HE : Hid (few24 d = false) := by
     show _ = _; unfold few24; have : ¬ d.length <= 70 := by rw [<- HN.out]; omega
     simp [this]
    have hn2 : ¬ (N : Int) <= 70 := by omega
    clear hk7 hJ1 hK1; go_wp2_with fail
    go_ret
    exact ⟨by rw [HE.out]; rfl, HO.out.base⟩
  ·obtain rfl : k = N := by omega
   have HE : Hid (few24 d = true) := by
    show _ = _; unfold few24; have h1 := HT.out; rw [HN.out, List.take_length] at h1; rw [List.take_of_length_le (by rw [<- HN.out]; omega), h1]; have : d.length <= 70 := by rw [<- HN.out]; exact hk
    simp [this]
   have hn2 : (k : Int) <= 70 := by omega
   clear hlt hJ1 hK1; go_wp2_with fail
   go_ret
   exact ⟨by rw [HE.out]; rfl, HO.out.base⟩
end Go.Proofs.YtoeknmkephnekaaGreatDoor
namespace Go.Cz
open Go.RowKit
end Go.Cz
namespace Go.Proofs.YtoeknmkephnekaaGreatDoor
open Go.RowKit Go.Cz Go.Cz.Lx Go.Cz.Fo Go.Cz.Vd
end Go.Proofs.YtoeknmkephnekaaGreatDoor
namespace Go.Cz
open Go.RowKit Go.Cz.Lx Go.Cz.Fo Go.Cz.Vd Go.Proofs.YtoeknmkephnekaaGreatDoor
section
variable {w0 w w' : World} {ps : List Piece} {v v' : Value} {l l' : List Fact}
end
end Go.Cz
namespace Go.Cz.Vd
open Go.Cz.Lx Go.Cz.Fo
def tx1 (m : Me) : Bytes := if m.kind = 2 then ([101, 120, 101, 109, 112, 116, 32] ++ m.target) ++ [32] else [102, 111, 114, 98, 105, 100, 32]
def tx2 (m : Me) : Bytes := if m.kind = 3 then ([98, 108, 111, 99, 107, 32] ++ m.target) ++ [32] else tx1 m
def tx3 (m : Me) : Bytes := ((tx2 m ++ m.id) ++ [32, 111, 102, 32]) ++ m.auth
def tx4 (m : Me) : Bytes := if m.cond.op = 1 then tx3 m else (tx3 m ++ [32, 105, 102, 32]) ++ textF Lib.itoa m.cond
def tx5 (m : Me) : Bytes := (tx4 m ++ [32, 102, 114, 111, 109, 32]) ++ Lib.itoa m.fr
def tx6 (m : Me) : Bytes := if 0 <= m.un then (tx5 m ++ [32, 117, 110, 116, 105, 108, 32]) ++ Lib.itoa m.un else tx5 m
def tx7 (m : Me) : Bytes := if 0 < m.wi then (tx6 m ++ [32, 119, 105, 110, 100, 32]) ++ Lib.itoa m.wi else tx6 m
theorem joinB_app (sep a b : Bytes) (l : List Bytes) : joinB sep (a :: b :: l) = a ++ (sep ++ joinB sep (b :: l)) := rfl
theorem tx_say {m : Me} (h : WrM m) : tx7 m ++ [59] = sayM m := by
 have key : tx7 m = joinB [32] (wordsM m) := by
  unfold wordsM tx7 tx6 tx5 tx4 tx3 tx2 tx1; rcases h.kind with ⟨hk, ht⟩ | ⟨hk, ht, -⟩ | ⟨hk, ht, -⟩
  ·by_cases h2 : m.cond.op = 1 <;> by_cases h3 : 0 <= m.un <;> by_cases h4 : 0 < m.wi <;> simp [hk, ht, h2, h3, h4, wKind, wForbid, wOf, wIf, wFrom, wUntil, wWind, joinB_app, joinB]
  ·have ht2 : m.target ≠ [] := fun h => by rw [h] at ht; revert ht; decide
   by_cases h2 : m.cond.op = 1 <;> by_cases h3 : 0 <= m.un <;> by_cases h4 : 0 < m.wi <;> simp [hk, ht2, h2, h3, h4, wKind, wExempt, wOf, wIf, wFrom, wUntil, wWind, joinB_app, joinB]
  ·have ht2 : m.target ≠ [] := fun h => by rw [h] at ht; revert ht; decide
   by_cases h2 : m.cond.op = 1 <;> by_cases h3 : 0 <= m.un <;> by_cases h4 : 0 < m.wi <;> simp [hk, ht2, h2, h3, h4, wKind, wBlock, wOf, wIf, wFrom, wUntil, wWind, joinB_app, joinB]
 rw [key]; rfl
theorem tx_len {m : Me} (h : WrM m) : (tx1 m).length <= 13000 /\ (tx2 m).length <= 13000 /\ (tx3 m).length <= 13000 /\ (tx4 m).length <= 13000 /\ (tx5 m).length <= 13000 /\ (tx6 m).length <= 13000 /\ (tx7 m).length + 1 <= 13000 := by
 have h7 : (tx7 m).length + 1 <= 13000 := by
  have := (say_len h).1; rw [<- tx_say h, List.length_append] at this; exact this
 have h6 : (tx6 m).length <= (tx7 m).length := by unfold tx7; split <;> first | omega | (simp only [List.length_append]; omega)
 have h5 : (tx5 m).length <= (tx6 m).length := by unfold tx6; split <;> first | omega | (simp only [List.length_append]; omega)
 have h4 : (tx4 m).length <= (tx5 m).length := by unfold tx5; simp only [List.length_append]; omega
 have h3 : (tx3 m).length <= (tx4 m).length := by unfold tx4; split <;> first | omega | (simp only [List.length_append]; omega)
 have h2 : (tx2 m).length <= (tx3 m).length := by unfold tx3; simp only [List.length_append]; omega
 have h1 : (tx1 m).length <= 40 := by
  unfold tx1
  split
  ·rename_i hk; have : m.target.length <= 24 := by
    rcases h.kind with h | h | h
    ·rw [h.2]; simp
    ·exact name_le h.2.1
    ·exact name_le h.2.1
   simp only [List.length_append, List.length_cons, List.length_nil]; omega
  ·simp
 omega
end Go.Cz.Vd
namespace Go.Proofs.YtoeknmkephnekaaGreatDoor
open Go.RowKit Go.Cz Go.Cz.Lx Go.Cz.Fo Go.Cz.Vd
open Go.Cz.Wn (datedB)
attribute [local go_sem] bs_size bs_extract bs_append bs_toList
attribute [local irreducible] cList cPlan
theorem DecimalI_c (n : Int) (w : World) (h0 : 0 <= n) (h1 : n <= 1000000) : Calls Tryz.prog 55 #[.int .i64 n] w fun e w' => e = .returned (.string (bs (Lib.itoa n))) /\ w' = w := by
 obtain ⟨k, rfl⟩ : ∃ k : Nat, n = (k : Int) := ⟨n.toNat, by omega⟩; have h := Decimal_c k w (by omega); rw [<- Lib.itoa_nonneg k] at h; exact h
set_option maxRecDepth 100000 in
set_option maxHeartbeats 8000000 in
theorem rText30_c {p : Nat -> Prop} (m : Me) (kv : Value) (w : World) (hf : IsFm p w m.cond kv) (hM : MeLen m) (hC : CoLen m.cond) :
  Calls Tryz.prog 20 #[mval m kv] w fun e w' => e = .returned (.tuple #[.string (bs (textM m).1), .int .i64 (textM m).2]) /\ Below w.heap.size w w' := by
 have HF := Lib.hid hf; have HML := Lib.hid hM; have HCL := Lib.hid hC; obtain ⟨y, c, rfl⟩ := hf.form; obtain ⟨n, hn⟩ : ∃ n, n = m.cond.kids.length := ⟨_, rfl⟩; rw [<- hn] at HF ⊢; clear hf hM hC hn; obtain ⟨bx, hbx⟩ : ∃ bx, bx = w.heap.size := ⟨_, rfl⟩; obtain ⟨W1, hW1⟩ : ∃ W1, W1 = w.alloc (mobj m (.slice y n c)) := ⟨_, rfl⟩; have HO : Hid (Owns w W1 [blk bx (mobj m (.slice y n c))]) := by
  rw [hW1, hbx]; exact Lib.hid ((Owns.start w).box (mobj m (.slice y n c)))
 go_enter Tryz.func20, Tryz.ntmps20
 go_upto_region 1 with fail
 rw [<- hW1, <- hbx]; clear hW1 hbx
 (try clear hx0 c0 c1 c2 c3 c4 c5 c6 c7 c8 c9 c10 c11)
 obtain ⟨hx0, -, c0, c1, c2, c3, c4, c5, c6, c7, c8, c9, c10, c11⟩ := bx12 HO.out.blk; go_wp2_with fail
 go_at_call 52
 refine (rText_c m.cond W1 _ (HF.out.later HO.out.base) (Nat.le_refl _) HCL.out.names HCL.out.size).mono ?_; rintro e W2 ⟨rfl, hb⟩; replace HO := Lib.hid (HO.out.below hb); clear hb; obtain ⟨S, hS⟩ : ∃ S, S = if textE m.cond = 0 then textF Lib.itoa m.cond else [] := ⟨_, rfl⟩
 obtain ⟨E, hE⟩ : ∃ E, E = textE m.cond := ⟨_, rfl⟩; rw [<- hS, <- hE]; rw [<- hE] at hS; have HS := Lib.hid hS; have HE := Lib.hid hE; clear hS hE
 (try clear hx0 c0 c1 c2 c3 c4 c5 c6 c7 c8 c9 c10 c11)
 obtain ⟨hx0, -, c0, c1, c2, c3, c4, c5, c6, c7, c8, c9, c10, c11⟩ := bx12 HO.out.blk; go_wp2_with fail
 go_at_call 53
 refine (rNamed_c m y n c W2 HML.out).mono ?_; rintro e W3 ⟨rfl, hb⟩; replace HO := Lib.hid (HO.out.below hb); clear hb
 (try clear hx0 c0 c1 c2 c3 c4 c5 c6 c7 c8 c9 c10 c11)
 obtain ⟨hx0, -, c0, c1, c2, c3, c4, c5, c6, c7, c8, c9, c10, c11⟩ := bx12 HO.out.blk; obtain ⟨q, hq⟩ : ∃ q, q = namedM m := ⟨_, rfl⟩; rw [<- hq]; have HP := Lib.hid hq; clear hq; cases q
 ·have HE : Hid (textM m = ([], 1)) := by
   show _ = _; unfold textM wrM; rw [<- HP.out]; simp
  go_wp2_with fail
  go_ret2
  exact ⟨by rw [HE.out]; rfl, HO.out.base⟩
 go_wp2_with fail
 go_at_call 54
 refine (rDated30_c m y n c W3).mono ?_; rintro e W4 ⟨rfl, hb⟩; replace HO := Lib.hid (HO.out.below hb); clear hb
 (try clear hx0 c0 c1 c2 c3 c4 c5 c6 c7 c8 c9 c10 c11)
 obtain ⟨hx0, -, c0, c1, c2, c3, c4, c5, c6, c7, c8, c9, c10, c11⟩ := bx12 HO.out.blk; obtain ⟨q, hq⟩ : ∃ q, q = datedB m.kind m.fr m.un m.wi := ⟨_, rfl⟩; rw [<- hq]; have HT := Lib.hid hq; clear hq; cases q
 ·have HE : Hid (textM m = ([], 1)) := by
   show _ = _; unfold textM wrM; rw [<- HT.out]; simp
  go_wp2_with fail
  go_ret2
  exact ⟨by rw [HE.out]; rfl, HO.out.base⟩
 by_cases hE : E = 0
 rotate_left
 ·have hE' : ((E : Int) != 0) = true := by simpa using hE
  have HE0 : Hid (¬ textE m.cond = 0) := by rw [<- HE.out]; exact hE
  clear hE; have HE : Hid (textM m = ([], 1)) := by
   show _ = _; unfold textM wrM; simp [HE0.out]
  go_wp2_with fail
  go_ret2
  exact ⟨by rw [HE.out]; rfl, HO.out.base⟩
 rw [if_pos hE] at HS; have HE0 : Hid (textE m.cond = 0) := by rw [<- HE.out]; exact hE
 subst hE; have HW : Hid (wrM m = true) := by
  show _ = _; unfold wrM; rw [<- HP.out, <- HT.out, HE0.out]
  rfl
 have HB : Hid ((0 <= m.fr /\ m.fr <= 100000) /\ (-1 <= m.un /\ m.un <= 100000) /\ (0 <= m.wi /\ m.wi <= 400)) := by
  have h := wrM_parts HW.out; have h1 := h.fr; have h2 := h.un; have h3 := h.wi; exact Lib.hid ⟨h1, by omega, h3⟩
 have HTx : Hid (textM m = (sayM m, 0)) := by show _ = _; unfold textM; rw [if_pos HW.out]
 obtain ⟨l1, l2, l3, l4, l5, l6, l7⟩ := tx_len (wrM_parts HW.out); have HSay := Lib.hid (tx_say (wrM_parts HW.out)); have hlS : S.length <= 12000 := by rw [HS.out]; exact (text_small HE0.out).2.2
 have hlt : m.target.length <= 140737488355328 := HML.out.target; have hli : m.id.length <= 24 := name_le (wrM_parts HW.out).id; have hla : m.auth.length <= 24 := name_le (wrM_parts HW.out).auth; have hlg : m.target.length <= 24 := by
  rcases (wrM_parts HW.out).kind with h | h | h
  ·rw [h.2]; simp
  ·exact name_le h.2.1
  ·exact name_le h.2.1
 clear HP HT HE HE0 HW hlt; go_upto_if 27 with fail
 go_cut [6] (fun v wx => v = .string (bs (tx1 m)) /\ wx = W4)
 case first =>
  as_aux_lemma =>
   by_cases hk : m.kind = 2
   ·have hk' : (m.kind == 2) = true := by simpa using hk
    have HE : Hid (tx1 m = ([101, 120, 101, 109, 112, 116, 32] ++ m.target) ++ [32]) := by show _ = _; unfold tx1; rw [if_pos hk]
    clear hk; go_wp2_with fail
    go_meet
    exact ⟨by rw [HE.out]; simp only [<- bs_append]; rfl, rfl⟩
   ·have hk' : (m.kind == 2) = false := by simpa using hk
    have HE : Hid (tx1 m = [102, 111, 114, 98, 105, 100, 32]) := by show _ = _; unfold tx1; rw [if_neg hk]
    clear hk; go_wp2_with fail
    go_meet
    exact ⟨by rw [HE.out]; try rfl, rfl⟩
 obtain ⟨rfl, hw⟩ := hcut; rw [hw]; clear hw; go_upto_if 34 with fail
 go_cut [6] (fun v wx => v = .string (bs (tx2 m)) /\ wx = W4)
 case first =>
  as_aux_lemma =>
   by_cases hk : m.kind = 3
   ·have hk' : (m.kind == 3) = true := by simpa using hk
    have HE : Hid (tx2 m = ([98, 108, 111, 99, 107, 32] ++ m.target) ++ [32]) := by show _ = _; unfold tx2; rw [if_pos hk]
    clear hk; go_wp2_with fail
    go_meet
    exact ⟨by rw [HE.out]; simp only [<- bs_append]; rfl, rfl⟩
   ·have hk' : (m.kind == 3) = false := by simpa using hk
    have HE : Hid (tx2 m = tx1 m) := by show _ = _; unfold tx2; rw [if_neg hk]
    clear hk; go_wp2_with fail
    go_meet
    exact ⟨by rw [HE.out]; try rfl, rfl⟩
 obtain ⟨rfl, hw⟩ := hcut; rw [hw]; clear hw; have e3 : bs (tx2 m ++ m.id) ++ (⟨#[32, 111, 102, 32]⟩ : ByteArray) ++ bs m.auth = bs (tx3 m) := by unfold tx3; simp only [<- bs_append]; rfl
 go_upto_if 50 with fail
 clear e3; go_cut [6] (fun v wx => v = .string (bs (tx4 m)) /\ wx = W4)
 case first =>
  as_aux_lemma =>
   by_cases hk : m.cond.op = 1
   ·have hk' : (m.cond.op != 1) = false := by simpa using hk
    have HE4 : Hid (tx4 m = tx3 m) := by show _ = _; unfold tx4; rw [if_pos hk]
    clear hk; go_wp2_with fail
    go_meet
    exact ⟨by rw [HE4.out], rfl⟩
   ·have hk' : (m.cond.op != 1) = true := by simpa using hk
    have HE4 : Hid (tx4 m = (tx3 m ++ [32, 105, 102, 32]) ++ S) := by show _ = _; unfold tx4; rw [if_neg hk, HS.out]
    clear hk; go_wp2_with fail
    go_meet
    exact ⟨by rw [HE4.out]; simp only [<- bs_append]; rfl, rfl⟩
 obtain ⟨rfl, hw⟩ := hcut; rw [hw]; clear hw; have hd1 : (Lib.itoa m.fr).length <= 21 := Lib.itoa_length_le _ (by have := HB.out; omega) (by have := HB.out; omega); have hd2 : (Lib.itoa m.un).length <= 21 := Lib.itoa_length_le _ (by have := HB.out; omega) (by have := HB.out; omega); have hd3 : (Lib.itoa m.wi).length <= 21 := Lib.itoa_length_le _ (by have := HB.out; omega) (by have := HB.out; omega); go_wp2_with fail
 go_at_call 55
 refine (DecimalI_c m.fr W4 (by have := HB.out; omega) (by have := HB.out; omega)).mono ?_; rintro e Wd ⟨rfl, hwd⟩; rw [hwd]; clear hwd; have e5 : bs (tx4 m) ++ (⟨#[32, 102, 114, 111, 109, 32]⟩ : ByteArray) ++ bs (Lib.itoa m.fr) = bs (tx5 m) := by unfold tx5; simp only [<- bs_append]; rfl
 go_upto_if 63 with fail
 clear e5; go_cut [6] (fun v wx => v = .string (bs (tx6 m)) /\ wx = W4)
 case first =>
  as_aux_lemma =>
   by_cases hk : 0 <= m.un
   ·have HE6 : Hid (tx6 m = (tx5 m ++ [32, 117, 110, 116, 105, 108, 32]) ++ Lib.itoa m.un) := by show _ = _; unfold tx6; rw [if_pos hk]
    go_wp2_with fail
    go_at_call 55
    refine (DecimalI_c m.un W4 hk (by have := HB.out; omega)).mono ?_; rintro e Wd ⟨rfl, hwd⟩; rw [hwd]; clear hwd hk; go_wp2_with fail
    go_meet
    exact ⟨by rw [HE6.out]; simp only [<- bs_append]; rfl, rfl⟩
   ·have HE6 : Hid (tx6 m = tx5 m) := by show _ = _; unfold tx6; rw [if_neg hk]
    go_wp2_with fail
    go_meet
    exact ⟨by rw [HE6.out], rfl⟩
 obtain ⟨rfl, hw⟩ := hcut; rw [hw]; clear hw; go_upto_if 72 with fail
 go_cut [6] (fun v wx => v = .string (bs (tx7 m)) /\ wx = W4)
 case first =>
  as_aux_lemma =>
   by_cases hk : 0 < m.wi
   ·have HE7 : Hid (tx7 m = (tx6 m ++ [32, 119, 105, 110, 100, 32]) ++ Lib.itoa m.wi) := by show _ = _; unfold tx7; rw [if_pos hk]
    go_wp2_with fail
    go_at_call 55
    refine (DecimalI_c m.wi W4 (by omega) (by have := HB.out; omega)).mono ?_; rintro e Wd ⟨rfl, hwd⟩; rw [hwd]; clear hwd hk; go_wp2_with fail
    go_meet
    exact ⟨by rw [HE7.out]; simp only [<- bs_append]; rfl, rfl⟩
   ·have HE7 : Hid (tx7 m = tx6 m) := by show _ = _; unfold tx7; rw [if_neg hk]
    go_wp2_with fail
    go_meet
    exact ⟨by rw [HE7.out], rfl⟩
 obtain ⟨rfl, hw⟩ := hcut; rw [hw]; clear hw; go_wp2_with fail
 go_ret2
 exact ⟨by rw [HTx.out, <- HSay.out]; simp only [<- bs_append]; rfl, HO.out.base⟩
end Go.Proofs.YtoeknmkephnekaaGreatDoor
namespace Go.Proofs.YtoeknmkephnekaaGreatDoor
open Go.RowKit Go.Cz Go.Cz.Lx Go.Cz.Fo Go.Cz.Vd
attribute [local go_sem] bs_size bs_extract bs_append bs_toList
attribute [local irreducible] cList cPlan
theorem mparse_size (l : Bytes) : Go.Cz.Fo.size (parseM l).1.cond <= 900000 := by
 obtain ⟨h1, h2⟩ := parses_law l; by_cases h : (parseM l).2.1 = 0
 ·exact (few_wr (text_of (h2 h).2.1).1).size
 ·rw [(h1 h).1]
  decide
set_option maxRecDepth 100000 in
set_option maxHeartbeats 8000000 in
theorem MeasureMatchesReference_walk (w : World) (hs : Std w) (a : Me) (ka : Value) (ua : MIn w a ka) (b : Me) (kb : Value) (ub : MIn w b kb) (d : List Fact) (vd : Value) (ud : DIn w d vd) (l : Bytes) (hl : l.length <= 140737488355328) :
  Calls Tryz.prog 8 #[mval a ka, mval b kb, .agg #[vd], .string (bs l)] w fun e w' => e = .returned (.bool true) /\ Below w.heap.size w w' := by
 have HS := Lib.hid hs; have UA := Lib.hid ua; have UB := Lib.hid ub; have UD := Lib.hid ud; obtain ⟨y, c, rfl⟩ := ua.fm.form; obtain ⟨y', c', rfl⟩ := ub.fm.form; obtain ⟨n, hn⟩ : ∃ n, n = a.cond.kids.length := ⟨_, rfl⟩; obtain ⟨n', hn'⟩ : ∃ n, n = b.cond.kids.length := ⟨_, rfl⟩; rw [<- hn] at UA ⊢; rw [<- hn'] at UB ⊢; obtain ⟨yd, md, rfl⟩ := ud.dom.form; obtain ⟨nd, hnd⟩ : ∃ n, n = d.length := ⟨_, rfl⟩; rw [<- hnd] at UD ⊢; have HND := Lib.hid hnd; clear hs ua ub hn hn' ud hnd; obtain ⟨bx, hbx⟩ : ∃ bx, bx = w.heap.size := ⟨_, rfl⟩; obtain ⟨by0, hby⟩ : ∃ b2, b2 = bx + 1 := ⟨_, rfl⟩; obtain ⟨bf, hbf⟩ : ∃ b2, b2 = by0 + 1 := ⟨_, rfl⟩; obtain ⟨W1, hW1⟩ : ∃ W1, W1 = ((w.alloc (mobj a (.slice y n c))).alloc (mobj b (.slice y' n' c'))).alloc (.cells #[.slice yd nd md] 45) := ⟨_, rfl⟩; have HO : Hid (Owns w W1 [blk bx (mobj a (.slice y n c)), blk by0 (mobj b (.slice y' n' c')), blk bf (.cells #[.slice yd nd md] 45 (0, 0))]) := by
  have h := (((Owns.start w).box (mobj a (.slice y n c))).box (mobj b (.slice y' n' c'))).box (.cells #[.slice yd nd md] 45 (0, 0)); simp only [World.size_alloc] at h; rw [hW1, hbf, hby, hbx]; exact Lib.hid (h.re [2, 1, 0])
 go_enter Tryz.func8, Tryz.ntmps8
 go_upto_region 1 with fail
 rw [<- hbx, <- hby, <- hbf, <- hW1]; clear hW1 hbx hby hbf; go_wp2_with fail
 go_at_call 9
 refine (head_c W1 (HS.out.below HO.out.base)).mono ?_; rintro e W2 ⟨rfl, hb⟩; replace HO := Lib.hid (HO.out.below hb); clear hb
 (try clear hcx c0 c1 c2 c3 c4 c5 c6 c7 c8 c9 ct cu)
 obtain ⟨hcx, -, c0, c1, c2, c3, c4, c5, c6, c7, c8, c9, ct, cu⟩ := bx12 (Owns.blk (HO.out))
 (try clear hdx d0 d1 d2 d3 d4 d5 d6 d7 d8 d9 dt du)
 obtain ⟨hdx, -, d0, d1, d2, d3, d4, d5, d6, d7, d8, d9, dt, du⟩ := bx12 (Owns.blk (HO.out.pop)); go_wp2_with fail
 clear hcx c0 c1 c2 c3 c4 c5 c6 c7 c8 c9 ct cu hdx d0 d1 d2 d3 d4 d5 d6 d7 d8 d9 dt du; have hme := me_row2 (new_heap W2 (.cells (mclM a (.slice y n c) ++ mclM b (.slice y' n' c')).toArray 26) _ rfl) ((UA.out.fm.later HO.out.base).later ((Below.refl _ _).alloc (Nat.le_refl _) _)) ((UB.out.fm.later HO.out.base).later ((Below.refl _ _).alloc (Nat.le_refl _) _)); replace HO := Lib.hid (HO.out.alloc (.cells (mclM a (.slice y n c) ++ mclM b (.slice y' n' c')).toArray 26 (0, 0))); obtain ⟨W3, hW3⟩ : ∃ W, W = W2.alloc (.cells #[.string (bs a.id), .string (bs a.auth), .int .i64 a.kind, .string (bs a.target), .int .i64 a.cond.op, .string (bs a.cond.name), .int .i64 a.cond.cmp, .int .i64 a.cond.num, .slice y n c, .int .i64 a.fr, .int .i64 a.un, .int .i64 a.wi, .string (bs b.id), .string (bs b.auth), .int .i64 b.kind, .string (bs b.target), .int .i64 b.cond.op, .string (bs b.cond.name), .int .i64 b.cond.cmp, .int .i64 b.cond.num, .slice y' n' c', .int .i64 b.fr, .int .i64 b.un, .int .i64 b.wi] 26) := ⟨_, rfl⟩; rw [<- hW3]; have hme2 : IsMeR W3 [a, b] (.slice (some ⟨W2.heap.size, 0, none⟩) 2 2) := by rw [hW3]; exact hme
 have HO3 : Hid (Owns w W3 [blk bx (mobj a (.slice y n c)), blk by0 (mobj b (.slice y' n' c')), blk bf (.cells #[.slice yd nd md] 45 (0, 0))]) := by rw [hW3]; exact HO
 replace HO := HO3; clear hme hW3 HO3; go_at_call 10
 refine (fewL_c [a, b] _ W3 hme2 (by simp) (fun m hm => by
  simp only [List.mem_cons, List.not_mem_nil, or_false] at hm; rcases hm with rfl | rfl
  ·exact ⟨UA.out.len, UA.out.names⟩
  ·exact ⟨UB.out.len, UB.out.names⟩)).mono ?_
 rintro e W4 ⟨rfl, hb⟩; replace HO := Lib.hid (HO.out.below hb); clear hb hme2; obtain ⟨q, hq⟩ : ∃ q, q = fewL [a, b] := ⟨_, rfl⟩; rw [<- hq]; replace hq := Lib.hid hq; cases q
 ·go_wp2_with fail
  go_ret
  exact ⟨rfl, HO.out.base⟩
 have HA : Hid (FewM a) := Lib.hid (few_of (few2 hq.out.symm).1 UA.out); have HB : Hid (FewM b) := Lib.hid (few_of (few2 hq.out.symm).2 UB.out); clear hq; obtain ⟨hdm, -, e0⟩ := bx1 (Owns.blk (HO.out.pop.pop)); go_wp2_with fail
 clear hdm e0; go_at_call 16
 refine (few24_c d _ W4 (UD.out.dom.later HO.out.base) UD.out.len UD.out.names).mono ?_; rintro e W5 ⟨rfl, hb⟩; replace HO := Lib.hid (HO.out.below hb); clear hb; obtain ⟨q, hq⟩ : ∃ q, q = few24 d := ⟨_, rfl⟩; rw [<- hq]; replace hq := Lib.hid hq; cases q
 ·go_wp2_with fail
  go_ret
  exact ⟨rfl, HO.out.base⟩
 have HL : Hid (d.length <= 70) := by
  have h := hq.out; unfold few24 at h; have h2 := h.symm; rw [Bool.and_eq_true, decide_eq_true_eq] at h2; exact Lib.hid h2.2
 have HDo : Hid (DoLen d) := Lib.hid ⟨by have := HL.out; omega, UD.out.names⟩; clear hq; by_cases hx : l.length <= 1500
 rotate_left
 ·have hx' : (1500 : Int) < (l.length : Int) := by omega
  clear hx; go_wp2_with fail
  go_ret
  exact ⟨rfl, HO.out.base⟩
 have hx' : ¬ (1500 : Int) < (l.length : Int) := by omega
 (try clear hcx c0 c1 c2 c3 c4 c5 c6 c7 c8 c9 ct cu)
 obtain ⟨hcx, -, c0, c1, c2, c3, c4, c5, c6, c7, c8, c9, ct, cu⟩ := bx12 (Owns.blk (HO.out)); go_wp2_with fail
 clear hcx c0 c1 c2 c3 c4 c5 c6 c7 c8 c9 ct cu; clear hx'; go_at_call 11
 refine (mText_c a _ W5 (HS.out.below HO.out.base) (UA.out.fm.later HO.out.base) HA.out.len HA.out.cond).mono ?_; rintro e W6 ⟨rfl, hb⟩; replace HO := Lib.hid (HO.out.below hb); clear hb; obtain ⟨S1, hS1⟩ : ∃ s, s = (textM a).1 := ⟨_, rfl⟩; obtain ⟨E1, hE1⟩ : ∃ s, s = (textM a).2 := ⟨_, rfl⟩; rw [<- hS1, <- hE1]; replace hS1 := Lib.hid hS1; replace hE1 := Lib.hid hE1
 (try clear hcx c0 c1 c2 c3 c4 c5 c6 c7 c8 c9 ct cu)
 obtain ⟨hcx, -, c0, c1, c2, c3, c4, c5, c6, c7, c8, c9, ct, cu⟩ := bx12 (Owns.blk (HO.out)); go_wp2_with fail
 clear hcx c0 c1 c2 c3 c4 c5 c6 c7 c8 c9 ct cu; go_at_call 20
 refine (rText30_c a _ W6 (UA.out.fm.later HO.out.base) HA.out.len HA.out.cond).mono ?_; rintro e W7 ⟨rfl, hb⟩; replace HO := Lib.hid (HO.out.below hb); clear hb; rw [<- hS1.out, <- hE1.out]; clear hS1 hE1; go_wp2_with fail
 go_at_call 12
 refine (mParse_c l W7 (by omega)).mono ?_; rintro e W8 ⟨kv, he, hf, hb⟩; obtain ⟨M, hM⟩ : ∃ M, M = (parseM l).1 := ⟨_, rfl⟩; obtain ⟨G, hG⟩ : ∃ M, M = (parseM l).2.1 := ⟨_, rfl⟩; obtain ⟨T, hT⟩ : ∃ M, M = (parseM l).2.2 := ⟨_, rfl⟩; have hMs := mparse_size l; rw [<- hM] at hf hMs; rw [<- hM, <- hG, <- hT] at he; have HM := Lib.hid hM; have HG := Lib.hid hG; have HT := Lib.hid hT; have HMs := Lib.hid hMs; subst he; clear hM hG hT hMs; obtain ⟨yk, mk, rfl⟩ := hf.form; obtain ⟨nk, hnk⟩ : ∃ k, k = M.cond.kids.length := ⟨_, rfl⟩; rw [<- hnk] at hf ⊢; replace hnk := Lib.hid hnk; have h2 := (HO.out.below hb).box (mobj M (.slice yk nk mk)); have HF : Hid (IsFm (fun _ => True) W8 M.cond (.slice yk nk mk)) := Lib.hid (hf.mono fun _ _ _ => trivial); clear hb hf; obtain ⟨bz, hbz⟩ : ∃ b, b = W8.heap.size := ⟨_, rfl⟩; obtain ⟨W9, hW⟩ : ∃ W, W = W8.alloc (mobj M (.slice yk nk mk)) := ⟨_, rfl⟩; rw [<- hW, <- hbz] at h2; replace HF : Hid (IsFm (fun _ => True) W9 M.cond (.slice yk nk mk)) := by rw [hW]; exact Lib.hid (HF.out.later ((Below.refl _ _).alloc (Nat.le_refl _) _))
 dsimp only [mobj] at hW; replace HO := Lib.hid (h2.re [1, 2, 3, 0]); clear h2; go_upto_region 7 with fail
 rw [<- hbz, <- hW]; clear hbz hW; go_wp2_with fail
 go_at_call 21
 refine (rMParse_c l W9 (by omega)).mono ?_; rintro e W10 ⟨kv, he, hf, hb⟩; rw [<- HM.out] at hf; rw [<- HM.out, <- HG.out, <- HT.out] at he; subst he; obtain ⟨yk2, mk2, rfl⟩ := hf.form; rw [<- hnk.out] at hf ⊢; have h2 := (HO.out.below hb).box (mobj M (.slice yk2 nk mk2)); have HF2 : Hid (IsFm (fun _ => True) W10 M.cond (.slice yk2 nk mk2)) := Lib.hid (hf.mono fun _ _ _ => trivial); replace HF := Lib.hid (HF.out.later hb); clear hb hf hnk; obtain ⟨bz2, hbz2⟩ : ∃ b, b = W10.heap.size := ⟨_, rfl⟩; obtain ⟨W11, hW⟩ : ∃ W, W = W10.alloc (mobj M (.slice yk2 nk mk2)) := ⟨_, rfl⟩; rw [<- hW, <- hbz2] at h2; replace HF2 : Hid (IsFm (fun _ => True) W11 M.cond (.slice yk2 nk mk2)) := by rw [hW]; exact Lib.hid (HF2.out.later ((Below.refl _ _).alloc (Nat.le_refl _) _))
 replace HF : Hid (IsFm (fun _ => True) W11 M.cond (.slice yk nk mk)) := by rw [hW]; exact Lib.hid (HF.out.later ((Below.refl _ _).alloc (Nat.le_refl _) _))
 dsimp only [mobj] at hW; replace HO := Lib.hid (h2.re [1, 2, 3, 4, 0]); clear h2; go_upto_region 8 with fail
 rw [<- hbz2, <- hW]; clear hbz2 hW; refine wp_region_canA [2, 5, 10, 13, 19, 22] [0, 1, 3, 4, 2, 5, 6, 7, 8, 9, 11, 12, 10, 13, 14, 15, 16, 17, 18, 20, 21, 19, 22, 23, 24, 25] ?_; replace HO := Lib.hid HO.out.drew; replace HF2 := Lib.hid (HF2.out.later (Below.refl _ _).drew); replace HF := Lib.hid (HF.out.later (Below.refl _ _).drew); obtain ⟨V0, hV0⟩ : ∃ W, W = World.drew W11 := ⟨_, rfl⟩; rw [<- hV0] at HO HF HF2 ⊢; clear hV0
 (try clear hcx c0 c1 c2 c3 c4 c5 c6 c7 c8 c9 ct cu)
 obtain ⟨hcx, -, c0, c1, c2, c3, c4, c5, c6, c7, c8, c9, ct, cu⟩ := bx12 (Owns.blk (HO.out)); obtain ⟨hdm, -, e0⟩ := bx1 (Owns.blk (HO.out.pop.pop)); iterate 4 (refine cl_doA rfl rfl rfl (fun _ _ => ?_); go_wp2_with fail)
 clear hdm e0; clear hcx c0 c1 c2 c3 c4 c5 c6 c7 c8 c9 ct cu; refine cl_call (i := 2) rfl rfl rfl (fun K hK => ?_); go_wp2_with fail
 go_at_call 17
 refine (validM_c d _ a _ V0 (UD.out.dom.later HO.out.base) (UA.out.fm.later HO.out.base) HDo.out HA.out.len HA.out.cond).mono ?_; rintro e V1 ⟨rfl, hb⟩; replace HO := Lib.hid (HO.out.below hb); replace HF := Lib.hid (HF.out.later hb); replace HF2 := Lib.hid (HF2.out.later hb); have Hb := Lib.hid hb; clear hb; obtain ⟨X, hX⟩ : ∃ X, X = validM d a := ⟨_, rfl⟩; rw [<- hX]; replace hX := Lib.hid hX; go_wp2_with fail
 refine And.intro Hb.out ?_; clear Hb; refine cl_call (i := 5) rfl rfl rfl (fun K hK => ?_); go_wp2_with fail
 go_at_call 22
 refine (rValid30_c d _ a _ V1 (UD.out.dom.later HO.out.base) (UA.out.fm.later HO.out.base) HDo.out HA.out.len HA.out.cond).mono ?_; rintro e V2 ⟨rfl, hb⟩; replace HO := Lib.hid (HO.out.below hb); replace HF := Lib.hid (HF.out.later hb); replace HF2 := Lib.hid (HF2.out.later hb); have Hb := Lib.hid hb; clear hb; rw [<- hX.out]; clear hX; have hXX : ((X : Int) == (X : Int)) = true := by simp
 go_wp2_with fail
 refine And.intro Hb.out ?_; clear Hb; iterate 1 (first | (refine cl_doA rfl rfl rfl (fun _ _ => ?_); go_wp2_with fail) | (refine cl_yesA rfl rfl rfl rfl (fun _ _ => ?_); go_wp2_with fail))
 (try rw [hXX])
 iterate 1 (first | (refine cl_doA rfl rfl rfl (fun _ _ => ?_); go_wp2_with fail) | (refine cl_yesA rfl rfl rfl rfl (fun _ _ => ?_); go_wp2_with fail))
 clear hXX
 (try clear hcx c0 c1 c2 c3 c4 c5 c6 c7 c8 c9 ct cu)
 obtain ⟨hcx, -, c0, c1, c2, c3, c4, c5, c6, c7, c8, c9, ct, cu⟩ := bx12 (Owns.blk (HO.out))
 (try clear hdx d0 d1 d2 d3 d4 d5 d6 d7 d8 d9 dt du)
 obtain ⟨hdx, -, d0, d1, d2, d3, d4, d5, d6, d7, d8, d9, dt, du⟩ := bx12 (Owns.blk (HO.out.pop)); iterate 4 (first | (refine cl_doA rfl rfl rfl (fun _ _ => ?_); go_wp2_with fail) | (refine cl_yesA rfl rfl rfl rfl (fun _ _ => ?_); go_wp2_with fail))
 clear hcx c0 c1 c2 c3 c4 c5 c6 c7 c8 c9 ct cu hdx d0 d1 d2 d3 d4 d5 d6 d7 d8 d9 dt du; refine cl_ycall (i := 10) rfl rfl rfl rfl (fun K hK => ?_); go_wp2_with fail
 go_at_call 13
 refine (mSame_c a b _ _ V2 (HS.out.below HO.out.base) (UA.out.fm.later HO.out.base) (UB.out.fm.later HO.out.base) HA.out.ints HB.out.ints HA.out.size HB.out.size).mono ?_; rintro e V3 ⟨rfl, hb⟩; replace HO := Lib.hid (HO.out.below hb); replace HF := Lib.hid (HF.out.later hb); replace HF2 := Lib.hid (HF2.out.later hb); have Hb := Lib.hid hb; clear hb; obtain ⟨q, hq⟩ : ∃ q, q = sameM a b := ⟨_, rfl⟩; rw [<- hq]; have HQ := Lib.hid hq; clear hq; go_wp2_with fail
 refine And.intro Hb.out ?_; clear Hb; refine cl_ycall (i := 13) rfl rfl rfl rfl (fun K hK => ?_); go_wp2_with fail
 go_at_call 23
 refine (rSame30_c a b _ _ V3 (UA.out.fm.later HO.out.base) (UB.out.fm.later HO.out.base) HA.out.size HB.out.size).mono ?_; rintro e V4 ⟨rfl, hb⟩; replace HO := Lib.hid (HO.out.below hb); replace HF := Lib.hid (HF.out.later hb); replace HF2 := Lib.hid (HF2.out.later hb); have Hb := Lib.hid hb; clear hb; rw [<- HQ.out]; have hqq : (q == q) = true := by cases q <;> rfl
 clear HQ; go_wp2_with fail
 refine And.intro Hb.out ?_; clear Hb; iterate 1 (first | (refine cl_doA rfl rfl rfl (fun _ _ => ?_); go_wp2_with fail) | (refine cl_yesA rfl rfl rfl rfl (fun _ _ => ?_); go_wp2_with fail))
 (try rw [hqq])
 iterate 2 (first | (refine cl_doA rfl rfl rfl (fun _ _ => ?_); go_wp2_with fail) | (refine cl_yesA rfl rfl rfl rfl (fun _ _ => ?_); go_wp2_with fail))
 clear hqq
 (try clear hcx c0 c1 c2 c3 c4 c5 c6 c7 c8 c9 ct cu)
 obtain ⟨hcx, -, c0, c1, c2, c3, c4, c5, c6, c7, c8, c9, ct, cu⟩ := bx12 (Owns.blk (HO.out)); iterate 4 (first | (refine cl_doA rfl rfl rfl (fun _ _ => ?_); go_wp2_with fail) | (refine cl_yesA rfl rfl rfl rfl (fun _ _ => ?_); go_wp2_with fail))
 clear hcx c0 c1 c2 c3 c4 c5 c6 c7 c8 c9 ct cu; refine cl_ycall (i := 19) rfl rfl rfl rfl (fun K hK => ?_); go_wp2_with fail
 go_at_call 13
 refine (mSame_c a a _ _ V4 (HS.out.below HO.out.base) (UA.out.fm.later HO.out.base) (UA.out.fm.later HO.out.base) HA.out.ints HA.out.ints HA.out.size HA.out.size).mono ?_; rintro e V5 ⟨rfl, hb⟩; replace HO := Lib.hid (HO.out.below hb); replace HF := Lib.hid (HF.out.later hb); replace HF2 := Lib.hid (HF2.out.later hb); have Hb := Lib.hid hb; clear hb; rw [sameM_iff.2 rfl]; go_wp2_with fail
 refine And.intro Hb.out ?_; clear Hb; refine cl_ycall (i := 22) rfl rfl rfl rfl (fun K hK => ?_); go_wp2_with fail
 go_at_call 23
 refine (rSame30_c a a _ _ V5 (UA.out.fm.later HO.out.base) (UA.out.fm.later HO.out.base) HA.out.size HA.out.size).mono ?_; rintro e V6 ⟨rfl, hb⟩; replace HO := Lib.hid (HO.out.below hb); replace HF := Lib.hid (HF.out.later hb); replace HF2 := Lib.hid (HF2.out.later hb); have Hb := Lib.hid hb; clear hb; rw [sameM_iff.2 rfl]; go_wp2_with fail
 refine And.intro Hb.out ?_; clear Hb; iterate 3 (first | (refine cl_doA rfl rfl rfl (fun _ _ => ?_); go_wp2_with fail) | (refine cl_yesA rfl rfl rfl rfl (fun _ _ => ?_); go_wp2_with fail))
 refine cl_nil ?_; have hS1 : (S1 == S1) = true := by simp
 have hE1 : ((E1 : Int) == (E1 : Int)) = true := by simp
 have hG1 : ((G : Int) == (G : Int)) = true := by simp
 have hT1 : (T == T) = true := by simp
 (try clear hzx z0 z1 z2 z3 z4 z5 z6 z7 z8 z9 zt zu)
 obtain ⟨hzx, -, z0, z1, z2, z3, z4, z5, z6, z7, z8, z9, zt, zu⟩ := bx12 (Owns.blk (HO.out.pop.pop.pop))
 (try clear hux u0 u1 u2 u3 u4 u5 u6 u7 u8 u9 ut uu)
 obtain ⟨hux, -, u0, u1, u2, u3, u4, u5, u6, u7, u8, u9, ut, uu⟩ := bx12 (Owns.blk (HO.out.pop.pop.pop.pop)); go_wp2_with fail
 clear hzx z0 z1 z2 z3 z4 z5 z6 z7 z8 z9 zt zu hux u0 u1 u2 u3 u4 u5 u6 u7 u8 u9 ut uu; go_at_call 23
 refine (rSame30_c M M _ _ V6 HF.out HF2.out HMs.out HMs.out).mono ?_; rintro e V7 ⟨rfl, hb⟩; replace HO := Lib.hid (HO.out.below hb); clear hb; rw [sameM_iff.2 rfl]; go_wp2_with fail
 go_ret
 exact ⟨rfl, HO.out.base⟩
end Go.Proofs.YtoeknmkephnekaaGreatDoor
namespace Go.Proofs.YtoeknmkephnekaaGreatDoor
open Go.ChangeShapes Go.WideShapes Go.ChangeAt Go.RowKit Go.Cz Go.Cz.Fo Go.Cz.Vd
open Go.ChangeMaps (open_string shut_string)
set_option maxRecDepth 100000 in
theorem measureMatchesReference_lifted (os : Os) (started : os.Started) (H : Type) (enc : TypeId × Value -> H) :
  ReturnsInHanded {} Tryz.checked os 8 .any (fun w args => (Rows.measureMatchesReferenceSpec.pre enc Tryz.prog Tryz.f8 Rows.measureMatchesReferenceRow.domain false w args /\ laidMet Tryz.prog laid5 w) /\ sizedMet enc Tryz.prog Tryz.f8 (OpenSpec.ofChange Rows.measureMatchesReferenceSpec) false w args)
   (Rows.measureMatchesReferenceSpec.post enc Tryz.prog Tryz.f8 false true false false) := by
 refine returnsInHanded_of_change_and (C := Tryz.checked) (X := fun w _ => laidMet Tryz.prog laid5 w) (fun _ _ _ hh h => h.of_heap hh) clock_own started (by kernel_rfl) Tryz.func8
  (ChangeSpec.witness_at (enc := enc) (C := Tryz.checked) (os := os) (X := fun w _ => laidMet Tryz.prog laid5 w) false (laidWorld os) #[.agg #[.string ⟨#[]⟩, .string ⟨#[]⟩, .int .i64 0, .string ⟨#[]⟩, .int .i64 0, .string ⟨#[]⟩, .int .i64 0, .int .i64 0, .slice none 0 0, .int .i64 0, .int .i64 0, .int .i64 0], .agg #[.string ⟨#[]⟩, .string ⟨#[]⟩, .int .i64 0, .string ⟨#[]⟩, .int .i64 0, .string ⟨#[]⟩, .int .i64 0, .int .i64 0, .slice none 0 0, .int .i64 0, .int .i64 0, .int .i64 0], .agg #[.slice none 0 0], .string ⟨#[]⟩] 8 rfl (by kernel_rfl) (by kernel_rfl) (by kernel_rfl) (by kernel_rfl) (by kernel_rfl) (laidWorld_met os _)) ?_
 intro W base args ds gs before hval0 hW _ hsz0 hL _; have hsz : (DataW.weightsEach Tryz.prog (Tryz.f8.params.toList ++ Rows.measureMatchesReferenceSpec.plain.varTypes Tryz.prog) (ds ++ gs)).all (· <= reachBytes) = true := hsz0; clear hsz0; have hval : ∀ (j : Nat) t v, Tryz.f8.params[j]? = some t -> args[j]? = some v -> Value.okWide Tryz.prog W .any base t v := hval0; have hW' := hW; obtain ⟨p, q, hA0, hV, rfl, hfz, hnd⟩ := hW; have hA : DataW.TrodAll enc Tryz.prog W 0 (fun _ => true) true Tryz.f8.params.toList args.toList ds p := hA0; rw [Tryz.params8] at hA hval hsz; obtain ⟨v0, vs0, d0, ds0, p0, q0, hargs, rfl, rfl, h0, r0⟩ := trodAll_cons hA; obtain ⟨v1, vs1, d1, ds1, p1, q1, rfl, rfl, rfl, h1, r1⟩ := trodAll_cons r0; obtain ⟨v2, vs2, d2, ds2, p2, q2, rfl, rfl, rfl, h2, r2⟩ := trodAll_cons r1; obtain ⟨v3, vs3, d3, ds3, p3, q3, rfl, rfl, rfl, h3, r3⟩ := trodAll_cons r2; obtain ⟨rfl, rfl, rfl⟩ := trodAll_nil r3; obtain rfl : args = #[v0, v1, v2, v3] := by cases args; simp_all
 obtain ⟨rfl, rfl⟩ := trodVars_none hV; have k0 := h0; have lt0 : ∀ x ∈ p0, x.block < W.heap.size := by obtain ⟨m, hm⟩ := k0; exact DataW.trod_lt m _ _ _ hm
 have k1 := h1; have lt1 : ∀ x ∈ p1, x.block < W.heap.size := by obtain ⟨m, hm⟩ := k1; exact DataW.trod_lt m _ _ _ hm
 have k2 := h2; have lt2 : ∀ x ∈ p2, x.block < W.heap.size := by obtain ⟨m, hm⟩ := k2; exact DataW.trod_lt m _ _ _ hm
 have k3 := h3; have lt3 : ∀ x ∈ p3, x.block < W.heap.size := by obtain ⟨m, hm⟩ := k3; exact DataW.trod_lt m _ _ _ hm
 obtain ⟨xs0, rfl, hsz0⟩ := okWide_struct Tryz.underlying26 (hval 0 26 v0 rfl rfl); obtain ⟨f0, kv0, rfl, u0⟩ : ∃ m kv, xs0 = (mclM m kv).toArray /\ MIn W m kv := by
  obtain ⟨fuel, hf⟩ := h0; obtain ⟨m, kv, hcs, h1⟩ := in_me hf (sized_each hsz (j := 0) (t := 26) rfl rfl); exact ⟨m, kv, Array.toList_inj.1 hcs, h1⟩
 obtain ⟨xs1, rfl, hsz1⟩ := okWide_struct Tryz.underlying26 (hval 1 26 v1 rfl rfl); obtain ⟨f1, kv1, rfl, u1⟩ : ∃ m kv, xs1 = (mclM m kv).toArray /\ MIn W m kv := by
  obtain ⟨fuel, hf⟩ := h1; obtain ⟨m, kv, hcs, h1⟩ := in_me hf (sized_each hsz (j := 1) (t := 26) rfl rfl); exact ⟨m, kv, Array.toList_inj.1 hcs, h1⟩
 obtain ⟨xs2, rfl, hsz2⟩ := okWide_struct Tryz.underlying45 (hval 2 45 v2 rfl rfl); obtain ⟨f2, kv2, rfl, u2⟩ : ∃ d v, xs2 = #[v] /\ DIn W d v := by
  obtain ⟨fuel, hf⟩ := h2; obtain ⟨d, v, hcs, h1⟩ := in_dom hf (sized_each hsz (j := 2) (t := 45) rfl rfl); exact ⟨d, v, Array.toList_inj.1 hcs, h1⟩
 obtain ⟨s3, rfl, rfl, rfl, hstr3⟩ := open_string Tryz.underlying9 (hval 3 9 v3 rfl rfl) h3; have hlim3 : s3.data.toList.length <= 140737488355328 := by
  have h1 := sized_string hsz (j := 3) (t := 9) rfl rfl; have h2 := reachBytes_lt; have e1 : s3.size = s3.data.size := rfl; have e2 : s3.data.toList.length = s3.data.size := Array.length_toList; have e3 : (2 : Nat) ^ 47 = 140737488355328 := by decide
  omega
 clear hA0 hval0; refine (MeasureMatchesReference_walk W (std_of hL) f0 kv0 u0 f1 kv1 u1 f2 kv2 u2 s3.data.toList hlim3).mono fun e W' ⟨he, bel⟩ => ?_; subst he; exact ⟨_, rfl, _, _, _, [], _, [], hW', trodAll_mk1 (shut_bool Tryz.underlying4 _), (trodAll_cons_mk (Below.trod clock_laidOut (by kernel_rfl) (of_decide_eq_true (by kernel_rfl)) k0 bel lt0) (trodAll_cons_mk (Below.trod clock_laidOut (by kernel_rfl) (of_decide_eq_true (by kernel_rfl)) k1 bel lt1) (trodAll_cons_mk (Below.trod clock_laidOut (by kernel_rfl) (of_decide_eq_true (by kernel_rfl)) k2 bel lt2) (trodAll_cons_mk (Below.trod clock_laidOut (by kernel_rfl) (of_decide_eq_true (by kernel_rfl)) k3 bel lt3) trodAll_mk0)))), rfl, bel.frame _, fun h => by cases h⟩
theorem MeasureMatchesReference_proved : Rows.MeasureMatchesReferenceSaid :=
 OpenClaim.holds_of_wide 8 Tryz.f8 rfl rfl rfl rfl rfl rfl rfl ⟨rfl, rfl, rfl, rfl, rfl⟩ rfl rfl rfl rfl rfl (by kernel_rfl) Tryz.func8 (by kernel_rfl)
  (of_decide_eq_true (by kernel_rfl)) (by unfold Func.isWrapper; first | (rw [if_pos (by decide +kernel)]; kernel_rfl) | (rw [if_neg (by decide +kernel)]; exact ⟨rfl, rfl⟩))
  (fun os started H enc _ => measureMatchesReference_lifted os started H enc)
theorem MeasureMatchesReference_card : Rows.MeasureMatchesReferenceCardSaid :=
 Claim7.holds_tied_plain_at .later [] [.data, .data, .data, .sentinel, .sentinel] true (true, "c1a74f8c053b38fe410982b812a479b7244cae795c509a8673bef9467bd38a66") true
  MeasureMatchesReference_proved (fun _ h => by cases h) (by kernel_rfl) (fun _ h => by cases h) measureMatchesReference_row_tie rfl ⟨rfl, rfl⟩ (by kernel_rfl) rfl
  (fun f fn hf hfn => by
   obtain rfl : f = 8 := Option.some.inj ((show Tryz.prog.funcNamed "customhouse/customhouselaw30.MeasureMatchesReference" = some 8 by kernel_rfl).symm.trans hf) |>.symm; obtain rfl : fn = Tryz.f8 := (Option.some.inj (Tryz.func8.symm.trans hfn)).symm; exact ⟨by kernel_rfl, fun j t ht => by
    rw [Tryz.params8] at ht; rcases j with _ | _ | _ | _ | j
    ·obtain rfl : t = 26 := by simpa using ht.symm
     exact (show Tryz.prog.wantsStandIn 26 = false by kernel_rfl)
    ·obtain rfl : t = 26 := by simpa using ht.symm
     exact (show Tryz.prog.wantsStandIn 26 = false by kernel_rfl)
    ·obtain rfl : t = 45 := by simpa using ht.symm
     exact (show Tryz.prog.wantsStandIn 45 = false by kernel_rfl)
    ·obtain rfl : t = 9 := by simpa using ht.symm
     exact (show Tryz.prog.wantsStandIn 9 = false by kernel_rfl)
    ·simp at ht⟩)
  (by kernel_rfl)
#print axioms MeasureMatchesReference_card
end Go.Proofs.YtoeknmkephnekaaGreatDoor
