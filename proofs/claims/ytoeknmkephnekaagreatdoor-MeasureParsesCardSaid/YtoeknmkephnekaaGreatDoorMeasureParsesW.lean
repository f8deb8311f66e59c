/-
  'MeasureParses' returns true.
-/
import Derived.Test.YtoeknmkephnekaaGreatDoorMsH
import Derived.Test.YtoeknmkephnekaaGreatDoorMsO
import Derived.Deep.DeepCutAuto
namespace Go.Proofs.YtoeknmkephnekaaGreatDoor
open Go.RowKit Go.Cz Go.Cz.Lx Go.Cz.Fo Go.Cz.Vd
set_option linter.unusedSimpArgs false
set_option linter.unusedVariables false
attribute [local go_sem] bs_size bs_extract bs_append bs_toList
attribute [local irreducible] cList cPlan
set_option maxRecDepth 100000 in
set_option maxHeartbeats 8000000 in
theorem MeasureParses_walk (w : World) (hs : Std w) (l : Bytes) (hl : l.length ≤ 140737488355328) :
    Calls Tryz.prog 4 #[.string (bs l)] w fun e w' => e = .returned (.bool true) ∧ Below w.heap.size w w' := by
  have HS := Lib.hid hs
  clear hs
  have HO : Hid (Owns w w []) := Lib.hid (Owns.start w)
  go_enter Tryz.func4, Tryz.ntmps4
  go_wp2_with fail
  go_at_call 9
  refine (head_c w HS.out).mono ?_
  rintro e W1 ⟨rfl, hb⟩
  replace HO := Lib.hid (HO.out.below hb)
  clear hb
  by_cases h0 : l.length ≤ 1500
  rotate_left
  · have h0' : (1500 : Int) < (l.length : Int) := by omega
    clear h0
    go_wp2_with fail
    go_ret
    exact ⟨rfl, HO.out.base⟩
  have h0' : ¬ (1500 : Int) < (l.length : Int) := by omega
  have HL := Lib.hid (parses_law l)
  obtain ⟨M, E, P, hMEP⟩ : ∃ M E P, parseM l = (M, E, P) := ⟨_, _, _, rfl⟩
  rw [hMEP] at HL
  replace hMEP := Lib.hid hMEP
  go_wp2_with fail
  go_at_call 12
  refine (mParse_c l W1 (by omega)).mono ?_
  rintro e W2 ⟨kv, he, hf, hb⟩
  rw [hMEP.out] at he hf
  simp only at he hf HL
  subst he
  obtain ⟨yk, mk, rfl⟩ := hf.form
  obtain ⟨nk, hnk⟩ : ∃ k, k = M.cond.kids.length := ⟨_, rfl⟩
  rw [← hnk] at hf ⊢
  have h2 := (HO.out.below hb).box (mobj M (.slice yk nk mk))
  have HF : Hid (IsFm (fun _ => True) (W2.alloc (mobj M (.slice yk nk mk))) M.cond (.slice yk nk mk)) := Lib.hid ((hf.mono fun _ _ _ => trivial).later ((Below.refl _ _).alloc (Nat.le_refl _) _))
  clear hb hf hnk hMEP
  obtain ⟨bx, hbx⟩ : ∃ b, b = W2.heap.size := ⟨_, rfl⟩
  obtain ⟨W3, hW⟩ : ∃ W, W = W2.alloc (mobj M (.slice yk nk mk)) := ⟨_, rfl⟩
  rw [← hW] at HF
  rw [← hW, ← hbx] at h2
  dsimp only [mobj] at hW
  replace HO := Lib.hid h2
  clear h2
  go_upto_region 5 with fail
  rw [← hbx, ← hW]
  clear hbx hW
  by_cases hE : E = 0
  rotate_left
  · have hE' : ((E : Int) != 0) = true := by simpa using hE
    obtain ⟨hM, hP1, hP2⟩ := HL.out.1 hE
    subst hM
    clear hE HL
    (try clear hcx c0 c1 c2 c3 c4 c5 c6 c7 c8 c9 ct cu)
    obtain ⟨bk, -⟩ := Owns.blk (HO.out)
    have hcx := lt_of_block bk
    have c0 : W3.cell? ⟨bx, 0, none⟩ = some (.string (bs zeroM.id)) := by rw [cell_of_heap bk]; rfl
    have c1 : W3.cell? ⟨bx, 1, none⟩ = some (.string (bs zeroM.auth)) := by rw [cell_of_heap bk]; rfl
    have c2 : W3.cell? ⟨bx, 2, none⟩ = some (.int .i64 zeroM.kind) := by rw [cell_of_heap bk]; rfl
    have c3 : W3.cell? ⟨bx, 3, none⟩ = some (.string (bs zeroM.target)) := by rw [cell_of_heap bk]; rfl
    have c4 : W3.cell? ⟨bx, 4, none⟩ = some (.int .i64 zeroM.cond.op) := by rw [cell_of_heap bk]; rfl
    have c5 : W3.cell? ⟨bx, 5, none⟩ = some (.string (bs zeroM.cond.name)) := by rw [cell_of_heap bk]; rfl
    have c6 : W3.cell? ⟨bx, 6, none⟩ = some (.int .i64 zeroM.cond.cmp) := by rw [cell_of_heap bk]; rfl
    have c7 : W3.cell? ⟨bx, 7, none⟩ = some (.int .i64 zeroM.cond.num) := by rw [cell_of_heap bk]; rfl
    have c8 : W3.cell? ⟨bx, 8, none⟩ = some (.slice yk nk mk) := by rw [cell_of_heap bk]; rfl
    have c9 : W3.cell? ⟨bx, 9, none⟩ = some (.int .i64 zeroM.fr) := by rw [cell_of_heap bk]; rfl
    have ct : W3.cell? ⟨bx, 10, none⟩ = some (.int .i64 zeroM.un) := by rw [cell_of_heap bk]; rfl
    have cu : W3.cell? ⟨bx, 11, none⟩ = some (.int .i64 zeroM.wi) := by rw [cell_of_heap bk]; rfl
    clear bk
    go_wp2_with fail
    clear hcx c0 c1 c2 c3 c4 c5 c6 c7 c8 c9 ct cu
    go_at_call 13
    have hi : MeInt zeroM := ⟨by decide, by decide, by decide, by decide⟩
    refine (mSame_c zeroM zeroM _ (.slice none 0 0) W3 (HS.out.below HO.out.base) HF.out (.leaf 0 [] 0 0 none 0) hi hi (by decide +kernel) (by decide +kernel)).mono ?_
    rintro e W4 ⟨rfl, hb⟩
    replace HO := Lib.hid (HO.out.below hb)
    clear hb
    rw [sameM_iff.2 rfl]
    go_wp2_with fail
    go_ret
    exact ⟨rfl, HO.out.base⟩
  subst hE
  obtain ⟨hP, hT, hB⟩ := HL.out.2 rfl
  subst hP
  have HW : Hid (wrM M = true) := Lib.hid (text_of hT).1
  have HB := Lib.hid hB
  have HT := Lib.hid hT
  clear HL hB hT
  (try clear hcx c0 c1 c2 c3 c4 c5 c6 c7 c8 c9 ct cu)
  obtain ⟨bk, -⟩ := Owns.blk (HO.out)
  have hcx := lt_of_block bk
  have c0 : W3.cell? ⟨bx, 0, none⟩ = some (.string (bs M.id)) := by rw [cell_of_heap bk]; rfl
  have c1 : W3.cell? ⟨bx, 1, none⟩ = some (.string (bs M.auth)) := by rw [cell_of_heap bk]; rfl
  have c2 : W3.cell? ⟨bx, 2, none⟩ = some (.int .i64 M.kind) := by rw [cell_of_heap bk]; rfl
  have c3 : W3.cell? ⟨bx, 3, none⟩ = some (.string (bs M.target)) := by rw [cell_of_heap bk]; rfl
  have c4 : W3.cell? ⟨bx, 4, none⟩ = some (.int .i64 M.cond.op) := by rw [cell_of_heap bk]; rfl
  have c5 : W3.cell? ⟨bx, 5, none⟩ = some (.string (bs M.cond.name)) := by rw [cell_of_heap bk]; rfl
  have c6 : W3.cell? ⟨bx, 6, none⟩ = some (.int .i64 M.cond.cmp) := by rw [cell_of_heap bk]; rfl
  have c7 : W3.cell? ⟨bx, 7, none⟩ = some (.int .i64 M.cond.num) := by rw [cell_of_heap bk]; rfl
  have c8 : W3.cell? ⟨bx, 8, none⟩ = some (.slice yk nk mk) := by rw [cell_of_heap bk]; rfl
  have c9 : W3.cell? ⟨bx, 9, none⟩ = some (.int .i64 M.fr) := by rw [cell_of_heap bk]; rfl
  have ct : W3.cell? ⟨bx, 10, none⟩ = some (.int .i64 M.un) := by rw [cell_of_heap bk]; rfl
  have cu : W3.cell? ⟨bx, 11, none⟩ = some (.int .i64 M.wi) := by rw [cell_of_heap bk]; rfl
  clear bk
  go_wp2_with fail
  clear hcx c0 c1 c2 c3 c4 c5 c6 c7 c8 c9 ct cu
  go_at_call 11
  refine (mText_c M _ W3 (HS.out.below HO.out.base) HF.out (few_wr HW.out).len (few_wr HW.out).cond).mono ?_
  rintro e W4 ⟨rfl, hb⟩
  replace HO := Lib.hid (HO.out.below hb)
  replace HF := Lib.hid (HF.out.later hb)
  clear hb
  rw [HT.out]
  have hl2 : (textM M).1.length ≤ 13000 := text_len
  obtain ⟨S, hS⟩ : ∃ s, s = (textM M).1 := ⟨_, rfl⟩
  rw [← hS] at HB hl2 ⊢
  clear hS
  go_wp2_with fail
  go_at_call 12
  refine (mParse_c S W4 (by omega)).mono ?_
  rintro e W5 ⟨kv, he, hf, hb⟩
  rw [HB.out] at he hf
  simp only at he hf
  subst he
  obtain ⟨yq, mq, rfl⟩ := hf.form
  obtain ⟨nq, hnq⟩ : ∃ k, k = M.cond.kids.length := ⟨_, rfl⟩
  rw [← hnq] at hf ⊢
  have h2 := (HO.out.below hb).box (mobj M (.slice yq nq mq))
  have HG : Hid (IsFm (fun _ => True) (W5.alloc (mobj M (.slice yq nq mq))) M.cond (.slice yq nq mq)) := Lib.hid ((hf.mono fun _ _ _ => trivial).later ((Below.refl _ _).alloc (Nat.le_refl _) _))
  replace HF := Lib.hid ((HF.out.later hb).later ((Below.refl _ _).alloc (Nat.le_refl _) (mobj M (.slice yq nq mq))))
  clear hb hf hnq HB HT
  obtain ⟨by0, hby⟩ : ∃ b, b = W5.heap.size := ⟨_, rfl⟩
  obtain ⟨W6, hW⟩ : ∃ W, W = W5.alloc (mobj M (.slice yq nq mq)) := ⟨_, rfl⟩
  rw [← hW] at HF HG
  rw [← hW, ← hby] at h2
  dsimp only [mobj] at hW
  replace HO := Lib.hid h2
  clear h2
  go_upto_region 9 with fail
  rw [← hby, ← hW]
  clear hby hW
  (try clear hcx c0 c1 c2 c3 c4 c5 c6 c7 c8 c9 ct cu)
  obtain ⟨bk, -⟩ := Owns.blk (HO.out.pop)
  have hcx := lt_of_block bk
  have c0 : W6.cell? ⟨bx, 0, none⟩ = some (.string (bs M.id)) := by rw [cell_of_heap bk]; rfl
  have c1 : W6.cell? ⟨bx, 1, none⟩ = some (.string (bs M.auth)) := by rw [cell_of_heap bk]; rfl
  have c2 : W6.cell? ⟨bx, 2, none⟩ = some (.int .i64 M.kind) := by rw [cell_of_heap bk]; rfl
  have c3 : W6.cell? ⟨bx, 3, none⟩ = some (.string (bs M.target)) := by rw [cell_of_heap bk]; rfl
  have c4 : W6.cell? ⟨bx, 4, none⟩ = some (.int .i64 M.cond.op) := by rw [cell_of_heap bk]; rfl
  have c5 : W6.cell? ⟨bx, 5, none⟩ = some (.string (bs M.cond.name)) := by rw [cell_of_heap bk]; rfl
  have c6 : W6.cell? ⟨bx, 6, none⟩ = some (.int .i64 M.cond.cmp) := by rw [cell_of_heap bk]; rfl
  have c7 : W6.cell? ⟨bx, 7, none⟩ = some (.int .i64 M.cond.num) := by rw [cell_of_heap bk]; rfl
  have c8 : W6.cell? ⟨bx, 8, none⟩ = some (.slice yk nk mk) := by rw [cell_of_heap bk]; rfl
  have c9 : W6.cell? ⟨bx, 9, none⟩ = some (.int .i64 M.fr) := by rw [cell_of_heap bk]; rfl
  have ct : W6.cell? ⟨bx, 10, none⟩ = some (.int .i64 M.un) := by rw [cell_of_heap bk]; rfl
  have cu : W6.cell? ⟨bx, 11, none⟩ = some (.int .i64 M.wi) := by rw [cell_of_heap bk]; rfl
  clear bk
  (try clear hdx d0 d1 d2 d3 d4 d5 d6 d7 d8 d9 dt du)
  obtain ⟨bk, -⟩ := Owns.blk (HO.out)
  have hdx := lt_of_block bk
  have d0 : W6.cell? ⟨by0, 0, none⟩ = some (.string (bs M.id)) := by rw [cell_of_heap bk]; rfl
  have d1 : W6.cell? ⟨by0, 1, none⟩ = some (.string (bs M.auth)) := by rw [cell_of_heap bk]; rfl
  have d2 : W6.cell? ⟨by0, 2, none⟩ = some (.int .i64 M.kind) := by rw [cell_of_heap bk]; rfl
  have d3 : W6.cell? ⟨by0, 3, none⟩ = some (.string (bs M.target)) := by rw [cell_of_heap bk]; rfl
  have d4 : W6.cell? ⟨by0, 4, none⟩ = some (.int .i64 M.cond.op) := by rw [cell_of_heap bk]; rfl
  have d5 : W6.cell? ⟨by0, 5, none⟩ = some (.string (bs M.cond.name)) := by rw [cell_of_heap bk]; rfl
  have d6 : W6.cell? ⟨by0, 6, none⟩ = some (.int .i64 M.cond.cmp) := by rw [cell_of_heap bk]; rfl
  have d7 : W6.cell? ⟨by0, 7, none⟩ = some (.int .i64 M.cond.num) := by rw [cell_of_heap bk]; rfl
  have d8 : W6.cell? ⟨by0, 8, none⟩ = some (.slice yq nq mq) := by rw [cell_of_heap bk]; rfl
  have d9 : W6.cell? ⟨by0, 9, none⟩ = some (.int .i64 M.fr) := by rw [cell_of_heap bk]; rfl
  have dt : W6.cell? ⟨by0, 10, none⟩ = some (.int .i64 M.un) := by rw [cell_of_heap bk]; rfl
  have du : W6.cell? ⟨by0, 11, none⟩ = some (.int .i64 M.wi) := by rw [cell_of_heap bk]; rfl
  clear bk
  go_wp2_with fail
  clear hcx c0 c1 c2 c3 c4 c5 c6 c7 c8 c9 ct cu
  clear hdx d0 d1 d2 d3 d4 d5 d6 d7 d8 d9 dt du
  go_at_call 13
  have hi := few_wr HW.out
  refine (mSame_c M M _ _ W6 (HS.out.below HO.out.base) HG.out HF.out hi.ints hi.ints hi.size hi.size).mono ?_
  clear hi
  rintro e W7 ⟨rfl, hb⟩
  replace HO := Lib.hid (HO.out.below hb)
  clear hb
  rw [sameM_iff.2 rfl]
  go_wp2_with fail
  go_ret
  exact ⟨rfl, HO.out.base⟩
end Go.Proofs.YtoeknmkephnekaaGreatDoor
