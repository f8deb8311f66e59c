/-
  'MeasureGaps' returns true.
-/
import Derived.Test.YtoeknmkephnekaaGreatDoorMsH
import Derived.Test.YtoeknmkephnekaaGreatDoorMsO
import Derived.Deep.DeepCutAuto
namespace Go.Proofs.YtoeknmkephnekaaGreatDoor
open Go.RowKit Go.Cz Go.Cz.Lx Go.Cz.Fo Go.Cz.Vd
set_option linter.unusedSimpArgs false
set_option linter.unusedVariables false
attribute [local go_sem] bs_size bs_extract bs_append bs_toList
attribute [local irreducible] cList cPlan
theorem few_parse (l : Bytes) : FewM (parseM l).1 := by
  obtain ⟨h1, h2⟩ := parses_law l
  by_cases h : (parseM l).2.1 = 0
  · exact few_wr (text_of (h2 h).2.1).1
  · rw [(h1 h).1]
    exact ⟨⟨by decide, by decide, by decide⟩, ⟨by decide +kernel, by decide +kernel⟩, by decide +kernel, ⟨by decide, by decide, by decide, by decide⟩⟩
theorem lines_take (ts : List Tok) (k : Nat) : (linesT (ts.take k)).length ≤ (linesT ts).length := by
  have h : linesT ts = linesT (ts.take k) ++ linesT (ts.drop k) := by
    unfold linesT
    rw [← List.flatMap_append, List.take_append_drop]
  rw [h, List.length_append]
  omega
set_option maxRecDepth 100000 in
set_option maxHeartbeats 8000000 in
theorem MeasureGaps_walk (w : World) (hs : Std w) (l : Bytes) (hl : l.length ≤ 140737488355328) :
    Calls Tryz.prog 5 #[.string (bs l)] w fun e w' => e = .returned (.bool true) ∧ Below w.heap.size w w' := by
  have HS := Lib.hid hs
  clear hs
  have HO : Hid (Owns w w []) := Lib.hid (Owns.start w)
  go_enter Tryz.func5, Tryz.ntmps5
  go_wp2_with fail
  go_at_call 9
  refine (head_c w HS.out).mono ?_
  rintro e W1 ⟨rfl, hb⟩
  replace HO := Lib.hid (HO.out.below hb)
  clear hb
  by_cases h0 : l.length ≤ 1000
  rotate_left
  · have h0' : (1000 : Int) < (l.length : Int) := by omega
    clear h0
    go_wp2_with fail
    go_ret
    exact ⟨rfl, HO.out.base⟩
  have h0' : ¬ (1000 : Int) < (l.length : Int) := by omega
  go_wp2_with fail
  go_at_call 14
  refine (LexN_c l (fun _ => idxAny) W1 hl).mono ?_
  rintro e W2 ⟨v, rfl, ⟨htk, -⟩, hb⟩
  replace HO := Lib.hid (HO.out.below hb)
  have htl := TokL.of htk
  obtain ⟨ts, hts⟩ : ∃ ts, ts = (lexAll l).1 := ⟨_, rfl⟩
  obtain ⟨ec, hec⟩ : ∃ ec, ec = (lexAll l).2.1 := ⟨_, rfl⟩
  obtain ⟨pc, hpc⟩ : ∃ pc, pc = (lexAll l).2.2 := ⟨_, rfl⟩
  rw [← hts] at htl
  rw [← hec, ← hpc]
  clear htk hb hpc
  by_cases hE : ec = 0
  rotate_left
  · have hE' : ((ec : Int) != 0) = true := by simpa using hE
    clear hE hts hec
    go_wp2_with fail
    go_ret
    exact ⟨rfl, HO.out.base⟩
  subst hE
  have HLn : Hid ((linesT ts).length ≤ 2000) := by
    rw [hts]
    have := (LexP.lines (lexAll_p hec.symm).1).2
    exact Lib.hid (by omega)
  have HG : Hid ((parseM l).2.1 = (parseM (linesT ts)).2.1 ∧ (parseM l).1 = (parseM (linesT ts)).1) := by
    rw [hts]
    exact Lib.hid (gap_law hec.symm h0)
  have hN9 : ts.length ≤ 5000 := by rw [hts]; exact (lexAll_p hec.symm).2.2
  clear hts hec
  obtain ⟨y, mc, hv, htt⟩ := id htl
  obtain ⟨N, hN⟩ : ∃ N, N = ts.length := ⟨_, rfl⟩
  rw [← hN] at hv hN9
  subst hv
  have HT := Lib.hid htl
  have HN := Lib.hid hN
  clear htl hN htt
  go_wp2_with fail
  have H0 : Hid (([] : Bytes) = linesT (ts.take 0)) := Lib.hid rfl
  go_loopg [7, 8] N (fun gk s i wr => ∃ (k : Nat) (u : Bytes), gk = N - k ∧ k ≤ N ∧ i = .int .i64 (k : Int) ∧ s = .string (bs u) ∧ wr = W2 ∧ u.length ≤ 2000 ∧ Hid (u = linesT (ts.take k)))
  case atStart => exact ⟨0, [], rfl, Nat.zero_le _, rfl, rfl, rfl, by simp, H0⟩
  case round =>
    rename_i J1 K1 hJ1 hK1
    clear H0
    obtain ⟨k, u, rfl, hk, rfl, rfl, rfl, hul, HU⟩ := hrel
    by_cases hlt : k < N
    · obtain ⟨t, ht⟩ : ∃ t, ts[k]? = some t := ⟨_, List.getElem?_eq_getElem (by rw [← HN.out]; exact hlt)⟩
      have HNx : Hid (linesT (ts.take (k + 1)) = u ++ (srcT t ++ [10])) := by
        show _ = _
        rw [List.take_add_one, ht, HU.out]
        simp [linesT]
      have hnl : (u ++ (srcT t ++ [10])).length ≤ 2000 := by
        rw [← HNx.out]
        exact Nat.le_trans (lines_take ts (k + 1)) HLn.out
      have htx : t.text.length ≤ 2000 := by
        rw [List.length_append, List.length_append] at hnl
        have : t.text.length ≤ (srcT t).length := by unfold srcT; split <;> simp <;> omega
        omega
      obtain ⟨g, off, rfl, hNm, hg, c0, c1, c2, c3⟩ := HT.out.get (Below.refl _ _) ht
      clear ht
      by_cases hk3 : t.kind = 3
      · have hk3' : ((t.kind : Int) == 3) = true := by simp; omega
        have HS3 : Hid (srcT t = 34 :: (t.text ++ [34])) := by show _ = _; unfold srcT; rw [if_pos hk3]
        have hl3 : u.length + (t.text.length + 3) ≤ 2000 := by
          rw [HS3.out] at hnl
          simp only [List.length_append, List.length_cons, List.length_nil] at hnl
          omega
        clear hk3 hnl
        go_wp2_with fail
        clear c0 c1 c2 c3 hg
        go_roundg (N - (k + 1))
        case measure => omega
        case rel =>
          refine ⟨k + 1, ((u ++ [34]) ++ t.text) ++ [34, 10], rfl, by omega, by go_num, by simp only [← bs_append]; rfl, rfl, ?_, ?_⟩
          · simp only [List.length_append, List.length_cons, List.length_nil]; omega
          · show _ = _
            rw [HNx.out, HS3.out]
            simp
      · have hk3' : ((t.kind : Int) == 3) = false := by simp; omega
        have HS3 : Hid (srcT t = t.text) := by show _ = _; unfold srcT; rw [if_neg hk3]
        have hl3 : u.length + (t.text.length + 1) ≤ 2000 := by
          rw [HS3.out] at hnl
          simp only [List.length_append, List.length_cons, List.length_nil] at hnl
          omega
        clear hk3 hnl
        go_wp2_with fail
        clear c0 c1 c2 c3 hg
        go_roundg (N - (k + 1))
        case measure => omega
        case rel =>
          refine ⟨k + 1, (u ++ t.text) ++ [10], rfl, by omega, by go_num, by simp only [← bs_append]; rfl, rfl, ?_, ?_⟩
          · simp only [List.length_append, List.length_cons, List.length_nil]; omega
          · show _ = _
            rw [HNx.out, HS3.out]
            simp
    · obtain rfl : k = N := by omega
      have HU2 : Hid (u = linesT ts) := by
        show _ = _
        rw [HU.out, HN.out, List.take_length]
      rw [← HU2.out] at HG
      clear hJ1 hK1 hlt HU HU2
      go_wp2_with fail
      go_at_call 12
      refine (mParse_c l wr (by omega)).mono ?_
      rintro e W3 ⟨kv, rfl, hf, hb⟩
      obtain ⟨M, hM⟩ : ∃ M, M = (parseM l).1 := ⟨_, rfl⟩
      obtain ⟨E, hE⟩ : ∃ E, E = (parseM l).2.1 := ⟨_, rfl⟩
      obtain ⟨P, hP⟩ : ∃ P, P = (parseM l).2.2 := ⟨_, rfl⟩
      have HFw : Hid (FewM M) := by rw [hM]; exact Lib.hid (few_parse l)
      rw [← hM] at hf HG
      rw [← hE] at HG
      rw [← hM, ← hE, ← hP]
      clear hM hE hP
      obtain ⟨yk, mk, rfl⟩ := hf.form
      obtain ⟨nk, hnk⟩ : ∃ k, k = M.cond.kids.length := ⟨_, rfl⟩
      rw [← hnk] at hf ⊢
      have h2 := (HO.out.below hb).box (mobj M (.slice yk nk mk))
      have HF : Hid (IsFm (fun _ => True) (W3.alloc (mobj M (.slice yk nk mk))) M.cond (.slice yk nk mk)) := Lib.hid ((hf.mono fun _ _ _ => trivial).later ((Below.refl _ _).alloc (Nat.le_refl _) _))
      clear hb hf hnk
      obtain ⟨bx, hbx⟩ : ∃ b, b = W3.heap.size := ⟨_, rfl⟩
      obtain ⟨W4, hW⟩ : ∃ W, W = W3.alloc (mobj M (.slice yk nk mk)) := ⟨_, rfl⟩
      rw [← hW] at HF
      rw [← hW, ← hbx] at h2
      dsimp only [mobj] at hW
      replace HO := Lib.hid h2
      clear h2
      go_upto_region 15 with fail
      rw [← hbx, ← hW]
      clear hbx hW
      go_wp2_with fail
      go_at_call 12
      refine (mParse_c u W4 (by omega)).mono ?_
      rintro e W5 ⟨kv, rfl, hf, hb⟩
      rw [← HG.out.2] at hf ⊢
      rw [← HG.out.1]
      obtain ⟨P2, hP2⟩ : ∃ P, P = (parseM u).2.2 := ⟨_, rfl⟩
      rw [← hP2]
      clear hP2 HG
      obtain ⟨yq, mq, rfl⟩ := hf.form
      obtain ⟨nq, hnq⟩ : ∃ k, k = M.cond.kids.length := ⟨_, rfl⟩
      rw [← hnq] at hf ⊢
      have h2 := (HO.out.below hb).box (mobj M (.slice yq nq mq))
      have HF2 : Hid (IsFm (fun _ => True) (W5.alloc (mobj M (.slice yq nq mq))) M.cond (.slice yq nq mq)) := Lib.hid ((hf.mono fun _ _ _ => trivial).later ((Below.refl _ _).alloc (Nat.le_refl _) _))
      replace HF := Lib.hid ((HF.out.later hb).later ((Below.refl _ _).alloc (Nat.le_refl _) (mobj M (.slice yq nq mq))))
      clear hb hf hnq
      obtain ⟨by0, hby⟩ : ∃ b, b = W5.heap.size := ⟨_, rfl⟩
      obtain ⟨W6, hW⟩ : ∃ W, W = W5.alloc (mobj M (.slice yq nq mq)) := ⟨_, rfl⟩
      rw [← hW] at HF HF2
      rw [← hW, ← hby] at h2
      dsimp only [mobj] at hW
      replace HO := Lib.hid h2
      clear h2
      go_upto_region 16 with fail
      rw [← hby, ← hW]
      clear hby hW
      (try clear hcx c0 c1 c2 c3 c4 c5 c6 c7 c8 c9 ct cu)
      obtain ⟨bk, -⟩ := Owns.blk (HO.out.pop)
      have hcx := lt_of_block bk
      have c0 : W6.cell? ⟨bx, 0, none⟩ = some (.string (bs M.id)) := by rw [cell_of_heap bk]; rfl
      have c1 : W6.cell? ⟨bx, 1, none⟩ = some (.string (bs M.auth)) := by rw [cell_of_heap bk]; rfl
      have c2 : W6.cell? ⟨bx, 2, none⟩ = some (.int .i64 M.kind) := by rw [cell_of_heap bk]; rfl
      have c3 : W6.cell? ⟨bx, 3, none⟩ = some (.string (bs M.target)) := by rw [cell_of_heap bk]; rfl
      have c4 : W6.cell? ⟨bx, 4, none⟩ = some (.int .i64 M.cond.op) := by rw [cell_of_heap bk]; rfl
      have c5 : W6.cell? ⟨bx, 5, none⟩ = some (.string (bs M.cond.name)) := by rw [cell_of_heap bk]; rfl
      have c6 : W6.cell? ⟨bx, 6, none⟩ = some (.int .i64 M.cond.cmp) := by rw [cell_of_heap bk]; rfl
      have c7 : W6.cell? ⟨bx, 7, none⟩ = some (.int .i64 M.cond.num) := by rw [cell_of_heap bk]; rfl
      have c8 : W6.cell? ⟨bx, 8, none⟩ = some (.slice yk nk mk) := by rw [cell_of_heap bk]; rfl
      have c9 : W6.cell? ⟨bx, 9, none⟩ = some (.int .i64 M.fr) := by rw [cell_of_heap bk]; rfl
      have ct : W6.cell? ⟨bx, 10, none⟩ = some (.int .i64 M.un) := by rw [cell_of_heap bk]; rfl
      have cu : W6.cell? ⟨bx, 11, none⟩ = some (.int .i64 M.wi) := by rw [cell_of_heap bk]; rfl
      clear bk
      (try clear hdx d0 d1 d2 d3 d4 d5 d6 d7 d8 d9 dt du)
      obtain ⟨bk, -⟩ := Owns.blk (HO.out)
      have hdx := lt_of_block bk
      have d0 : W6.cell? ⟨by0, 0, none⟩ = some (.string (bs M.id)) := by rw [cell_of_heap bk]; rfl
      have d1 : W6.cell? ⟨by0, 1, none⟩ = some (.string (bs M.auth)) := by rw [cell_of_heap bk]; rfl
      have d2 : W6.cell? ⟨by0, 2, none⟩ = some (.int .i64 M.kind) := by rw [cell_of_heap bk]; rfl
      have d3 : W6.cell? ⟨by0, 3, none⟩ = some (.string (bs M.target)) := by rw [cell_of_heap bk]; rfl
      have d4 : W6.cell? ⟨by0, 4, none⟩ = some (.int .i64 M.cond.op) := by rw [cell_of_heap bk]; rfl
      have d5 : W6.cell? ⟨by0, 5, none⟩ = some (.string (bs M.cond.name)) := by rw [cell_of_heap bk]; rfl
      have d6 : W6.cell? ⟨by0, 6, none⟩ = some (.int .i64 M.cond.cmp) := by rw [cell_of_heap bk]; rfl
      have d7 : W6.cell? ⟨by0, 7, none⟩ = some (.int .i64 M.cond.num) := by rw [cell_of_heap bk]; rfl
      have d8 : W6.cell? ⟨by0, 8, none⟩ = some (.slice yq nq mq) := by rw [cell_of_heap bk]; rfl
      have d9 : W6.cell? ⟨by0, 9, none⟩ = some (.int .i64 M.fr) := by rw [cell_of_heap bk]; rfl
      have dt : W6.cell? ⟨by0, 10, none⟩ = some (.int .i64 M.un) := by rw [cell_of_heap bk]; rfl
      have du : W6.cell? ⟨by0, 11, none⟩ = some (.int .i64 M.wi) := by rw [cell_of_heap bk]; rfl
      clear bk
      go_wp2_with fail
      clear hcx c0 c1 c2 c3 c4 c5 c6 c7 c8 c9 ct cu
      clear hdx d0 d1 d2 d3 d4 d5 d6 d7 d8 d9 dt du
      go_at_call 13
      refine (mSame_c M M _ _ W6 (HS.out.below HO.out.base) HF.out HF2.out HFw.out.ints HFw.out.ints HFw.out.size HFw.out.size).mono ?_
      rintro e W7 ⟨rfl, hb⟩
      replace HO := Lib.hid (HO.out.below hb)
      clear hb
      rw [sameM_iff.2 rfl]
      go_wp2_with fail
      go_ret
      exact ⟨rfl, HO.out.base⟩
end Go.Proofs.YtoeknmkephnekaaGreatDoor
