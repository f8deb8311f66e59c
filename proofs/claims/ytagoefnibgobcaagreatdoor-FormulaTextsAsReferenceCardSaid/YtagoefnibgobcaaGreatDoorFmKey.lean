/-
  The laws' 'short'; key words; names; well-formed nodes.
-/
import Derived.Test.YtagoefnibgobcaaGreatDoorFmRec
namespace Go.Proofs.YtagoefnibgobcaaGreatDoor
open Go.RowKit Go.Cz Go.Cz.Lx Go.Cz.Fo
set_option linter.unusedSimpArgs false
set_option linter.unusedVariables false
attribute [local go_sem] bs_size bs_extract bs_append bs_toList
attribute [local irreducible] cList cPlan
section
variable {p : Nat → Prop}
set_option maxHeartbeats 2000000 in
theorem short_c (f : Fm) : ∀ (w : World) (kv : Value), IsFm p w f kv → sizes f.kids ≤ 900000 →
    Calls Tryz.prog 15 #[fval f kv] w (fun e w' => e = .returned (.bool (short 60 f)) ∧ Below w.heap.size w w') := by
  refine Fm.induct (P := fun f => ∀ (w : World) (kv : Value), IsFm p w f kv → sizes f.kids ≤ 900000 →
    Calls Tryz.prog 15 #[fval f kv] w (fun e w' => e = .returned (.bool (short 60 f)) ∧ Below w.heap.size w w')) ?_ f
  clear f
  intro f ih w kv hf hs
  have HI := Lib.hid ih
  have HS := Lib.hid hs
  have hS := length_sizes f.kids
  obtain ⟨y, m, rfl⟩ := hf.form
  obtain ⟨N, hN⟩ : ∃ N, N = f.kids.length := ⟨_, rfl⟩
  have HN := Lib.hid hN
  rw [← hN] at hf ⊢
  have HF := Lib.hid hf
  clear hN hf
  obtain ⟨W1, hW1⟩ : ∃ W1, W1 = w.alloc (fobj f (.slice y N m)) := ⟨_, rfl⟩
  obtain ⟨bf, hbf⟩ : ∃ bf, bf = w.heap.size := ⟨_, rfl⟩
  have HO : Hid (Owns w W1 [blk bf (fobj f (.slice y N m))]) := by
    rw [hW1, hbf]
    exact Lib.hid ((Owns.start w).box _)
  have hN9 : N ≤ 900000 := by have := HN.out; omega
  clear hS hs ih
  go_enter Tryz.func15, Tryz.ntmps15
  go_wp2_with fail
  rw [← hW1, ← hbf]
  clear hW1 hbf
  have H0 : Hid (shorts 60 (f.kids.take 0) = true) := by show _ = _; simp [shorts]
  go_loopg [3] N (fun gk i wr => ∃ k : Nat, gk = N - k ∧ k ≤ N ∧ i = .int .i64 (k : Int) ∧ Hid (shorts 60 (f.kids.take k) = true) ∧ Hid (Owns w wr [blk bf (fobj f (.slice y N m))]))
  case atStart => exact ⟨0, rfl, Nat.zero_le _, rfl, H0, HO⟩
  case round =>
    rename_i J1 K1 hJ1 hK1
    clear HO H0
    obtain ⟨k, rfl, hk, rfl, HC, HO⟩ := hrel
    obtain ⟨bk, -⟩ := HO.out.blk
    have hbf := lt_of_block bk
    have cb4 := cell_of_heap bk (i := 4)
    simp only [List.getElem?_toArray, List.getElem?_cons_succ, List.getElem?_cons_zero] at cb4
    by_cases hlt : k < N
    · obtain ⟨q, hq⟩ : ∃ q, f.kids[k]? = some q := ⟨_, List.getElem?_eq_getElem (by rw [← HN.out]; exact hlt)⟩
      obtain ⟨g, off, kv, rfl, hg, hkv, c0, c1, c2, c3, c4⟩ := HF.out.old HO.out.base hq
      obtain ⟨y2, m2, rfl⟩ := hkv.form
      have HQ := Lib.hid hq
      have HK := Lib.hid hkv
      clear hq hkv
      obtain ⟨N2, hN2⟩ : ∃ N2, N2 = q.kids.length := ⟨_, rfl⟩
      rw [← hN2] at c4 HK
      clear hN2
      have HLt := Lib.hid hlt
      go_wp2_with fail
      refine (HI.out q (List.mem_of_getElem? HQ.out) wr _ (HK.out.later HO.out.base) (by have := HS.out; have := size_mem (List.mem_of_getElem? HQ.out); rw [size_kids] at this; omega)).mono ?_
      rintro e W2 ⟨rfl, hb⟩
      have HO2 := Lib.hid (HO.out.below hb)
      obtain ⟨x, hx⟩ : ∃ x, x = short 60 q := ⟨_, rfl⟩
      rw [← hx]
      have HX := Lib.hid hx
      clear hx hb HO c0 c1 c2 c3 c4 bk cb4 hbf
      cases x
      · have HE : Hid (short 60 f = false) := by
          show _ = _
          rw [short_kids, shorts_false (List.mem_of_getElem? HQ.out) HX.out.symm]
          rfl
        clear hJ1 hK1
        go_wp2_with fail
        go_ret
        exact ⟨by rw [HE.out]; rfl, HO2.out.base⟩
      · have HC2 : Hid (shorts 60 (f.kids.take (k + 1)) = true) := by
          show _ = _
          rw [shorts_take HQ.out, HC.out, ← HX.out]; rfl
        go_wp2_with fail
        go_roundg (N - (k + 1))
        case measure => omega
        case rel => exact ⟨k + 1, rfl, by omega, by go_num, HC2, HO2⟩
    · obtain rfl : k = N := by omega
      have HE : Hid (short 60 f = decide (f.name.length ≤ 60)) := by
        have h1 := HC.out
        rw [HN.out, List.take_length] at h1
        show _ = _
        rw [short_kids, h1]; rfl
      clear hJ1 hK1 hlt
      have cb1 := cell_of_heap bk (i := 1)
      simp only [List.getElem?_toArray, List.getElem?_cons_succ, List.getElem?_cons_zero] at cb1
      go_wp2_with fail
      go_ret
      exact ⟨congrArg (fun b => Ending.returned (Value.bool b)) (show decide ((f.name.length : Int) ≤ 60) = short 60 f by rw [HE.out]; exact decide_eq_decide.2 (by omega)), HO.out.base⟩
end
theorem keyB_has (s : Bytes) : Lib.containsS ([bs wOr, bs wAnd, bs wNot, bs wTrue, bs wFalse].take 5) (bs s) = keyB s := by
  rw [Bool.eq_iff_iff, Lib.containsS_iff]
  have e : ∀ a : Bytes, (bs s = bs a) = (s = a) := fun a => propext ⟨bs_inj, fun h => by rw [h]⟩
  simp [keyB, e]
theorem key_c (s : Bytes) (w : World) : Calls Tryz.prog 51 #[.string (bs s)] w (fun e w' => e = .returned (.bool (keyB s)) ∧ Below w.heap.size w w') := by
  go_enter Tryz.func51, Tryz.ntmps51
  go_wp2_with fail
  have hcell : ∀ j, j < [bs wOr, bs wAnd, bs wNot, bs wTrue, bs wFalse].length → (w.alloc (.cells #[.string ⟨#[111, 114]⟩, .string ⟨#[97, 110, 100]⟩, .string ⟨#[110, 111, 116]⟩, .string ⟨#[116, 114, 117, 101]⟩, .string ⟨#[102, 97, 108, 115, 101]⟩] 9)).cell? ⟨w.heap.size, 0 + j, none⟩ = some (.string ([bs wOr, bs wAnd, bs wNot, bs wTrue, bs wFalse].getD j ByteArray.empty)) := by
    intro j hj
    rw [cell_of_heap (new_heap w _ _ rfl)]
    rcases j with _ | _ | _ | _ | _ | j
    iterate 5 rfl
    simp at hj
    omega
  have HC := Lib.hid hcell
  clear hcell
  refine (Tryz.slices_Contains_string w.heap.size 0 5 5 [bs wOr, bs wAnd, bs wNot, bs wTrue, bs wFalse] (bs s) _ (by simp) (by omega) HC.out).mono ?_
  rintro e w2 ⟨rfl, rfl⟩
  rw [keyB_has]
  clear HC
  go_wp2_with fail
  go_ret
  exact ⟨rfl, (Below.refl _ _).alloc (Nat.le_refl _) _⟩
theorem rKey_c (s : Bytes) (w : World) : Calls Tryz.prog 31 #[.string (bs s)] w (fun e w' => e = .returned (.bool (keyB s)) ∧ w' = w) := by
  go_enter Tryz.func31, Tryz.ntmps31
  go_wp2_with fail
  all_goals go_ret
  all_goals refine ⟨?_, rfl⟩
  all_goals simp_all [keyB, wOr, wAnd, wNot, wTrue, wFalse, Bool.or_assoc]
end Go.Proofs.YtagoefnibgobcaaGreatDoor
