/-
  The law's 'named'.
-/
import Derived.Test.YtagoefnibgobcaaGreatDoorFmKey
import Derived.Test.YtagoefnibgobcaaGreatDoorFmLaws
namespace Go.Cz.Fo
theorem nameds_take {s : Bytes} : ∀ {ks : List Fm} {j : Nat} {k : Fm}, ks[j]? = some k → nameds s (ks.take (j + 1)) = (nameds s (ks.take j) || namedF s k)
  | [], j, k, h => by simp at h
  | a :: r, 0, k, h => by simp at h; subst h; simp [nameds]
  | a :: r, j + 1, k, h => by
    have := nameds_take (s := s) (ks := r) (j := j) (k := k) (by simpa using h)
    rw [List.take_succ_cons, List.take_succ_cons, nameds, nameds, this, Bool.or_assoc]
end Go.Cz.Fo
namespace Go.Proofs.YtagoefnibgobcaaGreatDoor
open Go.RowKit Go.Cz Go.Cz.Lx Go.Cz.Fo
set_option linter.unusedSimpArgs false
set_option linter.unusedVariables false
attribute [local go_sem] bs_size bs_extract bs_append bs_toList
attribute [local irreducible] cList cPlan
section
variable {p : Nat → Prop}
set_option maxHeartbeats 2000000 in
theorem named_c (s : Bytes) (hs : s.length ≤ 140737488355328) (f : Fm) : ∀ (w : World) (kv : Value), IsFm p w f kv → sizes f.kids ≤ 900000 →
    Calls Tryz.prog 33 #[fval f kv, .string (bs s)] w (fun e w' => e = .returned (.bool (namedF s f)) ∧ Below w.heap.size w w') := by
  refine Fm.induct (P := fun f => ∀ (w : World) (kv : Value), IsFm p w f kv → sizes f.kids ≤ 900000 →
    Calls Tryz.prog 33 #[fval f kv, .string (bs s)] w (fun e w' => e = .returned (.bool (namedF s f)) ∧ Below w.heap.size w w')) ?_ f
  clear f
  intro f ih w kv hf hs
  have HI := Lib.hid ih
  have HS := Lib.hid hs
  have hS := length_sizes f.kids
  obtain ⟨y, m, rfl⟩ := hf.form
  obtain ⟨N, hN⟩ : ∃ N, N = f.kids.length := ⟨_, rfl⟩
  have HN := Lib.hid hN
  rw [← hN] at hf ⊢
  have HF := Lib.hid hf
  clear hN hf
  obtain ⟨W1, hW1⟩ : ∃ W1, W1 = w.alloc (fobj f (.slice y N m)) := ⟨_, rfl⟩
  obtain ⟨bf, hbf⟩ : ∃ bf, bf = w.heap.size := ⟨_, rfl⟩
  have HO : Hid (Owns w W1 [blk bf (fobj f (.slice y N m))]) := by
    rw [hW1, hbf]
    exact Lib.hid ((Owns.start w).box _)
  have hN9 : N ≤ 900000 := by have := HN.out; omega
  clear hS hs ih
  go_enter Tryz.func33, Tryz.ntmps33
  by_cases h3 : f.op = 3
  · have h3' : (f.op == 3) = true := by simpa using h3
    by_cases hw : f.name = s
    · have hw' : (f.name == s) = true := by simpa using hw
      have HE : Hid (namedF s f = true) := by
        show _ = _
        rw [namedF_eq, decide_eq_true h3, decide_eq_true hw]; rfl
      clear h3 hw
      go_wp2_with fail
      rw [← hW1]
      clear hW1
      subst hbf
      obtain ⟨bk, -⟩ := HO.out.blk
      have hbf := lt_of_block bk
      have cb0 := cell_of_heap bk (i := 0)
      have cb1 := cell_of_heap bk (i := 1)
      have cb2 := cell_of_heap bk (i := 2)
      have cb3 := cell_of_heap bk (i := 3)
      have cb4 := cell_of_heap bk (i := 4)
      simp only [List.getElem?_toArray, List.getElem?_cons_succ, List.getElem?_cons_zero] at cb0 cb1 cb2 cb3 cb4
      clear bk
      go_wp2_with fail
      go_ret
      exact ⟨by rw [HE.out]; rfl, HO.out.base⟩
    · have hw' : (f.name == s) = false := by simpa using hw
      have HH : Hid ((decide (f.op = 3) && decide (f.name = s)) = false) := by
        show _ = _
        rw [decide_eq_false hw]; simp
      clear h3 hw
      go_wp2_with fail
      rw [← hW1, ← hbf]
      clear hW1 hbf
      focus
        obtain ⟨bk, -⟩ := HO.out.blk
        have hbf := lt_of_block bk
        have cb0 := cell_of_heap bk (i := 0)
        have cb1 := cell_of_heap bk (i := 1)
        have cb2 := cell_of_heap bk (i := 2)
        have cb3 := cell_of_heap bk (i := 3)
        have cb4 := cell_of_heap bk (i := 4)
        simp only [List.getElem?_toArray, List.getElem?_cons_succ, List.getElem?_cons_zero] at cb0 cb1 cb2 cb3 cb4
        clear bk
        go_wp2_with fail
        clear cb0 cb1 cb2 cb3 cb4 hbf
      have H0 : Hid (nameds s (f.kids.take 0) = false) := by show _ = _; simp [nameds]
      go_loopg [5] N (fun gk i wr => ∃ k : Nat, gk = N - k ∧ k ≤ N ∧ i = .int .i64 (k : Int) ∧ Hid (nameds s (f.kids.take k) = false) ∧ Hid (Owns w wr [blk bf (fobj f (.slice y N m))]))
      case atStart => exact ⟨0, rfl, Nat.zero_le _, rfl, H0, HO⟩
      case round =>
        rename_i J1 K1 hJ1 hK1
        clear HO H0
        obtain ⟨k, rfl, hk, rfl, HC, HO⟩ := hrel
        obtain ⟨bk, -⟩ := HO.out.blk
        have hbf := lt_of_block bk
        have cb4 := cell_of_heap bk (i := 4)
        simp only [List.getElem?_toArray, List.getElem?_cons_succ, List.getElem?_cons_zero] at cb4
        by_cases hlt : k < N
        · obtain ⟨q, hq⟩ : ∃ q, f.kids[k]? = some q := ⟨_, List.getElem?_eq_getElem (by rw [← HN.out]; exact hlt)⟩
          obtain ⟨g, off, kv, rfl, hg, hkv, c0, c1, c2, c3, c4⟩ := HF.out.old HO.out.base hq
          obtain ⟨y2, m2, rfl⟩ := hkv.form
          have HQ := Lib.hid hq
          have HK := Lib.hid hkv
          clear hq hkv
          obtain ⟨N2, hN2⟩ : ∃ N2, N2 = q.kids.length := ⟨_, rfl⟩
          rw [← hN2] at c4 HK
          clear hN2
          have HLt := Lib.hid hlt
          go_wp2_with fail
          refine (HI.out q (List.mem_of_getElem? HQ.out) wr _ (HK.out.later HO.out.base) (by have := HS.out; have := size_mem (List.mem_of_getElem? HQ.out); rw [size_kids] at this; omega)).mono ?_
          rintro e W2 ⟨rfl, hb⟩
          have HO2 := Lib.hid (HO.out.below hb)
          obtain ⟨x, hx⟩ : ∃ x, x = namedF s q := ⟨_, rfl⟩
          rw [← hx]
          have HX := Lib.hid hx
          clear hx hb HO c0 c1 c2 c3 c4 bk cb4 hbf
          cases x
          · have HC2 : Hid (nameds s (f.kids.take (k + 1)) = false) := by
              show _ = _
              rw [nameds_take HQ.out, HC.out, ← HX.out]; rfl
            go_wp2_with fail
            go_roundg (N - (k + 1))
            case measure => omega
            case rel => exact ⟨k + 1, rfl, by omega, by go_num, HC2, HO2⟩
          · have HE : Hid (namedF s f = true) := by
              show _ = _
              rw [namedF_eq, named_mem (List.mem_of_getElem? HQ.out) HX.out.symm]
              simp
            clear hJ1 hK1
            go_wp2_with fail
            go_ret
            exact ⟨by rw [HE.out]; rfl, HO2.out.base⟩
        · obtain rfl : k = N := by omega
          have HE : Hid (namedF s f = false) := by
            have h1 := HC.out
            rw [HN.out, List.take_length] at h1
            show _ = _
            rw [namedF_eq, h1, HH.out]; rfl
          clear hJ1 hK1 hlt
          go_wp2_with fail
          go_ret
          exact ⟨by rw [HE.out]; rfl, HO.out.base⟩
  · have h3' : (f.op == 3) = false := by simpa using h3
    have HH : Hid ((decide (f.op = 3) && decide (f.name = s)) = false) := by
      show _ = _
      rw [decide_eq_false h3]; rfl
    clear h3
    go_wp2_with fail
    rw [← hW1, ← hbf]
    clear hW1 hbf
    focus
      obtain ⟨bk, -⟩ := HO.out.blk
      have hbf := lt_of_block bk
      have cb0 := cell_of_heap bk (i := 0)
      have cb1 := cell_of_heap bk (i := 1)
      have cb2 := cell_of_heap bk (i := 2)
      have cb3 := cell_of_heap bk (i := 3)
      have cb4 := cell_of_heap bk (i := 4)
      simp only [List.getElem?_toArray, List.getElem?_cons_succ, List.getElem?_cons_zero] at cb0 cb1 cb2 cb3 cb4
      clear bk
      go_wp2_with fail
      clear cb0 cb1 cb2 cb3 cb4 hbf
    have H0 : Hid (nameds s (f.kids.take 0) = false) := by show _ = _; simp [nameds]
    go_loopg [5] N (fun gk i wr => ∃ k : Nat, gk = N - k ∧ k ≤ N ∧ i = .int .i64 (k : Int) ∧ Hid (nameds s (f.kids.take k) = false) ∧ Hid (Owns w wr [blk bf (fobj f (.slice y N m))]))
    case atStart => exact ⟨0, rfl, Nat.zero_le _, rfl, H0, HO⟩
    case round =>
      rename_i J1 K1 hJ1 hK1
      clear HO H0
      obtain ⟨k, rfl, hk, rfl, HC, HO⟩ := hrel
      obtain ⟨bk, -⟩ := HO.out.blk
      have hbf := lt_of_block bk
      have cb4 := cell_of_heap bk (i := 4)
      simp only [List.getElem?_toArray, List.getElem?_cons_succ, List.getElem?_cons_zero] at cb4
      by_cases hlt : k < N
      · obtain ⟨q, hq⟩ : ∃ q, f.kids[k]? = some q := ⟨_, List.getElem?_eq_getElem (by rw [← HN.out]; exact hlt)⟩
        obtain ⟨g, off, kv, rfl, hg, hkv, c0, c1, c2, c3, c4⟩ := HF.out.old HO.out.base hq
        obtain ⟨y2, m2, rfl⟩ := hkv.form
        have HQ := Lib.hid hq
        have HK := Lib.hid hkv
        clear hq hkv
        obtain ⟨N2, hN2⟩ : ∃ N2, N2 = q.kids.length := ⟨_, rfl⟩
        rw [← hN2] at c4 HK
        clear hN2
        have HLt := Lib.hid hlt
        go_wp2_with fail
        refine (HI.out q (List.mem_of_getElem? HQ.out) wr _ (HK.out.later HO.out.base) (by have := HS.out; have := size_mem (List.mem_of_getElem? HQ.out); rw [size_kids] at this; omega)).mono ?_
        rintro e W2 ⟨rfl, hb⟩
        have HO2 := Lib.hid (HO.out.below hb)
        obtain ⟨x, hx⟩ : ∃ x, x = namedF s q := ⟨_, rfl⟩
        rw [← hx]
        have HX := Lib.hid hx
        clear hx hb HO c0 c1 c2 c3 c4 bk cb4 hbf
        cases x
        · have HC2 : Hid (nameds s (f.kids.take (k + 1)) = false) := by
            show _ = _
            rw [nameds_take HQ.out, HC.out, ← HX.out]; rfl
          go_wp2_with fail
          go_roundg (N - (k + 1))
          case measure => omega
          case rel => exact ⟨k + 1, rfl, by omega, by go_num, HC2, HO2⟩
        · have HE : Hid (namedF s f = true) := by
            show _ = _
            rw [namedF_eq, named_mem (List.mem_of_getElem? HQ.out) HX.out.symm]
            simp
          clear hJ1 hK1
          go_wp2_with fail
          go_ret
          exact ⟨by rw [HE.out]; rfl, HO2.out.base⟩
      · obtain rfl : k = N := by omega
        have HE : Hid (namedF s f = false) := by
          have h1 := HC.out
          rw [HN.out, List.take_length] at h1
          show _ = _
          rw [namedF_eq, h1, HH.out]; rfl
        clear hJ1 hK1 hlt
        go_wp2_with fail
        go_ret
        exact ⟨by rw [HE.out]; rfl, HO.out.base⟩
end
end Go.Proofs.YtagoefnibgobcaaGreatDoor
