/-
  'first', 'Check'.
-/
import Derived.Test.YtoeknmkephnekaaGreatDoorFmDom
import Derived.Test.YtoeknmkephnekaaGreatDoorFmFormed
import Derived.Test.YtoeknmkephnekaaGreatDoorFmLaws
namespace Go.Proofs.YtoeknmkephnekaaGreatDoor
open Go.RowKit Go.Cz Go.Cz.Lx Go.Cz.Fo
set_option linter.unusedSimpArgs false
set_option linter.unusedVariables false
attribute [local go_sem] bs_size bs_extract bs_append bs_toList
attribute [local irreducible] cList cPlan
/-- The names of a formula have at most n bytes. -/
theorem short_name {n : Nat} {f : Fm} (h : short n f = true) : f.name.length ≤ n := by rw [short_kids, Bool.and_eq_true, decide_eq_true_eq] at h; exact h.2
theorem short_kid {n : Nat} {f k : Fm} (h : short n f = true) (hk : k ∈ f.kids) : short n k = true := by rw [short_kids, Bool.and_eq_true] at h; exact short_mem h.1 hk
theorem firsts_take {look : Fm → Nat} : ∀ {ks : List Fm} {j : Nat} {k : Fm}, ks[j]? = some k → firsts look (ks.take (j + 1)) = if firsts look (ks.take j) ≠ 0 then firsts look (ks.take j) else firstF look k
  | [], j, k, h => by simp at h
  | a :: r, 0, k, h => by
    simp at h; subst h
    simp [firsts]
    intro h; exact h.symm
  | a :: r, j + 1, k, h => by
    have := firsts_take (look := look) (ks := r) (j := j) (k := k) (by simpa using h)
    rw [List.take_succ_cons, List.take_succ_cons, firsts, firsts, this]
    by_cases h1 : firstF look a = 0
    · simp [h1]
    · simp [h1]
theorem firsts_stop {look : Fm → Nat} : ∀ {ks : List Fm} {j : Nat}, firsts look (ks.take j) ≠ 0 → firsts look ks = firsts look (ks.take j)
  | [], j, h => by simp
  | a :: r, 0, h => by simp [firsts] at h
  | a :: r, j + 1, h => by
    rw [List.take_succ_cons, firsts] at h ⊢
    rw [firsts]
    by_cases h1 : firstF look a = 0
    · rw [if_neg (by simp [h1])] at h ⊢
      rw [if_neg (by simp [h1])]
      exact firsts_stop h
    · rw [if_pos h1, if_pos h1]
section
variable {p : Nat → Prop}
set_option maxHeartbeats 2000000 in
theorem firstC_c (w0 : World) (look : Fm → Nat) (lim : Nat) (bd : Nat) (HL : ∀ (q : Fm) (qv : Value) (W : World), IsFm p w0 q qv → short lim q = true → Below w0.heap.size w0 W → Calls Tryz.prog 49 #[fval q qv, .pointer (some ⟨bd, 0, none⟩)] W fun e w' => e = .returned (.int .i64 (look q : Nat)) ∧ Below W.heap.size W w')
    (f : Fm) : ∀ (w : World) (kv : Value), Below w0.heap.size w0 w → IsFm p w0 f kv → short lim f = true → size f ≤ 900000 →
    Calls Tryz.prog 48 #[fval f kv, .func (.func 49) #[] #[.pointer (some ⟨bd, 0, none⟩)]] w (fun e w' => e = .returned (.int .i64 (firstF look f : Nat)) ∧ Below w.heap.size w w') := by
  have HLH := Lib.hid HL
  clear HL
  refine Fm.induct (P := fun f => ∀ (w : World) (kv : Value), Below w0.heap.size w0 w → IsFm p w0 f kv → short lim f = true → size f ≤ 900000 →
    Calls Tryz.prog 48 #[fval f kv, .func (.func 49) #[] #[.pointer (some ⟨bd, 0, none⟩)]] w (fun e w' => e = .returned (.int .i64 (firstF look f : Nat)) ∧ Below w.heap.size w w')) ?_ f
  clear f
  intro f ih w kv hw hf hs hz
  have HI := Lib.hid ih
  have HS := Lib.hid hs
  have HZ := Lib.hid hz
  have HW := Lib.hid hw
  have hN9 := length_sizes f.kids
  rw [size_kids] at hz
  have HF0 := Lib.hid hf
  obtain ⟨y, m, rfl⟩ := hf.form
  obtain ⟨N, hN⟩ : ∃ N, N = f.kids.length := ⟨_, rfl⟩
  have HN := Lib.hid hN
  rw [← hN] at hf ⊢
  have HF := Lib.hid hf
  clear hN hf
  obtain ⟨W1, hW1⟩ : ∃ W1, W1 = w.alloc (fobj f (.slice y N m)) := ⟨_, rfl⟩
  obtain ⟨bf, hbf⟩ : ∃ bf, bf = w.heap.size := ⟨_, rfl⟩
  have HO : Hid (Owns w W1 [blk bf (fobj f (.slice y N m))]) := by
    rw [hW1, hbf]
    exact Lib.hid ((Owns.start w).box _)
  have hN9 : N ≤ 900000 := by have := HN.out; omega
  clear ih hs hz hw
  go_enter Tryz.func48, Tryz.ntmps48
  go_wp2_with fail
  rw [← hW1, ← hbf]
  clear hW1 hbf
  refine (HLH.out f _ W1 HF.out HS.out (HW.out.trans (HO.out.base.mono HW.out.size))).mono ?_
  rintro e W2 ⟨rfl, hb⟩
  replace HO := Lib.hid (HO.out.below hb)
  clear hb
  obtain ⟨E, hE⟩ : ∃ E, E = look f := ⟨_, rfl⟩
  rw [← hE]
  have HE := Lib.hid hE
  clear hE
  obtain ⟨bk, -⟩ := HO.out.blk
  have hbf := lt_of_block bk
  have cb0 := cell_of_heap bk (i := 0)
  have cb1 := cell_of_heap bk (i := 1)
  have cb2 := cell_of_heap bk (i := 2)
  have cb3 := cell_of_heap bk (i := 3)
  have cb4 := cell_of_heap bk (i := 4)
  simp only [List.getElem?_toArray, List.getElem?_cons_succ, List.getElem?_cons_zero] at cb0 cb1 cb2 cb3 cb4
  clear bk
  go_wp2_with fail
  clear cb0 cb1 cb2 cb3 cb4 hbf
  have H0 : Hid ((if E ≠ 0 then E else firsts look (f.kids.take 0)) = E) := by show _ = _; split <;> simp_all [firsts]
  go_loopg [5, 14] N (fun gk e i wr => ∃ k c : Nat, gk = N - k ∧ k ≤ N ∧ i = .int .i64 (k : Int) ∧ e = .int .i64 (c : Int) ∧ Hid ((if E ≠ 0 then E else firsts look (f.kids.take k)) = c) ∧ Hid (Owns w wr [blk bf (fobj f (.slice y N m))]))
  case atStart => exact ⟨0, E, rfl, Nat.zero_le _, rfl, rfl, H0, HO⟩
  case round =>
    rename_i J1 K1 hJ1 hK1
    clear HO H0
    obtain ⟨k, c, rfl, hk, rfl, rfl, HC, HO⟩ := hrel
    have HWr := Lib.hid (HW.out.trans (HO.out.base.mono HW.out.size))
    by_cases hlt : k < N
    · by_cases hc : c = 0
      · subst hc
        obtain ⟨q, hq⟩ : ∃ q, f.kids[k]? = some q := ⟨_, List.getElem?_eq_getElem (by rw [← HN.out]; exact hlt)⟩
        obtain ⟨g, off, kv, rfl, hg, hkv, c0, c1, c2, c3, c4⟩ := HF.out.old HWr.out hq
        obtain ⟨y2, m2, rfl⟩ := hkv.form
        have HQ := Lib.hid hq
        have HK := Lib.hid hkv
        clear hq hkv
        obtain ⟨N2, hN2⟩ : ∃ N2, N2 = q.kids.length := ⟨_, rfl⟩
        rw [← hN2] at c4 HK
        clear hN2
        have HLt := Lib.hid hlt
        obtain ⟨W4, hW4⟩ : ∃ W4, W4 = wr.alloc (fobj q (.slice y2 N2 m2)) := ⟨_, rfl⟩
        have HO4 : Hid (Owns w W4 [blk bf (fobj f (.slice (some ⟨g, off, none⟩) N m))]) := by
          rw [hW4]
          exact Lib.hid (HO.out.alloc _)
        go_wp2_with fail
        rw [← hW4]
        clear hW4 c0 c1 c2 c3 c4 HO
        go_at_call 48
        have hm := List.mem_of_getElem? HQ.out
        refine (HI.out q hm W4 _ (HW.out.trans (HO4.out.base.mono HW.out.size)) HK.out (short_kid HS.out hm) (by have := HZ.out; rw [size_kids] at this; have := size_mem hm; omega)).mono ?_
        rintro e W5 ⟨rfl, hb⟩
        have HO5 := Lib.hid (HO4.out.below hb)
        obtain ⟨x, hx⟩ : ∃ x, x = firstF look q := ⟨_, rfl⟩
        rw [← hx]
        have HC2 : Hid ((if E ≠ 0 then E else firsts look (f.kids.take (k + 1))) = x) := by
          show _ = _
          have h := HC.out
          rw [firsts_take HQ.out]
          by_cases hE : E = 0
          · subst hE
            simp only [ne_eq, not_true_eq_false, if_false] at h ⊢
            rw [h]
            simpa using hx.symm
          · rw [if_pos hE] at h
            exact absurd h hE
        clear hx hb HO4 HC hm
        go_wp2_with fail
        go_roundg (N - (k + 1))
        case measure => omega
        case rel => exact ⟨k + 1, x, rfl, by omega, by go_num, rfl, HC2, HO5⟩
      · have hc' : ((c : Int) != 0) = true := by simpa using hc
        have hc2 : ¬ (c : Int) = 0 := by omega
        obtain ⟨q, hq⟩ : ∃ q, f.kids[k]? = some q := ⟨_, List.getElem?_eq_getElem (by rw [← HN.out]; exact hlt)⟩
        obtain ⟨g, off, kv, rfl, hg, hkv, c0, c1, c2, c3, c4⟩ := HF.out.old HWr.out hq
        obtain ⟨y2, m2, rfl⟩ := hkv.form
        clear hkv
        have HE2 : Hid (firstF look f = c) := by
          show _ = _
          rw [firstF_eq, ← HE.out]
          have h := HC.out
          by_cases hE : E = 0
          · subst hE
            simp only [ne_eq, not_true_eq_false, if_false] at h ⊢
            rw [firsts_stop (j := k) (by rw [h]; exact hc), h]
          · rw [if_pos hE] at h ⊢
            exact h
        have HO2 : Hid (Below w.heap.size w (wr.alloc (fobj q (.slice y2 q.kids.length m2)))) := Lib.hid (HO.out.alloc _).base
        clear hq hJ1 hK1 hc HO HWr
        go_wp2_with fail
        go_ret
        exact ⟨by rw [HE2.out]; rfl, HO2.out⟩
    · obtain rfl : k = N := by omega
      have HE2 : Hid (firstF look f = c) := by
        show _ = _
        rw [firstF_eq, ← HE.out]
        have h := HC.out
        rw [HN.out, List.take_length] at h
        exact h
      clear hJ1 hK1 hlt
      go_wp2_with fail
      go_ret
      exact ⟨by rw [HE2.out]; rfl, HO.out.base⟩
set_option maxHeartbeats 2000000 in
theorem firstT_c (w0 : World) (look : Fm → Nat) (lim : Nat)  (HL : ∀ (q : Fm) (qv : Value) (W : World), IsFm p w0 q qv → short lim q = true → Below w0.heap.size w0 W → Calls Tryz.prog 66 #[fval q qv] W fun e w' => e = .returned (.int .i64 (look q : Nat)) ∧ Below W.heap.size W w')
    (f : Fm) : ∀ (w : World) (kv : Value), Below w0.heap.size w0 w → IsFm p w0 f kv → short lim f = true → size f ≤ 900000 →
    Calls Tryz.prog 48 #[fval f kv, .func (.func 66) #[] #[]] w (fun e w' => e = .returned (.int .i64 (firstF look f : Nat)) ∧ Below w.heap.size w w') := by
  have HLH := Lib.hid HL
  clear HL
  refine Fm.induct (P := fun f => ∀ (w : World) (kv : Value), Below w0.heap.size w0 w → IsFm p w0 f kv → short lim f = true → size f ≤ 900000 →
    Calls Tryz.prog 48 #[fval f kv, .func (.func 66) #[] #[]] w (fun e w' => e = .returned (.int .i64 (firstF look f : Nat)) ∧ Below w.heap.size w w')) ?_ f
  clear f
  intro f ih w kv hw hf hs hz
  have HI := Lib.hid ih
  have HS := Lib.hid hs
  have HZ := Lib.hid hz
  have HW := Lib.hid hw
  have hN9 := length_sizes f.kids
  rw [size_kids] at hz
  have HF0 := Lib.hid hf
  obtain ⟨y, m, rfl⟩ := hf.form
  obtain ⟨N, hN⟩ : ∃ N, N = f.kids.length := ⟨_, rfl⟩
  have HN := Lib.hid hN
  rw [← hN] at hf ⊢
  have HF := Lib.hid hf
  clear hN hf
  obtain ⟨W1, hW1⟩ : ∃ W1, W1 = w.alloc (fobj f (.slice y N m)) := ⟨_, rfl⟩
  obtain ⟨bf, hbf⟩ : ∃ bf, bf = w.heap.size := ⟨_, rfl⟩
  have HO : Hid (Owns w W1 [blk bf (fobj f (.slice y N m))]) := by
    rw [hW1, hbf]
    exact Lib.hid ((Owns.start w).box _)
  have hN9 : N ≤ 900000 := by have := HN.out; omega
  clear ih hs hz hw
  go_enter Tryz.func48, Tryz.ntmps48
  go_wp2_with fail
  rw [← hW1, ← hbf]
  clear hW1 hbf
  refine (HLH.out f _ W1 HF.out HS.out (HW.out.trans (HO.out.base.mono HW.out.size))).mono ?_
  rintro e W2 ⟨rfl, hb⟩
  replace HO := Lib.hid (HO.out.below hb)
  clear hb
  obtain ⟨E, hE⟩ : ∃ E, E = look f := ⟨_, rfl⟩
  rw [← hE]
  have HE := Lib.hid hE
  clear hE
  obtain ⟨bk, -⟩ := HO.out.blk
  have hbf := lt_of_block bk
  have cb0 := cell_of_heap bk (i := 0)
  have cb1 := cell_of_heap bk (i := 1)
  have cb2 := cell_of_heap bk (i := 2)
  have cb3 := cell_of_heap bk (i := 3)
  have cb4 := cell_of_heap bk (i := 4)
  simp only [List.getElem?_toArray, List.getElem?_cons_succ, List.getElem?_cons_zero] at cb0 cb1 cb2 cb3 cb4
  clear bk
  go_wp2_with fail
  clear cb0 cb1 cb2 cb3 cb4 hbf
  have H0 : Hid ((if E ≠ 0 then E else firsts look (f.kids.take 0)) = E) := by show _ = _; split <;> simp_all [firsts]
  go_loopg [5, 14] N (fun gk e i wr => ∃ k c : Nat, gk = N - k ∧ k ≤ N ∧ i = .int .i64 (k : Int) ∧ e = .int .i64 (c : Int) ∧ Hid ((if E ≠ 0 then E else firsts look (f.kids.take k)) = c) ∧ Hid (Owns w wr [blk bf (fobj f (.slice y N m))]))
  case atStart => exact ⟨0, E, rfl, Nat.zero_le _, rfl, rfl, H0, HO⟩
  case round =>
    rename_i J1 K1 hJ1 hK1
    clear HO H0
    obtain ⟨k, c, rfl, hk, rfl, rfl, HC, HO⟩ := hrel
    have HWr := Lib.hid (HW.out.trans (HO.out.base.mono HW.out.size))
    by_cases hlt : k < N
    · by_cases hc : c = 0
      · subst hc
        obtain ⟨q, hq⟩ : ∃ q, f.kids[k]? = some q := ⟨_, List.getElem?_eq_getElem (by rw [← HN.out]; exact hlt)⟩
        obtain ⟨g, off, kv, rfl, hg, hkv, c0, c1, c2, c3, c4⟩ := HF.out.old HWr.out hq
        obtain ⟨y2, m2, rfl⟩ := hkv.form
        have HQ := Lib.hid hq
        have HK := Lib.hid hkv
        clear hq hkv
        obtain ⟨N2, hN2⟩ : ∃ N2, N2 = q.kids.length := ⟨_, rfl⟩
        rw [← hN2] at c4 HK
        clear hN2
        have HLt := Lib.hid hlt
        obtain ⟨W4, hW4⟩ : ∃ W4, W4 = wr.alloc (fobj q (.slice y2 N2 m2)) := ⟨_, rfl⟩
        have HO4 : Hid (Owns w W4 [blk bf (fobj f (.slice (some ⟨g, off, none⟩) N m))]) := by
          rw [hW4]
          exact Lib.hid (HO.out.alloc _)
        go_wp2_with fail
        rw [← hW4]
        clear hW4 c0 c1 c2 c3 c4 HO
        go_at_call 48
        have hm := List.mem_of_getElem? HQ.out
        refine (HI.out q hm W4 _ (HW.out.trans (HO4.out.base.mono HW.out.size)) HK.out (short_kid HS.out hm) (by have := HZ.out; rw [size_kids] at this; have := size_mem hm; omega)).mono ?_
        rintro e W5 ⟨rfl, hb⟩
        have HO5 := Lib.hid (HO4.out.below hb)
        obtain ⟨x, hx⟩ : ∃ x, x = firstF look q := ⟨_, rfl⟩
        rw [← hx]
        have HC2 : Hid ((if E ≠ 0 then E else firsts look (f.kids.take (k + 1))) = x) := by
          show _ = _
          have h := HC.out
          rw [firsts_take HQ.out]
          by_cases hE : E = 0
          · subst hE
            simp only [ne_eq, not_true_eq_false, if_false] at h ⊢
            rw [h]
            simpa using hx.symm
          · rw [if_pos hE] at h
            exact absurd h hE
        clear hx hb HO4 HC hm
        go_wp2_with fail
        go_roundg (N - (k + 1))
        case measure => omega
        case rel => exact ⟨k + 1, x, rfl, by omega, by go_num, rfl, HC2, HO5⟩
      · have hc' : ((c : Int) != 0) = true := by simpa using hc
        have hc2 : ¬ (c : Int) = 0 := by omega
        obtain ⟨q, hq⟩ : ∃ q, f.kids[k]? = some q := ⟨_, List.getElem?_eq_getElem (by rw [← HN.out]; exact hlt)⟩
        obtain ⟨g, off, kv, rfl, hg, hkv, c0, c1, c2, c3, c4⟩ := HF.out.old HWr.out hq
        obtain ⟨y2, m2, rfl⟩ := hkv.form
        clear hkv
        have HE2 : Hid (firstF look f = c) := by
          show _ = _
          rw [firstF_eq, ← HE.out]
          have h := HC.out
          by_cases hE : E = 0
          · subst hE
            simp only [ne_eq, not_true_eq_false, if_false] at h ⊢
            rw [firsts_stop (j := k) (by rw [h]; exact hc), h]
          · rw [if_pos hE] at h ⊢
            exact h
        have HO2 : Hid (Below w.heap.size w (wr.alloc (fobj q (.slice y2 q.kids.length m2)))) := Lib.hid (HO.out.alloc _).base
        clear hq hJ1 hK1 hc HO HWr
        go_wp2_with fail
        go_ret
        exact ⟨by rw [HE2.out]; rfl, HO2.out⟩
    · obtain rfl : k = N := by omega
      have HE2 : Hid (firstF look f = c) := by
        show _ = _
        rw [firstF_eq, ← HE.out]
        have h := HC.out
        rw [HN.out, List.take_length] at h
        exact h
      clear hJ1 hK1 hlt
      go_wp2_with fail
      go_ret
      exact ⟨by rw [HE2.out]; rfl, HO.out.base⟩
/-- The closure of 'Check'. -/
theorem Check1_c (w0 : World) (bd : Nat) (d : List Fact) (v : Value) (hd : IsD w0 d v) (hn : d.length ≤ 1000000) (hx : ∀ x ∈ d, x.name.length ≤ 140737488355328) (hb : bd < w0.heap.size) (hc : w0.cell? ⟨bd, 0, none⟩ = some v) (f : Fm) (kv : Value) (w : World) (hf : IsFm p w0 f kv) {lim : Nat} (hlim : lim ≤ 140737488355328) (hs : short lim f = true) (hw : Below w0.heap.size w0 w) :
    Calls Tryz.prog 49 #[fval f kv, .pointer (some ⟨bd, 0, none⟩)] w (fun e w' => e = .returned (.int .i64 (nodeE d f : Nat)) ∧ Below w.heap.size w w') := by
  have HS := Lib.hid hs
  have HLim := Lib.hid hlim
  clear hlim
  have HW := Lib.hid hw
  have HD := Lib.hid hd
  have HX := Lib.hid hx
  have HDn := Lib.hid hn
  have HB := Lib.hid hb
  have HC := Lib.hid hc
  clear hs hw hd hx hn hb hc
  obtain ⟨y, m, rfl⟩ := hf.form
  obtain ⟨N, hN⟩ : ∃ N, N = f.kids.length := ⟨_, rfl⟩
  have HN := Lib.hid hN
  rw [← hN] at hf ⊢
  have HF := Lib.hid hf
  clear hN hf
  obtain ⟨W1, hW1⟩ : ∃ W1, W1 = w.alloc (fobj f (.slice y N m)) := ⟨_, rfl⟩
  obtain ⟨bf, hbf⟩ : ∃ bf, bf = w.heap.size := ⟨_, rfl⟩
  have HO : Hid (Owns w W1 [blk bf (fobj f (.slice y N m))]) := by
    rw [hW1, hbf]
    exact Lib.hid ((Owns.start w).box _)
  have HE : Hid (nodeE d f = if formedB f = false then 1 else if f.op ≠ 3 then 0 else if f.num < 0 ∨ 1000000 < f.num then 10 else if idxD f.name d < 0 then 7 else 0) := rfl
  go_enter Tryz.func49, Tryz.ntmps49
  go_wp2_with fail
  rw [← hW1, ← hbf]
  clear hW1 hbf
  go_at_call 50
  refine (formed_c f W1 _ (HF.out.later (HW.out.trans (HO.out.base.mono HW.out.size))) (Nat.le_trans (short_name HS.out) HLim.out)).mono ?_
  rintro e W2 ⟨rfl, hb⟩
  replace HO := Lib.hid (HO.out.below hb)
  clear hb
  obtain ⟨F, hF⟩ : ∃ F, F = formedB f := ⟨_, rfl⟩
  rw [← hF] at HE ⊢
  clear hF
  cases F
  · rw [if_pos rfl] at HE
    go_wp2_with fail
    go_ret
    exact ⟨by rw [HE.out]; rfl, HO.out.base⟩
  rw [if_neg (by simp)] at HE
  obtain ⟨bk, -⟩ := HO.out.blk
  have hbf := lt_of_block bk
  have cb0 := cell_of_heap bk (i := 0)
  have cb1 := cell_of_heap bk (i := 1)
  have cb2 := cell_of_heap bk (i := 2)
  have cb3 := cell_of_heap bk (i := 3)
  have cb4 := cell_of_heap bk (i := 4)
  simp only [List.getElem?_toArray, List.getElem?_cons_succ, List.getElem?_cons_zero] at cb0 cb1 cb2 cb3 cb4
  clear bk
  by_cases h3 : f.op = 3
  · have h3' : (f.op != 3) = false := by simpa using h3
    rw [if_neg (by simpa using h3)] at HE
    by_cases hl : f.num < 0
    · rw [if_pos (.inl hl)] at HE
      go_wp2_with fail
      go_ret
      exact ⟨by rw [HE.out]; rfl, HO.out.base⟩
    by_cases hh : 1000000 < f.num
    · rw [if_pos (.inr hh)] at HE
      go_wp2_with fail
      go_ret
      exact ⟨by rw [HE.out]; rfl, HO.out.base⟩
    rw [if_neg (by omega)] at HE
    obtain ⟨yd, md, hv⟩ := HD.out.form
    subst hv
    have HWd := Lib.hid (HW.out.trans (HO.out.base.mono HW.out.size))
    have hbd : bd < W2.heap.size := Nat.lt_of_lt_of_le HB.out HWd.out.size
    have cbd : W2.cell? ⟨bd, 0, none⟩ = some (.slice yd d.length md) := by rw [HWd.out.cell (p := ⟨bd, 0, none⟩) HB.out]; exact HC.out
    obtain ⟨M, hM⟩ : ∃ M, M = d.length := ⟨_, rfl⟩
    rw [← hM] at cbd HD
    clear hM HC
    go_wp2_with fail
    go_at_call 51
    refine (Index_c d f.name _ W2 (HD.out.later HWd.out) HX.out (Nat.le_trans (short_name HS.out) HLim.out) HDn.out).mono ?_
    rintro e W3 ⟨rfl, hb⟩
    replace HO := Lib.hid (HO.out.below hb)
    obtain ⟨u, hu⟩ : ∃ u, u = idxD f.name d := ⟨_, rfl⟩
    rw [← hu] at HE ⊢
    clear hu hb cb0 cb1 cb2 cb3 cb4 hbf cbd hbd
    by_cases hu : u < 0
    · rw [if_pos hu] at HE
      go_wp2_with fail
      go_ret
      exact ⟨by rw [HE.out]; rfl, HO.out.base⟩
    · rw [if_neg hu] at HE
      go_wp2_with fail
      go_ret
      exact ⟨by rw [HE.out]; rfl, HO.out.base⟩
  · have h3' : (f.op != 3) = true := by simpa using h3
    rw [if_pos h3] at HE
    go_wp2_with fail
    go_ret
    exact ⟨by rw [HE.out]; rfl, HO.out.base⟩
theorem Check_c (f : Fm) (w : World) (kv : Value) (d : List Fact) (v : Value) (hf : IsFm p w f kv) (hd : IsD w d v) (hn : d.length ≤ 1000000) (hx : ∀ x ∈ d, x.name.length ≤ 140737488355328) {lim : Nat} (hlim : lim ≤ 140737488355328) (hs : short lim f = true) (hz : size f ≤ 900000) :
    Calls Tryz.prog 19 #[fval f kv, .agg #[v]] w (fun e w' => e = .returned (.int .i64 (checkF d f : Nat)) ∧ Below w.heap.size w w') := by
  have HS := Lib.hid hs
  have HLim := Lib.hid hlim
  clear hlim
  have HD := Lib.hid hd
  have HX := Lib.hid hx
  have HDn := Lib.hid hn
  have HZ := Lib.hid hz
  obtain ⟨yd, md, hv⟩ := HD.out.form
  subst hv
  obtain ⟨M, hM⟩ : ∃ M, M = d.length := ⟨_, rfl⟩
  rw [← hM] at HD ⊢
  clear hs hd hx hn hz hM
  obtain ⟨y, m, rfl⟩ := hf.form
  obtain ⟨N, hN⟩ : ∃ N, N = f.kids.length := ⟨_, rfl⟩
  have HN := Lib.hid hN
  rw [← hN] at hf ⊢
  have HF := Lib.hid hf
  clear hN hf
  obtain ⟨W1, hW1⟩ : ∃ W1, W1 = (w.alloc (fobj f (.slice y N m))).alloc (.cells #[.slice yd M md] 45) := ⟨_, rfl⟩
  obtain ⟨bf, hbf⟩ : ∃ bf, bf = w.heap.size := ⟨_, rfl⟩
  obtain ⟨bd, hbd⟩ : ∃ bd, bd = w.heap.size + 1 := ⟨_, rfl⟩
  have HO : Hid (Owns w W1 [blk bd (.cells #[.slice yd M md] 45 (0, 0)), blk bf (fobj f (.slice y N m))]) := by
    rw [hW1, hbf, hbd]
    have := ((Owns.start w).box (fobj f (.slice y N m))).box (.cells #[.slice yd M md] 45 (0, 0))
    rw [World.size_alloc] at this
    exact Lib.hid this
  have HE : Hid (checkF d f = if largeB f = true then 2 else firstF (nodeE d) f) := rfl
  go_enter Tryz.func19, Tryz.ntmps19
  go_wp2_with fail
  rw [← hbd, ← hW1]
  clear hW1
  go_at_call 47
  refine (large_c f W1 _ (HF.out.later HO.out.base) HZ.out).mono ?_
  rintro e W2 ⟨rfl, hb⟩
  replace HO := Lib.hid (HO.out.below hb)
  clear hb
  obtain ⟨L, hL⟩ : ∃ L, L = largeB f := ⟨_, rfl⟩
  rw [← hL] at HE ⊢
  clear hL
  cases L
  · rw [if_neg (by simp)] at HE
    obtain ⟨bk, -⟩ := HO.out.pop.blk
    have hbf' := lt_of_block bk
    have cb0 := cell_of_heap bk (i := 0)
    have cb1 := cell_of_heap bk (i := 1)
    have cb2 := cell_of_heap bk (i := 2)
    have cb3 := cell_of_heap bk (i := 3)
    have cb4 := cell_of_heap bk (i := 4)
    simp only [List.getElem?_toArray, List.getElem?_cons_succ, List.getElem?_cons_zero] at cb0 cb1 cb2 cb3 cb4
    clear bk
    rw [← hbf]
    clear hbf
    go_wp2_with fail
    clear cb0 cb1 cb2 cb3 cb4 hbf'
    go_at_call 48
    obtain ⟨bk, -⟩ := HO.out.blk
    have hlt := lt_of_block bk
    have hcl : W2.cell? ⟨bd, 0, none⟩ = some (.slice yd M md) := by rw [cell_of_heap bk]; rfl
    have hd2 := HD.out.later HO.out.base
    have hf2 := HF.out.later HO.out.base
    have hl := firstC_c (p := p) W2 (nodeE d) lim bd
    have hl2 := hl (fun q qv W hq hs hW => Check1_c W2 bd d _ hd2 HDn.out HX.out hlt hcl q qv W hq HLim.out hs hW)
    have hl3 := hl2 f W2 (.slice y N m) (Below.refl _ _) hf2 HS.out HZ.out
    try rw [← hbd]
    refine hl3.mono ?_
    rintro e W3 ⟨rfl, hb⟩
    replace HO := Lib.hid (HO.out.below hb)
    clear hb bk hlt hcl hbd
    go_wp2_with fail
    go_ret
    exact ⟨by rw [HE.out]; rfl, HO.out.base⟩
  · rw [if_pos rfl] at HE
    clear hbd hbf
    go_wp2_with fail
    go_ret
    exact ⟨by rw [HE.out]; rfl, HO.out.base⟩
end
end Go.Proofs.YtoeknmkephnekaaGreatDoor
