/-
  'large'; the reference's 'Small', 'Size', 'Large'; the laws' 'short'; key words.
-/
import Derived.Test.YtoeknmkephnekaaGreatDoorFmSize
import Derived.Test.YtoeknmkephnekaaGreatDoorShelf
namespace Go.Proofs.YtoeknmkephnekaaGreatDoor
open Go.RowKit Go.Cz Go.Cz.Lx Go.Cz.Fo
set_option linter.unusedSimpArgs false
set_option linter.unusedVariables false
attribute [local go_sem] bs_size bs_extract bs_append bs_toList
attribute [local irreducible] cList cPlan
section
variable {p : Nat → Prop}
set_option maxHeartbeats 2000000 in
theorem large_c (f : Fm) (w : World) (kv : Value) (hf : IsFm p w f kv) (hn : size f ≤ 900000) : Calls Tryz.prog 47 #[fval f kv] w (fun e w' => e = .returned (.bool (largeB f)) ∧ Below w.heap.size w w') := by
  obtain ⟨y, m, rfl⟩ := hf.form
  obtain ⟨N, hN⟩ : ∃ N, N = f.kids.length := ⟨_, rfl⟩
  have HN := Lib.hid hN
  rw [← hN] at hf ⊢
  have HF := Lib.hid hf
  clear hN hf
  obtain ⟨W1, hW1⟩ : ∃ W1, W1 = w.alloc (fobj f (.slice y N m)) := ⟨_, rfl⟩
  obtain ⟨bf, hbf⟩ : ∃ bf, bf = w.heap.size := ⟨_, rfl⟩
  have HO : Hid (Owns w W1 [blk bf (fobj f (.slice y N m))]) := by
    rw [hW1, hbf]
    exact Lib.hid ((Owns.start w).box _)
  have HS := Lib.hid hn
  clear hn
  go_enter Tryz.func47, Tryz.ntmps47
  go_wp2_with fail
  rw [← hW1]
  clear hW1 hbf
  go_at_call 83
  refine (Size_c f W1 _ (HF.out.later HO.out.base) HS.out).mono ?_
  rintro e W2 ⟨rfl, hb⟩
  have HB := Lib.hid (HO.out.base.trans (hb.mono HO.out.base.size))
  clear hb HO
  have he : largeB f = (decide (200 < size f) || decide (20 < depth f)) := rfl
  obtain ⟨n, hn⟩ : ∃ n, n = size f := ⟨_, rfl⟩
  obtain ⟨d, hd⟩ : ∃ d, d = depth f := ⟨_, rfl⟩
  rw [← hn, ← hd] at he ⊢
  have He := Lib.hid he
  clear hn hd he
  by_cases h1 : 200 < n
  · have h1' : (200 : Int) < (n : Int) := by omega
    have He : Hid (largeB f = true) := by show _ = _; rw [He.out, decide_eq_true h1]; rfl
    clear h1
    go_wp2_with fail
    go_ret
    exact ⟨by rw [He.out]; rfl, HB.out⟩
  · have h1' : ¬ (200 : Int) < (n : Int) := by omega
    by_cases h2 : 20 < d
    · have h2' : (20 : Int) < (d : Int) := by omega
      have He : Hid (largeB f = true) := by show _ = _; rw [He.out, decide_eq_true h2]; simp
      clear h1 h2
      go_wp2_with fail
      go_ret
      exact ⟨by rw [He.out]; rfl, HB.out⟩
    · have h2' : ¬ (20 : Int) < (d : Int) := by omega
      clear h1 h2
      go_wp2_with fail
      go_ret
      exact ⟨congrArg (fun b => Ending.returned (Value.bool b)) (show (decide ((200 : Int) < (n : Int)) || decide ((20 : Int) < (d : Int))) = largeB f by rw [He.out, decide_eq_false (by omega), decide_eq_false (by omega), decide_eq_false (by omega), decide_eq_false (by omega)]), HB.out⟩
set_option maxHeartbeats 2000000 in
theorem rSize_c (f : Fm) : ∀ (w : World) (kv : Value), IsFm p w f kv → size f ≤ 900000 →
    Calls Tryz.prog 117 #[fval f kv] w (fun e w' => e = .returned (.tuple #[.int .i64 (size f : Int), .int .i64 (depth f : Int)]) ∧ Below w.heap.size w w') := by
  refine Fm.induct (P := fun f => ∀ (w : World) (kv : Value), IsFm p w f kv → size f ≤ 900000 →
    Calls Tryz.prog 117 #[fval f kv] w (fun e w' => e = .returned (.tuple #[.int .i64 (size f : Int), .int .i64 (depth f : Int)]) ∧ Below w.heap.size w w')) ?_ f
  clear f
  intro f ih w kv hf hs
  have HI := Lib.hid ih
  have HS := Lib.hid hs
  have hS := length_sizes f.kids
  have hD := depths_sizes f.kids
  rw [size_kids] at hs
  obtain ⟨y, m, rfl⟩ := hf.form
  obtain ⟨N, hN⟩ : ∃ N, N = f.kids.length := ⟨_, rfl⟩
  have HN := Lib.hid hN
  rw [← hN] at hf ⊢
  have HF := Lib.hid hf
  clear hN hf
  obtain ⟨W1, hW1⟩ : ∃ W1, W1 = w.alloc (fobj f (.slice y N m)) := ⟨_, rfl⟩
  obtain ⟨bf, hbf⟩ : ∃ bf, bf = w.heap.size := ⟨_, rfl⟩
  have HO : Hid (Owns w W1 [blk bf (fobj f (.slice y N m))]) := by
    rw [hW1, hbf]
    exact Lib.hid ((Owns.start w).box _)
  have HD2 : Hid (depths f.kids ≤ 900000 ∧ sizes f.kids ≤ 900000) := ⟨by omega, by omega⟩
  have hN9 : N ≤ 900000 := by have := HN.out; omega
  clear hS hD hs ih
  go_enter Tryz.func117, Tryz.ntmps117
  go_wp2_with fail
  rw [← hW1, ← hbf]
  clear hW1 hbf
  have H0 : Hid (1 + sizes (f.kids.take 0) = 1 ∧ depths (f.kids.take 0) = 0) := ⟨by simp [sizes], by simp [depths]⟩
  go_loopg [4, 5, 6] N (fun gk a b i wr => ∃ k c d : Nat, gk = N - k ∧ k ≤ N ∧ i = .int .i64 (k : Int) ∧ a = .int .i64 (c : Int) ∧ b = .int .i64 (d : Int) ∧ c ≤ 900001 ∧ d ≤ 900000 ∧ Hid (1 + sizes (f.kids.take k) = c ∧ depths (f.kids.take k) = d) ∧ Hid (Owns w wr [blk bf (fobj f (.slice y N m))]))
  case atStart => exact ⟨0, 1, 0, rfl, Nat.zero_le _, rfl, rfl, rfl, by omega, by omega, H0, HO⟩
  case round =>
    rename_i J1 K1 hJ1 hK1
    clear HO H0
    obtain ⟨k, c, d, rfl, hk, rfl, rfl, rfl, hc, hd, HC, HO⟩ := hrel
    obtain ⟨bk, -⟩ := HO.out.blk
    have hbf := lt_of_block bk
    have cb4 := cell_of_heap bk (i := 4)
    simp only [List.getElem?_toArray, List.getElem?_cons_succ, List.getElem?_cons_zero] at cb4
    by_cases hlt : k < N
    · obtain ⟨q, hq⟩ : ∃ q, f.kids[k]? = some q := ⟨_, List.getElem?_eq_getElem (by rw [← HN.out]; exact hlt)⟩
      obtain ⟨g, off, kv, rfl, hg, hkv, c0, c1, c2, c3, c4⟩ := HF.out.old HO.out.base hq
      obtain ⟨y2, m2, rfl⟩ := hkv.form
      have HQ := Lib.hid hq
      have HK := Lib.hid hkv
      clear hq hkv
      obtain ⟨N2, hN2⟩ : ∃ N2, N2 = q.kids.length := ⟨_, rfl⟩
      rw [← hN2] at c4 HK
      clear hN2
      have HLt := Lib.hid hlt
      go_wp2_with fail
      refine (HI.out q (List.mem_of_getElem? HQ.out) wr _ (HK.out.later HO.out.base) (by have := HS.out; rw [size_kids] at this; have := size_mem (List.mem_of_getElem? HQ.out); omega)).mono ?_
      rintro e W2 ⟨rfl, hb⟩
      have HO2 := Lib.hid (HO.out.below hb)
      obtain ⟨x, hx⟩ : ∃ x, x = size q := ⟨_, rfl⟩
      obtain ⟨z, hz⟩ : ∃ z, z = depth q := ⟨_, rfl⟩
      obtain ⟨c', hc'⟩ : ∃ c', c' = c + x := ⟨_, rfl⟩
      obtain ⟨d', hd'⟩ : ∃ d', d' = max d z := ⟨_, rfl⟩
      rw [← hx, ← hz]
      have HC2 : Hid (1 + sizes (f.kids.take (k + 1)) = c' ∧ depths (f.kids.take (k + 1)) = d') := by
        have := HC.out
        exact ⟨by rw [sizes_take HQ.out]; omega, by rw [depths_take HQ.out]; omega⟩
      have hc9 : c' ≤ 900001 := by have := HC2.out; have := sizes_le f.kids (k + 1); have := HD2.out; omega
      have hd9 : d' ≤ 900000 := by have := HC2.out; have := depths_le f.kids (k + 1); have := HD2.out; omega
      have ec : (c : Int) + (x : Int) = (c' : Int) := by omega
      have ed : max (d : Int) (z : Int) = (d' : Int) := by omega
      clear hx hc' hz hd' hb HO HC c0 c1 c2 c3 c4 bk cb4 hbf
      go_wp2_with fail
      go_roundg (N - (k + 1))
      case measure => omega
      case rel => exact ⟨k + 1, c', d', rfl, by omega, by go_num, rfl, rfl, hc9, hd9, HC2, HO2⟩
    · obtain rfl : k = N := by omega
      have HE : Hid (size f = c ∧ depth f = d + 1) := by
        have h1 := HC.out
        rw [HN.out, List.take_length] at h1
        exact ⟨by rw [size_kids]; omega, by rw [depth_kids]; omega⟩
      clear hJ1 hK1 hlt
      go_wp2_with fail
      go_ret2
      exact ⟨by rw [HE.out.1, HE.out.2]; rfl, HO.out.base⟩
set_option maxHeartbeats 2000000 in
theorem rLarge_c (f : Fm) (w : World) (kv : Value) (hf : IsFm p w f kv) (hn : size f ≤ 900000) : Calls Tryz.prog 87 #[fval f kv] w (fun e w' => e = .returned (.bool (largeB f)) ∧ Below w.heap.size w w') := by
  obtain ⟨y, m, rfl⟩ := hf.form
  obtain ⟨N, hN⟩ : ∃ N, N = f.kids.length := ⟨_, rfl⟩
  have HN := Lib.hid hN
  rw [← hN] at hf ⊢
  have HF := Lib.hid hf
  clear hN hf
  obtain ⟨W1, hW1⟩ : ∃ W1, W1 = w.alloc (fobj f (.slice y N m)) := ⟨_, rfl⟩
  obtain ⟨bf, hbf⟩ : ∃ bf, bf = w.heap.size := ⟨_, rfl⟩
  have HO : Hid (Owns w W1 [blk bf (fobj f (.slice y N m))]) := by
    rw [hW1, hbf]
    exact Lib.hid ((Owns.start w).box _)
  have HS := Lib.hid hn
  clear hn
  go_enter Tryz.func87, Tryz.ntmps87
  go_wp2_with fail
  rw [← hW1]
  clear hW1 hbf
  go_at_call 117
  refine (rSize_c f W1 _ (HF.out.later HO.out.base) HS.out).mono ?_
  rintro e W2 ⟨rfl, hb⟩
  have HB := Lib.hid (HO.out.base.trans (hb.mono HO.out.base.size))
  clear hb HO
  have he : largeB f = (decide (200 < size f) || decide (20 < depth f)) := rfl
  obtain ⟨n, hn⟩ : ∃ n, n = size f := ⟨_, rfl⟩
  obtain ⟨d, hd⟩ : ∃ d, d = depth f := ⟨_, rfl⟩
  rw [← hn, ← hd] at he ⊢
  have He := Lib.hid he
  clear hn hd he
  by_cases h1 : 200 < n
  · have h1' : (200 : Int) < (n : Int) := by omega
    have He : Hid (largeB f = true) := by show _ = _; rw [He.out, decide_eq_true h1]; rfl
    clear h1
    go_wp2_with fail
    go_ret
    exact ⟨by rw [He.out]; rfl, HB.out⟩
  · have h1' : ¬ (200 : Int) < (n : Int) := by omega
    by_cases h2 : 20 < d
    · have h2' : (20 : Int) < (d : Int) := by omega
      have He : Hid (largeB f = true) := by show _ = _; rw [He.out, decide_eq_true h2]; simp
      clear h1 h2
      go_wp2_with fail
      go_ret
      exact ⟨by rw [He.out]; rfl, HB.out⟩
    · have h2' : ¬ (20 : Int) < (d : Int) := by omega
      clear h1 h2
      go_wp2_with fail
      go_ret
      exact ⟨congrArg (fun b => Ending.returned (Value.bool b)) (show (decide ((200 : Int) < (n : Int)) || decide ((20 : Int) < (d : Int))) = largeB f by rw [He.out, decide_eq_false (by omega), decide_eq_false (by omega), decide_eq_false (by omega), decide_eq_false (by omega)]), HB.out⟩
end
end Go.Proofs.YtoeknmkephnekaaGreatDoor
