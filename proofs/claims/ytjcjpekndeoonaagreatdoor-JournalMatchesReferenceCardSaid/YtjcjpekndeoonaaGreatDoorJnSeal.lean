/-
  The journal's digits, seal, head, sector.
-/
import Derived.Test.YtjcjpekndeoonaaGreatDoorJnSum
namespace Go.Cz.Jn
theorem pad48_eq (l : Bytes) : pad48 l = l.take 48 ++ List.replicate (48 - l.length) 0 := by
  unfold pad48
  rw [List.take_append, List.take_replicate]
  congr 2
  omega
end Go.Cz.Jn
namespace Go.Proofs.YtjcjpekndeoonaaGreatDoor
open Go.RowKit Go.Cz Go.Cz.Jn
set_option linter.unusedSimpArgs false
set_option linter.unusedVariables false
attribute [local go_sem] bs_size bs_extract bs_append bs_toList
attribute [local irreducible] cList cPlan
theorem dec20 (n : Nat) (h : n ≤ 1000000000) : (decB n).length ≤ 20 := by rw [decB_eq, Lib.decDigits_length]; exact Lib.nDigits_le20 n (by omega)
theorem digits28 (n k : Nat) (h : n ≤ 1000000000) (hk : k ≤ 8) : (digitsB n k).length ≤ 28 := by
  have := dec20 n h
  unfold digitsB
  rw [List.length_append, List.length_replicate]
  omega
set_option maxHeartbeats 1000000 in
theorem digits_c (n k : Nat) (hn : n ≤ 1000000000) (hk : k ≤ 64) (w : World) (hs : Std w) : Calls Tryz.prog 71 #[.int .i64 (n : Int), .int .i64 (k : Int)] w fun e w' => e = .returned (.string (bs (digitsB n k))) ∧ Below w.heap.size w w' := by
  have HI := Lib.hid (Itoa_c n w hn hs)
  obtain ⟨d, hd⟩ : ∃ d, d = decB n := ⟨_, rfl⟩
  have hdl : d.length ≤ 20 := by rw [hd]; exact dec20 n hn
  have HD : Hid (List.replicate (k - d.length) 48 ++ d = digitsB n k) := by show _ = _; rw [hd]; rfl
  have HE : Hid (Lib.decDigits n = d) := by show _ = _; rw [hd, decB_eq]
  clear hd hs
  have e1 : max (0 : Int) ((k : Int) - (d.length : Int)) = ((k - d.length : Nat) : Int) := by omega
  go_enter Tryz.func71, Tryz.ntmps71
  go_wp2_with fail
  go_at_call 74
  refine HI.out.mono ?_
  rintro e w1 ⟨rfl, hb⟩
  rw [HE.out]
  have HB := Lib.hid hb
  clear HI HE hb
  go_wp2_with fail
  go_at_call 75
  refine (Repeat0_c _ (by omega) _).mono ?_
  rintro e w3 ⟨rfl, rfl⟩
  clear e1
  go_wp2_with fail
  go_ret
  refine ⟨?_, HB.out⟩
  show Ending.returned (.string (bs (List.replicate (k - d.length) 48 ++ d))) = _
  rw [HD.out]
set_option maxRecDepth 10000 in
set_option maxHeartbeats 2000000 in
theorem seal_c (p : Nat) (c : Bytes) (hp : p ≤ 1000000000) (hc : c.length ≤ 1000000) (w : World) (hs : Std w) : Calls Tryz.prog 70 #[.int .i64 (p : Int), .string (bs c)] w fun e w' => e = .returned (.string (bs (sealB p c))) ∧ Below w.heap.size w w' := by
  obtain ⟨g, hg⟩ : ∃ g, g = w.heap.size := ⟨_, rfl⟩
  obtain ⟨cs, hcs⟩ : ∃ cs, cs = List.replicate 48 (Value.int .u8 0) := ⟨_, rfl⟩
  have hz : (#[Value.int .u8 0, Value.int .u8 0, Value.int .u8 0, Value.int .u8 0, Value.int .u8 0, Value.int .u8 0, Value.int .u8 0, Value.int .u8 0, Value.int .u8 0, Value.int .u8 0, Value.int .u8 0, Value.int .u8 0, Value.int .u8 0, Value.int .u8 0, Value.int .u8 0, Value.int .u8 0, Value.int .u8 0, Value.int .u8 0, Value.int .u8 0, Value.int .u8 0, Value.int .u8 0, Value.int .u8 0, Value.int .u8 0, Value.int .u8 0, Value.int .u8 0, Value.int .u8 0, Value.int .u8 0, Value.int .u8 0, Value.int .u8 0, Value.int .u8 0, Value.int .u8 0, Value.int .u8 0, Value.int .u8 0, Value.int .u8 0, Value.int .u8 0, Value.int .u8 0, Value.int .u8 0, Value.int .u8 0, Value.int .u8 0, Value.int .u8 0, Value.int .u8 0, Value.int .u8 0, Value.int .u8 0, Value.int .u8 0, Value.int .u8 0, Value.int .u8 0, Value.int .u8 0, Value.int .u8 0] : Array Value) = cs.toArray := by rw [hcs]; rfl
  have HCS := Lib.hid hcs
  have HO : Hid (Owns w (w.alloc (.cells cs.toArray 114)) [blk g (.cells cs.toArray 114 (0, 0))]) := by
    clear hz hcs
    have h1 : Owns w (w.alloc (.cells cs.toArray 114)) [blk w.heap.size (.cells cs.toArray 114 (0, 0))] := (Owns.start w).box _
    rw [← hg] at h1
    exact h1
  have HZ := Lib.hid hz
  have HS := Lib.hid hs
  clear hs hz hcs
  go_enter Tryz.func70, Tryz.ntmps70
  go_wp2_with fail
  rw [HZ.out, ← hg]
  clear HZ hg
  obtain ⟨W1, hW1⟩ : ∃ W1, W1 = w.alloc (.cells cs.toArray 114) := ⟨_, rfl⟩
  rw [← hW1] at HO ⊢
  rw [run_copy_text (P := Tryz.prog) 56 9 3 5 Tryz.underlying56 (by kernel_rfl) g 0 48 48 c cs 114 W1 HO.out.blk.1 (by rw [HCS.out, List.length_replicate]; omega), HCS.out, splice_pad, ← pad48_eq]
  obtain ⟨W2, hW2⟩ : ∃ W2, W2 = W1.setRow g (bcells (pad48 c)).toArray := ⟨_, rfl⟩
  have HO2 : Hid (Owns w W2 [blk g (.cells (bcells (pad48 c)).toArray 114 (0, 0))]) := by
    obtain ⟨S, ⟨rfl, h1⟩, -, hf⟩ := HO.out.open
    rw [hW2]
    refine hf _ _ [g] ⟨rfl, setRow_heap W1 g _ _ _ _ h1⟩ ⟨rfl, rfl, rfl, by simp, fun k _ hk => setRow_other W1 g k _ (by simpa using hk)⟩ fun k hk => .inl hk
  rw [← hW2]
  clear hW1 hW2 HO
  go_wp2_with fail
  rw [run_convert_text (P := Tryz.prog) W2 56 5 9 Tryz.underlying56 (by kernel_rfl) (by kernel_rfl) g 0 48 48 _ 114 (0, 0) HO2.out.blk.1 (by rw [pad48_len]; exact Nat.le_refl _), List.drop_zero, List.take_of_length_le (Nat.le_of_eq (pad48_len c))]
  obtain ⟨d, hd⟩ : ∃ d, d = pad48 c := ⟨_, rfl⟩
  have hdl : d.length = 48 := by rw [hd]; exact pad48_len c
  have HD : Hid (sealB p c = sumB (digitsB p 8 ++ d) ++ d) := by rw [hd]; exact rfl
  have HB : Hid (Below w.heap.size w W2 ∧ Std W2) := ⟨HO2.out.base, HS.out.below HO2.out.base⟩
  rw [← hd]
  clear HS HO2 hd
  obtain ⟨d8, hd8⟩ : ∃ d8, d8 = digitsB p 8 := ⟨_, rfl⟩
  have h8 : d8.length ≤ 28 := by rw [hd8]; exact digits28 p 8 hp (by omega)
  have HH := Lib.hid hd8
  rw [← hd8] at HD
  clear hd8
  go_wp2_with fail
  go_at_call 71
  refine (digits_c p 8 hp (by omega) _ HB.out.2).mono ?_
  rintro e w3 ⟨rfl, hb⟩
  replace HB : Hid (Below w.heap.size w w3 ∧ Std w3) := ⟨HB.out.1.trans (hb.mono HB.out.1.size), HB.out.2.below hb⟩
  rw [← HH.out]
  clear hb HH
  go_wp2_with fail
  go_at_call 91
  refine (Sum_c _ (by rw [List.length_append]; omega) _ HB.out.2).mono ?_
  rintro e w4 ⟨rfl, hb⟩
  obtain ⟨x, hx⟩ : ∃ x, x = sumB (d8 ++ d) := ⟨_, rfl⟩
  have hxl : x.length = 16 := by rw [hx]; exact sumB_len _
  rw [← hx] at HD ⊢
  clear hx
  replace HB : Hid (Below w.heap.size w w4) := HB.out.1.trans (hb.mono HB.out.1.size)
  clear hb
  go_wp2_with fail
  go_ret
  refine ⟨?_, HB.out⟩
  show Ending.returned (.string (bs (x ++ d))) = _
  rw [HD.out]
set_option maxHeartbeats 1000000 in
theorem headJ_c (p n : Nat) (hp : p ≤ 1000000000) (hn : n ≤ 1000000000) (w : World) (hs : Std w) : Calls Tryz.prog 39 #[.int .i64 (p : Int), .int .i64 (n : Int)] w fun e w' => e = .returned (.string (bs (headB p n))) ∧ Below w.heap.size w w' := by
  have HS := Lib.hid hs
  clear hs
  go_enter Tryz.func39, Tryz.ntmps39
  go_wp2_with fail
  go_at_call 71
  refine (digits_c n 8 hn (by omega) _ HS.out).mono ?_
  rintro e w1 ⟨rfl, hb⟩
  have HB : Hid (Below w.heap.size w w1 ∧ Std w1) := ⟨hb, HS.out.below hb⟩
  clear hb HS
  go_wp2_with fail
  go_at_call 70
  refine (seal_c p _ hp (Nat.le_trans (digits28 n 8 hn (by omega)) (by decide)) _ HB.out.2).mono ?_
  rintro e w2 ⟨rfl, hb⟩
  replace HB : Hid (Below w.heap.size w w2) := HB.out.1.trans (hb.mono HB.out.1.size)
  clear hb
  go_wp2_with fail
  go_ret
  exact ⟨rfl, HB.out⟩
set_option maxHeartbeats 1000000 in
theorem sectorJ_c (p : Nat) (s : Bytes) (hp : p ≤ 1000000000) (hl : s.length ≤ 1000) (w : World) (hs : Std w) : Calls Tryz.prog 35 #[.int .i64 (p : Int), .string (bs s)] w fun e w' => e = .returned (.string (bs (sectorB p s))) ∧ Below w.heap.size w w' := by
  have HS := Lib.hid hs
  obtain ⟨d, hd⟩ : ∃ d, d = digitsB s.length 2 := ⟨_, rfl⟩
  have hdl : d.length ≤ 28 := by rw [hd]; exact digits28 _ 2 (by omega) (by omega)
  have HD := Lib.hid hd
  clear hs hd
  go_enter Tryz.func35, Tryz.ntmps35
  go_wp2_with fail
  go_at_call 71
  refine (digits_c s.length 2 (by omega) (by omega) _ HS.out).mono ?_
  rintro e w1 ⟨rfl, hb⟩
  have HB : Hid (Below w.heap.size w w1 ∧ Std w1) := ⟨hb, HS.out.below hb⟩
  have HE : Hid (sealB p (d ++ s) = sectorB p s) := by show _ = _; rw [HD.out]; rfl
  rw [← HD.out]
  clear hb HS HD
  go_wp2_with fail
  go_at_call 70
  refine (seal_c p _ hp (by rw [List.length_append]; omega) _ HB.out.2).mono ?_
  rintro e w2 ⟨rfl, hb⟩
  rw [HE.out]
  replace HB : Hid (Below w.heap.size w w2) := HB.out.1.trans (hb.mono HB.out.1.size)
  clear hb
  go_wp2_with fail
  go_ret
  exact ⟨rfl, HB.out⟩
end Go.Proofs.YtjcjpekndeoonaaGreatDoor
