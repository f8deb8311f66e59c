/-
  Frozen accounts: the checks of an entry, 'add', 'Receive', 'Move'.
-/
import Derived.Test.YtlkihpgpcgeogaaDoorFzFn
import Derived.LoopN
namespace Go.Cz.Td
def ordE (a : Acc) (d : Int) : Nat := if d < lastD a.ms then 14 else 0
def covE (a : Acc) (u : Int) : Nat := if tot a.ms + u < 0 then 21 else 0
def bndE (a : Acc) (u : Int) : Nat := if 1000 ≤ a.ms.length ∨ MU < tot a.ms + u then 2 else 0
def alwE (lic : Bool) : Nat := if lic = true then 0 else 20
def opnE (a : Acc) : Nat := if a.closed then 29 else 0
theorem addE_first (a : Acc) (d u : Int) (lic : Bool) : addE a d u lic = if opnE a ≠ 0 then opnE a else if alwE lic ≠ 0 then alwE lic else if ordE a d ≠ 0 then ordE a d else if covE a u ≠ 0 then covE a u else bndE a u := by
  unfold addE opnE alwE ordE covE bndE
  cases a.closed
  · cases lic
    · simp
    · by_cases h1 : d < lastD a.ms
      · simp [h1]
      · by_cases h2 : tot a.ms + u < 0
        · simp [h1, h2]
        · simp [h1, h2]
  · simp
theorem lastD_get : ∀ (l : List Mv) (m : Mv), l[l.length - 1]? = some m → lastD l = m.1
  | [], m, h => by simp at h
  | [x], m, h => by simp at h; subst h; rfl
  | x :: y :: r, m, h => by
    have h1 := lastD_get (y :: r) m (by simpa using h)
    exact h1
end Go.Cz.Td
namespace Go.Proofs.YtlkihpgpcgeogaaDoor
open Go.RowKit Go.Cz Go.Cz.Td
set_option linter.unusedSimpArgs false
set_option linter.unusedVariables false
attribute [local irreducible] cList cPlan
abbrev eobj (b : Nat) (d u : Int) (lic : Bool) : Obj := .cells #[.pointer (some ⟨b, 0, none⟩), .int .i64 d, .int .i64 u, .bool lic] 75 (0, 0)
abbrev eval75 (b : Nat) (d u : Int) (lic : Bool) : Value := .agg #[.pointer (some ⟨b, 0, none⟩), .int .i64 d, .int .i64 u, .bool lic]
section
variable {b g o c : Nat} {a : Acc}
set_option maxHeartbeats 2000000 in
theorem ordered_c (d u : Int) (lic : Bool) (w : World) (ha : AccIn w b a g o c) (hn : a.ms ≠ []) (hs : Slim a.ms) :
    Calls Tryd.prog 27 #[eval75 b d u lic] w fun e w' => e = .returned (.int .i64 (ordE a d : Nat)) ∧ Below w.heap.size w w' := by
  have HA := Lib.hid ha
  have hl : 0 < a.ms.length := List.length_pos_iff.2 hn
  have hm9 : a.ms.length ≤ 1000 := hs.2
  obtain ⟨x, hx⟩ : ∃ x, a.ms[a.ms.length - 1]? = some x := ⟨_, List.getElem?_eq_getElem (by omega)⟩
  have HL : Hid (lastD a.ms = x.1) := Lib.hid (lastD_get a.ms x hx)
  have HX := Lib.hid hx
  clear hx ha hn hs
  -- the entry's box; ordered the function
  obtain ⟨W1, hW1⟩ : ∃ W, W = w.alloc (.cells #[.pointer (some ⟨b, 0, none⟩), .int .i64 d, .int .i64 u, .bool lic] 75) := ⟨_, rfl⟩
  obtain ⟨b1, hb1⟩ : ∃ x, x = w.heap.size := ⟨_, rfl⟩
  have HO : Hid (Owns w W1 [blk b1 (eobj b d u lic)]) := by
    rw [hW1, hb1]
    exact Lib.hid ((Owns.start w).box (eobj b d u lic))
  obtain ⟨m, hm⟩ : ∃ m, m = a.ms.length := ⟨_, rfl⟩
  have HM := Lib.hid hm
  clear hm
  go_enter Tryd.func27, Tryd.ntmps27
  go_wp2_with fail
  rw [← hW1, ← hb1]
  clear hW1 hb1
  rw [← HM.out] at hl hm9
  refine wp_region_can [] (List.range 19) (by decide +kernel) (by decide +kernel) ?_
  replace HO := Lib.hid HO.out.drew
  generalize hWd : World.drew _ = W2 at HO ⊢
  clear hWd
  -- the account's cells; HO.out.base the world's facts
  have hA := HA.out.below HO.out.base
  have hb0 := lt_of_block hA.obj
  have d2 : W2.cell? ⟨b, 2, none⟩ = some (.slice (some ⟨g, o, none⟩) m c) := by rw [cell_of_heap hA.obj, HM.out]; rfl
  obtain ⟨d0, d1⟩ := hA.cells _ x HX.out
  rw [← HM.out] at d0 d1
  have hg := hA.lt
  obtain ⟨k, hk⟩ : ∃ k : Nat, k = m - 1 := ⟨_, rfl⟩
  rw [← hk] at d0 d1
  have hk2 : (m : Int) - 1 = (k : Int) := by omega
  have hk3 : k < m := by omega
  have hk4 : (k : Int) < (m : Int) := by omega
  clear hk hA
  obtain ⟨bk, -⟩ := HO.out.blk
  have hbe := lt_of_block bk
  have ce0 := cell_of_heap bk (i := 0)
  have ce1 := cell_of_heap bk (i := 1)
  have ce2 := cell_of_heap bk (i := 2)
  have ce3 := cell_of_heap bk (i := 3)
  simp only [List.getElem?_toArray, List.getElem?_cons_succ, List.getElem?_cons_zero] at ce0 ce1 ce2 ce3
  clear bk
  iterate 18 (first | (refine cl_do rfl rfl rfl (by first | rfl | simp [okB, lenV, plainV, Act.eval]) (fun _ _ => ?_); go_wp2_with fail) | (refine cl_yes rfl rfl rfl rfl (by first | rfl | simp [okB, lenV, plainV, Act.eval]) (fun _ _ => ?_); go_wp2_with fail) | (refine cl_no rfl rfl rfl ?_; go_simp))
  by_cases h : d < x.1
  · have HE : Hid (ordE a d = 14) := by show _ = _; unfold ordE; rw [HL.out, if_pos h]
    iterate 1 (first | (refine cl_do rfl rfl rfl (by first | rfl | simp [okB, lenV, plainV, Act.eval]) (fun _ _ => ?_); go_wp2_with fail) | (refine cl_yes rfl rfl rfl rfl (by first | rfl | simp [okB, lenV, plainV, Act.eval]) (fun _ _ => ?_); go_wp2_with fail) | (refine cl_no rfl rfl rfl ?_; go_simp))
    refine cl_nil ?_
    go_wp2_with fail
    go_ret
    exact ⟨by rw [HE.out]; rfl, HO.out.base⟩
  · have HE : Hid (ordE a d = 0) := by show _ = _; unfold ordE; rw [HL.out, if_neg h]
    iterate 1 (first | (refine cl_do rfl rfl rfl (by first | rfl | simp [okB, lenV, plainV, Act.eval]) (fun _ _ => ?_); go_wp2_with fail) | (refine cl_yes rfl rfl rfl rfl (by first | rfl | simp [okB, lenV, plainV, Act.eval]) (fun _ _ => ?_); go_wp2_with fail) | (refine cl_no rfl rfl rfl ?_; go_simp))
    refine cl_nil ?_
    go_wp2_with fail
    go_ret
    exact ⟨by rw [HE.out]; rfl, HO.out.base⟩
set_option maxHeartbeats 2000000 in
theorem covered_c (d u : Int) (lic : Bool) (w : World) (ha : AccIn w b a g o c) (hn : a.ms ≠ []) (hs : Slim a.ms) (hu : -MU ≤ u ∧ u ≤ MU) :
    Calls Tryd.prog 30 #[eval75 b d u lic] w fun e w' => e = .returned (.int .i64 (covE a u : Nat)) ∧ Below w.heap.size w w' := by
  have HA := Lib.hid ha
  have HS := Lib.hid hs
  have HNn := Lib.hid hn
  have e1 : MU = 1000000000000 := rfl
  have hT := hs.tot_take a.ms.length
  rw [List.take_length] at hT
  rw [e1] at hu hT
  obtain ⟨T, hTT⟩ : ∃ T, T = tot a.ms := ⟨_, rfl⟩
  rw [← hTT] at hT
  have HT := Lib.hid hTT
  clear hTT ha hn hs e1
  -- the entry's box; covered the function
  obtain ⟨W1, hW1⟩ : ∃ W, W = w.alloc (.cells #[.pointer (some ⟨b, 0, none⟩), .int .i64 d, .int .i64 u, .bool lic] 75) := ⟨_, rfl⟩
  obtain ⟨b1, hb1⟩ : ∃ x, x = w.heap.size := ⟨_, rfl⟩
  have HO : Hid (Owns w W1 [blk b1 (eobj b d u lic)]) := by
    rw [hW1, hb1]
    exact Lib.hid ((Owns.start w).box (eobj b d u lic))
  obtain ⟨m, hm⟩ : ∃ m, m = a.ms.length := ⟨_, rfl⟩
  have HM := Lib.hid hm
  clear hm
  go_enter Tryd.func30, Tryd.ntmps30
  go_wp2_with fail
  rw [← hW1, ← hb1]
  clear hW1 hb1
  refine wp_region_can [2] [0, 1, 3, 4, 5, 2, 6, 7] (by decide +kernel) (by decide +kernel) ?_
  replace HO := Lib.hid HO.out.drew
  generalize hWd : World.drew _ = W2 at HO ⊢
  clear hWd
  obtain ⟨bk, -⟩ := HO.out.blk
  have hbe := lt_of_block bk
  have ce0 := cell_of_heap bk (i := 0)
  have ce1 := cell_of_heap bk (i := 1)
  have ce2 := cell_of_heap bk (i := 2)
  have ce3 := cell_of_heap bk (i := 3)
  simp only [List.getElem?_toArray, List.getElem?_cons_succ, List.getElem?_cons_zero] at ce0 ce1 ce2 ce3
  clear bk
  iterate 5 (first | (refine cl_do rfl rfl rfl (by first | rfl | simp [okB, lenV, plainV, Act.eval]) (fun _ _ => ?_); go_wp2_with fail) | (refine cl_yes rfl rfl rfl rfl (by first | rfl | simp [okB, lenV, plainV, Act.eval]) (fun _ _ => ?_); go_wp2_with fail) | (refine cl_no rfl rfl rfl ?_; go_simp))
  clear hbe ce0 ce1 ce2 ce3
  refine cl_call (i := 2) rfl rfl rfl (fun K hK => ?_)
  go_wp2_with fail
  go_at_call 26
  refine (sum_c b a g o c W2 (HA.out.below HO.out.base) HS.out HNn.out).mono ?_
  rintro e W3 ⟨rfl, hb⟩
  replace HO := Lib.hid (HO.out.below hb)
  rw [← HT.out]
  have Hb := Lib.hid hb
  clear hb
  go_wp2_with fail
  refine And.intro Hb.out ?_
  clear Hb
  by_cases h : T + u < 0
  · have HE : Hid (covE a u = 21) := by show _ = _; unfold covE; rw [← HT.out, if_pos h]
    iterate 2 (first | (refine cl_do rfl rfl rfl (by first | rfl | simp [okB, lenV, plainV, Act.eval]) (fun _ _ => ?_); go_wp2_with fail) | (refine cl_yes rfl rfl rfl rfl (by first | rfl | simp [okB, lenV, plainV, Act.eval]) (fun _ _ => ?_); go_wp2_with fail) | (refine cl_no rfl rfl rfl ?_; go_simp))
    refine cl_nil ?_
    go_wp2_with fail
    go_ret
    exact ⟨by rw [HE.out]; rfl, HO.out.base⟩
  · have HE : Hid (covE a u = 0) := by show _ = _; unfold covE; rw [← HT.out, if_neg h]
    iterate 2 (first | (refine cl_do rfl rfl rfl (by first | rfl | simp [okB, lenV, plainV, Act.eval]) (fun _ _ => ?_); go_wp2_with fail) | (refine cl_yes rfl rfl rfl rfl (by first | rfl | simp [okB, lenV, plainV, Act.eval]) (fun _ _ => ?_); go_wp2_with fail) | (refine cl_no rfl rfl rfl ?_; go_simp))
    refine cl_nil ?_
    go_wp2_with fail
    go_ret
    exact ⟨by rw [HE.out]; rfl, HO.out.base⟩
set_option maxRecDepth 100000 in
set_option maxHeartbeats 2000000 in
theorem bounded_c (d u : Int) (lic : Bool) (w : World) (ha : AccIn w b a g o c) (hn : a.ms ≠ []) (hs : Slim a.ms) (hu : -MU ≤ u ∧ u ≤ MU) :
    Calls Tryd.prog 31 #[eval75 b d u lic] w fun e w' => e = .returned (.int .i64 (bndE a u : Nat)) ∧ Below w.heap.size w w' := by
  have HA := Lib.hid ha
  have HS := Lib.hid hs
  have HNn := Lib.hid hn
  have e1 : MU = 1000000000000 := rfl
  have hT := hs.tot_take a.ms.length
  have hm9 : a.ms.length ≤ 1000 := hs.2
  rw [List.take_length] at hT
  rw [e1] at hu hT
  obtain ⟨T, hTT⟩ : ∃ T, T = tot a.ms := ⟨_, rfl⟩
  rw [← hTT] at hT
  have HT := Lib.hid hTT
  have HU : Hid (MU = 1000000000000) := rfl
  clear hTT ha hn hs e1
  -- the entry's box; bounded the function
  obtain ⟨W1, hW1⟩ : ∃ W, W = w.alloc (.cells #[.pointer (some ⟨b, 0, none⟩), .int .i64 d, .int .i64 u, .bool lic] 75) := ⟨_, rfl⟩
  obtain ⟨b1, hb1⟩ : ∃ x, x = w.heap.size := ⟨_, rfl⟩
  have HO : Hid (Owns w W1 [blk b1 (eobj b d u lic)]) := by
    rw [hW1, hb1]
    exact Lib.hid ((Owns.start w).box (eobj b d u lic))
  obtain ⟨m, hm⟩ : ∃ m, m = a.ms.length := ⟨_, rfl⟩
  have HM := Lib.hid hm
  clear hm
  go_enter Tryd.func31, Tryd.ntmps31
  go_wp2_with fail
  rw [← hW1, ← hb1]
  clear hW1 hb1
  rw [← HM.out] at hm9
  refine wp_region_can [10] [0, 1, 2, 3, 4, 5, 6, 7, 8, 9, 11, 12, 13, 10, 14, 15, 16] (by decide +kernel) (by decide +kernel) ?_
  replace HO := Lib.hid HO.out.drew
  generalize hWd : World.drew _ = W2 at HO ⊢
  clear hWd
  by_cases h : 1000 ≤ m
  · have HE : Hid (bndE a u = 2) := by show _ = _; unfold bndE; rw [← HM.out, if_pos (.inl h)]
    have h' : (1000 : Int) ≤ (m : Int) := by omega
    clear h
    -- the account's cells; HO.out.base the world's facts
    have hA := HA.out.below HO.out.base
    have hb0 := lt_of_block hA.obj
    have d2 : W2.cell? ⟨b, 2, none⟩ = some (.slice (some ⟨g, o, none⟩) m c) := by rw [cell_of_heap hA.obj, HM.out]; rfl
    clear hA
    obtain ⟨bk, -⟩ := HO.out.blk
    have hbe := lt_of_block bk
    have ce0 := cell_of_heap bk (i := 0)
    have ce1 := cell_of_heap bk (i := 1)
    have ce2 := cell_of_heap bk (i := 2)
    have ce3 := cell_of_heap bk (i := 3)
    simp only [List.getElem?_toArray, List.getElem?_cons_succ, List.getElem?_cons_zero] at ce0 ce1 ce2 ce3
    clear bk
    iterate 17 (first | (refine cl_do rfl rfl rfl (by first | rfl | simp [okB, lenV, plainV, Act.eval]) (fun _ _ => ?_); go_wp2_with fail) | (refine cl_yes rfl rfl rfl rfl (by first | rfl | simp [okB, lenV, plainV, Act.eval]) (fun _ _ => ?_); go_wp2_with fail) | (refine cl_no rfl rfl rfl ?_; go_simp))
    refine cl_nil ?_
    go_wp2_with fail
    go_ret
    exact ⟨by rw [HE.out]; rfl, HO.out.base⟩
  have h' : ¬ (1000 : Int) ≤ (m : Int) := by omega
  focus
    -- the account's cells; HO.out.base the world's facts
    have hA := HA.out.below HO.out.base
    have hb0 := lt_of_block hA.obj
    have d2 : W2.cell? ⟨b, 2, none⟩ = some (.slice (some ⟨g, o, none⟩) m c) := by rw [cell_of_heap hA.obj, HM.out]; rfl
    clear hA
    obtain ⟨bk, -⟩ := HO.out.blk
    have hbe := lt_of_block bk
    have ce0 := cell_of_heap bk (i := 0)
    have ce1 := cell_of_heap bk (i := 1)
    have ce2 := cell_of_heap bk (i := 2)
    have ce3 := cell_of_heap bk (i := 3)
    simp only [List.getElem?_toArray, List.getElem?_cons_succ, List.getElem?_cons_zero] at ce0 ce1 ce2 ce3
    clear bk
    iterate 7 (first | (refine cl_do rfl rfl rfl (by first | rfl | simp [okB, lenV, plainV, Act.eval]) (fun _ _ => ?_); go_wp2_with fail) | (refine cl_yes rfl rfl rfl rfl (by first | rfl | simp [okB, lenV, plainV, Act.eval]) (fun _ _ => ?_); go_wp2_with fail) | (refine cl_no rfl rfl rfl ?_; go_simp))
    rw [show decide ((1000 : Int) ≤ (m : Int)) = false from decide_eq_false (by omega)]
    iterate 6 (first | (refine cl_do rfl rfl rfl (by first | rfl | simp [okB, lenV, plainV, Act.eval]) (fun _ _ => ?_); go_wp2_with fail) | (refine cl_yes rfl rfl rfl rfl (by first | rfl | simp [okB, lenV, plainV, Act.eval]) (fun _ _ => ?_); go_wp2_with fail) | (refine cl_no rfl rfl rfl ?_; go_simp))
    clear hbe ce0 ce1 ce2 ce3
    clear hb0 d2
  refine cl_ycall (i := 10) rfl rfl rfl rfl (fun K hK => ?_)
  go_wp2_with fail
  go_at_call 26
  refine (sum_c b a g o c W2 (HA.out.below HO.out.base) HS.out HNn.out).mono ?_
  rintro e W3 ⟨rfl, hb⟩
  replace HO := Lib.hid (HO.out.below hb)
  rw [← HT.out]
  have Hb := Lib.hid hb
  clear hb
  go_wp2_with fail
  refine And.intro Hb.out ?_
  clear Hb
  by_cases h2 : 1000000000000 < T + u
  · have HE : Hid (bndE a u = 2) := by show _ = _; unfold bndE; rw [← HT.out, HU.out, if_pos (.inr h2)]
    iterate 3 (first | (refine cl_do rfl rfl rfl (by first | rfl | simp [okB, lenV, plainV, Act.eval]) (fun _ _ => ?_); go_wp2_with fail) | (refine cl_yes rfl rfl rfl rfl (by first | rfl | simp [okB, lenV, plainV, Act.eval]) (fun _ _ => ?_); go_wp2_with fail) | (refine cl_no rfl rfl rfl ?_; go_simp))
    refine cl_nil ?_
    go_wp2_with fail
    go_ret
    exact ⟨by rw [HE.out]; rfl, HO.out.base⟩
  · have HE : Hid (bndE a u = 0) := by
      show _ = _
      unfold bndE
      rw [← HT.out, HU.out, ← HM.out, if_neg (by omega)]
    iterate 3 (first | (refine cl_do rfl rfl rfl (by first | rfl | simp [okB, lenV, plainV, Act.eval]) (fun _ _ => ?_); go_wp2_with fail) | (refine cl_yes rfl rfl rfl rfl (by first | rfl | simp [okB, lenV, plainV, Act.eval]) (fun _ _ => ?_); go_wp2_with fail) | (refine cl_no rfl rfl rfl ?_; go_simp))
    refine cl_nil ?_
    go_wp2_with fail
    go_ret
    exact ⟨by rw [HE.out]; rfl, HO.out.base⟩
end
theorem info_mv : (Tryd.prog.info? 54).map (fun i => (i.zero, i.size, i.bytes)) = some (some (.agg #[.int .i64 0, .int .i64 0]), 2, 16) := by kernel_rfl
theorem idx0 (f0 f1 f2 f3 f4 : Value) (W : World) : (Instr.index 79 (.agg #[f0, f1, f2, f3, f4]) (.int .i64 0)).run Tryd.prog W = .ok f0 W := by kernel_rfl
theorem idx1 (f0 f1 f2 f3 f4 : Value) (W : World) : (Instr.index 79 (.agg #[f0, f1, f2, f3, f4]) (.int .i64 1)).run Tryd.prog W = .ok f1 W := by kernel_rfl
theorem idx2 (f0 f1 f2 f3 f4 : Value) (W : World) : (Instr.index 79 (.agg #[f0, f1, f2, f3, f4]) (.int .i64 2)).run Tryd.prog W = .ok f2 W := by kernel_rfl
theorem idx3 (f0 f1 f2 f3 f4 : Value) (W : World) : (Instr.index 79 (.agg #[f0, f1, f2, f3, f4]) (.int .i64 3)).run Tryd.prog W = .ok f3 W := by kernel_rfl
theorem idx4 (f0 f1 f2 f3 f4 : Value) (W : World) : (Instr.index 79 (.agg #[f0, f1, f2, f3, f4]) (.int .i64 4)).run Tryd.prog W = .ok f4 W := by kernel_rfl
theorem open_b {w0 : World} {ps : List Piece} {b : Nat} {a : Acc} (w : World) (h : Owns w0 w (accP b a :: ps)) : Calls Tryd.prog 21 #[.pointer (some ⟨b, 0, none⟩)] w fun e w' => e = .returned (.int .i64 (opnE a : Nat)) ∧ Below w.heap.size w w' := by
  obtain ⟨v, hv⟩ := h.acc
  exact (open_c w hv).mono (by rintro e w' ⟨rfl, rfl⟩; exact ⟨rfl, Below.refl _ _⟩)
theorem allowed_b (p d u : Value) (lic : Bool) (w : World) : Calls Tryd.prog 29 #[.agg #[p, d, u, .bool lic]] w fun e w' => e = .returned (.int .i64 (alwE lic : Nat)) ∧ Below w.heap.size w w' :=
  (allowed_c p d u lic w).mono (by rintro e w' ⟨rfl, hb⟩; exact ⟨by cases lic <;> rfl, hb⟩)
set_option maxRecDepth 100000 in
set_option maxHeartbeats 4000000 in
theorem add_c {w0 : World} {ps : List Piece} {b : Nat} {a : Acc} (d u : Int) (lic : Bool) (w : World) (h : Owns w0 w (accP b a :: ps)) (hg : GoodA a) (hu : -MU ≤ u ∧ u ≤ MU) :
    Calls Tryd.prog 19 #[.pointer (some ⟨b, 0, none⟩), .int .i64 d, .int .i64 u, .bool lic] w fun e w' => e = .returned (.int .i64 (addE a d u lic : Nat)) ∧ Owns w0 w' (accP b (addA a d u lic) :: ps) := by
  have HG := Lib.hid hg
  have HU := Lib.hid hu
  have HF := Lib.hid (addE_first a d u lic)
  obtain ⟨W1, hW1⟩ : ∃ W, W = w.alloc (.cells #[.pointer (some ⟨b, 0, none⟩), .int .i64 d, .int .i64 u, .bool lic] 75) := ⟨_, rfl⟩
  obtain ⟨b1, hb1⟩ : ∃ x, x = w.heap.size := ⟨_, rfl⟩
  have HO : Hid (Owns w0 W1 (blk b1 (eobj b d u lic) :: accP b a :: ps)) := by
    rw [hW1, hb1]
    exact Lib.hid (h.box (eobj b d u lic))
  obtain ⟨g, o, c, hi⟩ := acc_in HO.out.pop hg.some
  have HI := Lib.hid hi
  clear h hg hu hi
  go_enter Tryd.func19, Tryd.ntmps19
  go_upto_region 2 with fail
  rw [← hW1, ← hb1]
  clear hW1 hb1
  focus
    obtain ⟨bk, -⟩ := HO.out.blk
    have hbe := lt_of_block bk
    have ce0 := cell_of_heap bk (i := 0)
    have ce1 := cell_of_heap bk (i := 1)
    have ce2 := cell_of_heap bk (i := 2)
    have ce3 := cell_of_heap bk (i := 3)
    simp only [List.getElem?_toArray, List.getElem?_cons_succ, List.getElem?_cons_zero] at ce0 ce1 ce2 ce3
    clear bk
    go_wp2_with fail
    clear hbe ce0 ce1 ce2 ce3
  refine wp_loop_rounds 6 ?_
  -- one check: (*frozen.Account).open the function, open_b W1 HO.out.pop its contract, opnE a its error, W2 the next world, W1 the names for the proof
  rw [rounds_succ]
  have hix := idx0 (.func (.func 21) #[.pointer (some ⟨b, 0, none⟩)] #[]) (.func (.func 29) #[eval75 b d u lic] #[]) (.func (.func 27) #[eval75 b d u lic] #[]) (.func (.func 30) #[eval75 b d u lic] #[]) (.func (.func 31) #[eval75 b d u lic] #[]) W1
  go_wp2_with fail
  clear hix
  go_at_call 21
  refine (open_b W1 HO.out.pop).mono ?_
  rintro e W2 ⟨rfl, hb⟩
  replace HI := Lib.hid (HI.out.below hb)
  replace HO := Lib.hid (HO.out.below hb)
  clear hb
  obtain ⟨E, hE⟩ : ∃ E, E = opnE a := ⟨_, rfl⟩
  rw [← hE] at HF ⊢
  by_cases h0 : E = 0
  rotate_left
  · have h0' : ((E : Int) != 0) = true := by simp; omega
    have HR : Hid (addE a d u lic = E) := by show _ = _; rw [HF.out, if_pos h0]
    have HO2 : Hid (Owns w0 W2 (accP b (addA a d u lic) :: ps)) := by
      unfold addA
      rw [HR.out, if_neg h0]
      exact Lib.hid HO.out.pop
    clear HF h0 hE
    go_wp2_with fail
    go_ret
    exact ⟨by rw [HR.out]; rfl, HO2.out⟩
  replace HF : Hid (addE a d u lic = _) := Lib.hid (HF.out.trans (if_neg (by simpa using h0)))
  subst h0
  clear hE
  go_wp2_with fail
  -- one check: (frozen.entry).allowed the function, allowed_b _ _ _ lic W2 its contract, alwE lic its error, W3 the next world, W2 the names for the proof
  rw [rounds_succ]
  have hix := idx1 (.func (.func 21) #[.pointer (some ⟨b, 0, none⟩)] #[]) (.func (.func 29) #[eval75 b d u lic] #[]) (.func (.func 27) #[eval75 b d u lic] #[]) (.func (.func 30) #[eval75 b d u lic] #[]) (.func (.func 31) #[eval75 b d u lic] #[]) W2
  go_wp2_with fail
  clear hix
  go_at_call 29
  refine (allowed_b _ _ _ lic W2).mono ?_
  rintro e W3 ⟨rfl, hb⟩
  replace HI := Lib.hid (HI.out.below hb)
  replace HO := Lib.hid (HO.out.below hb)
  clear hb
  obtain ⟨E, hE⟩ : ∃ E, E = alwE lic := ⟨_, rfl⟩
  rw [← hE] at HF ⊢
  by_cases h0 : E = 0
  rotate_left
  · have h0' : ((E : Int) != 0) = true := by simp; omega
    have HR : Hid (addE a d u lic = E) := by show _ = _; rw [HF.out, if_pos h0]
    have HO2 : Hid (Owns w0 W3 (accP b (addA a d u lic) :: ps)) := by
      unfold addA
      rw [HR.out, if_neg h0]
      exact Lib.hid HO.out.pop
    clear HF h0 hE
    go_wp2_with fail
    go_ret
    exact ⟨by rw [HR.out]; rfl, HO2.out⟩
  replace HF : Hid (addE a d u lic = _) := Lib.hid (HF.out.trans (if_neg (by simpa using h0)))
  subst h0
  clear hE
  go_wp2_with fail
  -- one check: (frozen.entry).ordered the function, ordered_c d u lic W3 HI.out HG.out.some HG.out.slim its contract, ordE a d its error, W4 the next world, W3 the names for the proof
  rw [rounds_succ]
  have hix := idx2 (.func (.func 21) #[.pointer (some ⟨b, 0, none⟩)] #[]) (.func (.func 29) #[eval75 b d u lic] #[]) (.func (.func 27) #[eval75 b d u lic] #[]) (.func (.func 30) #[eval75 b d u lic] #[]) (.func (.func 31) #[eval75 b d u lic] #[]) W3
  go_wp2_with fail
  clear hix
  go_at_call 27
  refine (ordered_c d u lic W3 HI.out HG.out.some HG.out.slim).mono ?_
  rintro e W4 ⟨rfl, hb⟩
  replace HI := Lib.hid (HI.out.below hb)
  replace HO := Lib.hid (HO.out.below hb)
  clear hb
  obtain ⟨E, hE⟩ : ∃ E, E = ordE a d := ⟨_, rfl⟩
  rw [← hE] at HF ⊢
  by_cases h0 : E = 0
  rotate_left
  · have h0' : ((E : Int) != 0) = true := by simp; omega
    have HR : Hid (addE a d u lic = E) := by show _ = _; rw [HF.out, if_pos h0]
    have HO2 : Hid (Owns w0 W4 (accP b (addA a d u lic) :: ps)) := by
      unfold addA
      rw [HR.out, if_neg h0]
      exact Lib.hid HO.out.pop
    clear HF h0 hE
    go_wp2_with fail
    go_ret
    exact ⟨by rw [HR.out]; rfl, HO2.out⟩
  replace HF : Hid (addE a d u lic = _) := Lib.hid (HF.out.trans (if_neg (by simpa using h0)))
  subst h0
  clear hE
  go_wp2_with fail
  -- one check: (frozen.entry).covered the function, covered_c d u lic W4 HI.out HG.out.some HG.out.slim HU.out its contract, covE a u its error, W5 the next world, W4 the names for the proof
  rw [rounds_succ]
  have hix := idx3 (.func (.func 21) #[.pointer (some ⟨b, 0, none⟩)] #[]) (.func (.func 29) #[eval75 b d u lic] #[]) (.func (.func 27) #[eval75 b d u lic] #[]) (.func (.func 30) #[eval75 b d u lic] #[]) (.func (.func 31) #[eval75 b d u lic] #[]) W4
  go_wp2_with fail
  clear hix
  go_at_call 30
  refine (covered_c d u lic W4 HI.out HG.out.some HG.out.slim HU.out).mono ?_
  rintro e W5 ⟨rfl, hb⟩
  replace HI := Lib.hid (HI.out.below hb)
  replace HO := Lib.hid (HO.out.below hb)
  clear hb
  obtain ⟨E, hE⟩ : ∃ E, E = covE a u := ⟨_, rfl⟩
  rw [← hE] at HF ⊢
  by_cases h0 : E = 0
  rotate_left
  · have h0' : ((E : Int) != 0) = true := by simp; omega
    have HR : Hid (addE a d u lic = E) := by show _ = _; rw [HF.out, if_pos h0]
    have HO2 : Hid (Owns w0 W5 (accP b (addA a d u lic) :: ps)) := by
      unfold addA
      rw [HR.out, if_neg h0]
      exact Lib.hid HO.out.pop
    clear HF h0 hE
    go_wp2_with fail
    go_ret
    exact ⟨by rw [HR.out]; rfl, HO2.out⟩
  replace HF : Hid (addE a d u lic = _) := Lib.hid (HF.out.trans (if_neg (by simpa using h0)))
  subst h0
  clear hE
  go_wp2_with fail
  rw [rounds_succ]
  have hix := idx4 (.func (.func 21) #[.pointer (some ⟨b, 0, none⟩)] #[]) (.func (.func 29) #[eval75 b d u lic] #[]) (.func (.func 27) #[eval75 b d u lic] #[]) (.func (.func 30) #[eval75 b d u lic] #[]) (.func (.func 31) #[eval75 b d u lic] #[]) W5
  go_wp2_with fail
  clear hix
  go_at_call 31
  refine (bounded_c d u lic W5 HI.out HG.out.some HG.out.slim HU.out).mono ?_
  rintro e W6 ⟨rfl, hb⟩
  replace HI := Lib.hid (HI.out.below hb)
  replace HO := Lib.hid (HO.out.below hb)
  clear hb
  obtain ⟨E, hE⟩ : ∃ E, E = bndE a u := ⟨_, rfl⟩
  rw [← hE] at HF ⊢
  by_cases h0 : E = 0
  rotate_left
  · have h0' : ((E : Int) != 0) = true := by simp; omega
    have HR : Hid (addE a d u lic = E) := HF
    have HO2 : Hid (Owns w0 W6 (accP b (addA a d u lic) :: ps)) := by
      unfold addA
      rw [HR.out, if_neg h0]
      exact Lib.hid HO.out.pop
    clear HF h0 hE
    go_wp2_with fail
    go_ret
    exact ⟨by rw [HR.out]; rfl, HO2.out⟩
  have HR : Hid (addE a d u lic = 0) := Lib.hid (HF.out.trans h0)
  have HA2 : Hid (addA a d u lic = { a with ms := a.ms ++ [(d, u)] }) := by
    show _ = _
    unfold addA
    rw [HR.out]; rfl
  have hlen : a.ms.length < 1000 := by
    have h1 : bndE a u = 0 := by rw [← hE]; exact h0
    unfold bndE at h1
    split at h1
    · cases h1
    · rename_i h2; simp at h2; exact h2.1
  subst h0
  clear hE HF
  go_wp2_with fail
  rw [rounds_succ]
  go_wp2_with fail
  obtain ⟨v, hv⟩ := HO.out.swap.acc
  obtain ⟨gv, cv, rfl, -, -, -, -, -⟩ := row_at hv.pop.row (List.length_pos_iff.2 HG.out.some)
  obtain ⟨n, hn⟩ : ∃ n, n = a.ms.length := ⟨_, rfl⟩
  have HN := Lib.hid hn
  rw [← hn] at hlen
  replace HO : Hid (Owns w0 W6 (rowP 54 2 (.slice (some ⟨gv, 0, none⟩) n cv) n (mcs a.ms) :: blk b (aobj a (.slice (some ⟨gv, 0, none⟩) n cv)) :: blk b1 (eobj b d u lic) :: ps)) := by rw [hn]; exact Lib.hid hv.swap
  clear hv hn
  refine wp_region_can [] (List.range 12) (by decide +kernel) (by decide +kernel) ?_
  replace HO := Lib.hid HO.out.drew
  generalize hWd : World.drew _ = W7 at HO ⊢
  clear hWd
  focus
    obtain ⟨bk, -⟩ := HO.out.pop.blk
    have hba := lt_of_block bk
    have ca0 := cell_of_heap bk (i := 0)
    have ca1 := cell_of_heap bk (i := 1)
    have ca2 := cell_of_heap bk (i := 2)
    have ca3 := cell_of_heap bk (i := 3)
    have fa2 := free_of_heap bk (i := 2)
    have fa3 := free_of_heap bk (i := 3)
    simp only [List.getElem?_toArray, List.getElem?_cons_succ, List.getElem?_cons_zero] at ca0 ca1 ca2 ca3
    clear bk
    obtain ⟨bk, -⟩ := HO.out.pop.pop.blk
    have hbe := lt_of_block bk
    have ce0 := cell_of_heap bk (i := 0)
    have ce1 := cell_of_heap bk (i := 1)
    have ce2 := cell_of_heap bk (i := 2)
    have ce3 := cell_of_heap bk (i := 3)
    simp only [List.getElem?_toArray, List.getElem?_cons_succ, List.getElem?_cons_zero] at ce0 ce1 ce2 ce3
    clear bk
    iterate 7 (refine cl_do rfl rfl rfl (by first | rfl | simp [okB, lenV, plainV, Act.eval]) (fun _ _ => ?_); go_wp2_with fail)
    clear hba ca0 ca1 ca2 ca3 fa2 fa3
    clear hbe ce0 ce1 ce2 ce3
  refine cl_do (i := 7) rfl rfl rfl rfl (fun _ _ => ?_)
  have hoA := HO.out.box (.cells #[.int .i64 d, .int .i64 u] 54 (0, 0))
  obtain ⟨g1, hg1⟩ : ∃ g, g = W7.heap.size := ⟨_, rfl⟩
  obtain ⟨W8, hW8⟩ : ∃ W, W = W7.alloc (.cells #[.int .i64 d, .int .i64 u] 54) := ⟨_, rfl⟩
  rw [← hW8, ← hg1] at hoA
  replace HO := Lib.hid (Owns.re hoA [1, 0, 2])
  clear hoA
  go_wp2_with fail
  rw [← hW8, ← hg1]
  clear hW8 hg1
  refine cl_do (i := 8) rfl rfl rfl rfl (fun K hK => ?_)
  refine wp_append (.tmp 43) (.tmp 46) 55 (by rfl) 54 _ 2 16 Tryd.underlying55 info_mv (by rfl) (by omega) _ n _ (by rfl) HO.out.row g1 1 1 (mvl (d, u)) (by rfl) (by rfl) 54 (by exact (Owns.blk HO.out.pop).1) (by simp [mvl, Value.oneCell']) (by omega) (by omega) ?_
  intro v2 w9 hrow hgrow hblk
  have ho2 := Owns.rowGrew HO.out hrow hgrow hblk
  clear hrow hgrow hblk
  obtain ⟨y2, c2, hv2⟩ : ∃ y2 c2, v2 = .slice y2 (n + 1) c2 := by
    rcases ho2.row.2 with ⟨-, h0⟩ | ⟨g', c', cur, hv, -⟩
    · omega
    · exact ⟨_, _, hv⟩
  subst hv2
  obtain ⟨n1, hn1⟩ : ∃ k, k = n + 1 := ⟨_, rfl⟩
  rw [← hn1] at ho2 ⊢
  replace HO := Lib.hid (Owns.re ho2 [2, 0, 3, 1])
  clear ho2
  have h2 := Lib.hid (HO.out.store (i := 2) (.slice y2 n1 c2))
  have HO2 : Hid (Owns w0 (w9.setCell ⟨b, 2, none⟩ (.slice y2 n1 c2)) (accP b (addA a d u lic) :: ps)) := by
    rw [HA2.out]
    have h3 := Owns.re h2.out [0, 1, 3, 2]
    have h4 : Owns w0 (w9.setCell ⟨b, 2, none⟩ (.slice y2 n1 c2)) (blk b (aobj { a with ms := a.ms ++ [(d, u)] } (.slice y2 n1 c2)) :: rowP 54 2 (.slice y2 n1 c2) n1 (mcs a.ms ++ mvl (d, u)) :: blk g1 (.cells #[.int .i64 d, .int .i64 u] 54 (0, 0)) :: blk b1 (eobj b d u lic) :: ps) := h3
    have h5 := Owns.re h4 [3, 2, 0, 1]
    have h6 := h5.pop.pop
    have e1 : n1 = (a.ms ++ [(d, u)]).length := by rw [hn1, HN.out]; simp
    have e2 : mcs a.ms ++ mvl (d, u) = mcs (a.ms ++ [(d, u)]) := by rw [mcs_append]; rfl
    rw [e1, e2] at h6
    rw [e1]
    exact Lib.hid (Owns.asAcc h6)
  clear h2 hn1
  obtain ⟨bk, -⟩ := HO.out.blk
  have hba := lt_of_block bk
  have ca0 := cell_of_heap bk (i := 0)
  have ca1 := cell_of_heap bk (i := 1)
  have ca2 := cell_of_heap bk (i := 2)
  have ca3 := cell_of_heap bk (i := 3)
  have fa2 := free_of_heap bk (i := 2)
  have fa3 := free_of_heap bk (i := 3)
  simp only [List.getElem?_toArray, List.getElem?_cons_succ, List.getElem?_cons_zero] at ca0 ca1 ca2 ca3
  clear bk
  go_wp2_with fail
  iterate 3 (refine cl_do rfl rfl rfl (by first | rfl | simp [okB, lenV, plainV, Act.eval]) (fun _ _ => ?_); go_wp2_with fail)
  refine cl_nil ?_
  go_wp2_with fail
  go_ret
  exact ⟨by rw [HR.out]; rfl, HO2.out⟩
end Go.Proofs.YtlkihpgpcgeogaaDoor
