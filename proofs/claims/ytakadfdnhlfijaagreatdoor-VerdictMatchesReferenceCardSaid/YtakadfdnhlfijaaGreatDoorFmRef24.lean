/-
  The reference's 'Index', 'Valid', 'Fits'.
-/
import Derived.Test.YtakadfdnhlfijaaGreatDoorFmFact
import Derived.Test.YtakadfdnhlfijaaGreatDoorLxA
namespace Go.Proofs.YtakadfdnhlfijaaGreatDoor
open Go.RowKit Go.Cz Go.Cz.Lx Go.Cz.Fo
set_option linter.unusedSimpArgs false
set_option linter.unusedVariables false
attribute [local go_sem] bs_size bs_extract bs_append bs_toList
attribute [local irreducible] cList cPlan
theorem idx_start (d : List Fact) (s : Bytes) : (0 ≤ idxD s (d.drop 0) → idxD s d = idxD s (d.drop 0) + (0 : Nat)) ∧ (idxD s (d.drop 0) < 0 → idxD s d = -1) := by
  have : -1 ≤ idxD s d := by
    induction d with
    | nil => simp [idxD]
    | cons a r ih => rw [idxD]; (repeat' split) <;> omega
  exact ⟨fun _ => by simp, fun h => by simp at h; omega⟩
theorem idx_step {d : List Fact} {s : Bytes} {k : Nat} {x : Fact} (h : (0 ≤ idxD s (d.drop k) → idxD s d = idxD s (d.drop k) + (k : Nat)) ∧ (idxD s (d.drop k) < 0 → idxD s d = -1)) (hx : d[k]? = some x) :
    (x.name = s → idxD s d = k) ∧ (¬ x.name = s → ((0 ≤ idxD s (d.drop (k + 1)) → idxD s d = idxD s (d.drop (k + 1)) + ((k + 1 : Nat) : Int)) ∧ (idxD s (d.drop (k + 1)) < 0 → idxD s d = -1))) := by
  have hdrop : d.drop k = x :: d.drop (k + 1) := by
    obtain ⟨hk2, rfl⟩ := List.getElem?_eq_some_iff.1 hx
    exact List.drop_eq_getElem_cons hk2
  rw [hdrop, idxD] at h
  refine ⟨fun e => ?_, fun e => ?_⟩
  · rw [if_pos e] at h; have := h.1 (by omega); omega
  · rw [if_neg e] at h
    split at h
    · exact ⟨fun h' => by omega, fun _ => h.2 (by omega)⟩
    · exact ⟨fun h' => by have := h.1 (by omega); omega, fun h' => by omega⟩
set_option maxHeartbeats 2000000 in
theorem rIndex_c (d : List Fact) (s : Bytes) (v : Value) (w : World) (hd : IsD w d v) (hx : ∀ x ∈ d, x.name.length ≤ 140737488355328) (h2 : s.length ≤ 140737488355328) (hn : d.length ≤ 1000000) :
    Calls Tryz.prog 71 #[.agg #[v], .string (bs s)] w fun e w' => e = .returned (.int .i64 (idxD s d)) ∧ Below w.heap.size w w' := by
  obtain ⟨y, m, rfl⟩ := hd.form
  have HD := Lib.hid hd
  have HXS := Lib.hid hx
  have HDn := Lib.hid hn
  obtain ⟨N, hN⟩ : ∃ N, N = d.length := ⟨_, rfl⟩
  have HN := Lib.hid hN
  rw [← hN] at HD hn ⊢
  clear hd hx hN
  obtain ⟨bx, hbx⟩ : ∃ bx, bx = w.heap.size := ⟨_, rfl⟩
  obtain ⟨W1, hW1⟩ : ∃ W1, W1 = w.alloc (.cells #[.slice y N m] 25) := ⟨_, rfl⟩
  have HO : Hid (Owns w W1 [blk bx (.cells #[.slice y N m] 25 (0, 0))]) := by
    rw [hW1, hbx]
    exact Lib.hid ((Owns.start w).box _)
  go_enter Tryz.func71, Tryz.ntmps71
  go_wp2_with fail
  rw [← hW1, ← hbx]
  clear hW1 hbx
  have H0 := Lib.hid (idx_start d s)
  go_loopg [5] N (fun gk i wr => ∃ k : Nat, gk = N - k ∧ k ≤ N ∧ i = .int .i64 (k : Int) ∧ Hid ((0 ≤ idxD s (d.drop k) → idxD s d = idxD s (d.drop k) + (k : Nat)) ∧ (idxD s (d.drop k) < 0 → idxD s d = -1)) ∧ Hid (Owns w wr [blk bx (.cells #[.slice y N m] 25 (0, 0))]))
  case atStart => exact ⟨0, rfl, Nat.zero_le _, rfl, H0, HO⟩
  case round =>
    rename_i J1 K1 hJ1 hK1
    clear H0 HO
    obtain ⟨k, rfl, hk, rfl, HI, HO⟩ := hrel
    obtain ⟨bk, -⟩ := HO.out.blk
    have hbx := lt_of_block bk
    have cb0 := cell_of_heap bk (i := 0)
    simp only [List.getElem?_toArray, List.getElem?_cons_succ, List.getElem?_cons_zero] at cb0
    clear bk
    by_cases hlt : k < N
    · obtain ⟨x, hx⟩ : ∃ x, d[k]? = some x := ⟨_, List.getElem?_eq_getElem (by rw [← HN.out]; exact hlt)⟩
      obtain ⟨g, off, rfl, hg, c0, c1, c2, c3⟩ := HD.out.get HO.out.base hx
      have HI2 := Lib.hid (idx_step HI.out hx)
      have HX : x.name.length ≤ 140737488355328 := HXS.out x (List.mem_of_getElem? hx)
      clear hx HI
      by_cases he : x.name = s
      · have HE : Hid (idxD s d = k) := HI2.out.1 he
        have he' : (x.name == s) = true := by simpa using he
        clear hJ1 hK1 he
        go_wp2_with fail
        go_ret
        exact ⟨by rw [HE.out]; rfl, HO.out.base⟩
      · have HI := Lib.hid (HI2.out.2 he)
        have he' : (x.name == s) = false := by simpa using he
        clear he
        go_wp2_with fail
        go_roundg (N - (k + 1))
        case measure => omega
        case rel => exact ⟨k + 1, rfl, by omega, by go_num, HI, HO⟩
    · obtain rfl : k = N := by omega
      have HE : Hid (idxD s d = -1) := by
        have h := HI.out
        rw [HN.out, List.drop_length] at h
        exact h.2 (by simp [idxD])
      clear hJ1 hK1 hlt
      go_wp2_with fail
      go_ret
      exact ⟨by rw [HE.out]; rfl, HO.out.base⟩
/-- Whether the fact at k is good, as the reference has it. -/
def goodR (d : List Fact) (k : Nat) (x : Fact) : Bool := factB x && (nameB x.name && decide (idxD x.name d = k))
theorem idx_lt {s : Bytes} : ∀ {d : List Fact}, idxD s d < d.length
  | [] => by simp [idxD]
  | a :: r => by
    rw [idxD, List.length_cons]
    have := idx_lt (s := s) (d := r)
    (repeat' split) <;> omega
theorem idx_neg {s : Bytes} : ∀ {d : List Fact}, idxD s d < 0 → s ∉ d.map (·.name)
  | [], h => by simp
  | a :: r, h => by
    rw [idxD] at h
    split at h
    · omega
    · rename_i h1
      split at h
      · rename_i h2
        simp only [List.map_cons, List.mem_cons, not_or]
        exact ⟨fun e => h1 e.symm, idx_neg h2⟩
      · omega
theorem idx_mem {s : Bytes} {d : List Fact} (h : s ∈ d.map (·.name)) : 0 ≤ idxD s d := Decidable.byContradiction fun hx => idx_neg (by omega) h
theorem idx_app {s : Bytes} : ∀ {d e : List Fact}, s ∉ d.map (·.name) → idxD s (d ++ e) = if idxD s e < 0 then -1 else idxD s e + d.length
  | [], e, _ => by
    simp
    intro h
    have := (idx_start e s).2 (by simpa using h)
    simpa using this
  | a :: r, e, h => by
    simp only [List.map_cons, List.mem_cons, not_or] at h
    rw [List.cons_append, idxD, if_neg (fun x => h.1 x.symm), idx_app h.2, List.length_cons]
    (repeat' split) <;> omega
theorem idx_app2 {s : Bytes} : ∀ {d e : List Fact}, s ∈ d.map (·.name) → idxD s (d ++ e) = idxD s d
  | [], e, h => by simp at h
  | a :: r, e, h => by
    rw [List.cons_append, idxD, idxD]
    by_cases h1 : a.name = s
    · rw [if_pos h1, if_pos h1]
    · rw [if_neg h1, if_neg h1]
      rw [idx_app2 (d := r) (by
        simp only [List.map_cons, List.mem_cons] at h
        exact h.resolve_left fun x => h1 x.symm)]
/-- A name comes first at k exactly if none before is the same. -/
theorem idx_first {d : List Fact} {k : Nat} {x : Fact} (hx : d[k]? = some x) : idxD x.name d = k ↔ x.name ∉ (d.take k).map (·.name) := by
  obtain ⟨hk, rfl⟩ := List.getElem?_eq_some_iff.1 hx
  have hs : d = d.take k ++ d.drop k := (List.take_append_drop k d).symm
  have hd : idxD d[k].name (d.drop k) = 0 := by rw [List.drop_eq_getElem_cons hk, idxD, if_pos rfl]
  have hl : (d.take k).length = k := by rw [List.length_take]; omega
  constructor
  · intro h hm
    have h1 : idxD d[k].name d = idxD d[k].name (d.take k) := by
      have := idx_app2 (e := d.drop k) hm
      rwa [← hs] at this
    have h2 := idx_lt (s := d[k].name) (d := d.take k)
    omega
  · intro h
    have h1 := idx_app (e := d.drop k) h
    rw [← hs, hd, hl] at h1
    simpa using h1
theorem goodR_all {d : List Fact} : ∀ (n k : Nat), d.length = n + k → (validL ((d.take k).map (·.name)).reverse (d.drop k) = true ↔ ∀ j x, k ≤ j → d[j]? = some x → goodR d j x = true)
  | 0, k, h => by
    have : d.drop k = [] := List.drop_eq_nil_of_le (by omega)
    rw [this, validL]
    refine ⟨fun _ j x hj hx => ?_, fun _ => rfl⟩
    have := (List.getElem?_eq_some_iff.1 hx).1
    omega
  | n + 1, k, h => by
    have hk : k < d.length := by omega
    have hx : d[k]? = some d[k] := List.getElem?_eq_getElem hk
    rw [seen_step hx, Bool.and_eq_true, Bool.and_eq_true, Bool.and_eq_true, goodR_all n (k + 1) (by omega)]
    have hc : (!((d.take k).map (·.name)).reverse.contains d[k].name) = true ↔ idxD d[k].name d = k := by
      rw [idx_first hx]
      simp
    rw [hc]
    constructor
    · rintro ⟨h1, h2, h3, h4⟩ j x hj hx2
      rcases Nat.eq_or_lt_of_le hj with rfl | hj
      · rw [hx] at hx2
        cases hx2
        unfold goodR
        rw [h1, h2, decide_eq_true h3]; rfl
      · exact h4 j x hj hx2
    · intro h1
      have h2 := h1 k _ (Nat.le_refl _) hx
      unfold goodR at h2
      rw [Bool.and_eq_true, Bool.and_eq_true, decide_eq_true_eq] at h2
      exact ⟨h2.1, h2.2.1, h2.2.2, fun j x hj hx2 => h1 j x (by omega) hx2⟩
theorem validR {d : List Fact} : validL [] d = true ↔ ∀ j x, d[j]? = some x → goodR d j x = true := by
  have := goodR_all (d := d) d.length 0 (by omega)
  simpa using this
theorem validR_bad {d : List Fact} {k : Nat} {x : Fact} (hx : d[k]? = some x) (h : goodR d k x = false) : validD d = false := by
  unfold validD
  have : ¬ validL [] d = true := fun e => by rw [validR.1 e k x hx] at h; cases h
  rw [Bool.not_eq_true] at this
  rw [this]; rfl
set_option maxHeartbeats 8000000 in
theorem rfactValid_c (d : List Fact) (v : Value) (w : World) (hd : IsD w d v) (hn : d.length ≤ 1000000) (hx : ∀ x ∈ d, x.name.length ≤ 140737488355328) :
    Calls Tryz.prog 42 #[.agg #[v]] w fun e w' => e = .returned (.bool (validD d)) ∧ Below w.heap.size w w' := by
  obtain ⟨y, m, rfl⟩ := hd.form
  have HD := Lib.hid hd
  have HXS := Lib.hid hx
  have HDn := Lib.hid hn
  obtain ⟨N, hN⟩ : ∃ N, N = d.length := ⟨_, rfl⟩
  have HN := Lib.hid hN
  rw [← hN] at HD hn ⊢
  clear hd hx hN
  obtain ⟨bx, hbx⟩ : ∃ bx, bx = w.heap.size := ⟨_, rfl⟩
  obtain ⟨W1, hW1⟩ : ∃ W1, W1 = w.alloc (.cells #[.slice y N m] 25) := ⟨_, rfl⟩
  have HO : Hid (Owns w W1 [blk bx (.cells #[.slice y N m] 25 (0, 0))]) := by
    rw [hW1, hbx]
    exact Lib.hid ((Owns.start w).box _)
  go_enter Tryz.func42, Tryz.ntmps42
  go_wp2_with fail
  rw [← hW1, ← hbx]
  clear hW1 hbx
  have H0 : Hid (∀ j z, j < 0 → d[j]? = some z → goodR d j z = true) := Lib.hid fun j z h => by omega
  go_loopg [3] N (fun gk i wr => ∃ k : Nat, gk = N - k ∧ k ≤ N ∧ i = .int .i64 (k : Int) ∧ Hid (∀ j z, j < k → d[j]? = some z → goodR d j z = true) ∧ Hid (Owns w wr [blk bx (.cells #[.slice y N m] 25 (0, 0))]))
  case atStart => exact ⟨0, rfl, Nat.zero_le _, rfl, H0, HO⟩
  case round =>
    rename_i J1 K1 hJ1 hK1
    clear H0 HO
    obtain ⟨k, rfl, hk, rfl, HI, HO⟩ := hrel
    obtain ⟨bk, -⟩ := HO.out.blk
    have hbx := lt_of_block bk
    have cb0 := cell_of_heap bk (i := 0)
    simp only [List.getElem?_toArray, List.getElem?_cons_succ, List.getElem?_cons_zero] at cb0
    clear bk
    by_cases hlt : k < N
    · obtain ⟨x, hx⟩ : ∃ x, d[k]? = some x := ⟨_, List.getElem?_eq_getElem (by rw [← HN.out]; exact hlt)⟩
      obtain ⟨g, off, rfl, hg, c0, c1, c2, c3⟩ := HD.out.get HO.out.base hx
      have HX := Lib.hid hx
      have HXn : Hid (x.name.length ≤ 140737488355328) := Lib.hid (HXS.out x (List.mem_of_getElem? hx))
      obtain ⟨W4, hW4⟩ : ∃ W4, W4 = wr.alloc (.cells #[.string (bs x.name), .int .i64 x.kind, .int .i64 x.lo, .int .i64 x.hi] 91) := ⟨_, rfl⟩
      obtain ⟨b4, hb4⟩ : ∃ b4, b4 = wr.heap.size := ⟨_, rfl⟩
      have HO4 : Hid (Owns w W4 [blk b4 (.cells #[.string (bs x.name), .int .i64 x.kind, .int .i64 x.lo, .int .i64 x.hi] 91 (0, 0)), blk bx (.cells #[.slice (some ⟨g, off, none⟩) N m] 25 (0, 0))]) := by
        rw [hW4, hb4]
        exact Lib.hid (HO.out.box _)
      obtain ⟨q, hq⟩ : ∃ q, q = nameB x.name := ⟨_, rfl⟩
      obtain ⟨u, hu⟩ : ∃ u, u = idxD x.name d := ⟨_, rfl⟩
      have HF : Hid (factB x = (decide (x.kind = 1 ∧ x.lo = 0 ∧ x.hi = 1) || decide (x.kind = 2 ∧ 0 ≤ x.lo ∧ x.lo ≤ x.hi ∧ x.hi ≤ 1000000)) ∧ nameB x.name = q ∧ idxD x.name d = u) := ⟨rfl, hq.symm, hu.symm⟩
      clear hx HO hq hu
      go_wp2_with fail
      rw [← hW4, ← hb4]
      clear hW4 hb4 hbx cb0 c0 c1 c2 c3 hg
      go_at_call 70
      refine (rName_c x.name W4 HXn.out).mono ?_
      rintro e w1 ⟨rfl, hw⟩
      subst hw
      rw [HF.out.2.1]
      cases q
      · have HE : Hid (validD d = false) := by
          refine validR_bad HX.out ?_
          unfold goodR
          rw [HF.out.2.1]
          simp
        clear hJ1 hK1
        go_wp2_with fail
        go_ret
        exact ⟨by rw [HE.out]; rfl, HO4.out.base⟩
      have HO := Lib.hid HO4.out.swap
      obtain ⟨bk, -⟩ := HO.out.blk
      have hbx := lt_of_block bk
      have cb0 := cell_of_heap bk (i := 0)
      simp only [List.getElem?_toArray, List.getElem?_cons_succ, List.getElem?_cons_zero] at cb0
      clear bk
      obtain ⟨bk, -⟩ := HO4.out.blk
      have hb4 := lt_of_block bk
      have cx0 := cell_of_heap bk (i := 0)
      simp only [List.getElem?_toArray, List.getElem?_cons_succ, List.getElem?_cons_zero] at cx0
      clear bk HO4
      go_wp2_with fail
      clear hbx cb0 hb4 cx0
      go_at_call 71
      refine (rIndex_c d x.name _ w1 (HD.out.later HO.out.base) HXS.out HXn.out HDn.out).mono ?_
      rintro e w2 ⟨rfl, hb⟩
      replace HO := Lib.hid (HO.out.below hb)
      rw [HF.out.2.2]
      clear hb
      by_cases hu : u = (k : Int)
      · subst hu
        have hu' : ((k : Int) != (k : Int)) = false := by simp
        obtain ⟨bk, -⟩ := HO.out.swap.blk
        have hb4 := lt_of_block bk
        have cx0 := cell_of_heap bk (i := 0)
        have cx1 := cell_of_heap bk (i := 1)
        have cx2 := cell_of_heap bk (i := 2)
        have cx3 := cell_of_heap bk (i := 3)
        simp only [List.getElem?_toArray, List.getElem?_cons_succ, List.getElem?_cons_zero] at cx0 cx1 cx2 cx3
        clear bk
        replace HO := Lib.hid HO.out.swap.pop
        by_cases hl0 : x.lo < 0
        · have HE : Hid (validD d = false) := by
            refine validR_bad HX.out ?_
            unfold goodR
            rw [HF.out.1, decide_eq_false (p := x.kind = 1 ∧ _) (by omega), decide_eq_false (p := x.kind = 2 ∧ _) (by omega)]
            rfl
          clear hJ1 hK1
          go_wp2_with fail
          go_ret
          exact ⟨by rw [HE.out]; rfl, HO.out.base⟩
        by_cases hlh : x.hi < x.lo
        · have HE : Hid (validD d = false) := by
            refine validR_bad HX.out ?_
            unfold goodR
            rw [HF.out.1, decide_eq_false (p := x.kind = 1 ∧ _) (by omega), decide_eq_false (p := x.kind = 2 ∧ _) (by omega)]
            rfl
          clear hJ1 hK1
          go_wp2_with fail
          go_ret
          exact ⟨by rw [HE.out]; rfl, HO.out.base⟩
        by_cases hh : 1000000 < x.hi
        · have HE : Hid (validD d = false) := by
            refine validR_bad HX.out ?_
            unfold goodR
            rw [HF.out.1, decide_eq_false (p := x.kind = 1 ∧ _) (by omega), decide_eq_false (p := x.kind = 2 ∧ _) (by omega)]
            rfl
          clear hJ1 hK1
          go_wp2_with fail
          go_ret
          exact ⟨by rw [HE.out]; rfl, HO.out.base⟩
        by_cases hk1 : x.kind < 1
        · have HE : Hid (validD d = false) := by
            refine validR_bad HX.out ?_
            unfold goodR
            rw [HF.out.1, decide_eq_false (p := x.kind = 1 ∧ _) (by omega), decide_eq_false (p := x.kind = 2 ∧ _) (by omega)]
            rfl
          clear hJ1 hK1
          go_wp2_with fail
          go_ret
          exact ⟨by rw [HE.out]; rfl, HO.out.base⟩
        by_cases hk2 : 2 < x.kind
        · have HE : Hid (validD d = false) := by
            refine validR_bad HX.out ?_
            unfold goodR
            rw [HF.out.1, decide_eq_false (p := x.kind = 1 ∧ _) (by omega), decide_eq_false (p := x.kind = 2 ∧ _) (by omega)]
            rfl
          clear hJ1 hK1
          go_wp2_with fail
          go_ret
          exact ⟨by rw [HE.out]; rfl, HO.out.base⟩
        by_cases hf : x.kind = 1
        · have hf' : (x.kind == 1) = true := by simpa using hf
          by_cases h0 : x.lo = 0
          · have h0' : (x.lo != 0) = false := by simpa using h0
            by_cases h1 : x.hi = 1
            · have h1' : (x.hi != 1) = false := by simpa using h1
              have HG : Hid (goodR d k x = true) := by
                show _ = _
                unfold goodR
                rw [HF.out.1, HF.out.2.1, HF.out.2.2]
                simp
                omega
              have HI2 : Hid (∀ j z, j < k + 1 → d[j]? = some z → goodR d j z = true) := by
                intro j z hj hz
                rcases Nat.lt_or_ge j k with h | h
                · exact HI.out j z h hz
                · obtain rfl : j = k := by omega
                  rw [HX.out] at hz
                  cases hz
                  exact HG.out
              clear HG HI
              go_wp2_with fail
              go_roundg (N - (k + 1))
              case measure => omega
              case rel => exact ⟨k + 1, rfl, by omega, by go_num, HI2, HO⟩
            · have h1' : (x.hi != 1) = true := by simpa using h1
              have HE : Hid (validD d = false) := by
                refine validR_bad HX.out ?_
                unfold goodR
                rw [HF.out.1, decide_eq_false (p := x.kind = 1 ∧ _) (by omega), decide_eq_false (p := x.kind = 2 ∧ _) (by omega)]
                rfl
              clear hJ1 hK1
              go_wp2_with fail
              go_ret
              exact ⟨by rw [HE.out]; rfl, HO.out.base⟩
          · have h0' : (x.lo != 0) = true := by simpa using h0
            have HE : Hid (validD d = false) := by
              refine validR_bad HX.out ?_
              unfold goodR
              rw [HF.out.1, decide_eq_false (p := x.kind = 1 ∧ _) (by omega), decide_eq_false (p := x.kind = 2 ∧ _) (by omega)]
              rfl
            clear hJ1 hK1
            go_wp2_with fail
            go_ret
            exact ⟨by rw [HE.out]; rfl, HO.out.base⟩
        · have hf' : (x.kind == 1) = false := by simpa using hf
          have HG : Hid (goodR d k x = true) := by
            show _ = _
            unfold goodR
            rw [HF.out.1, HF.out.2.1, HF.out.2.2]
            simp
            omega
          have HI2 : Hid (∀ j z, j < k + 1 → d[j]? = some z → goodR d j z = true) := by
            intro j z hj hz
            rcases Nat.lt_or_ge j k with h | h
            · exact HI.out j z h hz
            · obtain rfl : j = k := by omega
              rw [HX.out] at hz
              cases hz
              exact HG.out
          clear HG HI
          go_wp2_with fail
          go_roundg (N - (k + 1))
          case measure => omega
          case rel => exact ⟨k + 1, rfl, by omega, by go_num, HI2, HO⟩
      · have hu' : (u != (k : Int)) = true := by simpa using hu
        have HE : Hid (validD d = false) := by
          refine validR_bad HX.out ?_
          unfold goodR
          rw [HF.out.2.2, decide_eq_false hu]
          simp
        clear hJ1 hK1 hu
        go_wp2_with fail
        go_ret
        exact ⟨by rw [HE.out]; rfl, HO.out.base⟩
    · obtain rfl : k = N := by omega
      have HE : Hid (validD d = decide (k ≤ 60)) := by
        show _ = _
        have : validL [] d = true := validR.2 fun j z hz => HI.out j z (by have := (List.getElem?_eq_some_iff.1 hz).1; have := HN.out; omega) hz
        unfold validD
        rw [this, ← HN.out]; rfl
      clear hJ1 hK1 hlt
      go_wp2_with fail
      go_ret
      exact ⟨congrArg (fun b => Ending.returned (Value.bool b)) (show decide ((k : Int) ≤ 60) = validD d by rw [HE.out, Bool.eq_iff_iff]; simp; omega), HO.out.base⟩
set_option maxHeartbeats 4000000 in
theorem rFits_c (d : List Fact) (c : List Int) (v u : Value) (w : World) (hd : IsD w d v) (hc : IsC w c u) (hn : d.length ≤ 1000000) (hm : c.length ≤ 1000000) (hx : ∀ x ∈ d, x.name.length ≤ 140737488355328) :
    Calls Tryz.prog 45 #[.agg #[v], u] w fun e w' => e = .returned (.bool (fitsB d c)) ∧ Below w.heap.size w w' := by
  obtain ⟨yc, mc, rfl⟩ := hc.form
  have HC := Lib.hid hc
  obtain ⟨y, m, rfl⟩ := hd.form
  have HD := Lib.hid hd
  have HXS := Lib.hid hx
  have HDn := Lib.hid hn
  obtain ⟨N, hN⟩ : ∃ N, N = d.length := ⟨_, rfl⟩
  have HN := Lib.hid hN
  rw [← hN] at HD hn ⊢
  clear hd hx hN
  obtain ⟨bx, hbx⟩ : ∃ bx, bx = w.heap.size := ⟨_, rfl⟩
  obtain ⟨W1, hW1⟩ : ∃ W1, W1 = w.alloc (.cells #[.slice y N m] 25) := ⟨_, rfl⟩
  have HO : Hid (Owns w W1 [blk bx (.cells #[.slice y N m] 25 (0, 0))]) := by
    rw [hW1, hbx]
    exact Lib.hid ((Owns.start w).box _)
  obtain ⟨M, hM⟩ : ∃ M, M = c.length := ⟨_, rfl⟩
  have HM := Lib.hid hM
  rw [← hM] at HC hm ⊢
  clear hM hc
  have HFit : Hid (fitsB d c = (validD d && (decide (M = N) && within d c))) := by
    show _ = _
    rw [HM.out, HN.out]; rfl
  go_enter Tryz.func45, Tryz.ntmps45
  go_wp2_with fail
  rw [← hW1, ← hbx]
  clear hW1 hbx
  go_at_call 42
  refine (rfactValid_c d _ W1 (HD.out.later HO.out.base) HDn.out HXS.out).mono ?_
  rintro e W2 ⟨rfl, hb⟩
  replace HO := Lib.hid (HO.out.below hb)
  clear hb
  obtain ⟨q, hq⟩ : ∃ q, q = validD d := ⟨_, rfl⟩
  rw [← hq] at HFit ⊢
  clear hq
  cases q
  · go_wp2_with fail
    go_ret
    exact ⟨by rw [HFit.out]; rfl, HO.out.base⟩
  obtain ⟨bk, -⟩ := HO.out.blk
  have hbx := lt_of_block bk
  have cb0 := cell_of_heap bk (i := 0)
  simp only [List.getElem?_toArray, List.getElem?_cons_succ, List.getElem?_cons_zero] at cb0
  clear bk
  by_cases hMN : M = N
  · subst hMN
    have h1 : ((M : Int) != (M : Int)) = false := by simp
    go_wp2_with fail
    clear hbx cb0
    have H0 : Hid (fitsB d c = within (d.drop 0) (c.drop 0)) := by show _ = _; rw [HFit.out]; simp
    go_loopg [5] M (fun gk i wr => ∃ k : Nat, gk = M - k ∧ k ≤ M ∧ i = .int .i64 (k : Int) ∧ Hid (fitsB d c = within (d.drop k) (c.drop k)) ∧ Hid (Owns w wr [blk bx (.cells #[.slice y M m] 25 (0, 0))]))
    case atStart => exact ⟨0, rfl, Nat.zero_le _, rfl, H0, HO⟩
    case round =>
      rename_i J1 K1 hJ1 hK1
      clear H0 HO HFit
      obtain ⟨k, rfl, hk, rfl, HI, HO⟩ := hrel
      by_cases hlt : k < M
      · obtain ⟨x, hx⟩ : ∃ x, d[k]? = some x := ⟨_, List.getElem?_eq_getElem (by rw [← HN.out]; exact hlt)⟩
        obtain ⟨u, hu⟩ : ∃ u, c[k]? = some u := ⟨_, List.getElem?_eq_getElem (by rw [← HM.out]; exact hlt)⟩
        have HX := Lib.hid hx
        have HU := Lib.hid hu
        replace HO := Lib.hid HO.out.drew
        obtain ⟨W5, hW5⟩ : ∃ W5, W5 = wr.drew := ⟨_, rfl⟩
        rw [← hW5] at HO
        obtain ⟨g, off, rfl, hg, c0, c1, c2, c3⟩ := HD.out.get HO.out.base hx
        obtain ⟨gc, offc, rfl, hgc, cc⟩ := HC.out.get HO.out.base hu
        obtain ⟨bk, -⟩ := HO.out.blk
        have hbx := lt_of_block bk
        have cb0 := cell_of_heap bk (i := 0)
        simp only [List.getElem?_toArray, List.getElem?_cons_succ, List.getElem?_cons_zero] at cb0
        clear bk
        clear hx hu
        go_wp2_with fail
        refine wp_region_can [] (List.range 24) (by decide +kernel) (by decide +kernel) ?_
        rw [← hW5]
        clear hW5
        by_cases h1 : x.lo ≤ u
        · have h1' : ¬ u < x.lo := by omega
          by_cases h2 : u ≤ x.hi
          · have h2' : ¬ x.hi < u := by omega
            have HI2 : Hid (fitsB d c = within (d.drop (k + 1)) (c.drop (k + 1))) := by
              show _ = _
              rw [HI.out, within_get HX.out HU.out, decide_eq_true h1, decide_eq_true h2]
              rfl
            clear h1 h2 HI
            iterate 12 (first | (refine cl_do rfl rfl rfl rfl (fun _ _ => ?_); go_wp2_with fail) | (refine cl_yes rfl rfl rfl rfl (by first | rfl | simp [okB, lenV, plainV, Act.eval]) (fun _ _ => ?_); go_wp2_with fail) | (refine cl_no rfl rfl rfl ?_; go_simp))
            rw [show decide (u < x.lo) = false from decide_eq_false (by omega)]
            iterate 12 (first | (refine cl_do rfl rfl rfl rfl (fun _ _ => ?_); go_wp2_with fail) | (refine cl_yes rfl rfl rfl rfl (by first | rfl | simp [okB, lenV, plainV, Act.eval]) (fun _ _ => ?_); go_wp2_with fail) | (refine cl_no rfl rfl rfl ?_; go_simp))
            refine cl_nil ?_
            go_wp2_with fail
            go_roundg (M - (k + 1))
            case measure => omega
            case rel => exact ⟨k + 1, rfl, by omega, by go_num, HI2, HO⟩
          · have h2' : x.hi < u := by omega
            have HE : Hid (fitsB d c = false) := by
              show _ = _
              rw [HI.out, within_get HX.out HU.out, decide_eq_false h2]
              simp
            clear hJ1 hK1 HI
            clear h1 h2
            iterate 12 (first | (refine cl_do rfl rfl rfl rfl (fun _ _ => ?_); go_wp2_with fail) | (refine cl_yes rfl rfl rfl rfl (by first | rfl | simp [okB, lenV, plainV, Act.eval]) (fun _ _ => ?_); go_wp2_with fail) | (refine cl_no rfl rfl rfl ?_; go_simp))
            rw [show decide (u < x.lo) = false from decide_eq_false (by omega)]
            iterate 12 (first | (refine cl_do rfl rfl rfl rfl (fun _ _ => ?_); go_wp2_with fail) | (refine cl_yes rfl rfl rfl rfl (by first | rfl | simp [okB, lenV, plainV, Act.eval]) (fun _ _ => ?_); go_wp2_with fail) | (refine cl_no rfl rfl rfl ?_; go_simp))
            refine cl_nil ?_
            go_wp2_with fail
            go_ret
            exact ⟨by rw [HE.out]; rfl, HO.out.base⟩
        · have h1' : u < x.lo := by omega
          have HE : Hid (fitsB d c = false) := by
            show _ = _
            rw [HI.out, within_get HX.out HU.out, decide_eq_false h1]
            simp
          clear hJ1 hK1 HI
          clear h1
          iterate 24 (first | (refine cl_do rfl rfl rfl rfl (fun _ _ => ?_); go_wp2_with fail) | (refine cl_yes rfl rfl rfl rfl (by first | rfl | simp [okB, lenV, plainV, Act.eval]) (fun _ _ => ?_); go_wp2_with fail) | (refine cl_no rfl rfl rfl ?_; go_simp))
          refine cl_nil ?_
          go_wp2_with fail
          go_ret
          exact ⟨by rw [HE.out]; rfl, HO.out.base⟩
      · obtain rfl : k = M := by omega
        have HE : Hid (fitsB d c = true) := by
          show _ = _
          rw [HI.out, HN.out, List.drop_length, within]
          intros; contradiction
        clear hJ1 hK1 hlt
        go_wp2_with fail
        go_ret
        exact ⟨by rw [HE.out]; rfl, HO.out.base⟩
  · have h1 : ((M : Int) != (N : Int)) = true := by simp; omega
    have HE : Hid (fitsB d c = false) := by show _ = _; rw [HFit.out, decide_eq_false hMN]; rfl
    clear hMN
    go_wp2_with fail
    go_ret
    exact ⟨by rw [HE.out]; rfl, HO.out.base⟩
end Go.Proofs.YtakadfdnhlfijaaGreatDoor
