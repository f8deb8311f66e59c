/-
  'ClockPlain': the walk.
-/
import Derived.Test.YthnhbiogaikpoaaDoorClEnv
namespace Go.Proofs.YthnhbiogaikpoaaDoor
open Go.RowKit Go.Cz Go.Cz.Ck
set_option linter.unusedSimpArgs false
set_option linter.unusedVariables false
attribute [local go_sem] bs_size bs_extract bs_append bs_toList
attribute [local irreducible] cList
theorem one_valid {o : Int} (h1 : -840 ≤ o) (h2 : o ≤ 840) : validB [(0, o)] = true := by
  simp [validB, vgo, shiftOk, instB]
  omega
theorem one_local {o t : Int} (h1 : -840 ≤ o) (h2 : o ≤ 840) (h3 : 0 ≤ t) (h4 : t ≤ 144001439) : localF [(0, o)] t = ((t + o) / 1440, (t + o) % 1440, 0) := by
  have ho : off [(0, o)] t = o := by simp [off, spans, h4]
  unfold localF
  rw [one_valid h1 h2, instB_true.2 ⟨h3, h4⟩, ho]
  rfl
theorem one_inst {o d m : Int} (h1 : -840 ≤ o) (h2 : o ≤ 840) (h3 : -2 ≤ d) (h4 : d ≤ 100001) (h5 : 0 ≤ m) (h6 : m < 1440) (h7 : d * 1440 + m - o ≤ 144001439) : instF [(0, o)] d m = (max 0 (d * 1440 + m - o), 0) := by
  have hd : max d (-2) = d := by omega
  unfold instF
  rw [one_valid h1 h2, if_pos (by simp; omega), if_neg (by omega), hd]
  have hf : (spans [(0, o)]).find? (hit (d * 1440 + m)) = some ((0, o), 144001439) := by
    simp [spans, hit]
    omega
  rw [hf]
set_option maxRecDepth 10000 in
set_option maxHeartbeats 4000000 in
theorem ClockPlain_walk (w : World) (hs : Std w) (r1 : Int) (w1 : (Lit.int .u32 r1).wf = true) (r2 : Int) (w2 : (Lit.int .u32 r2).wf = true) (r3 : Int) (w3 : (Lit.int .u32 r3).wf = true) :
    Calls Tryd.prog 8 #[.int .u32 r1, .int .u32 r2, .int .u32 r3] w fun e w' => e = .returned (.bool true) ∧ Below w.heap.size w w' := by
  have HH := Lib.hid (head_c w hs)
  obtain ⟨a1, a2⟩ := u32_in w1
  obtain ⟨b1, b2⟩ := u32_in w2
  obtain ⟨c1, c2⟩ := u32_in w3
  obtain ⟨q1, e1⟩ : ∃ q, q = r1 % 1681 := ⟨_, rfl⟩
  obtain ⟨t, e2⟩ : ∃ q, q = r2 % 144001440 := ⟨_, rfl⟩
  obtain ⟨q3, e3⟩ : ∃ q, q = r3 % 99998 := ⟨_, rfl⟩
  have e1' : r1 % 1681 = q1 := e1.symm
  have e2' : r2 % 144001440 = t := e2.symm
  have e3' : r3 % 99998 = q3 := e3.symm
  have k1 : 0 ≤ q1 := by omega
  have k2 : q1 < 1681 := by omega
  have t1 : 0 ≤ t := by omega
  have t2 : t ≤ 144001439 := by omega
  have d1 : 0 ≤ q3 := by omega
  have d2 : q3 < 99998 := by omega
  clear e1 e2 e3 w1 w2 w3 hs
  obtain ⟨o, e4⟩ : ∃ o, o = q1 - 840 := ⟨_, rfl⟩
  have e4' : q1 - 840 = o := e4.symm
  have o1 : -840 ≤ o := by omega
  have o2 : o ≤ 840 := by omega
  clear e4
  have HL := Lib.hid (one_local o1 o2 t1 t2)
  have HI := Lib.hid (one_inst o1 o2 (d := (t + o) / 1440) (m := (t + o) % 1440) (by omega) (by omega) (by omega) (by omega) (by omega))
  have HI' : Hid (max 0 ((t + o) / 1440 * 1440 + (t + o) % 1440 - o) = t) := by show _ = _; omega
  have HD1 := Lib.hid (one_inst o1 o2 (d := q3 + 1) (m := 0) (by omega) (by omega) (by omega) (by omega) (by omega))
  have HD2 := Lib.hid (one_inst o1 o2 (d := q3 + 1 + 1) (m := 0) (by omega) (by omega) (by omega) (by omega) (by omega))
  rw [HI'.out] at HI
  obtain ⟨da, hda⟩ : ∃ da, da = (t + o) / 1440 := ⟨_, rfl⟩
  obtain ⟨mi, hmi⟩ : ∃ mi, mi = (t + o) % 1440 := ⟨_, rfl⟩
  rw [← hda, ← hmi] at HL HI
  have hsum : 1440 * da + mi = t + o := by omega
  have da1 : -2 ≤ da := by omega
  have da2 : da ≤ 100001 := by omega
  have mi1 : 0 ≤ mi := by omega
  have mi2 : mi < 1440 := by omega
  have Hsum := Lib.hid hsum
  obtain ⟨p, hp⟩ : ∃ p, p = max 0 ((q3 + 1) * 1440 + 0 - o) := ⟨_, rfl⟩
  obtain ⟨q, hq⟩ : ∃ q, q = max 0 ((q3 + 1 + 1) * 1440 + 0 - o) := ⟨_, rfl⟩
  rw [← hp] at HD1
  rw [← hq] at HD2
  have p1 : 0 ≤ p := by omega
  have p2 : p ≤ 200000000 := by omega
  have p3 : 0 ≤ q := by omega
  have p4 : q ≤ 200000000 := by omega
  have hpq : p = 0 ∨ q - p = 1440 := by omega
  have Hpq := Lib.hid hpq
  clear hda hmi hsum hp hq hpq HI'
  go_enter Tryd.func8, Tryd.ntmps8
  go_wp2_with fail
  go_at_call 11
  refine HH.out.mono ?_
  rintro e W1 ⟨rfl, hb1⟩
  have HE : Hid (ZE w ((W1.alloc (.cells #[.int .i64 0, .int .i64 o] 40)).alloc (.cells #[.slice (some ⟨W1.heap.size, 0, none⟩) 1 1] 24)) (W1.heap.size + 1) (some ⟨W1.heap.size, 0, none⟩) 1 1 [(0, o)]) := by
    have hh : ((W1.alloc (.cells #[.int .i64 0, .int .i64 o] 40)).alloc (.cells #[.slice (some ⟨W1.heap.size, 0, none⟩) 1 1] 24)).heap[W1.heap.size]? = some (.cells #[.int .i64 0, .int .i64 o] 40 (0, 0)) := ((Bk.new W1 #[.int .i64 0, .int .i64 o] 40).alloc _)
    refine ⟨(hb1.alloc hb1.size _).alloc (by have := hb1.size; simp; omega) _, ?_, rfl, by omega, .inr ⟨W1.heap.size, 0, rfl, by simp; omega, ?_⟩⟩
    · have := Bk.new (W1.alloc (.cells #[.int .i64 0, .int .i64 o] 40)) #[.slice (some ⟨W1.heap.size, 0, none⟩) 1 1] 24
      rwa [World.size_alloc] at this
    · intro j s hj
      rw [cell_of_heap hh, cell_of_heap hh]
      rcases j with _ | j
      · simp at hj; subst hj; simp
      · simp at hj
  clear hb1
  go_wp2_with fail
  obtain ⟨B, hB⟩ : ∃ B, B = W1.heap.size := ⟨_, rfl⟩
  rw [← hB] at HE ⊢
  obtain ⟨W2, hW2⟩ : ∃ W2, W2 = (W1.alloc (.cells #[.int .i64 0, .int .i64 o] 40)).alloc (.cells #[.slice (some ⟨B, 0, none⟩) 1 1] 24) := ⟨_, rfl⟩
  rw [← hW2] at HE ⊢
  clear hB hW2
  obtain ⟨-, lz, cz⟩ := HE.out.next (Below.refl _ _)
  go_at_call 13
  refine (Local_c _ 1 1 [(0, o)] t W2 HE.out.sh).mono ?_
  rintro e W3 ⟨rfl, hb⟩
  rw [HL.out]
  clear lz cz
  obtain ⟨HE, lz, cz⟩ := HE.out.next hb
  clear hb
  go_wp2_with fail
  go_at_call 15
  refine (Instant_c _ 1 1 [(0, o)] da mi W3 HE.out.sh).mono ?_
  rintro e W4 ⟨rfl, hb⟩
  rw [HI.out]
  clear lz cz
  obtain ⟨HE, lz, cz⟩ := HE.out.next hb
  clear hb
  have hs1 : ((1440 * da + mi) != (t + o)) = false := by rw [Hsum.out]; simp
  go_wp2_with fail
  go_at_call 17
  refine (Begin_c _ 1 1 [(0, o)] (q3 + 1) W4 HE.out.sh).mono ?_
  rintro e W5 ⟨rfl, hb⟩
  rw [HD1.out]
  clear lz cz
  obtain ⟨HE, lz, cz⟩ := HE.out.next hb
  clear hb
  go_wp2_with fail
  go_at_call 17
  refine (Begin_c _ 1 1 [(0, o)] (q3 + 1 + 1) W5 HE.out.sh).mono ?_
  rintro e W6 ⟨rfl, hb⟩
  rw [HD2.out]
  clear lz cz
  obtain ⟨HE, lz, cz⟩ := HE.out.next hb
  clear hb
  rcases Hpq.out with hp0 | hp0
  · have hp0' : (p == 0) = true := by simp [hp0]
    clear hp0
    go_wp2_with fail
    go_ret
    exact ⟨rfl, HE.out.below⟩
  · have hp1 : ((q - p) == 1440) = true := by simp [hp0]
    clear hp0
    by_cases hz : p = 0
    · have hz1 : (p == 0) = true := by simp [hz]
      clear hz
      go_wp2_with fail
      go_ret
      exact ⟨rfl, HE.out.below⟩
    · have hz1 : (p == 0) = false := by simp [hz]
      clear hz
      go_wp2_with fail
      go_ret
      exact ⟨rfl, HE.out.below⟩
end Go.Proofs.YthnhbiogaikpoaaDoor
