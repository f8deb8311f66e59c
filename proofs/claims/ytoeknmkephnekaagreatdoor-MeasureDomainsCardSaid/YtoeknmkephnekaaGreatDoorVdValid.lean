/-
  Measures that are valid: 'named', 'dated', 'Valid'.
-/
import Derived.Test.YtoeknmkephnekaaGreatDoorVdIdent
import Derived.Test.YtoeknmkephnekaaGreatDoorVdMem
import Derived.Test.YtoeknmkephnekaaGreatDoorFmFirst
namespace Go.Proofs.YtoeknmkephnekaaGreatDoor
open Go.RowKit Go.Cz Go.Cz.Lx Go.Cz.Fo Go.Cz.Vd
open Go.Cz.Wn (datedB)
set_option linter.unusedSimpArgs false
set_option linter.unusedVariables false
attribute [local go_sem] bs_size bs_extract bs_append bs_toList
attribute [local irreducible] cList cPlan
/-- The lengths of a measure's texts. -/
structure MeLen (m : Me) : Prop where
  id : m.id.length ≤ 140737488355328
  auth : m.auth.length ≤ 140737488355328
  target : m.target.length ≤ 140737488355328
set_option maxHeartbeats 4000000 in
theorem named_c (m : Me) (y : Option Addr) (n c : Nat) (w : World) (hl : MeLen m) : Calls Tryz.prog 26 #[mval m (.slice y n c)] w fun e w' => e = .returned (.bool (namedM m)) ∧ Below w.heap.size w w' := by
  have HL := Lib.hid hl
  clear hl
  obtain ⟨bx, hbx⟩ : ∃ bx, bx = w.heap.size := ⟨_, rfl⟩
  obtain ⟨W1, hW1⟩ : ∃ W1, W1 = w.alloc (mobj m (.slice y n c)) := ⟨_, rfl⟩
  have HO : Hid (Owns w W1 [blk bx (mobj m (.slice y n c))]) := by
    rw [hW1, hbx]
    exact Lib.hid ((Owns.start w).box _)
  go_enter Tryz.func26, Tryz.ntmps26
  go_wp2_with fail
  rw [← hW1, ← hbx]
  clear hW1 hbx
  (try clear hx0 c0 c1 c2 c3)
  obtain ⟨bk, -⟩ := HO.out.blk
  have hx0 := lt_of_block bk
  have c0 : W1.cell? ⟨bx, 0, none⟩ = some (.string (bs m.id)) := by rw [cell_of_heap bk]; rfl
  have c1 : W1.cell? ⟨bx, 1, none⟩ = some (.string (bs m.auth)) := by rw [cell_of_heap bk]; rfl
  have c2 : W1.cell? ⟨bx, 2, none⟩ = some (.int .i64 m.kind) := by rw [cell_of_heap bk]; rfl
  have c3 : W1.cell? ⟨bx, 3, none⟩ = some (.string (bs m.target)) := by rw [cell_of_heap bk]; rfl
  clear bk
  go_wp2_with fail
  go_at_call 69
  refine (identM_c m.id W1 HL.out.id).mono ?_
  rintro e W2 ⟨rfl, hb⟩
  replace HO := Lib.hid (HO.out.below hb)
  clear hb
  (try clear hx0 c0 c1 c2 c3)
  obtain ⟨bk, -⟩ := HO.out.blk
  have hx0 := lt_of_block bk
  have c0 : W2.cell? ⟨bx, 0, none⟩ = some (.string (bs m.id)) := by rw [cell_of_heap bk]; rfl
  have c1 : W2.cell? ⟨bx, 1, none⟩ = some (.string (bs m.auth)) := by rw [cell_of_heap bk]; rfl
  have c2 : W2.cell? ⟨bx, 2, none⟩ = some (.int .i64 m.kind) := by rw [cell_of_heap bk]; rfl
  have c3 : W2.cell? ⟨bx, 3, none⟩ = some (.string (bs m.target)) := by rw [cell_of_heap bk]; rfl
  clear bk
  obtain ⟨a, ha⟩ : ∃ q, q = nameB m.id := ⟨_, rfl⟩
  rw [← ha]
  replace ha := Lib.hid ha
  cases a
  · have HE : Hid (namedM m = false) := by
      show _ = _
      unfold namedM
      rw [← ha.out]; simp
    go_wp2_with fail
    all_goals (go_ret; exact ⟨by rw [HE.out]; rfl, HO.out.base⟩)
  go_wp2_with fail
  go_at_call 69
  refine (identM_c m.auth W2 HL.out.auth).mono ?_
  rintro e W3 ⟨rfl, hb⟩
  replace HO := Lib.hid (HO.out.below hb)
  clear hb
  (try clear hx0 c0 c1 c2 c3)
  obtain ⟨bk, -⟩ := HO.out.blk
  have hx0 := lt_of_block bk
  have c0 : W3.cell? ⟨bx, 0, none⟩ = some (.string (bs m.id)) := by rw [cell_of_heap bk]; rfl
  have c1 : W3.cell? ⟨bx, 1, none⟩ = some (.string (bs m.auth)) := by rw [cell_of_heap bk]; rfl
  have c2 : W3.cell? ⟨bx, 2, none⟩ = some (.int .i64 m.kind) := by rw [cell_of_heap bk]; rfl
  have c3 : W3.cell? ⟨bx, 3, none⟩ = some (.string (bs m.target)) := by rw [cell_of_heap bk]; rfl
  clear bk
  obtain ⟨b, hb⟩ : ∃ q, q = nameB m.auth := ⟨_, rfl⟩
  rw [← hb]
  replace hb := Lib.hid hb
  cases b
  · have HE : Hid (namedM m = false) := by
      show _ = _
      unfold namedM
      rw [← hb.out]; simp
    go_wp2_with fail
    all_goals (go_ret; exact ⟨by rw [HE.out]; rfl, HO.out.base⟩)
  by_cases k : m.kind = 1
  · have k1 : (m.kind == 1) = true := by simpa using k
    have HE : Hid (namedM m = decide (m.target = [])) := by
      show _ = _
      unfold namedM
      rw [← ha.out, ← hb.out, if_pos k]; rfl
    clear k
    go_wp2_with fail
    go_ret
    exact ⟨congrArg (fun b => Ending.returned (Value.bool b)) (show List.isEmpty m.target = namedM m by rw [HE.out]; cases m.target <;> simp), HO.out.base⟩
  have k1 : (m.kind == 1) = false := by simpa using k
  clear k
  by_cases k : m.kind = 2
  · have k2 : (m.kind == 2) = true := by simpa using k
    have HK : Hid (namedM m = (nameB m.target && decide (m.target ≠ m.id))) := by
      show _ = _
      unfold namedM
      rw [← ha.out, ← hb.out, k]; simp
    clear k
    go_wp2_with fail
    go_at_call 69
    refine (identM_c m.target W3 HL.out.target).mono ?_
    rintro e W4 ⟨rfl, hb⟩
    replace HO := Lib.hid (HO.out.below hb)
    clear hb
    (try clear hx0 c0 c1 c2 c3)
    obtain ⟨bk, -⟩ := HO.out.blk
    have hx0 := lt_of_block bk
    have c0 : W4.cell? ⟨bx, 0, none⟩ = some (.string (bs m.id)) := by rw [cell_of_heap bk]; rfl
    have c1 : W4.cell? ⟨bx, 1, none⟩ = some (.string (bs m.auth)) := by rw [cell_of_heap bk]; rfl
    have c2 : W4.cell? ⟨bx, 2, none⟩ = some (.int .i64 m.kind) := by rw [cell_of_heap bk]; rfl
    have c3 : W4.cell? ⟨bx, 3, none⟩ = some (.string (bs m.target)) := by rw [cell_of_heap bk]; rfl
    clear bk
    obtain ⟨p, hp⟩ : ∃ q, q = nameB m.target := ⟨_, rfl⟩
    rw [← hp]
    replace hp := Lib.hid hp
    cases p
    · have HE : Hid (namedM m = false) := by
        show _ = _
        rw [HK.out, ← hp.out]; rfl
      go_wp2_with fail
      go_ret
      exact ⟨by rw [HE.out]; rfl, HO.out.base⟩
    go_wp2_with fail
    go_ret
    exact ⟨congrArg (fun b => Ending.returned (Value.bool b)) (show (!(m.target == m.id)) = namedM m by rw [HK.out, ← hp.out]; by_cases e : m.target = m.id <;> simp [e]), HO.out.base⟩
  have k2 : (m.kind == 2) = false := by simpa using k
  clear k
  by_cases k : m.kind = 3
  · have k3 : (m.kind == 3) = true := by simpa using k
    have HK : Hid (namedM m = (nameB m.target && decide (m.target ≠ m.auth))) := by
      show _ = _
      unfold namedM
      rw [← ha.out, ← hb.out, k]; simp
    clear k
    go_wp2_with fail
    go_at_call 69
    refine (identM_c m.target W3 HL.out.target).mono ?_
    rintro e W4 ⟨rfl, hb⟩
    replace HO := Lib.hid (HO.out.below hb)
    clear hb
    (try clear hx0 c0 c1 c2 c3)
    obtain ⟨bk, -⟩ := HO.out.blk
    have hx0 := lt_of_block bk
    have c0 : W4.cell? ⟨bx, 0, none⟩ = some (.string (bs m.id)) := by rw [cell_of_heap bk]; rfl
    have c1 : W4.cell? ⟨bx, 1, none⟩ = some (.string (bs m.auth)) := by rw [cell_of_heap bk]; rfl
    have c2 : W4.cell? ⟨bx, 2, none⟩ = some (.int .i64 m.kind) := by rw [cell_of_heap bk]; rfl
    have c3 : W4.cell? ⟨bx, 3, none⟩ = some (.string (bs m.target)) := by rw [cell_of_heap bk]; rfl
    clear bk
    obtain ⟨p, hp⟩ : ∃ q, q = nameB m.target := ⟨_, rfl⟩
    rw [← hp]
    replace hp := Lib.hid hp
    cases p
    · have HE : Hid (namedM m = false) := by
        show _ = _
        rw [HK.out, ← hp.out]; rfl
      go_wp2_with fail
      go_ret
      exact ⟨by rw [HE.out]; rfl, HO.out.base⟩
    go_wp2_with fail
    go_ret
    exact ⟨congrArg (fun b => Ending.returned (Value.bool b)) (show (!(m.target == m.auth)) = namedM m by rw [HK.out, ← hp.out]; by_cases e : m.target = m.auth <;> simp [e]), HO.out.base⟩
  have k3 : (m.kind == 3) = false := by simpa using k
  clear k
  have HE : Hid (namedM m = false) := by
    show _ = _
    unfold namedM
    rw [if_neg (by simpa using k1), if_neg (by simpa using k2), if_neg (by simpa using k3)]; simp
  go_wp2_with fail
  go_ret
  exact ⟨by rw [HE.out]; rfl, HO.out.base⟩
set_option maxHeartbeats 4000000 in
theorem datedM_c (m : Me) (y : Option Addr) (n c : Nat) (w : World) : Calls Tryz.prog 27 #[mval m (.slice y n c)] w fun e w' => e = .returned (.bool (datedB m.kind m.fr m.un m.wi)) ∧ Below w.heap.size w w' := by
  go_enter Tryz.func27, Tryz.ntmps27
  go_wp2_with fail
  all_goals go_ret
  all_goals refine ⟨congrArg (fun b => Ending.returned (Value.bool b)) ?_, (Below.refl _ _).alloc (Nat.le_refl _) _⟩
  all_goals rw [Bool.eq_iff_iff]
  all_goals simp only [datedB, Go.Cz.Wn.dayB, Bool.and_eq_true, Bool.or_eq_true, decide_eq_true_eq, beq_iff_eq, beq_eq_false_iff_ne, Bool.false_eq_true, false_iff, true_iff] at *
  all_goals omega
/-- A domain of a moderate size. -/
structure DoLen (d : List Fact) : Prop where
  len : d.length ≤ 1000000
  names : ∀ x ∈ d, x.name.length ≤ 140737488355328
/-- A condition of a moderate size. -/
structure CoLen (f : Fm) : Prop where
  names : short 140737488355328 f = true
  size : Go.Cz.Fo.size f ≤ 900000
set_option maxHeartbeats 4000000 in
theorem validM_c (d : List Fact) (vd : Value) (m : Me) (kv : Value) (w : World) (hd : IsD w d vd) (hf : IsFm (fun _ => True) w m.cond kv) (hD : DoLen d) (hM : MeLen m) (hC : CoLen m.cond) :
    Calls Tryz.prog 17 #[mval m kv, .agg #[vd]] w fun e w' => e = .returned (.int .i64 (validM d m : Nat)) ∧ Below w.heap.size w w' := by
  have HD := Lib.hid hd
  have HF := Lib.hid hf
  have HDL := Lib.hid hD
  have HML := Lib.hid hM
  have HCL := Lib.hid hC
  obtain ⟨y, c, rfl⟩ := hf.form
  obtain ⟨n, hn⟩ : ∃ n, n = m.cond.kids.length := ⟨_, rfl⟩
  rw [← hn] at HF ⊢
  clear hd hf hD hM hC hn
  obtain ⟨bx, hbx⟩ : ∃ bx, bx = w.heap.size := ⟨_, rfl⟩
  obtain ⟨by0, hby⟩ : ∃ by0, by0 = w.heap.size + 1 := ⟨_, rfl⟩
  obtain ⟨W1, hW1⟩ : ∃ W1, W1 = (w.alloc (mobj m (.slice y n c))).alloc (.cells #[vd] 45) := ⟨_, rfl⟩
  have HO : Hid (Owns w W1 [blk bx (mobj m (.slice y n c)), blk by0 (.cells #[vd] 45 (0, 0))]) := by
    have h := ((Owns.start w).box (mobj m (.slice y n c))).box (.cells #[vd] 45 (0, 0))
    rw [World.size_alloc] at h
    rw [hW1, hbx, hby]
    exact Lib.hid h.swap
  go_enter Tryz.func17, Tryz.ntmps17
  go_wp2_with fail
  rw [← hW1, ← hby, ← hbx]
  clear hW1 hby hbx
  (try clear hx0 c0 c1 c2 c3 c4 c5 c6 c7 c8 c9 c10 c11)
  (try clear hy0 cd)
  obtain ⟨bk, -⟩ := HO.out.blk
  obtain ⟨bd, -⟩ := HO.out.swap.blk
  have hx0 := lt_of_block bk
  have hy0 := lt_of_block bd
  have cd : W1.cell? ⟨by0, 0, none⟩ = some vd := by rw [cell_of_heap bd]; rfl
  have c0 : W1.cell? ⟨bx, 0, none⟩ = some (.string (bs m.id)) := by rw [cell_of_heap bk]; rfl
  have c1 : W1.cell? ⟨bx, 1, none⟩ = some (.string (bs m.auth)) := by rw [cell_of_heap bk]; rfl
  have c2 : W1.cell? ⟨bx, 2, none⟩ = some (.int .i64 m.kind) := by rw [cell_of_heap bk]; rfl
  have c3 : W1.cell? ⟨bx, 3, none⟩ = some (.string (bs m.target)) := by rw [cell_of_heap bk]; rfl
  have c4 : W1.cell? ⟨bx, 4, none⟩ = some (.int .i64 m.cond.op) := by rw [cell_of_heap bk]; rfl
  have c5 : W1.cell? ⟨bx, 5, none⟩ = some (.string (bs m.cond.name)) := by rw [cell_of_heap bk]; rfl
  have c6 : W1.cell? ⟨bx, 6, none⟩ = some (.int .i64 m.cond.cmp) := by rw [cell_of_heap bk]; rfl
  have c7 : W1.cell? ⟨bx, 7, none⟩ = some (.int .i64 m.cond.num) := by rw [cell_of_heap bk]; rfl
  have c8 : W1.cell? ⟨bx, 8, none⟩ = some (.slice y n c) := by rw [cell_of_heap bk]; rfl
  have c9 : W1.cell? ⟨bx, 9, none⟩ = some (.int .i64 m.fr) := by rw [cell_of_heap bk]; rfl
  have c10 : W1.cell? ⟨bx, 10, none⟩ = some (.int .i64 m.un) := by rw [cell_of_heap bk]; rfl
  have c11 : W1.cell? ⟨bx, 11, none⟩ = some (.int .i64 m.wi) := by rw [cell_of_heap bk]; rfl
  clear bk bd
  go_wp2_with fail
  go_at_call 18
  refine (factValid_c d vd W1 (HD.out.later HO.out.base) HDL.out.len HDL.out.names).mono ?_
  rintro e W2 ⟨rfl, hb⟩
  replace HO := Lib.hid (HO.out.below hb)
  clear hb
  (try clear hx0 c0 c1 c2 c3 c4 c5 c6 c7 c8 c9 c10 c11)
  (try clear hy0 cd)
  obtain ⟨bk, -⟩ := HO.out.blk
  obtain ⟨bd, -⟩ := HO.out.swap.blk
  have hx0 := lt_of_block bk
  have hy0 := lt_of_block bd
  have cd : W2.cell? ⟨by0, 0, none⟩ = some vd := by rw [cell_of_heap bd]; rfl
  have c0 : W2.cell? ⟨bx, 0, none⟩ = some (.string (bs m.id)) := by rw [cell_of_heap bk]; rfl
  have c1 : W2.cell? ⟨bx, 1, none⟩ = some (.string (bs m.auth)) := by rw [cell_of_heap bk]; rfl
  have c2 : W2.cell? ⟨bx, 2, none⟩ = some (.int .i64 m.kind) := by rw [cell_of_heap bk]; rfl
  have c3 : W2.cell? ⟨bx, 3, none⟩ = some (.string (bs m.target)) := by rw [cell_of_heap bk]; rfl
  have c4 : W2.cell? ⟨bx, 4, none⟩ = some (.int .i64 m.cond.op) := by rw [cell_of_heap bk]; rfl
  have c5 : W2.cell? ⟨bx, 5, none⟩ = some (.string (bs m.cond.name)) := by rw [cell_of_heap bk]; rfl
  have c6 : W2.cell? ⟨bx, 6, none⟩ = some (.int .i64 m.cond.cmp) := by rw [cell_of_heap bk]; rfl
  have c7 : W2.cell? ⟨bx, 7, none⟩ = some (.int .i64 m.cond.num) := by rw [cell_of_heap bk]; rfl
  have c8 : W2.cell? ⟨bx, 8, none⟩ = some (.slice y n c) := by rw [cell_of_heap bk]; rfl
  have c9 : W2.cell? ⟨bx, 9, none⟩ = some (.int .i64 m.fr) := by rw [cell_of_heap bk]; rfl
  have c10 : W2.cell? ⟨bx, 10, none⟩ = some (.int .i64 m.un) := by rw [cell_of_heap bk]; rfl
  have c11 : W2.cell? ⟨bx, 11, none⟩ = some (.int .i64 m.wi) := by rw [cell_of_heap bk]; rfl
  clear bk bd
  obtain ⟨q, hq⟩ : ∃ q, q = validD d := ⟨_, rfl⟩
  rw [← hq]
  have HQ := Lib.hid hq
  clear hq
  cases q
  · have HE : Hid (validM d m = 1) := by
      show _ = _
      unfold validM
      rw [← HQ.out]; simp
    go_wp2_with fail
    go_ret
    exact ⟨by rw [HE.out]; rfl, HO.out.base⟩
  go_wp2_with fail
  go_at_call 26
  refine (named_c m y n c W2 HML.out).mono ?_
  rintro e W3 ⟨rfl, hb⟩
  replace HO := Lib.hid (HO.out.below hb)
  clear hb
  (try clear hx0 c0 c1 c2 c3 c4 c5 c6 c7 c8 c9 c10 c11)
  (try clear hy0 cd)
  obtain ⟨bk, -⟩ := HO.out.blk
  obtain ⟨bd, -⟩ := HO.out.swap.blk
  have hx0 := lt_of_block bk
  have hy0 := lt_of_block bd
  have cd : W3.cell? ⟨by0, 0, none⟩ = some vd := by rw [cell_of_heap bd]; rfl
  have c0 : W3.cell? ⟨bx, 0, none⟩ = some (.string (bs m.id)) := by rw [cell_of_heap bk]; rfl
  have c1 : W3.cell? ⟨bx, 1, none⟩ = some (.string (bs m.auth)) := by rw [cell_of_heap bk]; rfl
  have c2 : W3.cell? ⟨bx, 2, none⟩ = some (.int .i64 m.kind) := by rw [cell_of_heap bk]; rfl
  have c3 : W3.cell? ⟨bx, 3, none⟩ = some (.string (bs m.target)) := by rw [cell_of_heap bk]; rfl
  have c4 : W3.cell? ⟨bx, 4, none⟩ = some (.int .i64 m.cond.op) := by rw [cell_of_heap bk]; rfl
  have c5 : W3.cell? ⟨bx, 5, none⟩ = some (.string (bs m.cond.name)) := by rw [cell_of_heap bk]; rfl
  have c6 : W3.cell? ⟨bx, 6, none⟩ = some (.int .i64 m.cond.cmp) := by rw [cell_of_heap bk]; rfl
  have c7 : W3.cell? ⟨bx, 7, none⟩ = some (.int .i64 m.cond.num) := by rw [cell_of_heap bk]; rfl
  have c8 : W3.cell? ⟨bx, 8, none⟩ = some (.slice y n c) := by rw [cell_of_heap bk]; rfl
  have c9 : W3.cell? ⟨bx, 9, none⟩ = some (.int .i64 m.fr) := by rw [cell_of_heap bk]; rfl
  have c10 : W3.cell? ⟨bx, 10, none⟩ = some (.int .i64 m.un) := by rw [cell_of_heap bk]; rfl
  have c11 : W3.cell? ⟨bx, 11, none⟩ = some (.int .i64 m.wi) := by rw [cell_of_heap bk]; rfl
  clear bk bd
  obtain ⟨q, hq⟩ : ∃ q, q = namedM m := ⟨_, rfl⟩
  rw [← hq]
  have HP := Lib.hid hq
  clear hq
  cases q
  · have HE : Hid (validM d m = 1) := by
      show _ = _
      unfold validM
      rw [← HQ.out, ← HP.out]; simp
    go_wp2_with fail
    go_ret
    exact ⟨by rw [HE.out]; rfl, HO.out.base⟩
  go_wp2_with fail
  go_at_call 27
  refine (datedM_c m y n c W3).mono ?_
  rintro e W4 ⟨rfl, hb⟩
  replace HO := Lib.hid (HO.out.below hb)
  clear hb
  (try clear hx0 c0 c1 c2 c3 c4 c5 c6 c7 c8 c9 c10 c11)
  (try clear hy0 cd)
  obtain ⟨bk, -⟩ := HO.out.blk
  obtain ⟨bd, -⟩ := HO.out.swap.blk
  have hx0 := lt_of_block bk
  have hy0 := lt_of_block bd
  have cd : W4.cell? ⟨by0, 0, none⟩ = some vd := by rw [cell_of_heap bd]; rfl
  have c0 : W4.cell? ⟨bx, 0, none⟩ = some (.string (bs m.id)) := by rw [cell_of_heap bk]; rfl
  have c1 : W4.cell? ⟨bx, 1, none⟩ = some (.string (bs m.auth)) := by rw [cell_of_heap bk]; rfl
  have c2 : W4.cell? ⟨bx, 2, none⟩ = some (.int .i64 m.kind) := by rw [cell_of_heap bk]; rfl
  have c3 : W4.cell? ⟨bx, 3, none⟩ = some (.string (bs m.target)) := by rw [cell_of_heap bk]; rfl
  have c4 : W4.cell? ⟨bx, 4, none⟩ = some (.int .i64 m.cond.op) := by rw [cell_of_heap bk]; rfl
  have c5 : W4.cell? ⟨bx, 5, none⟩ = some (.string (bs m.cond.name)) := by rw [cell_of_heap bk]; rfl
  have c6 : W4.cell? ⟨bx, 6, none⟩ = some (.int .i64 m.cond.cmp) := by rw [cell_of_heap bk]; rfl
  have c7 : W4.cell? ⟨bx, 7, none⟩ = some (.int .i64 m.cond.num) := by rw [cell_of_heap bk]; rfl
  have c8 : W4.cell? ⟨bx, 8, none⟩ = some (.slice y n c) := by rw [cell_of_heap bk]; rfl
  have c9 : W4.cell? ⟨bx, 9, none⟩ = some (.int .i64 m.fr) := by rw [cell_of_heap bk]; rfl
  have c10 : W4.cell? ⟨bx, 10, none⟩ = some (.int .i64 m.un) := by rw [cell_of_heap bk]; rfl
  have c11 : W4.cell? ⟨bx, 11, none⟩ = some (.int .i64 m.wi) := by rw [cell_of_heap bk]; rfl
  clear bk bd
  obtain ⟨q, hq⟩ : ∃ q, q = datedB m.kind m.fr m.un m.wi := ⟨_, rfl⟩
  rw [← hq]
  have HT := Lib.hid hq
  clear hq
  cases q
  · have HE : Hid (validM d m = 10) := by
      show _ = _
      unfold validM
      rw [← HQ.out, ← HP.out, ← HT.out]; simp
    go_wp2_with fail
    go_ret
    exact ⟨by rw [HE.out]; rfl, HO.out.base⟩
  go_wp2_with fail
  go_at_call 19
  refine (Check_c m.cond W4 (.slice y n c) d vd (HF.out.later HO.out.base) (HD.out.later HO.out.base) HDL.out.len HDL.out.names (Nat.le_refl _) HCL.out.names HCL.out.size).mono ?_
  rintro e W5 ⟨rfl, hb⟩
  replace HO := Lib.hid (HO.out.below hb)
  clear hb
  have HE : Hid (validM d m = checkF d m.cond) := by
    show _ = _
    unfold validM
    rw [← HQ.out, ← HP.out, ← HT.out]; simp
  go_wp2_with fail
  go_ret
  exact ⟨by rw [HE.out]; rfl, HO.out.base⟩
end Go.Proofs.YtoeknmkephnekaaGreatDoor
