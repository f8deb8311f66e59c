/-
  What the laws' 'few' says.
-/
import Derived.Test.YtakadfdnhlfijaaGreatDoorVdFew
namespace Go.Proofs.YtakadfdnhlfijaaGreatDoor
open Go.RowKit Go.Cz Go.Cz.Lx Go.Cz.Fo Go.Cz.Vd
open Go.Cz.Ck (Shift validB)
set_option linter.unusedSimpArgs false
set_option linter.unusedVariables false
attribute [local go_sem] bs_size bs_extract bs_append bs_toList
attribute [local irreducible] cList cPlan
set_option maxHeartbeats 4000000 in
/-- There are few measures. -/
theorem meFew_c (K : Nat) (hK0 : K ≤ 1000) (l : List Me) (lv : Value) (w : World) (hr : IsMeR w l lv) (h9 : l.length ≤ 9223372036854775807) (ht : ∀ m ∈ l, m.id.length ≤ 140737488355328 ∧ m.auth.length ≤ 140737488355328 ∧ m.target.length ≤ 140737488355328) :
    Calls Tryz.prog 26 #[lv, .int .i64 (K : Int)] w fun e w' => e = .returned (.bool (meFew K l)) ∧ Below w.heap.size w w' := by
  have HR := Lib.hid hr
  have HTx := Lib.hid ht
  obtain ⟨y, c, rfl⟩ := hr.form
  obtain ⟨N, hN⟩ : ∃ N, N = l.length := ⟨_, rfl⟩
  have HN := Lib.hid hN
  rw [← hN] at HR h9 ⊢
  clear hr hN ht
  by_cases hNK : N ≤ K
  rotate_left
  · have hk1 : ¬ (N : Int) ≤ (K : Int) := by omega
    have HE : Hid (meFew K l = false) := by show _ = _; unfold meFew; rw [← HN.out, decide_eq_false hNK]; rfl
    have hN0 : (0 : Int) < (N : Int) := by omega
    clear hNK
    go_enter Tryz.func26, Tryz.ntmps26
    go_wp2_with fail
    go_loopg [5] 1 (fun gk i wr => gk = 1 ∧ i = .int .i64 0 ∧ wr = w)
    case atStart => exact ⟨rfl, rfl, rfl⟩
    case round =>
      rename_i J1 K1 hJ1 hK1
      obtain ⟨-, rfl, rfl⟩ := hrel
      clear hJ1 hK1
      go_wp2_with fail
      go_ret
      exact ⟨by rw [HE.out]; rfl, Below.refl _ _⟩
  have hk1 : (N : Int) ≤ (K : Int) := by omega
  have HW : Hid (Below w.heap.size w w) := Lib.hid (Below.refl _ _)
  have HA : Hid ((l.take 0).all meFewB = true) := Lib.hid (by simp)
  go_enter Tryz.func26, Tryz.ntmps26
  go_wp2_with fail
  go_loopg [5] N (fun gk i wr => ∃ k : Nat, gk = N - k ∧ k ≤ N ∧ i = .int .i64 (k : Int) ∧ Hid ((l.take k).all meFewB = true) ∧ Hid (Below w.heap.size w wr))
  case atStart => exact ⟨0, rfl, Nat.zero_le _, rfl, HA, HW⟩
  case round =>
    rename_i J1 K1 hJ1 hK1
    clear HA HW
    obtain ⟨k, rfl, hk, rfl, HA, HW⟩ := hrel
    by_cases hlt : k < N
    · obtain ⟨m, hx⟩ : ∃ x, l[k]? = some x := ⟨_, List.getElem?_eq_getElem (by rw [← HN.out]; exact hlt)⟩
      obtain ⟨t1, t2, t3⟩ := HTx.out m (List.mem_of_getElem? hx)
      obtain ⟨g, off, kv, rfl, hg, hm, hf⟩ := HR.out.get HW.out hx
      have HX := Lib.hid hx
      obtain ⟨y2, m2, rfl⟩ := hf.form
      obtain ⟨n2, hn2⟩ : ∃ n, n = m.cond.kids.length := ⟨_, rfl⟩
      rw [← hn2] at hm hf
      clear hx hn2
      obtain ⟨c0, c1, c2, c3, c4, c5, c6, c7, c8, c9, c10, c11⟩ := hm
      obtain ⟨W2, hW2⟩ : ∃ W, W = wr.alloc (mobj m (.slice y2 n2 m2)) := ⟨_, rfl⟩
      have hb2 : Below wr.heap.size wr W2 := by rw [hW2]; exact (Below.refl _ _).alloc (Nat.le_refl _) _
      have HW2 : Hid (Below w.heap.size w W2) := Lib.hid (HW.out.trans (hb2.mono HW.out.size))
      have HFm := Lib.hid (hf.later hb2)
      clear hf hb2
      by_cases n1 : 60 < m.id.length
      · have hn1 : (60 : Int) < (m.id.length : Int) := by omega
        have HE : Hid (meFew K l = false) := by
          show _ = _
          unfold meFew
          rw [Bool.and_eq_false_iff]
          right
          rw [← Bool.not_eq_true, List.all_eq_true]
          intro h
          have h1 := h m (List.mem_of_getElem? HX.out)
          unfold meFewB at h1
          simp only [Bool.and_eq_true, decide_eq_true_eq] at h1
          have := h1.1; omega
        clear hJ1 hK1
        (try clear hn1)
        (try clear hn2)
        (try clear hn3)
        go_wp2_with fail
        go_ret
        exact ⟨by rw [HE.out]; rfl, by rw [← hW2]; exact HW2.out⟩
      have hn1 : ¬ (60 : Int) < (m.id.length : Int) := by omega
      by_cases n2' : 60 < m.auth.length
      · have hn2 : (60 : Int) < (m.auth.length : Int) := by omega
        have HE : Hid (meFew K l = false) := by
          show _ = _
          unfold meFew
          rw [Bool.and_eq_false_iff]
          right
          rw [← Bool.not_eq_true, List.all_eq_true]
          intro h
          have h1 := h m (List.mem_of_getElem? HX.out)
          unfold meFewB at h1
          simp only [Bool.and_eq_true, decide_eq_true_eq] at h1
          have := h1.2.1; omega
        clear hJ1 hK1
        (try clear hn1)
        (try clear hn2)
        (try clear hn3)
        go_wp2_with fail
        go_ret
        exact ⟨by rw [HE.out]; rfl, by rw [← hW2]; exact HW2.out⟩
      have hn2 : ¬ (60 : Int) < (m.auth.length : Int) := by omega
      by_cases n3 : 60 < m.target.length
      · have hn3 : (60 : Int) < (m.target.length : Int) := by omega
        have HE : Hid (meFew K l = false) := by
          show _ = _
          unfold meFew
          rw [Bool.and_eq_false_iff]
          right
          rw [← Bool.not_eq_true, List.all_eq_true]
          intro h
          have h1 := h m (List.mem_of_getElem? HX.out)
          unfold meFewB at h1
          simp only [Bool.and_eq_true, decide_eq_true_eq] at h1
          have := h1.2.2.1; omega
        clear hJ1 hK1
        (try clear hn1)
        (try clear hn2)
        (try clear hn3)
        go_wp2_with fail
        go_ret
        exact ⟨by rw [HE.out]; rfl, by rw [← hW2]; exact HW2.out⟩
      have hn3 : ¬ (60 : Int) < (m.target.length : Int) := by omega
      go_wp2_with fail
      rw [← hW2]
      clear hW2 hg c0 c1 c2 c3 c4 c5 c6 c7 c8 c9 c10 c11
      go_at_call 53
      refine (Small26_c m.cond W2 _ 60 HFm.out (by omega)).mono ?_
      rintro e W3 ⟨rfl, hb⟩
      have HW3 : Hid (Below w.heap.size w W3) := Lib.hid (HW2.out.trans (hb.mono HW2.out.size))
      clear hb HW2 HFm
      obtain ⟨q, hq⟩ : ∃ q, q = decide (size m.cond ≤ 60) := ⟨_, rfl⟩
      rw [← hq]
      have HQ := Lib.hid hq
      clear hq
      cases q
      · have HE : Hid (meFew K l = false) := by
          show _ = _
          unfold meFew
          rw [Bool.and_eq_false_iff]
          right
          rw [← Bool.not_eq_true, List.all_eq_true]
          intro h
          have h1 := h m (List.mem_of_getElem? HX.out)
          unfold meFewB at h1
          simp only [Bool.and_eq_true, decide_eq_true_eq] at h1
          have h2 := HQ.out; rw [decide_eq_true h1.2.2.2] at h2; cases h2
        clear hJ1 hK1
        (try clear hn1)
        (try clear hn2)
        (try clear hn3)
        go_wp2_with fail
        go_ret
        exact ⟨by rw [HE.out]; rfl, HW3.out⟩
      have HA2 : Hid ((l.take (k + 1)).all meFewB = true) := by
        show _ = _
        rw [List.take_add_one, HX.out, List.all_append, HA.out]
        simp only [Option.toList_some, List.all_cons, List.all_nil, Bool.and_true, Bool.true_and]
        unfold meFewB
        rw [← HQ.out, decide_eq_true (p := m.id.length ≤ 60) (by omega), decide_eq_true (p := m.auth.length ≤ 60) (by omega), decide_eq_true (p := m.target.length ≤ 60) (by omega)]
        rfl
      clear HQ hn1 hn2 hn3 n1 n2' n3 t1 t2 t3
      go_wp2_with fail
      go_roundg (N - (k + 1))
      case measure => omega
      case rel => exact ⟨k + 1, rfl, by omega, by go_num, HA2, HW3⟩
    · obtain rfl : k = N := by omega
      have HE : Hid (meFew K l = true) := by
        show _ = _
        have := HA.out
        rw [HN.out, List.take_length] at this
        unfold meFew
        rw [this, ← HN.out, decide_eq_true hNK]; rfl
      clear hJ1 hK1 hlt hNK
      go_wp2_with fail
      go_ret
      exact ⟨by rw [HE.out]; rfl, HW.out⟩
set_option maxHeartbeats 4000000 in
/-- A scene is small. -/
theorem scFew_c (s : Sc) (vd va vz vc : Value) (w : World) (hs : IsSc w s vd va vz vc) (h1 : s.dom.length ≤ 9223372036854775807) (h2 : s.auths.length ≤ 9223372036854775807) (h3 : s.zones.length ≤ 9223372036854775807) (h4 : s.cases.length ≤ 9223372036854775807) :
    Calls Tryz.prog 27 #[sval s vd va vz vc] w fun e w' => e = .returned (.bool (scFew s)) ∧ Below w.heap.size w w' := by
  obtain ⟨yd, md, rfl⟩ := hs.dom.form
  obtain ⟨ya, ma, rfl⟩ := hs.auths.form
  obtain ⟨yz, mz, rfl⟩ := hs.zones.form
  obtain ⟨yc, mc, rfl⟩ := hs.cases.form
  obtain ⟨ND, hND⟩ : ∃ n, n = s.dom.length := ⟨_, rfl⟩
  obtain ⟨NA, hNA⟩ : ∃ n, n = s.auths.length := ⟨_, rfl⟩
  obtain ⟨NZ, hNZ⟩ : ∃ n, n = s.zones.length := ⟨_, rfl⟩
  obtain ⟨NC, hNC⟩ : ∃ n, n = s.cases.length := ⟨_, rfl⟩
  rw [← hND, ← hNA, ← hNZ, ← hNC] at hs
  have HND := Lib.hid hND
  have HNA := Lib.hid hNA
  have HNZ := Lib.hid hNZ
  have HNC := Lib.hid hNC
  have HS := Lib.hid hs
  clear hs
  rw [← hND] at h1 ⊢
  rw [← hNA] at h2 ⊢
  rw [← hNZ] at h3 ⊢
  rw [← hNC] at h4 ⊢
  clear hND hNA hNZ hNC
  obtain ⟨W1, hW1⟩ : ∃ W1, W1 = w.alloc (sobj s (.slice yd ND md) (.slice ya NA ma) (.slice yz NZ mz) (.slice yc NC mc)) := ⟨_, rfl⟩
  obtain ⟨bx, hbx⟩ : ∃ b, b = w.heap.size := ⟨_, rfl⟩
  have HO : Hid (Owns w W1 [blk bx (sobj s (.slice yd ND md) (.slice ya NA ma) (.slice yz NZ mz) (.slice yc NC mc))]) := by
    rw [hW1, hbx]
    exact Lib.hid ((Owns.start w).box _)
  go_enter Tryz.func27, Tryz.ntmps27
  by_cases n1 : 20 < ND
  · have n1' : (20 : Int) < (ND : Int) := by omega
    have HE : Hid (scFew s = false) := by
      show _ = _
      rw [← Bool.not_eq_true]
      intro h
      unfold scFew at h
      simp only [Bool.and_eq_true, decide_eq_true_eq, List.all_eq_true] at h
      have := h.1; rw [← HND.out] at this; omega
    clear n1
    go_wp2_with fail
    go_ret
    exact ⟨by rw [HE.out]; rfl, by rw [← hW1]; exact HO.out.base⟩
  have n1' : ¬ (20 : Int) < (ND : Int) := by omega
  by_cases n2 : 8 < NA
  · have n2' : (8 : Int) < (NA : Int) := by omega
    have HE : Hid (scFew s = false) := by
      show _ = _
      rw [← Bool.not_eq_true]
      intro h
      unfold scFew at h
      simp only [Bool.and_eq_true, decide_eq_true_eq, List.all_eq_true] at h
      have := h.2.1; rw [← HNA.out] at this; omega
    clear n1 n2
    go_wp2_with fail
    go_ret
    exact ⟨by rw [HE.out]; rfl, by rw [← hW1]; exact HO.out.base⟩
  have n2' : ¬ (8 : Int) < (NA : Int) := by omega
  by_cases n3 : 8 < NZ
  · have n3' : (8 : Int) < (NZ : Int) := by omega
    have HE : Hid (scFew s = false) := by
      show _ = _
      rw [← Bool.not_eq_true]
      intro h
      unfold scFew at h
      simp only [Bool.and_eq_true, decide_eq_true_eq, List.all_eq_true] at h
      have := h.2.2.1; rw [← HNZ.out] at this; omega
    clear n1 n2 n3
    go_wp2_with fail
    go_ret
    exact ⟨by rw [HE.out]; rfl, by rw [← hW1]; exact HO.out.base⟩
  have n3' : ¬ (8 : Int) < (NZ : Int) := by omega
  by_cases n4 : 8 < NC
  · have n4' : (8 : Int) < (NC : Int) := by omega
    have HE : Hid (scFew s = false) := by
      show _ = _
      rw [← Bool.not_eq_true]
      intro h
      unfold scFew at h
      simp only [Bool.and_eq_true, decide_eq_true_eq, List.all_eq_true] at h
      have := h.2.2.2.1; rw [← HNC.out] at this; omega
    clear n1 n2 n3 n4
    go_wp2_with fail
    go_ret
    exact ⟨by rw [HE.out]; rfl, by rw [← hW1]; exact HO.out.base⟩
  have n4' : ¬ (8 : Int) < (NC : Int) := by omega
  go_wp2_with fail
  rw [← hW1, ← hbx]
  clear hW1 hbx n1' n2' n3' n4'
  obtain ⟨bk, -⟩ := HO.out.blk
  have hbx := lt_of_block bk
  have x0 := cell_of_heap bk (i := 0)
  have x1 := cell_of_heap bk (i := 1)
  have x2 := cell_of_heap bk (i := 2)
  have x3 := cell_of_heap bk (i := 3)
  have x4 := cell_of_heap bk (i := 4)
  have x5 := cell_of_heap bk (i := 5)
  simp only [List.getElem?_toArray, List.getElem?_cons_succ, List.getElem?_cons_zero] at x0 x1 x2 x3 x4 x5
  clear bk
  have HA : Hid ((s.zones.take 0).all (fun z => decide (z.length ≤ 20)) = true) := Lib.hid (by simp)
  go_loopg [3] NZ (fun gk i wr => ∃ k : Nat, gk = NZ - k ∧ k ≤ NZ ∧ i = .int .i64 (k : Int) ∧ wr = W1 ∧ Hid ((s.zones.take k).all (fun z => decide (z.length ≤ 20)) = true))
  case atStart => exact ⟨0, rfl, Nat.zero_le _, rfl, rfl, HA⟩
  case round =>
    rename_i J1 K1 hJ1 hK1
    clear HA
    obtain ⟨k, rfl, hk, rfl, rfl, HA⟩ := hrel
    by_cases hlt : k < NZ
    · obtain ⟨z, hx⟩ : ∃ x, s.zones[k]? = some x := ⟨_, List.getElem?_eq_getElem (by rw [← HNZ.out]; exact hlt)⟩
      obtain ⟨g, off, zx, zc, rfl, hg, cz, -⟩ := HS.out.zones.get HO.out.base hx
      have HX := Lib.hid hx
      clear hx
      obtain ⟨nz, hnz⟩ : ∃ n, n = z.length := ⟨_, rfl⟩
      rw [← hnz] at cz
      have HNz := Lib.hid hnz
      clear hnz
      by_cases z20 : 20 < nz
      · have z20' : (20 : Int) < (nz : Int) := by omega
        have HE : Hid (scFew s = false) := by
          show _ = _
          rw [← Bool.not_eq_true]
          intro h
          unfold scFew at h
          simp only [Bool.and_eq_true, decide_eq_true_eq, List.all_eq_true] at h
          have := h.2.2.2.2.1 z (List.mem_of_getElem? HX.out); rw [← HNz.out] at this; omega
        clear hJ1 hK1 z20
        go_wp2_with fail
        go_ret
        exact ⟨by rw [HE.out]; rfl, HO.out.base⟩
      have z20' : ¬ (20 : Int) < (nz : Int) := by omega
      have HA2 : Hid ((s.zones.take (k + 1)).all (fun z => decide (z.length ≤ 20)) = true) := by
        show _ = _
        rw [List.take_add_one, HX.out, List.all_append, HA.out]
        simp only [Option.toList_some, List.all_cons, List.all_nil, Bool.and_true, Bool.true_and]
        rw [← HNz.out]
        exact decide_eq_true (by omega)
      clear z20
      go_wp2_with fail
      clear hg cz z20'
      go_roundg (NZ - (k + 1))
      case measure => omega
      case rel => exact ⟨k + 1, rfl, by omega, by go_num, rfl, HA2⟩
    · obtain rfl : k = NZ := by omega
      have HZ : Hid (s.zones.all (fun z => decide (z.length ≤ 20)) = true) := by
        show _ = _
        have := HA.out
        rw [HNZ.out, List.take_length] at this
        exact this
      clear hJ1 hK1 hlt HA
      go_wp2_with fail
      have HA : Hid ((s.cases.take 0).all (fun z => decide (z.length ≤ 30)) = true) := Lib.hid (by simp)
      go_loopg [4] NC (fun gk i w2 => ∃ k : Nat, gk = NC - k ∧ k ≤ NC ∧ i = .int .i64 (k : Int) ∧ w2 = wr ∧ Hid ((s.cases.take k).all (fun z => decide (z.length ≤ 30)) = true))
      case atStart => exact ⟨0, rfl, Nat.zero_le _, rfl, rfl, HA⟩
      case round =>
        rename_i J2 K2 hJ2 hK2
        clear HA
        obtain ⟨j, rfl, hj, rfl, rfl, HA⟩ := hrel
        by_cases hlt : j < NC
        · obtain ⟨z, hx⟩ : ∃ x, s.cases[j]? = some x := ⟨_, List.getElem?_eq_getElem (by rw [← HNC.out]; exact hlt)⟩
          obtain ⟨g, off, u, rfl, hg, cz, hu⟩ := HS.out.cases.get HO.out.base hx
          have HX := Lib.hid hx
          obtain ⟨ux, uc, rfl⟩ := hu.form
          clear hx hu
          obtain ⟨nz, hnz⟩ : ∃ n, n = z.length := ⟨_, rfl⟩
          rw [← hnz] at cz
          have HNz := Lib.hid hnz
          clear hnz
          by_cases z20 : 30 < nz
          · have z20' : (30 : Int) < (nz : Int) := by omega
            have HE : Hid (scFew s = false) := by
              show _ = _
              rw [← Bool.not_eq_true]
              intro h
              unfold scFew at h
              simp only [Bool.and_eq_true, decide_eq_true_eq, List.all_eq_true] at h
              have := h.2.2.2.2.2 z (List.mem_of_getElem? HX.out); rw [← HNz.out] at this; omega
            clear hJ2 hK2 z20
            go_wp2_with fail
            go_ret
            exact ⟨by rw [HE.out]; rfl, HO.out.base⟩
          have z20' : ¬ (30 : Int) < (nz : Int) := by omega
          have HA2 : Hid ((s.cases.take (j + 1)).all (fun z => decide (z.length ≤ 30)) = true) := by
            show _ = _
            rw [List.take_add_one, HX.out, List.all_append, HA.out]
            simp only [Option.toList_some, List.all_cons, List.all_nil, Bool.and_true, Bool.true_and]
            rw [← HNz.out]
            exact decide_eq_true (by omega)
          clear z20
          go_wp2_with fail
          clear hg cz z20'
          go_roundg (NC - (j + 1))
          case measure => omega
          case rel => exact ⟨j + 1, rfl, by omega, by go_num, rfl, HA2⟩
        · obtain rfl : j = NC := by omega
          have HE : Hid (scFew s = true) := by
            show _ = _
            have := HA.out
            rw [HNC.out, List.take_length] at this
            unfold scFew
            rw [this, HZ.out, ← HND.out, ← HNA.out, ← HNZ.out, ← HNC.out, decide_eq_true (p := ND ≤ 20) (by omega), decide_eq_true (p := NA ≤ 8) (by omega), decide_eq_true (p := k ≤ 8) (by omega), decide_eq_true (p := j ≤ 8) (by omega)]
            rfl
          clear hJ2 hK2 hlt
          go_wp2_with fail
          go_ret
          exact ⟨by rw [HE.out]; rfl, HO.out.base⟩
set_option maxHeartbeats 2000000 in
/-- The laws' 'few'. -/
theorem fewV_c (l : List Me) (s : Sc) (lv vd va vz vc : Value) (w : World) (hr : IsMeR w l lv) (hs : IsSc w s vd va vz vc) (h9 : l.length ≤ 9223372036854775807) (ht : ∀ m ∈ l, m.id.length ≤ 140737488355328 ∧ m.auth.length ≤ 140737488355328 ∧ m.target.length ≤ 140737488355328) (h1 : s.dom.length ≤ 9223372036854775807) (h2 : s.auths.length ≤ 9223372036854775807) (h3 : s.zones.length ≤ 9223372036854775807) (h4 : s.cases.length ≤ 9223372036854775807) :
    Calls Tryz.prog 10 #[lv, sval s vd va vz vc] w fun e w' => e = .returned (.bool (fewV l s)) ∧ Below w.heap.size w w' := by
  have HM := Lib.hid fun (W : World) (hb : Below w.heap.size w W) => meFew_c 8 (by omega) l lv W (hr.later hb) h9 ht
  have HSm := Lib.hid fun (W : World) (hb : Below w.heap.size w W) => scFew_c s vd va vz vc W (hs.later hb) h1 h2 h3 h4
  obtain ⟨y, c, rfl⟩ := hr.form
  obtain ⟨N, hN⟩ : ∃ N, N = l.length := ⟨_, rfl⟩
  rw [← hN] at HM ⊢
  clear hr hN h9 ht h1 h2 h3 h4
  obtain ⟨yd, md, rfl⟩ := hs.dom.form
  obtain ⟨ya, ma, rfl⟩ := hs.auths.form
  obtain ⟨yz, mz, rfl⟩ := hs.zones.form
  obtain ⟨yc, mc, rfl⟩ := hs.cases.form
  obtain ⟨ND, hND⟩ : ∃ n, n = s.dom.length := ⟨_, rfl⟩
  obtain ⟨NA, hNA⟩ : ∃ n, n = s.auths.length := ⟨_, rfl⟩
  obtain ⟨NZ, hNZ⟩ : ∃ n, n = s.zones.length := ⟨_, rfl⟩
  obtain ⟨NC, hNC⟩ : ∃ n, n = s.cases.length := ⟨_, rfl⟩
  rw [← hND, ← hNA, ← hNZ, ← hNC] at hs
  have HND := Lib.hid hND
  have HNA := Lib.hid hNA
  have HNZ := Lib.hid hNZ
  have HNC := Lib.hid hNC
  have HS := Lib.hid hs
  clear hs
  rw [← hND, ← hNA, ← hNZ, ← hNC] at HSm ⊢
  clear hND hNA hNZ hNC HND HNA HNZ HNC
  obtain ⟨W1, hW1⟩ : ∃ W1, W1 = w.alloc (sobj s (.slice yd ND md) (.slice ya NA ma) (.slice yz NZ mz) (.slice yc NC mc)) := ⟨_, rfl⟩
  obtain ⟨bx, hbx⟩ : ∃ b, b = w.heap.size := ⟨_, rfl⟩
  have HO : Hid (Owns w W1 [blk bx (sobj s (.slice yd ND md) (.slice ya NA ma) (.slice yz NZ mz) (.slice yc NC mc))]) := by
    rw [hW1, hbx]
    exact Lib.hid ((Owns.start w).box _)
  go_enter Tryz.func10, Tryz.ntmps10
  go_wp2_with fail
  rw [← hW1, ← hbx]
  clear hW1 hbx
  go_at_call 26
  refine (HM.out W1 HO.out.base).mono ?_
  rintro e W2 ⟨rfl, hb⟩
  replace HO := Lib.hid (HO.out.below hb)
  clear hb HM
  obtain ⟨q, hq⟩ : ∃ q, q = meFew 8 l := ⟨_, rfl⟩
  rw [← hq]
  have HQ := Lib.hid hq
  clear hq
  cases q
  · have HE : Hid (fewV l s = false) := by show _ = _; unfold fewV; rw [← HQ.out]; rfl
    go_wp2_with fail
    go_ret
    exact ⟨by rw [HE.out]; rfl, HO.out.base⟩
  obtain ⟨bk, -⟩ := HO.out.blk
  have hbx := lt_of_block bk
  have x0 := cell_of_heap bk (i := 0)
  have x1 := cell_of_heap bk (i := 1)
  have x2 := cell_of_heap bk (i := 2)
  have x3 := cell_of_heap bk (i := 3)
  have x4 := cell_of_heap bk (i := 4)
  have x5 := cell_of_heap bk (i := 5)
  simp only [List.getElem?_toArray, List.getElem?_cons_succ, List.getElem?_cons_zero] at x0 x1 x2 x3 x4 x5
  clear bk
  go_wp2_with fail
  clear hbx x0 x1 x2 x3 x4 x5
  go_at_call 27
  refine (HSm.out W2 HO.out.base).mono ?_
  rintro e W3 ⟨rfl, hb⟩
  replace HO := Lib.hid (HO.out.below hb)
  clear hb HSm
  have HE : Hid (fewV l s = scFew s) := by show _ = _; unfold fewV; rw [← HQ.out]; rfl
  obtain ⟨q, hq⟩ : ∃ q, q = scFew s := ⟨_, rfl⟩
  rw [← hq] at HE ⊢
  clear hq HQ
  go_wp2_with fail
  go_ret
  exact ⟨by rw [HE.out]; rfl, HO.out.base⟩
end Go.Proofs.YtakadfdnhlfijaaGreatDoor
