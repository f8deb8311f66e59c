/-
  'JournalForeign': the walk.
-/
import Derived.Test.YtjcjpekndeoonaaDoorJnLaw
import Derived.Test.YtjcjpekndeoonaaDoorJnFor
namespace Go.Cz.Jn
set_option linter.unusedSimpArgs false
set_option linter.unusedVariables false
open Go.Cz.Dk (Dm)
theorem write_on {m : Dm} (h : On m) {k : Nat} (hk : k < m.st.length) {t : Bytes} (ht : t.length = 64) : ∃ m', Dk.write m (k : Int) t = (m', 0) ∧ On m' ∧ m'.st.length = m.st.length ∧ m'.q.length = m.q.length + 1 := by
  refine ⟨{ m with q := m.q ++ [(k, t)] }, ?_, ⟨h.off, h.al, h.ok.1, fun p hp => ?_, by dsimp only; rw [h.al]; simp⟩, rfl, by simp⟩
  · unfold Dk.write Dk.valid Dk.count
    rw [h.off, h.al, ht, decide_eq_true (by omega : (0 : Int) ≤ (k : Int)), decide_eq_true (by omega : (k : Int) < (m.st.length : Int))]
    simp
  · rcases List.mem_append.1 hp with hp | hp
    · exact h.ok.2.1 p hp
    · simp at hp
      subst hp
      exact ⟨hk, ht⟩
theorem find_on {m : Dm} (h : On m) (h3 : 3 ≤ m.st.length) : findB m = .error 27 ∨ ∃ c rs, findB m = .ok (c, rs) := by
  have hfl := find_law (m := m) (by rw [h.off]; decide) h3 rfl rfl
  rw [hfl]
  split
  · exact .inl rfl
  · split
    · exact .inl rfl
    · split
      · exact .inl rfl
      · exact .inr ⟨_, _, rfl⟩
theorem text_ge (rs : List Bytes) : rs.length ≤ (textB rs).length := by
  induction rs with
  | nil => simp
  | cons r rs ih =>
    have e : textB (r :: rs) = (decB r.length ++ 58 :: r) ++ textB rs := by simp [textB]
    rw [e, List.length_append, List.length_append, List.length_cons, List.length_cons]
    omega
theorem inv_recs {m : Dm} {j : Jm} (h : Inv m j) : j.recs.length ≤ 46 * j.count := by
  obtain ⟨ps, h1, h2, h3⟩ := h.pieces
  have h4 := flat_le ps fun p hp => by
    obtain ⟨i, hi⟩ := List.getElem?_of_mem hp
    exact (h2 i p hi).2.2
  have h5 := text_ge j.recs
  rw [← h3] at h5
  omega
/-- What 'Open' leaves behind on a disk with writes pending. -/
theorem open_on {m : Dm} (h : On m) {n : Nat} (hn : m.st.length = n) (h3 : 3 ≤ n) (h4 : n ≤ 40) {c : Nat} {rs : List Bytes} (hf : findB m = .ok (c, rs)) : (openB m).2 = (0, ⟨n, c, rs, false⟩) ∧ On (openB m).1 ∧ Inv (flat (openB m).1) ⟨n, c, rs, false⟩ ∧ (openB m).1.st.length = n := by
  obtain ⟨o1, o2, o3, o4⟩ := open_flat h (by omega)
  obtain ⟨i1, i2⟩ := open_inv h.calm (by rw [flat_len]; omega) (by rw [flat_len]; omega) ((find_flat h).trans hf)
  rw [flat_len, hn] at i1 i2
  refine ⟨?_, o2, by rw [o3]; exact i2, by omega⟩
  rw [o1, i1]
/-- Once more. -/
theorem open_again {m : Dm} {j : Jm} (h : On m) (hi : Inv (flat m) j) : (openB m).2 = (0, j) := by
  have h1 := hi.sec
  rw [flat_len] at h1
  obtain ⟨o1, o2, o3, o4⟩ := open_flat h (by have := hi.low; omega)
  rw [o1, hi.open]
theorem x_pieces : piecesB (textB [[120]]) = [[49, 58, 120]] := by decide +kernel
theorem x_full {m : Dm} {sec cnt : Nat} {rs : List Bytes} (hr : (sec : Int) - 2 - (cnt : Int) = 0) : appendB m ⟨sec, cnt, rs, false⟩ [[120]] = (m, 28, ⟨sec, cnt, rs, false⟩) := by
  unfold appendB
  rw [if_neg (by simp), if_neg (by decide), x_pieces, if_pos (by unfold Jm.room; dsimp only; rw [hr]; decide)]
theorem x_ok {m : Dm} {sec cnt : Nat} {rs : List Bytes} (h : Inv m ⟨sec, cnt, rs, false⟩) (hr : 1 ≤ (sec : Int) - 2 - (cnt : Int)) : (appendB m ⟨sec, cnt, rs, false⟩ [[120]]).2 = (0, ⟨sec, cnt + 1, rs ++ [[120]], false⟩) := by
  have h1 := h.append (rs := [[120]]) (by decide) (by rw [x_pieces]; unfold Jm.room; dsimp only [List.length_cons, List.length_nil]; omega) (by simp)
  rw [h1.1]
  unfold added
  rw [x_pieces]
  rfl
end Go.Cz.Jn
namespace Go.Proofs.YtjcjpekndeoonaaDoor
open Go.RowKit Go.Cz Go.Cz.Jn
set_option linter.unusedSimpArgs false
set_option linter.unusedVariables false
attribute [local go_sem] bs_size bs_extract bs_append bs_toList
attribute [local irreducible] cList cPlan
theorem open_q (m : Dk.Dm) : (openB m).1.q.length ≤ m.q.length + 4 := by
  cases hf : findB m with
  | error e => rw [open_err hf]; show m.q.length ≤ _; omega
  | ok x =>
    obtain ⟨c, rs⟩ := x
    have h1 := fix_q m 0 (Dk.look m 0) c
    have h2 := fix_q (fixB m 0 (Dk.look m 0) c).1 1 (Dk.look m 1) c
    rw [open_ok hf rfl rfl]
    split
    · show (fixB m 0 (Dk.look m 0) c).1.q.length ≤ _; omega
    · split
      · show (fixB (fixB m 0 (Dk.look m 0) c).1 1 (Dk.look m 1) c).1.q.length ≤ _; omega
      · show (fixB (fixB m 0 (Dk.look m 0) c).1 1 (Dk.look m 1) c).1.q.length ≤ _; omega
theorem steps_q (m : Dk.Dm) (c : Nat) (ps : List Bytes) : (stepsB m c ps).1.q.length ≤ m.q.length + 2 * ps.length + 2 := by
  obtain ⟨a, ha⟩ : ∃ a, a = writesB m (2 + c) (ps.map fun _ => zeroB) := ⟨_, rfl⟩
  obtain ⟨b, hb⟩ : ∃ b, b = writesB a.1 (2 + c) (fullB c ps) := ⟨_, rfl⟩
  obtain ⟨d, hd⟩ : ∃ d, d = writesB b.1 1 [headB 1 (c + ps.length)] := ⟨_, rfl⟩
  obtain ⟨f, hf⟩ : ∃ f, f = writesB d.1 0 [headB 0 (c + ps.length)] := ⟨_, rfl⟩
  have hst : stepsB m c ps = if a.2 != 0 then a else if b.2 != 0 then b else if d.2 != 0 then d else f := by
    subst hf hd hb ha
    rfl
  have h1 := writes_q (ps.map fun _ => zeroB) m (2 + c)
  have h2 := writes_q (fullB c ps) a.1 (2 + c)
  have h3 := writes_q [headB 1 (c + ps.length)] b.1 1
  have h4 := writes_q [headB 0 (c + ps.length)] d.1 0
  rw [← ha, List.length_map] at h1
  rw [← hb, fullB_len] at h2
  rw [← hd, List.length_cons, List.length_nil] at h3
  rw [← hf, List.length_cons, List.length_nil] at h4
  rw [hst]
  split
  · omega
  · split
    · omega
    · split <;> omega
theorem app_q (m : Dk.Dm) (j : Jm) (rs : List Bytes) : (appendB m j rs).1.q.length ≤ m.q.length + 2 * (piecesB (textB rs)).length + 2 := by
  have h := steps_q m j.count (piecesB (textB rs))
  unfold appendB
  split
  · show m.q.length ≤ _; omega
  · split
    · show m.q.length ≤ _; omega
    · split
      · show m.q.length ≤ _; omega
      · split
        · show m.q.length ≤ _; omega
        · exact h
set_option maxRecDepth 10000 in
theorem zerosR_c (n : Nat) (w : World) (h1 : n ≤ 1000000) : Calls Tryd.prog 47 #[.int .i64 (n : Int)] w fun e w' => e = .returned (.string (bs (List.replicate n 0))) ∧ Below w.heap.size w w' := by
  have hz : (madeCells #[Value.int .u8 0] n) = (bcells (List.replicate n 0)).toArray := by
    apply Array.ext
    · simp [madeCells, bcells]
    · intro i h1 h2
      simp [madeCells, bcells, Nat.mod_one]
  go_enter Tryd.func47, Tryd.ntmps47
  go_wp2_with (refine wpList_plain rfl fun K hK => wp_make (.tmp 3) (.tmp 3) 51 (by rfl) 5 (.int .u8 0) 1 1 Tryd.underlying51 info_byte n n (by rfl) (by rfl) (by omega) (by omega) (by omega) ?_)
  rw [run_convert_text (P := Tryd.prog) (w.alloc (.cells (bcells (List.replicate n 0)).toArray 5)) 51 5 9 Tryd.underlying51 (by kernel_rfl) (by kernel_rfl) w.heap.size 0 n n (List.replicate n 0) 5 (0, 0) (new_heap w _ _ rfl) (by simp)]
  go_wp2_with fail
  go_ret
  exact ⟨by simp, (Below.refl _ _).alloc (Nat.le_refl _) _⟩
theorem ZeroR_c (w : World) : Calls Tryd.prog 20 #[] w fun e w' => e = .returned (.string (bs zeroB)) ∧ Below w.heap.size w w' := by
  go_enter Tryd.func20, Tryd.ntmps20
  go_wp2_with fail
  go_at_call 47
  refine (zerosR_c 64 _ (by decide)).mono ?_
  rintro e w1 ⟨rfl, hb⟩
  have HB := Lib.hid hb
  clear hb
  go_wp2_with fail
  go_ret
  exact ⟨rfl, HB.out⟩
set_option maxRecDepth 10000 in
set_option maxHeartbeats 8000000 in
theorem JournalForeign_walk (W : World) (hs : Std W) (x : Option Addr) (n c : Nat) (l : List Bytes) (hi : IsTexts W x n l ∧ ((x = none → c = 0) ∧ ∀ s ∈ l, s.length ≤ 140737488355328)) :
    Calls Tryd.prog 6 #[.slice x n c] W fun e W' => e = .returned (.bool true) ∧ Below W.heap.size W W' := by
  have HS := Lib.hid hs
  have HI := Lib.hid hi.1
  have HLs := Lib.hid hi.2.2
  have HO : Hid (Owns W W []) := Owns.start W
  clear hs hi
  go_enter Tryd.func6, Tryd.ntmps6
  go_wp2_with fail
  go_at_call 8
  refine (head_c _ HS.out).mono ?_
  rintro e w1 ⟨rfl, hb⟩
  replace HO := Lib.hid (HO.out.below hb)
  clear hb
  by_cases h3 : n < 3
  · have h3' : (n : Int) < 3 := by omega
    go_wp2_with fail
    go_ret
    exact ⟨rfl, HO.out.base⟩
  by_cases h40 : 40 < n
  · have h3' : ¬ (n : Int) < 3 := by omega
    have h40' : (40 : Int) < (n : Int) := by omega
    go_wp2_with fail
    go_ret
    exact ⟨rfl, HO.out.base⟩
  have h3' : ¬ (n : Int) < 3 := by omega
  have h40' : ¬ (40 : Int) < (n : Int) := by omega
  have HNn : Hid (3 ≤ n ∧ n ≤ 40) := ⟨by omega, by omega⟩
  clear h3 h40
  go_wp2_with fail
  go_at_call 19
  refine (Owns.new n HO.out (by have := HNn.out; omega) (by have := HNn.out; omega)).mono ?_
  rintro e w2 ⟨db, rfl, ho⟩
  replace HO := Lib.hid ho
  have HM : Hid (On (Dk.fresh n) ∧ (Dk.fresh n).st.length = n ∧ (Dk.fresh n).q.length ≤ 0) := ⟨(inv_fresh HNn.out.1 (by have := HNn.out; omega)).calm.on, by simp [Dk.fresh], by simp [Dk.fresh]⟩
  clear ho
  go_wp2_with fail
  go_loopg [5] n (fun gk i wr => ∃ (k : Nat) (m : Dk.Dm), gk = n - k ∧ k ≤ n ∧ i = .int .i64 (k : Int) ∧ Hid (On m ∧ m.st.length = n ∧ m.q.length ≤ k) ∧ Hid (Owns W wr (disk db m :: [])))
  case atStart => exact ⟨0, _, rfl, Nat.zero_le _, rfl, HM, HO⟩
  case round =>
    rename_i J1 K1 hJ1 hK1
    clear HO HM
    obtain ⟨k, m, rfl, hk, rfl, HM, HO⟩ := hrel
    by_cases hlt : k < n
    · obtain ⟨g, off, s, rfl, hs, hg, cs⟩ := (HI.out.below HO.out.base).get hlt
      have HLt := Lib.hid hlt
      have hsl := HLs.out s (List.mem_of_getElem? hs)
      clear hs
      by_cases h100 : 100 < s.length
      · have h100' : (100 : Int) < (s.length : Int) := by omega
        clear hJ1 hK1
        go_wp2_with fail
        go_ret
        exact ⟨rfl, HO.out.base⟩
      · have h100' : ¬ (100 : Int) < (s.length : Int) := by omega
        have hs100 : s.length ≤ 100 := by omega
        clear h100 hsl
        obtain ⟨t, ht⟩ : ∃ t, t = (s ++ zeroB).take 64 := ⟨_, rfl⟩
        have htl : t.length = 64 := by rw [ht, List.length_take, List.length_append, zeroB_len]; omega
        obtain ⟨m', hw, hm1, hm2, hm3⟩ := write_on HM.out.1 (k := k) (by rw [HM.out.2.1]; exact hlt) htl
        have HW := Lib.hid hw
        have HT := Lib.hid ht
        have HM2 : Hid (On m' ∧ m'.st.length = n ∧ m'.q.length ≤ k + 1) := ⟨hm1, by rw [hm2]; exact HM.out.2.1, by rw [hm3]; have := HM.out.2.2; omega⟩
        clear hw hm1 hm2 hm3 ht
        go_wp2_with fail
        refine wp_region_can [4] (List.range 7) (by kernel_rfl) (by kernel_rfl) ?_
        replace HO := Lib.hid HO.out.drew
        iterate 4 (refine cl_do rfl rfl rfl rfl (fun _ _ => ?_); go_wp2_with fail)
        refine cl_call (i := 4) rfl rfl rfl (fun K hK => ?_)
        go_wp2_with fail
        go_at_call 20
        refine (ZeroR_c _).mono ?_
        rintro e w3 ⟨rfl, hb⟩
        have Hb := Lib.hid hb
        replace HO := Lib.hid (HO.out.below hb)
        obtain ⟨z, hz⟩ : ∃ z, z = zeroB := ⟨_, rfl⟩
        have hzl : z.length = 64 := by rw [hz]; exact zeroB_len
        rw [← hz] at HT ⊢
        clear hb cs hg hz
        go_wp2_with fail
        refine And.intro Hb.out ?_
        clear Hb
        iterate 2 (refine cl_do rfl rfl rfl rfl (fun _ _ => ?_); go_wp2_with fail)
        refine cl_nil ?_
        go_wp2_with fail
        rw [← HT.out]
        go_at_call 21
        refine (Owns.write (k : Int) t HO.out (by have := HM.out.2.2; omega)).mono ?_
        rintro e w4 ⟨rfl, ho⟩
        rw [HW.out] at ho ⊢
        replace HO := Lib.hid ho
        clear ho
        go_wp2_with fail
        go_roundg (n - (k + 1))
        case measure => have := HLt.out; omega
        case rel => exact ⟨k + 1, m', rfl, by have := HLt.out; omega, by go_num, HM2, HO⟩
    · have HM3 : Hid (On m ∧ m.st.length = n ∧ m.q.length ≤ 40) := ⟨HM.out.1, HM.out.2.1, by have := HM.out.2.2; have := HNn.out; omega⟩
      clear hJ1 hK1
      go_wp2_with fail
      go_at_call 15
      refine (Open_c HO.out (by have := HM3.out.2.2; omega) HS.out).mono ?_
      intro e w5 ho
      rcases find_on HM3.out.1 (by rw [HM3.out.2.1]; exact HNn.out.1) with hf | ⟨cn, rs, hf⟩
      · obtain ⟨rfl, ho2⟩ := open_bad ho (c := 27) (by rw [open_err hf]) (by decide)
        replace HO := Lib.hid ho2
        clear ho ho2 hf
        go_wp2_with fail
        go_ret
        exact ⟨rfl, HO.out.base⟩
      · obtain ⟨e2, v1, v2, v3⟩ := open_on HM3.out.1 HM3.out.2.1 HNn.out.1 HNn.out.2 hf
        obtain ⟨jb, xr, nr, cr, yo, ko, dd, rfl, ho2⟩ := open_good ho (by rw [e2])
        rw [e2] at ho2
        have hoq := open_q m
        obtain ⟨m1, hm1⟩ : ∃ m1, m1 = (openB m).1 := ⟨_, rfl⟩
        rw [← hm1] at ho2 v1 v2 v3 hoq
        have HV := Lib.hid (And.intro v1 v2)
        have HQ1 : Hid (m1.q.length ≤ 44) := by show _ ≤ _; have := HM3.out.2.2; omega
        have HRs : Hid (rs.length ≤ 1840) := by
          show _ ≤ _
          have h1 := inv_recs v2
          have h2 := v2.room
          have h3 := HNn.out
          dsimp only at h1 h2
          omega
        have HCn : Hid (cn + 2 ≤ n) := by show _ ≤ _; have h2 := v2.room; dsimp only at h2; omega
        replace HO : Hid (Owns W w5 (jblk jb db n cn (.slice xr nr cr) false :: trow (.slice xr nr cr) rs :: disk db m1 :: trow (.slice yo ko dd) rs :: [])) := ho2.re [1, 2, 3, 0]
        have HKo : Hid (ko ≤ 1840) := by show _ ≤ _; rw [← small_of ho2]; exact HRs.out
        have HYo : Hid (yo = none → dd = 0) := fun hn => by
          rcases (Owns.row ho2).2 with ⟨hv, -⟩ | ⟨_, _, _, hv, -⟩
          · cases hv; rfl
          · simp only [Value.slice.injEq] at hv
            rw [hn] at hv
            cases hv.1
        clear ho ho2 e2 v1 v2 v3 hoq hm1 hf HM HM3
        go_wp2_with fail
        go_at_call 16
        refine (Room_c HO.out (by have := HNn.out; omega) (by have := HCn.out; have := HNn.out; omega)).mono ?_
        rintro e w6 ⟨rfl, hb⟩
        obtain ⟨rm, hrm⟩ : ∃ rm : Int, rm = (n : Int) - 2 - (cn : Int) := ⟨_, rfl⟩
        have HRm := Lib.hid hrm
        rw [← hrm]
        have hrm0 : 0 ≤ rm := by have := HCn.out; omega
        replace HO := Lib.hid (HO.out.below hb)
        clear hb hrm
        obtain ⟨g, hg⟩ : ∃ g, g = w6.heap.size := ⟨_, rfl⟩
        obtain ⟨Wa, hWa⟩ : ∃ Wa, Wa = w6.alloc (.cells #[.string ⟨#[120]⟩] 9) := ⟨_, rfl⟩
        have HM : Hid (Owns W Wa (jblk jb db n cn (.slice xr nr cr) false :: trow (.slice xr nr cr) rs :: disk db m1 :: trow (.slice (some ⟨g, 0, none⟩) 1 1) [[120]] :: trow (.slice yo ko dd) rs :: [])) := by
          rw [hWa, hg]
          exact Lib.hid ((Owns.made HO.out [[120]] (by decide)).re [1, 2, 3, 0])
        clear HO
        go_wp2_with fail
        rw [← hg, ← hWa]
        clear hg hWa
        go_at_call 18
        refine (Append_c HM.out (fun w' h => is_of h) (by decide) (by decide) (by have := HQ1.out; omega) (by have := HCn.out; omega) (by have := HNn.out; omega) (by have := HRs.out; omega) HS.out).mono ?_
        rintro e w7 ⟨rv, he, ho⟩
        obtain ⟨af1, af2, af3⟩ := append_flat HV.out.1 HV.out.2 [[120]]
        by_cases hr0 : rm = 0
        · have hx := fun m => x_full (m := m) (rs := rs) (sec := n) (cnt := cn) (by rw [← HRm.out]; exact hr0)
          rw [hx] at he ho
          subst he hr0
          have HOg := Lib.hid (open_again HV.out.1 HV.out.2)
          replace HO : Hid (Owns W w7 (disk db m1 :: trow (.slice yo ko dd) rs :: [])) := (ho.re [0, 1, 3, 2]).pop.pop.pop
          clear ho HM af1 af2 af3 hx
          go_wp2_with fail
          go_at_call 15
          refine (Open_c HO.out (by have := HQ1.out; omega) HS.out).mono ?_
          intro e w8 ho
          obtain ⟨j2, x2, n2, c2, y2, k2, d2, rfl, ho2⟩ := open_good ho (by rw [HOg.out])
          rw [HOg.out] at ho2
          replace HO : Hid (Owns W w8 (trow (.slice y2 k2 d2) rs :: trow (.slice yo ko dd) rs :: [])) := (ho2.re [1, 2, 3, 0, 4]).pop.pop.pop
          have HK2 : Hid (k2 ≤ 1840) := by show _ ≤ _; rw [← small_of HO.out]; exact HRs.out
          clear ho ho2
          go_wp2_with fail
          go_at_call 11
          refine (Same_c _ _ _ _ _ _ _ _ _ (is_of HO.out.swap) (is_of HO.out) (by have := HKo.out; omega) (by have := HK2.out; omega)).mono ?_
          rintro e w9 ⟨rfl, hb⟩
          rw [decide_eq_true (rfl : rs = rs)]
          replace HO := Lib.hid (HO.out.below hb)
          clear hb
          go_wp2_with fail
          go_ret
          exact ⟨rfl, HO.out.base⟩
        · have hx := x_ok HV.out.2 (by rw [← HRm.out]; omega)
          have ha := af1.trans hx
          have hi2 := (HV.out.2.app [[120]]).1
          rw [← af3, hx] at hi2
          have hq2 := app_q m1 ⟨n, cn, rs, false⟩ [[120]]
          rw [x_pieces] at hq2
          rw [ha] at he ho
          obtain ⟨m2, hm2⟩ : ∃ m2, m2 = (appendB m1 ⟨n, cn, rs, false⟩ [[120]]).1 := ⟨_, rfl⟩
          rw [← hm2] at ho af2 hi2 hq2
          obtain ⟨r2, hr2⟩ : ∃ r2, r2 = rs ++ [[120]] := ⟨_, rfl⟩
          have HR2 := Lib.hid hr2
          have HR2l : Hid (r2.length ≤ 1841) := by show _ ≤ _; rw [hr2, List.length_append]; have := HRs.out; simp; omega
          rw [← hr2] at ho hi2
          subst he
          have HOg := Lib.hid (open_again af2 hi2)
          have HQ2 : Hid (m2.q.length ≤ 1000) := by
            show _ ≤ _
            have := HQ1.out
            simp only [List.length_cons, List.length_nil] at hq2
            omega
          have hrp : (0 : Int) < rm := by omega
          replace HO : Hid (Owns W w7 (trow (.slice yo ko dd) rs :: disk db m2 :: [])) := (ho.re [0, 1, 3, 4, 2]).pop.pop.pop
          obtain ⟨g0, hg0⟩ : ∃ g0, g0 = w7.heap.size := ⟨_, rfl⟩
          have HE := Owns.made HO.out [] (by decide)
          rw [← hg0] at HE
          have Hrow := Lib.hid (Owns.row HE)
          have HEo := Lib.hid HE
          clear ho HM af1 af2 af3 hx ha hi2 hq2 hm2 hr0 hr2 HE
          go_wp2_with (first | (rw [← hg0]; refine wpList_plain rfl fun K hK => wp_append_texts (.tmp 78) (.tmp 79) (by rfl) _ 0 [] (by rfl) Hrow.out yo ko dd rs (by rfl) (is_of HEo.out.swap) HYo.out (by have := HKo.out; omega) ?_; intro v' w10 hrow hgrow hblk; have hp := Owns.grew (l' := rs) HEo.out (by rw [show rs.length = 0 + ko by rw [small_of HEo.out.swap]; omega]; exact hrow) hgrow hblk; have Hp := Lib.hid hp; clear hp hrow hgrow hblk) | (refine wpList_plain rfl fun K hK => wp_append (.tmp 80) (.tmp 81) 27 (by rfl) 9 _ 1 16 Tryd.underlying27 info_jstr (by rfl) (by omega) _ rs.length _ (by rfl) (Owns.row (Hp.out.alloc (.cells #[.string ⟨#[120]⟩] 9))) w10.heap.size 1 1 [.string ⟨#[120]⟩] (by rfl) (by rfl) 9 (by exact new_heap w10 _ _ rfl) (by simp [Value.oneCell']) (by have := HRs.out; omega) (by have := HRs.out; omega) ?_; intro v2 w11 hrow hgrow hblk; have hp2 := Owns.grew (l' := r2) (Hp.out.alloc (.cells #[.string ⟨#[120]⟩] 9)) (by rw [HR2.out, List.length_append, show tcs (rs ++ [[120]]) = tcs rs ++ [.string ⟨#[120]⟩] by simp [tcs]; rfl]; exact hrow) hgrow hblk; have Hp2 := Lib.hid hp2; clear hp2 hrow hgrow hblk))
          obtain ⟨x5, n5, c5, rfl, -⟩ := Owns.texts Hp2.out
          replace HO : Hid (Owns W w11 (disk db m2 :: trow (.slice x5 n5 c5) r2 :: [])) := (Hp2.out.re [1, 2, 0]).pop
          have HK5 : Hid (n5 ≤ 1841) := by show _ ≤ _; rw [← small_of HO.out.swap]; exact HR2l.out
          go_at_call 15
          refine (Open_c HO.out HQ2.out HS.out).mono ?_
          intro e w12 ho
          obtain ⟨j2, x2, n2, c2, y2, k2, d2, rfl, ho2⟩ := open_good ho (by rw [HOg.out])
          rw [HOg.out] at ho2
          replace HO : Hid (Owns W w12 (trow (.slice y2 k2 d2) r2 :: trow (.slice x5 n5 c5) r2 :: [])) := (ho2.re [1, 2, 3, 0, 4]).pop.pop.pop
          have HK2 : Hid (k2 ≤ 1841) := by show _ ≤ _; rw [← small_of HO.out]; exact HR2l.out
          clear ho ho2
          go_wp2_with fail
          go_at_call 11
          refine (Same_c _ _ _ _ _ _ _ _ _ (is_of HO.out.swap) (is_of HO.out) (by have := HK5.out; omega) (by have := HK2.out; omega)).mono ?_
          rintro e w13 ⟨rfl, hb⟩
          rw [decide_eq_true (rfl : r2 = r2)]
          replace HO := Lib.hid (HO.out.below hb)
          clear hb
          go_wp2_with fail
          go_ret
          exact ⟨rfl, HO.out.base⟩
end Go.Proofs.YtjcjpekndeoonaaDoor
