/-
  'JournalBroken': the walk.
-/
import Derived.Test.YtjcjpekndeoonaaDoorJnLaw
namespace Go.Cz.Jn
set_option linter.unusedSimpArgs false
set_option linter.unusedVariables false
theorem off_fail {m : Dk.Dm} (h : Calm m) (a b : Int) : Dk.fail m a b = { m with off := true } := by
  obtain ⟨st, q, off, al⟩ := m
  obtain ⟨h1, h2, h3, -⟩ := h
  dsimp only at h1 h2 h3
  subst h1 h2 h3
  unfold Dk.fail
  simp [Dk.settle]
theorem a_pieces : piecesB (textB [[97]]) = [[49, 58, 97]] := by decide +kernel
theorem a_full {m : Dk.Dm} {sec cnt : Nat} {rs : List Bytes} (hr : (sec : Int) - 2 - (cnt : Int) = 0) : appendB m ⟨sec, cnt, rs, false⟩ [[97]] = (m, 28, ⟨sec, cnt, rs, false⟩) := by
  unfold appendB
  rw [if_neg (by simp), if_neg (by decide), a_pieces, if_pos (by unfold Jm.room; dsimp only; rw [hr]; decide)]
theorem a_off {m : Dk.Dm} {sec cnt : Nat} {rs : List Bytes} (ho : m.off = true) (hr : 1 ≤ (sec : Int) - 2 - (cnt : Int)) : appendB m ⟨sec, cnt, rs, false⟩ [[97]] = (m, 26, ⟨sec, cnt, rs, true⟩) := by
  have hw : ∀ (p : Int) (t : Bytes), Dk.write m p t = (m, 26) := fun p t => by unfold Dk.write; rw [if_pos ho]
  have hst : stepsB m cnt [[49, 58, 97]] = (m, 26) := by
    unfold stepsB
    simp only [List.map_cons, List.map_nil, writesB, hw]
    rfl
  unfold appendB
  rw [if_neg (by simp), if_neg (by decide), a_pieces, if_neg (by unfold Jm.room; dsimp only [List.length_cons, List.length_nil]; omega), if_neg (by simp), hst]
  rfl
theorem a_broken {m : Dk.Dm} {sec cnt : Nat} {rs : List Bytes} : appendB m ⟨sec, cnt, rs, true⟩ [[97]] = (m, 12, ⟨sec, cnt, rs, true⟩) := by
  unfold appendB
  rw [if_pos rfl]
theorem open_off {m : Dk.Dm} (ho : m.off = true) : openB m = (m, 26, ⟨0, 0, [], false⟩) := open_err (by unfold findB; rw [if_pos ho])
end Go.Cz.Jn
namespace Go.Proofs.YtjcjpekndeoonaaDoor
open Go.RowKit Go.Cz Go.Cz.Jn
set_option linter.unusedSimpArgs false
set_option linter.unusedVariables false
attribute [local go_sem] bs_size bs_extract bs_append bs_toList
attribute [local irreducible] cList cPlan
set_option maxRecDepth 10000 in
set_option maxHeartbeats 8000000 in
theorem JournalBroken_walk (W : World) (hs : Std W) (s : Int) (x : Option Addr) (n c : Nat) (l : List JOp) (hi : IsOps W x n l) (u v : Int) :
    Calls Tryd.prog 5 #[.int .i64 s, .slice x n c, .int .i64 u, .int .i64 v] W fun e W' => e = .returned (.bool true) ∧ Below W.heap.size W W' := by
  have HS := Lib.hid hs
  have HI := Lib.hid hi
  have HO : Hid (Owns W W []) := Owns.start W
  clear hs hi
  go_enter Tryd.func5, Tryd.ntmps5
  go_wp2_with fail
  go_at_call 8
  refine (head_c _ HS.out).mono ?_
  rintro e w1 ⟨rfl, hb⟩
  replace HO := Lib.hid (HO.out.below hb)
  clear hb
  go_wp2_with fail
  go_at_call 9
  refine (light_c s x n c l _ (HI.out.below HO.out.base)).mono ?_
  rintro e w2 ⟨b, rfl, hsm, hw⟩
  rw [hw]
  clear hw w2
  have HSm := Lib.hid hsm
  clear hsm
  cases b
  case «false» =>
    go_wp2_with fail
    go_ret
    exact ⟨rfl, HO.out.base⟩
  case «true» =>
    replace HSm := Lib.hid (HSm.out rfl)
    by_cases h3 : s < 3
    · go_wp2_with fail
      go_at_call 10
      refine (filledBad_c s x n c HO.out h3 HS.out).mono ?_
      rintro e w3 ⟨pv, hpv, rfl, ho⟩
      replace HO := Lib.hid ho
      clear ho
      rcases hpv with rfl | ⟨b, rfl⟩
      all_goals
        go_wp2_with fail
        go_ret
        exact ⟨rfl, HO.out.base⟩
    · obtain ⟨sn, rfl⟩ : ∃ sn : Nat, s = (sn : Int) := ⟨s.toNat, by omega⟩
      have H3 : Hid (3 ≤ sn) := by show _ ≤ _; omega
      clear h3
      go_wp2_with fail
      go_at_call 10
      refine (filled_c sn x n c l HO.out HI.out H3.out HSm.out HS.out).mono ?_
      rintro e w3 ⟨db, jb, xr, nr, cr, y, k, d, m, j, rfl, hinv, hsec, hlen, ho⟩
      obtain ⟨sec, cnt, rs, br⟩ := j
      obtain rfl : br = false := hinv.ok
      have HV := Lib.hid hinv
      have HSc : Hid (sec ≤ 4000 ∧ cnt + 2 ≤ sec) := ⟨hinv.high, by have := hinv.room; dsimp only at this; omega⟩
      have HK : Hid (k ≤ 320) := by show _ ≤ _; have h1 := small_of (ho.re [3, 0, 1, 2]); rw [← h1]; exact hlen
      have HRl : Hid (rs.length ≤ 1000000) := by show _ ≤ _; have h1 : rs.length ≤ 320 := hlen; omega
      replace HO : Hid (Owns W w3 (jblk jb db sec cnt (.slice xr nr cr) false :: trow (.slice xr nr cr) rs :: disk db m :: trow (.slice y k d) rs :: [])) := ho
      clear hinv hsec hlen ho
      go_wp2_with fail
      go_at_call 16
      refine (Room_c HO.out (by have := HSc.out; omega) (by have := HSc.out; omega)).mono ?_
      rintro e w4 ⟨rfl, hb⟩
      obtain ⟨rm, hrm⟩ : ∃ rm : Int, rm = (sec : Int) - 2 - (cnt : Int) := ⟨_, rfl⟩
      have HRm := Lib.hid hrm
      rw [← hrm]
      replace HO : Hid (Owns W w4 (disk db m :: jblk jb db sec cnt (.slice xr nr cr) false :: trow (.slice xr nr cr) rs :: trow (.slice y k d) rs :: [])) := (HO.out.below hb).re [2, 0, 1]
      clear hb
      have hrm0 : 0 ≤ rm := by have := HSc.out; omega
      clear hrm
      go_wp2_with fail
      go_at_call 13
      refine (Owns.fail u v HO.out (by rw [HV.out.calm.q]; simp)).mono ?_
      rintro e w5 ⟨rfl, ho⟩
      obtain ⟨m1, hm1⟩ : ∃ m1, m1 = Dk.fail m u v := ⟨_, rfl⟩
      rw [← hm1] at ho
      have HM1 : Hid (m1.off = true ∧ m1.q = [] ∧ Dk.start m1 = m) := by
        refine ⟨?_, ?_, ?_⟩
        · rw [hm1, off_fail HV.out.calm]
        · rw [hm1, off_fail HV.out.calm]; exact HV.out.calm.q
        · rw [hm1]; exact calm_back HV.out.calm u v
      replace HO := Lib.hid ho
      clear ho hm1
      by_cases hr0 : rm = 0
      · have HF1 : Hid (∀ m, appendB m ⟨sec, cnt, rs, false⟩ [[97]] = (m, 28, ⟨sec, cnt, rs, false⟩)) := fun m => a_full (by rw [← HRm.out]; exact hr0)
        have hr1 : (rm == 0) = true := by simpa using hr0
        subst hr0
        obtain ⟨g, hg⟩ : ∃ g, g = w5.heap.size := ⟨_, rfl⟩
        obtain ⟨Wa, hWa⟩ : ∃ Wa, Wa = w5.alloc (.cells #[.string ⟨#[97]⟩] 9) := ⟨_, rfl⟩
        have HM : Hid (Owns W Wa (jblk jb db sec cnt (.slice xr nr cr) false :: trow (.slice xr nr cr) rs :: disk db m1 :: trow (.slice (some ⟨g, 0, none⟩) 1 1) [[97]] :: trow (.slice y k d) rs :: [])) := by
          rw [hWa, hg]
          exact Lib.hid ((Owns.made HO.out [[97]] (by decide)).re [2, 3, 1, 0])
        clear HO
        go_wp2_with fail
        rw [← hg, ← hWa]
        clear hg hWa
        go_at_call 18
        refine (Append_c HM.out (fun w' h => is_of h) (by decide) (by decide) (by rw [HM1.out.2.1]; simp) (by have := HSc.out; omega) (by have := HSc.out; omega) HRl.out HS.out).mono ?_
        rintro e w6 ⟨rv, he, ho⟩
        rw [HF1.out] at he ho
        subst he
        obtain ⟨xr, nr, cr, rfl, -⟩ := Owns.texts ho.swap
        have HO : Hid (Owns W w6 (disk db m1 :: jblk jb db sec cnt (.slice xr nr cr) false :: trow (.slice xr nr cr) rs :: trow (.slice y k d) rs :: [])) := (ho.re [3, 2, 0, 1]).pop
        clear ho HM
        go_wp2_with fail
        go_at_call 15
        refine (Open_c HO.out (by rw [HM1.out.2.1]; simp) HS.out).mono ?_
        intro e w7 ho
        obtain ⟨rfl, ho2⟩ := open_bad ho (c := 26) (by rw [open_off HM1.out.1]) (by decide)
        rw [open_off HM1.out.1] at ho2
        replace HO := Lib.hid ho2
        clear ho ho2
        go_wp2_with fail
        go_at_call 14
        refine (Owns.st HO.out).mono ?_
        rintro e w8 ⟨rfl, ho⟩
        rw [HM1.out.2.2] at ho
        replace HO := Lib.hid ho
        clear ho
        obtain ⟨g, hg⟩ : ∃ g, g = w8.heap.size := ⟨_, rfl⟩
        obtain ⟨Wa, hWa⟩ : ∃ Wa, Wa = w8.alloc (.cells #[.string ⟨#[97]⟩] 9) := ⟨_, rfl⟩
        have HM : Hid (Owns W Wa (jblk jb db sec cnt (.slice xr nr cr) false :: trow (.slice xr nr cr) rs :: disk db m :: trow (.slice (some ⟨g, 0, none⟩) 1 1) [[97]] :: trow (.slice y k d) rs :: [])) := by
          rw [hWa, hg]
          exact Lib.hid ((Owns.made HO.out [[97]] (by decide)).re [2, 3, 1, 0])
        clear HO
        go_wp2_with fail
        rw [← hg, ← hWa]
        clear hg hWa
        go_at_call 18
        refine (Append_c HM.out (fun w' h => is_of h) (by decide) (by decide) (by rw [HV.out.calm.q]; simp) (by have := HSc.out; omega) (by have := HSc.out; omega) HRl.out HS.out).mono ?_
        rintro e w6 ⟨rv, he, ho⟩
        rw [HF1.out] at he ho
        subst he
        obtain ⟨xr, nr, cr, rfl, -⟩ := Owns.texts ho.swap
        have HO : Hid (Owns W w6 (disk db m :: jblk jb db sec cnt (.slice xr nr cr) false :: trow (.slice xr nr cr) rs :: trow (.slice y k d) rs :: [])) := (ho.re [3, 2, 0, 1]).pop
        clear ho HM
        go_wp2_with fail
        go_at_call 15
        refine (Open_c HO.out (by rw [HV.out.calm.q]; simp) HS.out).mono ?_
        intro e w9 ho
        obtain ⟨j2, x2, n2, c2, y2, k2, d2, rfl, ho2⟩ := open_good ho (by rw [HV.out.open])
        clear ho
        rw [HV.out.open] at ho2
        replace HO : Hid (Owns W w9 (trow (.slice y2 k2 d2) rs :: jblk jb db sec cnt (.slice xr nr cr) false :: trow (.slice xr nr cr) rs :: trow (.slice y k d) rs :: [])) := (ho2.re [1, 2, 3, 0]).pop.pop.pop
        clear ho2
        have HK2 : Hid (k2 ≤ 1000000) := by show _ ≤ _; rw [← small_of HO.out]; exact HRl.out
        go_wp2_with fail
        go_at_call 11
        refine (Same_c _ _ _ _ _ _ _ _ _ (is_of HO.out) (is_of (HO.out.re [3, 0, 1, 2])) (by have := HK2.out; omega) (by have := HK.out; omega)).mono ?_
        rintro e w10 ⟨rfl, hb⟩
        rw [decide_eq_true (rfl : rs = rs)]
        replace HO := Lib.hid (HO.out.below hb)
        clear hb
        go_wp2_with fail
        go_ret
        exact ⟨rfl, HO.out.base⟩
      · have HF1 : Hid (appendB m1 ⟨sec, cnt, rs, false⟩ [[97]] = (m1, 26, ⟨sec, cnt, rs, true⟩)) := a_off HM1.out.1 (by rw [← HRm.out]; omega)
        have hr1 : (rm == 0) = false := by simpa using hr0
        clear hr0
        obtain ⟨g, hg⟩ : ∃ g, g = w5.heap.size := ⟨_, rfl⟩
        obtain ⟨Wa, hWa⟩ : ∃ Wa, Wa = w5.alloc (.cells #[.string ⟨#[97]⟩] 9) := ⟨_, rfl⟩
        have HM : Hid (Owns W Wa (jblk jb db sec cnt (.slice xr nr cr) false :: trow (.slice xr nr cr) rs :: disk db m1 :: trow (.slice (some ⟨g, 0, none⟩) 1 1) [[97]] :: trow (.slice y k d) rs :: [])) := by
          rw [hWa, hg]
          exact Lib.hid ((Owns.made HO.out [[97]] (by decide)).re [2, 3, 1, 0])
        clear HO
        go_wp2_with fail
        rw [← hg, ← hWa]
        clear hg hWa
        go_at_call 18
        refine (Append_c HM.out (fun w' h => is_of h) (by decide) (by decide) (by rw [HM1.out.2.1]; simp) (by have := HSc.out; omega) (by have := HSc.out; omega) HRl.out HS.out).mono ?_
        rintro e w6 ⟨rv, he, ho⟩
        rw [HF1.out] at he ho
        subst he
        obtain ⟨xr, nr, cr, rfl, -⟩ := Owns.texts ho.swap
        have HO : Hid (Owns W w6 (disk db m1 :: jblk jb db sec cnt (.slice xr nr cr) true :: trow (.slice xr nr cr) rs :: trow (.slice y k d) rs :: [])) := (ho.re [3, 2, 0, 1]).pop
        clear ho HM
        go_wp2_with fail
        go_at_call 15
        refine (Open_c HO.out (by rw [HM1.out.2.1]; simp) HS.out).mono ?_
        intro e w7 ho
        obtain ⟨rfl, ho2⟩ := open_bad ho (c := 26) (by rw [open_off HM1.out.1]) (by decide)
        rw [open_off HM1.out.1] at ho2
        replace HO := Lib.hid ho2
        clear ho ho2
        go_wp2_with fail
        go_at_call 14
        refine (Owns.st HO.out).mono ?_
        rintro e w8 ⟨rfl, ho⟩
        rw [HM1.out.2.2] at ho
        replace HO := Lib.hid ho
        clear ho
        obtain ⟨g, hg⟩ : ∃ g, g = w8.heap.size := ⟨_, rfl⟩
        obtain ⟨Wa, hWa⟩ : ∃ Wa, Wa = w8.alloc (.cells #[.string ⟨#[97]⟩] 9) := ⟨_, rfl⟩
        have HM : Hid (Owns W Wa (jblk jb db sec cnt (.slice xr nr cr) true :: trow (.slice xr nr cr) rs :: disk db m :: trow (.slice (some ⟨g, 0, none⟩) 1 1) [[97]] :: trow (.slice y k d) rs :: [])) := by
          rw [hWa, hg]
          exact Lib.hid ((Owns.made HO.out [[97]] (by decide)).re [2, 3, 1, 0])
        clear HO
        go_wp2_with fail
        rw [← hg, ← hWa]
        clear hg hWa
        go_at_call 18
        refine (Append_c HM.out (fun w' h => is_of h) (by decide) (by decide) (by rw [HV.out.calm.q]; simp) (by have := HSc.out; omega) (by have := HSc.out; omega) HRl.out HS.out).mono ?_
        rintro e w6 ⟨rv, he, ho⟩
        rw [a_broken] at he ho
        subst he
        obtain ⟨xr, nr, cr, rfl, -⟩ := Owns.texts ho.swap
        have HO : Hid (Owns W w6 (disk db m :: jblk jb db sec cnt (.slice xr nr cr) true :: trow (.slice xr nr cr) rs :: trow (.slice y k d) rs :: [])) := (ho.re [3, 2, 0, 1]).pop
        clear ho HM
        go_wp2_with fail
        go_at_call 15
        refine (Open_c HO.out (by rw [HV.out.calm.q]; simp) HS.out).mono ?_
        intro e w9 ho
        obtain ⟨j2, x2, n2, c2, y2, k2, d2, rfl, ho2⟩ := open_good ho (by rw [HV.out.open])
        clear ho
        rw [HV.out.open] at ho2
        replace HO : Hid (Owns W w9 (trow (.slice y2 k2 d2) rs :: jblk jb db sec cnt (.slice xr nr cr) true :: trow (.slice xr nr cr) rs :: trow (.slice y k d) rs :: [])) := (ho2.re [1, 2, 3, 0]).pop.pop.pop
        clear ho2
        have HK2 : Hid (k2 ≤ 1000000) := by show _ ≤ _; rw [← small_of HO.out]; exact HRl.out
        replace HO : Hid (Owns W w9 (trow (.slice xr nr cr) rs :: jblk jb db sec cnt (.slice xr nr cr) true :: trow (.slice y2 k2 d2) rs :: trow (.slice y k d) rs :: [])) := HO.out.re [2, 1, 0]
        go_wp2_with fail
        go_at_call 12
        refine (Records_c HO.out HRl.out).mono ?_
        rintro e w10 ⟨rv, rfl, ho⟩
        obtain ⟨x4, n4, c4, rfl, -⟩ := Owns.texts ho
        have H4 : Hid (n4 ≤ 1000000) := by show _ ≤ _; rw [← small_of ho]; exact HRl.out
        replace HO := Lib.hid ho
        clear ho
        go_wp2_with fail
        go_at_call 11
        refine (Same_c _ _ _ _ _ _ _ _ _ (is_of HO.out) (is_of (HO.out.re [4, 0, 1, 2, 3])) (by have := H4.out; omega) (by have := HK.out; omega)).mono ?_
        rintro e w11 ⟨rfl, hb⟩
        rw [decide_eq_true (rfl : rs = rs)]
        replace HO : Hid (Owns W w11 (jblk jb db sec cnt (.slice xr nr cr) true :: trow (.slice y2 k2 d2) rs :: trow (.slice y k d) rs :: [])) := (HO.out.below hb).pop.pop
        clear hb
        go_wp2_with fail
        go_at_call 16
        refine (Room_c HO.out (by have := HSc.out; omega) (by have := HSc.out; omega)).mono ?_
        rintro e w12 ⟨rfl, hb⟩
        rw [← HRm.out]
        replace HO := Lib.hid (HO.out.below hb)
        clear hb
        have hrr : (rm == rm) = true := by simp
        go_wp2_with fail
        go_at_call 11
        refine (Same_c _ _ _ _ _ _ _ _ _ (is_of HO.out.swap) (is_of (HO.out.re [2, 0, 1])) (by have := HK2.out; omega) (by have := HK.out; omega)).mono ?_
        rintro e w13 ⟨rfl, hb⟩
        rw [decide_eq_true (rfl : rs = rs)]
        replace HO := Lib.hid (HO.out.below hb)
        clear hb
        go_wp2_with fail
        go_ret
        exact ⟨rfl, HO.out.base⟩
end Go.Proofs.YtjcjpekndeoonaaDoor
