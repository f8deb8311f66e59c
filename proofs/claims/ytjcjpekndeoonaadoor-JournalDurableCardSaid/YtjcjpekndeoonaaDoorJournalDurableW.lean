/-
  'JournalDurable': the walk.
-/
import Derived.Test.YtjcjpekndeoonaaDoorJnLaw
namespace Go.Proofs.YtjcjpekndeoonaaDoor
open Go.RowKit Go.Cz Go.Cz.Jn
set_option linter.unusedSimpArgs false
set_option linter.unusedVariables false
attribute [local go_sem] bs_size bs_extract bs_append bs_toList
attribute [local irreducible] cList cPlan
set_option maxRecDepth 10000 in
set_option maxHeartbeats 8000000 in
theorem JournalDurable_walk (W : World) (hs : Std W) (s : Int) (x : Option Addr) (n c : Nat) (l : List JOp) (hi : IsOps W x n l) (u v : Int) :
    Calls Tryd.prog 3 #[.int .i64 s, .slice x n c, .int .i64 u, .int .i64 v] W fun e W' => e = .returned (.bool true) ∧ Below W.heap.size W W' := by
  have HS := Lib.hid hs
  have HI := Lib.hid hi
  have HO : Hid (Owns W W []) := Owns.start W
  clear hs hi
  go_enter Tryd.func3, Tryd.ntmps3
  go_wp2_with fail
  go_at_call 8
  refine (head_c _ HS.out).mono ?_
  rintro e w1 ⟨rfl, hb⟩
  replace HO := Lib.hid (HO.out.below hb)
  clear hb
  go_wp2_with fail
  go_at_call 9
  refine (light_c s x n c l _ (HI.out.below HO.out.base)).mono ?_
  rintro e w2 ⟨b, rfl, hsm, hw⟩
  rw [hw]
  clear hw w2
  have HSm := Lib.hid hsm
  clear hsm
  cases b
  case «false» =>
    go_wp2_with fail
    go_ret
    exact ⟨rfl, HO.out.base⟩
  case «true» =>
    replace HSm := Lib.hid (HSm.out rfl)
    by_cases h3 : s < 3
    · go_wp2_with fail
      go_at_call 10
      refine (filledBad_c s x n c HO.out h3 HS.out).mono ?_
      rintro e w3 ⟨pv, hpv, rfl, ho⟩
      replace HO := Lib.hid ho
      clear ho
      rcases hpv with rfl | ⟨b, rfl⟩
      all_goals
        go_wp2_with fail
        go_ret
        exact ⟨rfl, HO.out.base⟩
    · obtain ⟨sn, rfl⟩ : ∃ sn : Nat, s = (sn : Int) := ⟨s.toNat, by omega⟩
      have H3 : Hid (3 ≤ sn) := by show _ ≤ _; omega
      clear h3
      go_wp2_with fail
      go_at_call 10
      refine (filled_c sn x n c l HO.out HI.out H3.out HSm.out HS.out).mono ?_
      rintro e w3 ⟨db, jb, xr, nr, cr, y, k, d, m, j, rfl, hinv, hsec, hlen, ho⟩
      have HV := Lib.hid (And.intro hinv (And.intro hsec hlen))
      obtain ⟨rs, hrs⟩ : ∃ rs, rs = j.recs := ⟨_, rfl⟩
      have HR := Lib.hid hrs
      rw [← hrs] at ho
      have HK : Hid (k ≤ 320) := by show _ ≤ _; have h1 := small_of (ho.re [3, 0, 1, 2]); rw [← h1, hrs]; exact hlen
      have HRl : Hid (rs.length ≤ 1000000) := by show _ ≤ _; rw [hrs]; omega
      replace HO : Hid (Owns W w3 (trow (.slice xr nr cr) rs :: jblk jb db j.sectors j.count (.slice xr nr cr) false :: disk db m :: trow (.slice y k d) rs :: [])) := ho.re [1, 0]
      clear hinv hsec hlen ho hrs
      go_wp2_with fail
      go_at_call 12
      refine (Records_c HO.out HRl.out).mono ?_
      rintro e w4 ⟨rv, rfl, ho⟩
      obtain ⟨x1, n1, c1, rfl, -⟩ := Owns.texts ho
      have H1 : Hid (n1 ≤ 1000000) := by show _ ≤ _; rw [← small_of ho]; exact HRl.out
      replace HO := Lib.hid ho
      clear ho
      go_wp2_with fail
      go_at_call 11
      refine (Same_c _ _ _ _ _ _ _ _ _ (is_of HO.out) (is_of (HO.out.re [4, 0, 1, 2, 3])) (by have := H1.out; omega) (by have := HK.out; omega)).mono ?_
      rintro e w5 ⟨rfl, hb⟩
      rw [decide_eq_true (rfl : rs = rs)]
      replace HO : Hid (Owns W w5 (disk db m :: trow (.slice xr nr cr) rs :: jblk jb db j.sectors j.count (.slice xr nr cr) false :: trow (.slice y k d) rs :: [])) := (HO.out.below hb).pop.re [2, 0, 1]
      clear hb
      go_wp2_with fail
      go_at_call 13
      refine (Owns.fail u v HO.out (by rw [HV.out.1.calm.q]; simp)).mono ?_
      rintro e w6 ⟨rfl, ho⟩
      replace HO := Lib.hid ho
      clear ho
      go_wp2_with fail
      go_at_call 14
      refine (Owns.st HO.out).mono ?_
      rintro e w7 ⟨rfl, ho⟩
      rw [calm_back HV.out.1.calm] at ho
      replace HO := Lib.hid ho
      clear ho
      go_wp2_with fail
      go_at_call 15
      refine (Open_c HO.out (by rw [HV.out.1.calm.q]; simp) HS.out).mono ?_
      intro e w8 ho
      obtain ⟨j2, x2, n2, c2, y2, k2, d2, rfl, ho2⟩ := open_good ho (by rw [HV.out.1.open])
      clear ho
      rw [HV.out.1.open] at ho2
      replace HO : Hid (Owns W w8 (disk db m :: trow (.slice y2 k2 d2) rs :: jblk j2 db j.sectors j.count (.slice x2 n2 c2) false :: trow (.slice x2 n2 c2) rs :: trow (.slice xr nr cr) rs :: jblk jb db j.sectors j.count (.slice xr nr cr) false :: trow (.slice y k d) rs :: [])) := by
        rw [← HR.out] at ho2
        exact Lib.hid (ho2.re [3, 0, 1, 2])
      clear ho2
      go_wp2_with fail
      go_at_call 15
      refine (Open_c HO.out (by rw [HV.out.1.calm.q]; simp) HS.out).mono ?_
      intro e w9 ho
      obtain ⟨j3, x3, n3, c3, y3, k3, d3, rfl, ho2⟩ := open_good ho (by rw [HV.out.1.open])
      clear ho
      rw [HV.out.1.open] at ho2
      replace HO : Hid (Owns W w9 (trow (.slice y3 k3 d3) rs :: trow (.slice y2 k2 d2) rs :: jblk j2 db j.sectors j.count (.slice x2 n2 c2) false :: trow (.slice x2 n2 c2) rs :: trow (.slice xr nr cr) rs :: jblk jb db j.sectors j.count (.slice xr nr cr) false :: trow (.slice y k d) rs :: [])) := by
        rw [← HR.out] at ho2
        exact Lib.hid (ho2.re [3, 1, 2, 0]).pop.pop.pop
      clear ho2
      have HK2 : Hid (k2 ≤ 1000000 ∧ k3 ≤ 1000000) := ⟨by rw [← small_of HO.out.swap]; exact HRl.out, by rw [← small_of HO.out]; exact HRl.out⟩
      go_wp2_with fail
      go_at_call 11
      refine (Same_c _ _ _ _ _ _ _ _ _ (is_of HO.out.swap) (is_of (HO.out.re [6, 0, 1, 2, 3, 4, 5])) (by have := HK2.out; omega) (by have := HK.out; omega)).mono ?_
      rintro e w10 ⟨rfl, hb⟩
      rw [decide_eq_true (rfl : rs = rs)]
      replace HO := Lib.hid (HO.out.below hb)
      clear hb
      go_wp2_with fail
      go_at_call 11
      refine (Same_c _ _ _ _ _ _ _ _ _ (is_of HO.out) (is_of (HO.out.re [6, 0, 1, 2, 3, 4, 5])) (by have := HK2.out; omega) (by have := HK.out; omega)).mono ?_
      rintro e w11 ⟨rfl, hb⟩
      rw [decide_eq_true (rfl : rs = rs)]
      replace HO : Hid (Owns W w11 (trow (.slice x2 n2 c2) rs :: jblk j2 db j.sectors j.count (.slice x2 n2 c2) false :: jblk jb db j.sectors j.count (.slice xr nr cr) false :: trow (.slice y k d) rs :: [])) := ((HO.out.below hb).re [0, 1, 4, 3, 2]).pop.pop.pop
      clear hb
      go_wp2_with fail
      go_at_call 12
      refine (Records_c HO.out HRl.out).mono ?_
      rintro e w12 ⟨rv, rfl, ho⟩
      obtain ⟨x4, n4, c4, rfl, -⟩ := Owns.texts ho
      have H4 : Hid (n4 ≤ 1000000) := by show _ ≤ _; rw [← small_of ho]; exact HRl.out
      replace HO := Lib.hid ho
      clear ho
      go_wp2_with fail
      go_at_call 11
      refine (Same_c _ _ _ _ _ _ _ _ _ (is_of HO.out) (is_of (HO.out.re [4, 0, 1, 2, 3])) (by have := H4.out; omega) (by have := HK.out; omega)).mono ?_
      rintro e w13 ⟨rfl, hb⟩
      rw [decide_eq_true (rfl : rs = rs)]
      replace HO : Hid (Owns W w13 (jblk j2 db j.sectors j.count (.slice x2 n2 c2) false :: jblk jb db j.sectors j.count (.slice xr nr cr) false :: trow (.slice y k d) rs :: [])) := (HO.out.below hb).pop.pop
      clear hb
      have HSc : Hid (j.sectors ≤ 4000 ∧ j.count ≤ 4000) := ⟨HV.out.1.high, by have := HV.out.1.room; have := HV.out.1.high; omega⟩
      go_wp2_with fail
      go_at_call 16
      refine (Room_c HO.out (by have := HSc.out; omega) (by have := HSc.out; omega)).mono ?_
      rintro e w14 ⟨rfl, hb⟩
      obtain ⟨rm, hrm⟩ : ∃ rm : Int, rm = (j.sectors : Int) - 2 - (j.count : Int) := ⟨_, rfl⟩
      have HRm := Lib.hid hrm
      rw [← hrm]
      replace HO := Lib.hid (HO.out.below hb)
      clear hb hrm
      go_wp2_with fail
      go_at_call 16
      refine (Room_c HO.out.swap (by have := HSc.out; omega) (by have := HSc.out; omega)).mono ?_
      rintro e w15 ⟨rfl, hb⟩
      rw [← HRm.out]
      replace HO := Lib.hid (HO.out.below hb)
      clear hb
      have hrr : (rm == rm) = true := by simp
      go_wp2_with fail
      go_ret
      exact ⟨rfl, HO.out.base⟩
end Go.Proofs.YtjcjpekndeoonaaDoor
