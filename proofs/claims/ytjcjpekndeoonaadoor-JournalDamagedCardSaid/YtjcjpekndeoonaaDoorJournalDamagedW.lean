/-
  'JournalDamaged': the walk.
-/
import Derived.Test.YtjcjpekndeoonaaDoorJnLaw
import Derived.Test.YtjcjpekndeoonaaDoorJnRot
namespace Go.Proofs.YtjcjpekndeoonaaDoor
open Go.RowKit Go.Cz Go.Cz.Jn
set_option linter.unusedSimpArgs false
set_option linter.unusedVariables false
attribute [local go_sem] bs_size bs_extract bs_append bs_toList
attribute [local irreducible] cList cPlan
theorem u8_in {r : Int} (hr : (Lit.int .u8 r).wf = true) : 0 ≤ r ∧ r ≤ 255 := by
  simp only [Lit.wf, Bool.and_eq_true, decide_eq_true_eq] at hr
  exact ⟨hr.1, hr.2⟩
set_option maxRecDepth 10000 in
set_option maxHeartbeats 8000000 in
theorem JournalDamaged_walk (W : World) (hs : Std W) (s : Int) (x : Option Addr) (n c : Nat) (l : List JOp) (hi : IsOps W x n l) (r2 : Int) (w2 : (Lit.int .u8 r2).wf = true) (r3 : Int) (w3 : (Lit.int .u8 r3).wf = true) (r4 : Int) (w4 : (Lit.int .u8 r4).wf = true) :
    Calls Tryd.prog 4 #[.int .i64 s, .slice x n c, (.int .u8 r2), .int .u8 r3, .int .u8 r4] W fun e W' => e = .returned (.bool true) ∧ Below W.heap.size W W' := by
  have HS := Lib.hid hs
  have HI := Lib.hid hi
  have HO : Hid (Owns W W []) := Owns.start W
  obtain ⟨a2, b2⟩ := u8_in w2
  obtain ⟨a3, b3⟩ := u8_in w3
  obtain ⟨a4, b4⟩ := u8_in w4
  clear hs hi w2 w3 w4
  go_enter Tryd.func4, Tryd.ntmps4
  go_wp2_with fail
  go_at_call 8
  refine (head_c _ HS.out).mono ?_
  rintro e w1 ⟨rfl, hb⟩
  replace HO := Lib.hid (HO.out.below hb)
  clear hb
  go_wp2_with fail
  go_at_call 9
  refine (light_c s x n c l _ (HI.out.below HO.out.base)).mono ?_
  rintro e w2 ⟨b, rfl, hsm, hw⟩
  rw [hw]
  clear hw w2
  have HSm := Lib.hid hsm
  clear hsm
  cases b
  case «false» =>
    go_wp2_with fail
    go_ret
    exact ⟨rfl, HO.out.base⟩
  case «true» =>
    replace HSm := Lib.hid (HSm.out rfl)
    by_cases h3 : s < 3
    · go_wp2_with fail
      go_at_call 10
      refine (filledBad_c s x n c HO.out h3 HS.out).mono ?_
      rintro e w3 ⟨pv, hpv, rfl, ho⟩
      replace HO := Lib.hid ho
      clear ho
      rcases hpv with rfl | ⟨b, rfl⟩
      all_goals
        go_wp2_with fail
        go_ret
        exact ⟨rfl, HO.out.base⟩
    · obtain ⟨sn, rfl⟩ : ∃ sn : Nat, s = (sn : Int) := ⟨s.toNat, by omega⟩
      have H3 : Hid (3 ≤ sn) := by show _ ≤ _; omega
      clear h3
      go_wp2_with fail
      go_at_call 10
      refine (filled_c sn x n c l HO.out HI.out H3.out HSm.out HS.out).mono ?_
      rintro e w3 ⟨db, jb, xr, nr, cr, y, k, d, m, j, rfl, hinv, hsec, hlen, ho⟩
      have HV := Lib.hid (And.intro hinv (And.intro hsec hlen))
      obtain ⟨rs, hrs⟩ : ∃ rs, rs = j.recs := ⟨_, rfl⟩
      have HR := Lib.hid hrs
      rw [← hrs] at ho
      have HK : Hid (k ≤ 320) := by show _ ≤ _; have h1 := small_of (ho.re [3, 0, 1, 2]); rw [← h1, hrs]; exact hlen
      have HRl : Hid (rs.length ≤ 1000000) := by show _ ≤ _; rw [hrs]; omega
      replace HO : Hid (Owns W w3 (disk db m :: trow (.slice y k d) rs :: [])) := (ho.re [0, 1]).pop.pop
      clear hinv hsec hlen ho hrs
      have hsn : ¬ (sn : Int) = 0 := by have := H3.out; omega
      go_wp2_with fail
      go_at_call 17
      refine (Owns.rotten _ _ _ HO.out).mono ?_
      rintro e w6 ⟨rfl, ho⟩
      obtain ⟨m', HM, ho1⟩ : ∃ m', Hid (m'.q = [] ∧ (((openB m').2.1 = 0 ∧ (openB m').2.2.recs = j.recs) ∨ (openB m').2.1 = 27)) ∧ Owns W w6 (disk db m' :: trow (.slice y k d) rs :: []) := ⟨_, Lib.hid (rot_any HV.out.1 _ _ _), ho⟩
      replace HO := Lib.hid ho1
      clear ho ho1
      go_wp2_with fail
      go_at_call 15
      refine (Open_c HO.out (by rw [HM.out.1]; simp) HS.out).mono ?_
      intro e w7 ho
      rcases HM.out.2 with ⟨h0, hr⟩ | h27
      · obtain ⟨j2, x2, n2, c2, y2, k2, d2, rfl, ho2⟩ := open_good ho h0
        rw [hr, ← HR.out] at ho2
        replace HO : Hid (Owns W w7 (trow (.slice y2 k2 d2) rs :: trow (.slice y k d) rs :: [])) := (ho2.re [1, 2, 3, 0, 4]).pop.pop.pop
        have HK2 : Hid (k2 ≤ 1000000) := by show _ ≤ _; rw [← small_of HO.out]; exact HRl.out
        clear ho ho2 h0 hr
        go_wp2_with fail
        go_at_call 11
        refine (Same_c _ _ _ _ _ _ _ _ _ (is_of HO.out) (is_of HO.out.swap) (by have := HK2.out; omega) (by have := HK.out; omega)).mono ?_
        rintro e w8 ⟨rfl, hb⟩
        rw [decide_eq_true (rfl : rs = rs)]
        replace HO := Lib.hid (HO.out.below hb)
        clear hb
        go_wp2_with fail
        go_ret
        exact ⟨rfl, HO.out.base⟩
      · obtain ⟨rfl, ho2⟩ := open_bad ho h27 (by decide)
        replace HO := Lib.hid ho2
        clear ho ho2 h27
        go_wp2_with fail
        go_ret
        exact ⟨rfl, HO.out.base⟩
end Go.Proofs.YtjcjpekndeoonaaDoor
