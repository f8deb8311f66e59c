/-
  'JournalRoom': the walk.
-/
import Derived.Test.YtjcjpekndeoonaaGreatDoorRjText
namespace Go.Cz.Jn
set_option linter.unusedSimpArgs false
set_option linter.unusedVariables false
/-- What follows is proved once, for whatever was made. -/
theorem cut4 {Goal : Prop} {Hyp G : Nat → Value → Value → World → Prop} (h1 : (∀ b u v W, Hyp b u v W → G b u v W) → Goal) (h2 : ∀ b u v W, Hyp b u v W → G b u v W) : Goal := h1 h2
theorem room_long {m : Dk.Dm} {j : Jm} (h : Inv m j) {rs : List Bytes} (hl : longB rs = true) : appendB m j rs = (m, 2, j) := by
  unfold appendB
  rw [if_neg (by rw [h.ok]; decide), if_pos hl]
theorem room_full {m : Dk.Dm} {j : Jm} (h : Inv m j) {rs : List Bytes} (hl : ¬ longB rs = true) (hr : j.room < (piecesB (textB rs)).length) : appendB m j rs = (m, 28, j) := by
  unfold appendB
  rw [if_neg (by rw [h.ok]; decide), if_neg hl, if_pos hr]
theorem room_ok {m : Dk.Dm} {j : Jm} (h : Inv m j) {rs : List Bytes} (hl : ¬ longB rs = true) (hr : ¬ j.room < (piecesB (textB rs)).length) : (appendB m j rs).2 = (0, ⟨j.sectors, j.count + (piecesB (textB rs)).length, j.recs ++ rs, false⟩) := by
  by_cases hn : rs = []
  · have e : appendB m j rs = (m, 0, j) := by unfold appendB; rw [if_neg (by rw [h.ok]; decide), if_neg hl, if_neg hr, if_pos hn]
    have hok := h.ok
    obtain ⟨s, c, r, b⟩ := j
    dsimp only at hok
    subst hok hn
    rw [e, show (piecesB (textB [])).length = 0 by decide, List.append_nil]
    rfl
  · have h1 := h.append (rs := rs) (by simpa using hl) (by omega) hn
    have hok := h.ok
    rw [h1.1]
    unfold added
    rw [hok]
end Go.Cz.Jn
namespace Go.Proofs.YtjcjpekndeoonaaGreatDoor
open Go.RowKit Go.Cz Go.Cz.Jn
set_option linter.unusedSimpArgs false
set_option linter.unusedVariables false
attribute [local go_sem] bs_size bs_extract bs_append bs_toList
attribute [local irreducible] cList cPlan
set_option maxRecDepth 10000 in
set_option maxHeartbeats 16000000 in
theorem JournalRoom_walk (W : World) (hs : Std W) (s : Int) (x : Option Addr) (n c : Nat) (l : List JOp) (hi : IsOps W x n l) :
    Calls Tryz.prog 3 #[.int .i64 s, .slice x n c] W fun e W' => e = .returned (.bool true) ∧ Below W.heap.size W W' := by
  have HS := Lib.hid hs
  have HI := Lib.hid hi
  have HO : Hid (Owns W W []) := Owns.start W
  clear hs hi
  go_enter Tryz.func3, Tryz.ntmps3
  go_wp2_with fail
  go_at_call 5
  refine (head_c _ HS.out).mono ?_
  rintro e w1 ⟨rfl, hb⟩
  replace HO := Lib.hid (HO.out.below hb)
  clear hb
  go_wp2_with fail
  go_at_call 6
  refine (light_c s x n c l _ (HI.out.below HO.out.base)).mono ?_
  rintro e w2 ⟨b, rfl, hsm, hw⟩
  rw [hw]
  clear hw w2
  have HSm := Lib.hid hsm
  clear hsm
  cases b
  case «false» =>
    go_wp2_with fail
    go_ret
    exact ⟨rfl, HO.out.base⟩
  case «true» =>
    replace HSm := Lib.hid (HSm.out rfl)
    go_wp2_with fail
    go_at_call 8
    by_cases h1 : s < 1
    · refine (New_bad s _ (.inl h1)).mono ?_
      rintro e w1 ⟨rfl, hw⟩
      rw [hw]
      clear hw w1
      go_wp2_with fail
      go_at_call 7
      refine (OpenNil_c _).mono ?_
      rintro e w2 ⟨rfl, hw⟩
      rw [hw]
      clear hw w2
      go_wp2_with fail
      go_ret
      exact ⟨rfl, HO.out.base⟩
    · obtain ⟨sn, rfl⟩ : ∃ m : Nat, s = (m : Int) := ⟨s.toNat, by omega⟩
      refine (Owns.new sn HO.out (by omega) (by have := HSm.out.sec; omega)).mono ?_
      rintro e w1 ⟨db, rfl, ho⟩
      replace HO := Lib.hid ho
      clear ho
      go_wp2_with fail
      go_at_call 7
      refine (Open_c HO.out (by simp [Dk.fresh]) HS.out).mono ?_
      intro e w2 ho
      by_cases h3 : sn < 3
      · obtain ⟨rfl, ho2⟩ := open_bad ho (open_few (n := sn) h3) (by decide)
        replace HO := Lib.hid ho2.pop
        clear ho ho2
        go_wp2_with fail
        go_ret
        exact ⟨rfl, HO.out.base⟩
      · have HInv := Lib.hid (inv_fresh (n := sn) (by omega) (by have := HSm.out.sec; omega))
        obtain ⟨jb, xr, nr, cr, yo, ko, d, rfl, ho2⟩ := open_good ho (by rw [HInv.out.open])
        rw [HInv.out.open] at ho2
        have hn16 : n ≤ 16 := by rw [← HI.out.len]; exact HSm.out.ops
        have hsn : sn ≤ 40 := by have := HSm.out.sec; omega
        have HOJ : Hid (∃ (m : Dk.Dm) (j : Jm), Inv m j ∧ j.sectors = sn ∧ j.recs.length ≤ 20 * 0 ∧ (sn : Int) - 2 = j.room ∧ ∃ (x' : Option Addr) (n' c' : Nat), Owns W w2 (jblk jb db j.sectors j.count (.slice x' n' c') false :: trow (.slice x' n' c') j.recs :: disk db m :: [])) :=
          ⟨_, _, HInv.out, rfl, by simp, by simp [Jm.room], xr, nr, cr, ((ho2.re [0, 1, 2, 3]).pop)⟩
        clear ho ho2 HO HInv h1 h3
        go_wp2_with fail
        go_loopg [9, 10] n (fun gk rv i wr => ∃ (k : Nat) (rm : Int), gk = n - k ∧ k ≤ n ∧ i = .int .i64 (k : Int) ∧ rv = .int .i64 rm ∧ Hid (∃ (m : Dk.Dm) (j : Jm), Inv m j ∧ j.sectors = sn ∧ j.recs.length ≤ 20 * k ∧ rm = j.room ∧ ∃ (x' : Option Addr) (n' c' : Nat), Owns W wr (jblk jb db j.sectors j.count (.slice x' n' c') false :: trow (.slice x' n' c') j.recs :: disk db m :: [])))
        case atStart => exact ⟨0, _, rfl, Nat.zero_le _, rfl, rfl, HOJ⟩
        case round =>
          rename_i J1 K1 hJ1 hK1
          clear HOJ
          obtain ⟨k, rm, rfl, hk, rfl, rfl, HOJ⟩ := hrel
          obtain ⟨m, j, hinv, hsec, hlen, hrm, x', n', c', ho⟩ := HOJ.out
          obtain ⟨sec, cnt, rs, br⟩ := j
          obtain rfl : br = false := hinv.ok
          obtain rfl : sec = sn := hsec
          replace HO : Hid (Owns W wr (trow (.slice x' n' c') rs :: jblk jb db sec cnt (.slice x' n' c') false :: disk db m :: [])) := ho.re [1, 0]
          have HV := Lib.hid hinv
          have HRl : Hid (rs.length ≤ 20 * k) := hlen
          have HSc : Hid (sec ≤ 40 ∧ cnt + 2 ≤ sec) := ⟨by have := HSm.out.sec; omega, by have := hinv.room; dsimp only at this; omega⟩
          have HRm : Hid (rm = (sec : Int) - 2 - (cnt : Int)) := hrm
          have hrm0 : 0 ≤ rm := by have := HSc.out; have h4 : rm = (sec : Int) - 2 - (cnt : Int) := hrm; omega
          have hrm1 : rm ≤ 100 := by have := HSc.out; have h4 : rm = (sec : Int) - 2 - (cnt : Int) := hrm; omega
          clear HOJ hinv hlen ho hrm
          by_cases hlt : k < n
          · obtain ⟨g, off, o, y, q, cc, rfl, hoj, hg, ht, hsl, -, c1, -⟩ := HI.out.get hlt
            have HT : Hid (∀ w', Below W.heap.size W w' → IsTexts w' y q o.list) := fun w' hb => ht.below hb
            have HCl : Hid (∀ w', Below W.heap.size W w' → g < w'.heap.size ∧ w'.cell? ⟨g, off + k * 5 + 1, none⟩ = some (.slice y q cc)) := fun w' hb => by
              have e : ∀ i, w'.cell? ⟨g, i, none⟩ = W.cell? ⟨g, i, none⟩ := fun i => hb.cell (p := ⟨g, i, none⟩) hg
              exact ⟨Nat.lt_of_lt_of_le hg hb.size, by rw [e]; exact c1⟩
            have HMem := Lib.hid (List.mem_of_getElem? hoj)
            have HY := Lib.hid hsl.1
            have HLt := Lib.hid hlt
            have HQ : Hid (q ≤ 20) := by
              show _ ≤ _
              have h1 := HSm.out.rows o HMem.out
              have h2 := ht.len
              omega
            have HLs : Hid (∀ s ∈ o.list, s.length ≤ 1000000000) := fun s hs => by
              have h1 := lenSum_mem hs
              have h2 := lenSum_text o.list
              have h3 := HSm.out.text HMem.out
              omega
            obtain ⟨N, hN⟩ : ∃ N, N = (piecesB (textB o.list)).length := ⟨_, rfl⟩
            have HN := Lib.hid hN
            have hN1 : N ≤ 1000000 := by
              have h1 := piecesB_le (textB o.list)
              have h2 := HSm.out.text HMem.out
              omega
            clear hoj hg ht hsl c1 hN
            go_wp2_with fail
            go_at_call 9
            refine (Records_c HO.out (by have := HRl.out; omega)).mono ?_
            rintro e w3 ⟨rv, rfl, ho⟩
            obtain ⟨yo, ko, dd, rfl, -⟩ := Owns.texts ho
            have HK : Hid (ko ≤ 20 * k) := by show _ ≤ _; rw [← small_of ho]; exact HRl.out
            have HYo : Hid (yo = none → dd = 0) := fun hn => by
              rcases (Owns.row ho).2 with ⟨hv, -⟩ | ⟨_, _, _, hv, -⟩
              · cases hv; rfl
              · simp only [Value.slice.injEq] at hv
                rw [hn] at hv
                cases hv.1
            replace HO := Lib.hid ho
            clear ho
            obtain ⟨hg, d1⟩ := HCl.out _ HO.out.base
            go_wp2_with fail
            clear hg d1
            go_at_call 11
            refine (RText_c y q cc o.list _ (HT.out _ HO.out.base) (HSm.out.text HMem.out) (by have := HQ.out; omega)).mono ?_
            rintro e w4 ⟨rfl, hb⟩
            replace HO := Lib.hid (HO.out.below hb)
            obtain ⟨tx, htx⟩ : ∃ tx, tx = textB o.list := ⟨_, rfl⟩
            rw [← htx] at HN ⊢
            have HTx : Hid (tx.length ≤ 1000000000) := by show _ ≤ _; rw [htx]; have := HSm.out.text HMem.out; omega
            have HTe := Lib.hid htx
            clear hb htx
            go_wp2_with fail
            go_at_call 10
            refine (RPieces_c tx _ _ (Below.refl _ _) HTx.out).mono ?_
            rintro e w5 ⟨v, rfl, hrow⟩
            have hrw : ∃ a cp, v = .slice a N cp := by
              rw [HN.out]
              exact hrow.form
            obtain ⟨a5, cp5, rfl⟩ := hrw
            replace HO := Lib.hid (HO.out.below hrow.below)
            clear hrow
            obtain ⟨hg, d1⟩ := HCl.out _ HO.out.base
            go_wp2_with fail
            clear hg d1
            go_at_call 12
            refine (RLong_c y q cc o.list _ (HT.out _ HO.out.base) HLs.out (by have := HQ.out; omega)).mono ?_
            rintro e w6 ⟨rfl, hw⟩
            rw [hw]
            clear hw w6
            replace HO : Hid (Owns W w5 (jblk jb db sec cnt (.slice x' n' c') false :: trow (.slice x' n' c') rs :: disk db m :: trow (.slice yo ko dd) rs :: [])) := HO.out.re [2, 1, 3, 0]
            by_cases hl : longB o.list = true
            · have HA := Lib.hid (room_long HV.out hl)
              rw [hl]
              clear hl
              obtain ⟨hg, d1⟩ := HCl.out _ HO.out.base
              go_wp2_with fail
              clear hg d1
              go_at_call 13
              refine (Append_c HO.out (fun w' h => HT.out w' h.base) (HSm.out.text HMem.out) (by have := HQ.out; omega) (by rw [HV.out.calm.q]; simp) (by have := HSc.out; omega) (by have := HSc.out; omega) (by have := HRl.out; omega) HS.out).mono ?_
              rintro e w7 ⟨rv, he, ho⟩
              rw [HA.out] at he ho
              subst he
              obtain ⟨xr, nr, cr, rfl, -⟩ := Owns.texts ho.swap
              replace HO : Hid (Owns W w7 (jblk jb db sec cnt (.slice xr nr cr) false :: trow (.slice xr nr cr) rs :: disk db m :: trow (.slice yo ko dd) rs :: [])) := ho
              have HR2 : Hid ((sec : Int) - 2 - (cnt : Int) = rm) := HRm.out.symm
              have HR2l : Hid (rs.length ≤ 20 * k + 20) := by show _ ≤ _; have := HRl.out; omega
              have HK2 : Hid (ko ≤ 20 * k + 20) := by show _ ≤ _; have := HK.out; omega
              have HN1 : Hid (0 ≤ 0) := Nat.le_refl _
              clear ho
              go_wp2_with fail
              go_at_call 14
              refine (Room_c HO.out (by have := HSc.out; omega) (by have := HSc.out; have := HN1.out; omega)).mono ?_
              rintro e w8 ⟨rfl, hb⟩
              rw [HR2.out]
              replace HO := Lib.hid ((HO.out.below hb).swap)
              clear hb
              have hrr : (rm == rm) = true := by simp
              go_wp2_with fail
              clear hrr
              go_at_call 9
              refine (Records_c HO.out (by have := HR2l.out; omega)).mono ?_
              rintro e w9 ⟨rv2, rfl, ho⟩
              obtain ⟨x4, n4, c4, rfl, -⟩ := Owns.texts ho
              have H4 : Hid (n4 ≤ 20 * k + 20) := by show _ ≤ _; rw [← small_of ho]; exact HR2l.out
              replace HO := Lib.hid ho
              clear ho
              go_wp2_with fail
              go_at_call 15
              refine (Same_c _ _ _ _ _ _ _ _ _ (is_of HO.out) (is_of (HO.out.re [4, 0, 1, 2, 3])) (by have := H4.out; omega) (by have := HK2.out; omega)).mono ?_
              rintro e w10 ⟨rfl, hb⟩
              rw [decide_eq_true (rfl : rs = rs)]
              replace HO := Lib.hid (HO.out.below hb)
              clear hb
              go_wp2_with fail
              go_roundg (n - (k + 1))
              case measure => have := HLt.out; omega
              case rel => exact ⟨k + 1, rm, rfl, by have := HLt.out; omega, by go_num, rfl, Lib.hid ⟨m, ⟨sec, cnt, rs, false⟩, HV.out, rfl, by have := HRl.out; show rs.length ≤ _; omega, HRm.out, _, _, _, (HO.out.re [2, 1, 3, 0, 4]).re [3, 4, 0, 1, 2] |>.pop.pop⟩⟩
            · have hl' : longB o.list = false := by simpa using hl
              by_cases hr : rm < (N : Int)
              · have HA := Lib.hid (room_full HV.out hl (by rw [← HTe.out, ← HN.out]; show (sec : Int) - 2 - (cnt : Int) < _; rw [← HRm.out]; exact hr))
                rw [hl']
                clear hl hl'
                obtain ⟨hg, d1⟩ := HCl.out _ HO.out.base
                go_wp2_with fail
                clear hg d1
                go_at_call 13
                refine (Append_c HO.out (fun w' h => HT.out w' h.base) (HSm.out.text HMem.out) (by have := HQ.out; omega) (by rw [HV.out.calm.q]; simp) (by have := HSc.out; omega) (by have := HSc.out; omega) (by have := HRl.out; omega) HS.out).mono ?_
                rintro e w7 ⟨rv, he, ho⟩
                rw [HA.out] at he ho
                subst he
                obtain ⟨xr, nr, cr, rfl, -⟩ := Owns.texts ho.swap
                replace HO : Hid (Owns W w7 (jblk jb db sec cnt (.slice xr nr cr) false :: trow (.slice xr nr cr) rs :: disk db m :: trow (.slice yo ko dd) rs :: [])) := ho
                have HR2 : Hid ((sec : Int) - 2 - (cnt : Int) = rm) := HRm.out.symm
                have HR2l : Hid (rs.length ≤ 20 * k + 20) := by show _ ≤ _; have := HRl.out; omega
                have HK2 : Hid (ko ≤ 20 * k + 20) := by show _ ≤ _; have := HK.out; omega
                have HN1 : Hid (0 ≤ 0) := Nat.le_refl _
                clear ho
                go_wp2_with fail
                go_at_call 14
                refine (Room_c HO.out (by have := HSc.out; omega) (by have := HSc.out; have := HN1.out; omega)).mono ?_
                rintro e w8 ⟨rfl, hb⟩
                rw [HR2.out]
                replace HO := Lib.hid ((HO.out.below hb).swap)
                clear hb
                have hrr : (rm == rm) = true := by simp
                go_wp2_with fail
                clear hrr
                go_at_call 9
                refine (Records_c HO.out (by have := HR2l.out; omega)).mono ?_
                rintro e w9 ⟨rv2, rfl, ho⟩
                obtain ⟨x4, n4, c4, rfl, -⟩ := Owns.texts ho
                have H4 : Hid (n4 ≤ 20 * k + 20) := by show _ ≤ _; rw [← small_of ho]; exact HR2l.out
                replace HO := Lib.hid ho
                clear ho
                go_wp2_with fail
                go_at_call 15
                refine (Same_c _ _ _ _ _ _ _ _ _ (is_of HO.out) (is_of (HO.out.re [4, 0, 1, 2, 3])) (by have := H4.out; omega) (by have := HK2.out; omega)).mono ?_
                rintro e w10 ⟨rfl, hb⟩
                rw [decide_eq_true (rfl : rs = rs)]
                replace HO := Lib.hid (HO.out.below hb)
                clear hb
                go_wp2_with fail
                go_roundg (n - (k + 1))
                case measure => have := HLt.out; omega
                case rel => exact ⟨k + 1, rm, rfl, by have := HLt.out; omega, by go_num, rfl, Lib.hid ⟨m, ⟨sec, cnt, rs, false⟩, HV.out, rfl, by have := HRl.out; show rs.length ≤ _; omega, HRm.out, _, _, _, (HO.out.re [2, 1, 3, 0, 4]).re [3, 4, 0, 1, 2] |>.pop.pop⟩⟩
              · have HA := Lib.hid (room_ok HV.out hl (by rw [← HTe.out, ← HN.out]; show ¬ (sec : Int) - 2 - (cnt : Int) < _; rw [← HRm.out]; exact hr))
                have HV2 := (HV.out.app o.list).1
                rw [HA.out] at HV2
                rw [← HTe.out, ← HN.out] at HA HV2
                replace HV2 := Lib.hid HV2
                obtain ⟨m2, hm2⟩ : ∃ m2, m2 = (appendB m ⟨sec, cnt, rs, false⟩ o.list).1 := ⟨_, rfl⟩
                rw [← hm2] at HV2
                rw [hl']
                clear hl hl'
                obtain ⟨hg, d1⟩ := HCl.out _ HO.out.base
                go_wp2_with fail
                clear hg d1
                go_at_call 13
                refine (Append_c HO.out (fun w' h => HT.out w' h.base) (HSm.out.text HMem.out) (by have := HQ.out; omega) (by rw [HV.out.calm.q]; simp) (by have := HSc.out; omega) (by have := HSc.out; omega) (by have := HRl.out; omega) HS.out).mono ?_
                rintro e w7 ⟨rv, he, ho⟩
                rw [HA.out] at he ho
                subst he
                obtain ⟨xr, nr, cr, rfl, -⟩ := Owns.texts ho.swap
                rw [← hm2] at ho
                clear hm2
                replace HO : Hid (Owns W w7 (trow (.slice yo ko dd) rs :: jblk jb db sec (cnt + N) (.slice xr nr cr) false :: trow (.slice xr nr cr) (rs ++ o.list) :: disk db m2 :: [])) := ho.re [3, 0, 1, 2]
                clear ho
                have hNr : (N : Int) ≤ rm := by omega
                go_wp2_with fail
                obtain ⟨r2, hr2⟩ : ∃ r2 : Int, r2 = rm - (N : Int) := ⟨_, rfl⟩
                have HR2 : Hid ((sec : Int) - 2 - ((cnt + N : Nat) : Int) = r2) := by
                  show _ = _
                  have := HRm.out
                  omega
                have hr0 : 0 ≤ r2 ∧ r2 ≤ 100 := by omega
                rw [← hr2]
                clear hr2
                apply cut4 (Hyp := fun b u v W' => Hid (Owns W W' (jblk jb db sec (cnt + N) (.slice xr nr cr) false :: trow (.slice xr nr cr) (rs ++ o.list) :: disk db m2 :: trow v (rs ++ o.list) :: [])))
                focus
                  intro key
                  refine wp_region_plan [] (.step 1 (.step 3 (.step 4 (.step 5 (.step 6 (.fork 0 (.fork 2 (.step 7 (.step 8 (.step 9 .done))) 7 (.step 2 (.step 8 (.step 9 .done)))) 7 (.step 0 (.step 2 (.step 8 (.step 9 .done))))))))))  (by decide +kernel) (by decide +kernel) ?_
                  replace HO := Lib.hid HO.out.drew
                  obtain ⟨Wd, hWd⟩ : ∃ Wd, Wd = w7.drew := ⟨_, rfl⟩
                  rw [← hWd] at HO ⊢
                  clear hWd
                  obtain ⟨hg, d1⟩ := HCl.out _ HO.out.base
                  iterate 5 (refine cp_do rfl rfl rfl rfl (fun _ _ => ?_); go_wp2_with fail)
                  obtain ⟨g0, hg0⟩ : ∃ g0, g0 = Wd.heap.size := ⟨_, rfl⟩
                  have HE := Owns.made HO.out [] (by decide)
                  rw [← hg0] at HE
                  obtain ⟨Wa, hWa⟩ : ∃ Wa, Wa = Wd.alloc (.cells #[] 9) := ⟨_, rfl⟩
                  have HEo : Hid (Owns W Wa (trow (.slice (some ⟨g0, 0, none⟩) 0 0) [] :: trow (.slice yo ko dd) rs :: jblk jb db sec (cnt + N) (.slice xr nr cr) false :: trow (.slice xr nr cr) (rs ++ o.list) :: disk db m2 :: [])) := by
                    rw [hWa]
                    exact Lib.hid HE
                  clear HE hg d1
                  refine cp_fork ?_ ?_
                  focus
                    refine cp_do rfl rfl rfl rfl (fun _ _ => ?_)
                    go_wp2_with fail
                    rw [← hg0, ← hWa]
                    clear hg0 hWa
                    refine cp_fork ?_ ?_
                    focus
                      refine cp_do rfl rfl rfl rfl (fun K hK => ?_)
                      refine wp_append_texts (.tmp 70) (.tmp 71) (by rfl) _ 0 [] (by rfl) (Owns.row HEo.out) yo ko dd rs (by rfl) (is_of HEo.out.swap) HYo.out (by have := HK.out; omega) ?_
                      intro v' w10 hrow hgrow hblk
                      have Hp := Lib.hid (Owns.grew (l' := rs) HEo.out (by rw [show rs.length = 0 + ko by rw [small_of HEo.out.swap]; omega]; exact hrow) hgrow hblk)
                      clear hrow hgrow hblk
                      go_wp2_with fail
                      obtain ⟨hg, d1⟩ := HCl.out _ Hp.out.base
                      refine cp_do rfl rfl rfl rfl (fun _ _ => ?_)
                      go_wp2_with fail
                      clear hg d1
                      refine cp_do rfl rfl rfl rfl (fun K hK => ?_)
                      refine wp_append_texts (.tmp 72) (.tmp 77) (by rfl) _ rs.length _ (by rfl) (Owns.row Hp.out) y q cc o.list (by rfl) (HT.out _ Hp.out.base) HY.out (by have := HRl.out; have := HQ.out; omega) ?_
                      intro v2 w11 hrow hgrow hblk
                      have Hp2 := Lib.hid (Owns.grew (l' := rs ++ o.list) Hp.out (by rw [List.length_append, (HT.out _ Hp.out.base).len, show tcs (rs ++ o.list) = tcs rs ++ tcs o.list by simp [tcs]]; exact hrow) hgrow hblk)
                      clear hrow hgrow hblk
                      go_wp2_with fail
                      refine cp_do rfl rfl rfl rfl (fun _ _ => ?_)
                      go_wp2_with fail
                      refine cp_nil ?_
                      exact key g0 v' v2 w11 (Lib.hid (Hp2.out.re [2, 3, 4, 0, 1] |>.re [0, 1, 2, 3, 4] |>.re [4, 0, 1, 2, 3] |>.pop))
                    focus
                      obtain ⟨hg, d1⟩ := HCl.out _ HEo.out.base
                      refine cp_do rfl rfl rfl rfl (fun _ _ => ?_)
                      go_wp2_with fail
                      clear hg d1
                      refine cp_do rfl rfl rfl rfl (fun K hK => ?_)
                      refine wp_append_texts (.tmp 70) (.tmp 71) (by rfl) _ 0 [] (by rfl) (Owns.row HEo.out) yo ko dd rs (by rfl) (is_of HEo.out.swap) HYo.out (by have := HK.out; omega) ?_
                      intro v' w10 hrow hgrow hblk
                      have Hp := Lib.hid (Owns.grew (l' := rs) HEo.out (by rw [show rs.length = 0 + ko by rw [small_of HEo.out.swap]; omega]; exact hrow) hgrow hblk)
                      clear hrow hgrow hblk
                      go_wp2_with fail
                      refine cp_do rfl rfl rfl rfl (fun K hK => ?_)
                      refine wp_append_texts (.tmp 72) (.tmp 77) (by rfl) _ rs.length _ (by rfl) (Owns.row Hp.out) y q cc o.list (by rfl) (HT.out _ Hp.out.base) HY.out (by have := HRl.out; have := HQ.out; omega) ?_
                      intro v2 w11 hrow hgrow hblk
                      have Hp2 := Lib.hid (Owns.grew (l' := rs ++ o.list) Hp.out (by rw [List.length_append, (HT.out _ Hp.out.base).len, show tcs (rs ++ o.list) = tcs rs ++ tcs o.list by simp [tcs]]; exact hrow) hgrow hblk)
                      clear hrow hgrow hblk
                      go_wp2_with fail
                      refine cp_do rfl rfl rfl rfl (fun _ _ => ?_)
                      go_wp2_with fail
                      refine cp_nil ?_
                      exact key g0 v' v2 w11 (Lib.hid (Hp2.out.re [2, 3, 4, 0, 1] |>.re [0, 1, 2, 3, 4] |>.re [4, 0, 1, 2, 3] |>.pop))
                  focus
                    obtain ⟨hg, d1⟩ := HCl.out _ HO.out.base
                    refine cp_do rfl rfl rfl rfl (fun _ _ => ?_)
                    go_wp2_with fail
                    clear hg d1
                    refine cp_do rfl rfl rfl rfl (fun _ _ => ?_)
                    go_wp2_with fail
                    rw [← hg0, ← hWa]
                    clear hg0 hWa
                    refine cp_do rfl rfl rfl rfl (fun K hK => ?_)
                    refine wp_append_texts (.tmp 70) (.tmp 71) (by rfl) _ 0 [] (by rfl) (Owns.row HEo.out) yo ko dd rs (by rfl) (is_of HEo.out.swap) HYo.out (by have := HK.out; omega) ?_
                    intro v' w10 hrow hgrow hblk
                    have Hp := Lib.hid (Owns.grew (l' := rs) HEo.out (by rw [show rs.length = 0 + ko by rw [small_of HEo.out.swap]; omega]; exact hrow) hgrow hblk)
                    clear hrow hgrow hblk
                    go_wp2_with fail
                    refine cp_do rfl rfl rfl rfl (fun K hK => ?_)
                    refine wp_append_texts (.tmp 72) (.tmp 77) (by rfl) _ rs.length _ (by rfl) (Owns.row Hp.out) y q cc o.list (by rfl) (HT.out _ Hp.out.base) HY.out (by have := HRl.out; have := HQ.out; omega) ?_
                    intro v2 w11 hrow hgrow hblk
                    have Hp2 := Lib.hid (Owns.grew (l' := rs ++ o.list) Hp.out (by rw [List.length_append, (HT.out _ Hp.out.base).len, show tcs (rs ++ o.list) = tcs rs ++ tcs o.list by simp [tcs]]; exact hrow) hgrow hblk)
                    clear hrow hgrow hblk
                    go_wp2_with fail
                    refine cp_do rfl rfl rfl rfl (fun _ _ => ?_)
                    go_wp2_with fail
                    refine cp_nil ?_
                    exact key g0 v' v2 w11 (Lib.hid (Hp2.out.re [2, 3, 4, 0, 1] |>.re [0, 1, 2, 3, 4] |>.re [4, 0, 1, 2, 3] |>.pop))
                clear HO
                intro b u v W2 HO2
                obtain ⟨x3, n3, c3, rfl, -⟩ := Owns.texts (HO2.out.re [3, 0, 1, 2])
                replace HO := HO2
                have HLl : Hid (o.list.length ≤ 20) := by
                  show _ ≤ _
                  have h2 := (HT.out _ HO2.out.base).len
                  have h4 := HQ.out
                  omega
                have HR2l : Hid ((rs ++ o.list).length ≤ 20 * k + 20) := by
                  show _ ≤ _
                  have h3 := HRl.out
                  have h4 := HLl.out
                  rw [List.length_append]
                  omega
                have HK2 : Hid (n3 ≤ 20 * k + 20) := by
                  show _ ≤ _
                  rw [← small_of (HO2.out.re [3, 0, 1, 2])]
                  exact HR2l.out
                have HN1 : Hid (N ≤ 1000000) := hN1
                obtain ⟨r3, hr3⟩ : ∃ r3, r3 = rs ++ o.list := ⟨_, rfl⟩
                rw [← hr3] at HO HV2 HR2l
                clear HO2 hr3
                go_wp2_with fail
                go_at_call 14
                refine (Room_c HO.out (by have := HSc.out; omega) (by have := HSc.out; have := HN1.out; omega)).mono ?_
                rintro e w8 ⟨rfl, hb⟩
                rw [HR2.out]
                replace HO := Lib.hid ((HO.out.below hb).swap)
                clear hb
                have hrr : (r2 == r2) = true := by simp
                go_wp2_with fail
                clear hrr
                go_at_call 9
                refine (Records_c HO.out (by have := HR2l.out; omega)).mono ?_
                rintro e w9 ⟨rv2, rfl, ho⟩
                obtain ⟨x4, n4, c4, rfl, -⟩ := Owns.texts ho
                have H4 : Hid (n4 ≤ 20 * k + 20) := by show _ ≤ _; rw [← small_of ho]; exact HR2l.out
                replace HO := Lib.hid ho
                clear ho
                go_wp2_with fail
                go_at_call 15
                refine (Same_c _ _ _ _ _ _ _ _ _ (is_of HO.out) (is_of (HO.out.re [4, 0, 1, 2, 3])) (by have := H4.out; omega) (by have := HK2.out; omega)).mono ?_
                rintro e w10 ⟨rfl, hb⟩
                rw [decide_eq_true (rfl : r3 = r3)]
                replace HO := Lib.hid (HO.out.below hb)
                clear hb
                go_wp2_with fail
                go_roundg (n - (k + 1))
                case measure => have := HLt.out; omega
                case rel => exact ⟨k + 1, r2, rfl, by have := HLt.out; omega, by go_num, rfl, Lib.hid ⟨m2, ⟨sec, cnt + N, r3, false⟩, HV2.out, rfl, by have := HR2l.out; show r3.length ≤ _; omega, HR2.out.symm, _, _, _, (HO.out.re [2, 1, 3, 0, 4]).re [3, 4, 0, 1, 2] |>.pop.pop⟩⟩
          · have HF : Hid (Owns W wr []) := HO.out.pop.pop.pop
            obtain rfl : k = n := by omega
            clear hJ1 hK1 hlt
            replace HO := HF
            go_wp2_with fail
            go_ret
            exact ⟨rfl, HO.out.base⟩
end Go.Proofs.YtjcjpekndeoonaaGreatDoor
