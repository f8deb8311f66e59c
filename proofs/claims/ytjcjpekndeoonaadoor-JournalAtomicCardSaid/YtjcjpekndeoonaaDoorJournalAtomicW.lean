/-
  'JournalAtomic': the walk.
-/
import Derived.Test.YtjcjpekndeoonaaDoorJnLaw
import Derived.Test.YtjcjpekndeoonaaDoorJnAtom2
namespace Go.Cz.Jn
/-- What follows is proved once, for whatever was made. -/
theorem cut4 {Goal : Prop} {Hyp G : Nat → Value → Value → World → Prop} (h1 : (∀ b u v W, Hyp b u v W → G b u v W) → Goal) (h2 : ∀ b u v W, Hyp b u v W → G b u v W) : Goal := h1 h2
end Go.Cz.Jn
namespace Go.Proofs.YtjcjpekndeoonaaDoor
open Go.RowKit Go.Cz Go.Cz.Jn
set_option linter.unusedSimpArgs false
set_option linter.unusedVariables false
attribute [local go_sem] bs_size bs_extract bs_append bs_toList
attribute [local irreducible] cList cPlan
set_option maxRecDepth 10000 in
set_option maxHeartbeats 16000000 in
theorem JournalAtomic_walk (W : World) (hs : Std W) (s : Int) (x : Option Addr) (n c : Nat) (l : List JOp) (hi : IsOps W x n l) :
    Calls Tryd.prog 7 #[.int .i64 s, .slice x n c] W fun e W' => e = .returned (.bool true) ∧ Below W.heap.size W W' := by
  have HS := Lib.hid hs
  have HI := Lib.hid hi
  have HO : Hid (Owns W W []) := Owns.start W
  clear hs hi
  go_enter Tryd.func7, Tryd.ntmps7
  go_wp2_with fail
  go_at_call 8
  refine (head_c _ HS.out).mono ?_
  rintro e w1 ⟨rfl, hb⟩
  replace HO := Lib.hid (HO.out.below hb)
  clear hb
  go_wp2_with fail
  go_at_call 9
  refine (light_c s x n c l _ (HI.out.below HO.out.base)).mono ?_
  rintro e w2 ⟨b, rfl, hsm, hw⟩
  rw [hw]
  clear hw w2
  have HSm := Lib.hid hsm
  clear hsm
  cases b
  case «false» =>
    go_wp2_with fail
    go_ret
    exact ⟨rfl, HO.out.base⟩
  case «true» =>
    replace HSm := Lib.hid (HSm.out rfl)
    go_wp2_with fail
    go_at_call 19
    by_cases h1 : s < 1
    · refine (New_bad s _ (.inl h1)).mono ?_
      rintro e w1 ⟨rfl, hw⟩
      rw [hw]
      clear hw w1
      go_wp2_with fail
      go_at_call 15
      refine (OpenNil_c _).mono ?_
      rintro e w2 ⟨rfl, hw⟩
      rw [hw]
      clear hw w2
      go_wp2_with fail
      go_ret
      exact ⟨rfl, HO.out.base⟩
    · obtain ⟨sn, rfl⟩ : ∃ m : Nat, s = (m : Int) := ⟨s.toNat, by omega⟩
      refine (Owns.new sn HO.out (by omega) (by have := HSm.out.sec; omega)).mono ?_
      rintro e w1 ⟨db, rfl, ho⟩
      replace HO := Lib.hid ho
      clear ho
      go_wp2_with fail
      go_at_call 15
      refine (Open_c HO.out (by simp [Dk.fresh]) HS.out).mono ?_
      intro e w2 ho
      by_cases h3 : sn < 3
      · obtain ⟨rfl, ho2⟩ := open_bad ho (open_few (n := sn) h3) (by decide)
        replace HO := Lib.hid ho2.pop
        clear ho ho2
        go_wp2_with fail
        go_ret
        exact ⟨rfl, HO.out.base⟩
      · have HInv := Lib.hid (inv_fresh (n := sn) (by omega) (by have := HSm.out.sec; omega))
        obtain ⟨jb, xr, nr, cr, yo, ko, d, rfl, ho2⟩ := open_good ho (by rw [HInv.out.open])
        rw [HInv.out.open] at ho2
        have hn16 : n ≤ 16 := by rw [← HI.out.len]; exact HSm.out.ops
        have HOJ : Hid (∃ (m : Dk.Dm) (j : Jm), Inv m j ∧ j.sectors = sn ∧ j.recs.length ≤ 20 * 0 ∧ ∃ (x' : Option Addr) (n' c' : Nat), Owns W w2 (jblk jb db j.sectors j.count (.slice x' n' c') false :: trow (.slice x' n' c') j.recs :: disk db m :: trow (.slice yo ko d) j.recs :: [])) :=
          ⟨_, _, HInv.out, rfl, by simp, xr, nr, cr, ho2.re [1, 2, 3, 0]⟩
        clear ho ho2 HO HInv h1 h3
        go_wp2_with fail
        go_loopg [7, 8, 10] n (fun gk jv v i wr => ∃ k jb : Nat, gk = n - k ∧ k ≤ n ∧ i = .int .i64 (k : Int) ∧ jv = .pointer (some ⟨jb, 0, none⟩) ∧ Hid (∃ (m : Dk.Dm) (j : Jm), Inv m j ∧ j.sectors = sn ∧ j.recs.length ≤ 20 * k ∧ ∃ (x' : Option Addr) (n' c' : Nat), Owns W wr (jblk jb db j.sectors j.count (.slice x' n' c') false :: trow (.slice x' n' c') j.recs :: disk db m :: trow v j.recs :: [])))
        case atStart => exact ⟨0, _, rfl, Nat.zero_le _, rfl, rfl, HOJ⟩
        case round =>
          rename_i J1 K1 hJ1 hK1
          clear HOJ
          obtain ⟨k, jb, rfl, hk, rfl, rfl, HOJ⟩ := hrel
          obtain ⟨m, j, hinv, hsec, hlen, x', n', c', ho⟩ := HOJ.out
          obtain ⟨yo, ko, dd, rfl, -⟩ := Owns.texts (ho.re [3, 0, 1, 2])
          obtain ⟨sec, cnt, rs, br⟩ := j
          obtain rfl : br = false := hinv.ok
          obtain rfl : sec = sn := hsec
          replace HO : Hid (Owns W wr (trow (.slice yo ko dd) rs :: jblk jb db sec cnt (.slice x' n' c') false :: trow (.slice x' n' c') rs :: disk db m :: [])) := ho.re [3, 0, 1, 2]
          have HV := Lib.hid hinv
          have HRl : Hid (rs.length ≤ 20 * k) := hlen
          have HSc : Hid (sec ≤ 40 ∧ cnt + 2 ≤ sec) := ⟨by have := HSm.out.sec; omega, by have := hinv.room; dsimp only at this; omega⟩
          have HK : Hid (ko ≤ 20 * k) := by show _ ≤ _; rw [← small_of HO.out]; exact hlen
          have HYo : Hid (yo = none → dd = 0) := fun hn => by
            rcases (Owns.row HO.out).2 with ⟨hv, -⟩ | ⟨_, _, _, hv, -⟩
            · cases hv; rfl
            · simp only [Value.slice.injEq] at hv
              rw [hn] at hv
              cases hv.1
          clear HOJ hinv hlen ho
          by_cases hlt : k < n
          · obtain ⟨g, off, o, y, q, cc, rfl, hoj, hg, ht, hsl, -, c1, c2, c3, c4⟩ := HI.out.get hlt
            have HT : Hid (∀ w', Below W.heap.size W w' → IsTexts w' y q o.list) := fun w' hb => ht.below hb
            have HCl : Hid (∀ w', Below W.heap.size W w' → g < w'.heap.size ∧ w'.cell? ⟨g, off + k * 5 + 1, none⟩ = some (.slice y q cc) ∧ w'.cell? ⟨g, off + k * 5 + 2, none⟩ = some (.int .i64 o.pos) ∧ w'.cell? ⟨g, off + k * 5 + 3, none⟩ = some (.int .i64 o.writes) ∧ w'.cell? ⟨g, off + k * 5 + 4, none⟩ = some (.int .i64 o.bytes)) := fun w' hb => by
              have e : ∀ i, w'.cell? ⟨g, i, none⟩ = W.cell? ⟨g, i, none⟩ := fun i => hb.cell (p := ⟨g, i, none⟩) hg
              exact ⟨Nat.lt_of_lt_of_le hg hb.size, by rw [e]; exact c1, by rw [e]; exact c2, by rw [e]; exact c3, by rw [e]; exact c4⟩
            have HMem := Lib.hid (List.mem_of_getElem? hoj)
            have HY := Lib.hid hsl.1
            have HLt := Lib.hid hlt
            have HQ : Hid (q ≤ 20) := by
              show _ ≤ _
              have h1 := HSm.out.rows o HMem.out
              have h2 := ht.len
              omega
            clear hoj hg ht hsl c1 c2 c3 c4
            go_wp2_with fail
            apply cut4 (Hyp := fun b u v W' => Hid (Owns W W' (trow v (rs ++ o.list) :: jblk jb db sec cnt (.slice x' n' c') false :: trow (.slice x' n' c') rs :: disk db m :: trow (.slice yo ko dd) rs :: [])))
            focus
              intro key
              refine wp_region_plan [] (.step 1 (.step 3 (.step 4 (.step 5 (.step 6 (.fork 0 (.fork 2 (.step 7 (.step 8 (.step 9 .done))) 7 (.step 2 (.step 8 (.step 9 .done)))) 7 (.step 0 (.step 2 (.step 8 (.step 9 .done))))))))))  (by decide +kernel) (by decide +kernel) ?_
              replace HO := Lib.hid HO.out.drew
              obtain ⟨Wd, hWd⟩ : ∃ Wd, Wd = wr.drew := ⟨_, rfl⟩
              rw [← hWd] at HO ⊢
              clear hWd
              obtain ⟨hg, d1, -⟩ := HCl.out _ HO.out.base
              iterate 5 (refine cp_do rfl rfl rfl rfl (fun _ _ => ?_); go_wp2_with fail)
              obtain ⟨g0, hg0⟩ : ∃ g0, g0 = Wd.heap.size := ⟨_, rfl⟩
              have HE := Owns.made HO.out [] (by decide)
              rw [← hg0] at HE
              obtain ⟨Wa, hWa⟩ : ∃ Wa, Wa = Wd.alloc (.cells #[] 9) := ⟨_, rfl⟩
              have HEo : Hid (Owns W Wa (trow (.slice (some ⟨g0, 0, none⟩) 0 0) [] :: trow (.slice yo ko dd) rs :: jblk jb db sec cnt (.slice x' n' c') false :: trow (.slice x' n' c') rs :: disk db m :: [])) := by
                rw [hWa]
                exact Lib.hid HE
              clear HE hg d1
              refine cp_fork ?_ ?_
              focus
                refine cp_do rfl rfl rfl rfl (fun _ _ => ?_)
                go_wp2_with fail
                rw [← hg0, ← hWa]
                clear hg0 hWa
                refine cp_fork ?_ ?_
                focus
                  refine cp_do rfl rfl rfl rfl (fun K hK => ?_)
                  refine wp_append_texts (.tmp 45) (.tmp 46) (by rfl) _ 0 [] (by rfl) (Owns.row HEo.out) yo ko dd rs (by rfl) (is_of HEo.out.swap) HYo.out (by have := HK.out; omega) ?_
                  intro v' w10 hrow hgrow hblk
                  have Hp := Lib.hid (Owns.grew (l' := rs) HEo.out (by rw [show rs.length = 0 + ko by rw [small_of HEo.out.swap]; omega]; exact hrow) hgrow hblk)
                  clear hrow hgrow hblk
                  go_wp2_with fail
                  obtain ⟨hg, d1, -⟩ := HCl.out _ Hp.out.base
                  refine cp_do rfl rfl rfl rfl (fun _ _ => ?_)
                  go_wp2_with fail
                  clear hg d1
                  refine cp_do rfl rfl rfl rfl (fun K hK => ?_)
                  refine wp_append_texts (.tmp 47) (.tmp 52) (by rfl) _ rs.length _ (by rfl) (Owns.row Hp.out) y q cc o.list (by rfl) (HT.out _ Hp.out.base) HY.out (by have := HRl.out; have := HQ.out; omega) ?_
                  intro v2 w11 hrow hgrow hblk
                  have Hp2 := Lib.hid (Owns.grew (l' := rs ++ o.list) Hp.out (by rw [List.length_append, (HT.out _ Hp.out.base).len, show tcs (rs ++ o.list) = tcs rs ++ tcs o.list by simp [tcs]]; exact hrow) hgrow hblk)
                  clear hrow hgrow hblk
                  go_wp2_with fail
                  refine cp_do rfl rfl rfl rfl (fun _ _ => ?_)
                  go_wp2_with fail
                  refine cp_nil ?_
                  exact key g0 v' v2 w11 (Lib.hid (Hp2.out.re [0, 2, 3, 4, 1]))
                focus
                  obtain ⟨hg, d1, -⟩ := HCl.out _ HEo.out.base
                  refine cp_do rfl rfl rfl rfl (fun _ _ => ?_)
                  go_wp2_with fail
                  clear hg d1
                  refine cp_do rfl rfl rfl rfl (fun K hK => ?_)
                  refine wp_append_texts (.tmp 45) (.tmp 46) (by rfl) _ 0 [] (by rfl) (Owns.row HEo.out) yo ko dd rs (by rfl) (is_of HEo.out.swap) HYo.out (by have := HK.out; omega) ?_
                  intro v' w10 hrow hgrow hblk
                  have Hp := Lib.hid (Owns.grew (l' := rs) HEo.out (by rw [show rs.length = 0 + ko by rw [small_of HEo.out.swap]; omega]; exact hrow) hgrow hblk)
                  clear hrow hgrow hblk
                  go_wp2_with fail
                  refine cp_do rfl rfl rfl rfl (fun K hK => ?_)
                  refine wp_append_texts (.tmp 47) (.tmp 52) (by rfl) _ rs.length _ (by rfl) (Owns.row Hp.out) y q cc o.list (by rfl) (HT.out _ Hp.out.base) HY.out (by have := HRl.out; have := HQ.out; omega) ?_
                  intro v2 w11 hrow hgrow hblk
                  have Hp2 := Lib.hid (Owns.grew (l' := rs ++ o.list) Hp.out (by rw [List.length_append, (HT.out _ Hp.out.base).len, show tcs (rs ++ o.list) = tcs rs ++ tcs o.list by simp [tcs]]; exact hrow) hgrow hblk)
                  clear hrow hgrow hblk
                  go_wp2_with fail
                  refine cp_do rfl rfl rfl rfl (fun _ _ => ?_)
                  go_wp2_with fail
                  refine cp_nil ?_
                  exact key g0 v' v2 w11 (Lib.hid (Hp2.out.re [0, 2, 3, 4, 1]))
              focus
                obtain ⟨hg, d1, -⟩ := HCl.out _ HO.out.base
                refine cp_do rfl rfl rfl rfl (fun _ _ => ?_)
                go_wp2_with fail
                clear hg d1
                refine cp_do rfl rfl rfl rfl (fun _ _ => ?_)
                go_wp2_with fail
                rw [← hg0, ← hWa]
                clear hg0 hWa
                refine cp_do rfl rfl rfl rfl (fun K hK => ?_)
                refine wp_append_texts (.tmp 45) (.tmp 46) (by rfl) _ 0 [] (by rfl) (Owns.row HEo.out) yo ko dd rs (by rfl) (is_of HEo.out.swap) HYo.out (by have := HK.out; omega) ?_
                intro v' w10 hrow hgrow hblk
                have Hp := Lib.hid (Owns.grew (l' := rs) HEo.out (by rw [show rs.length = 0 + ko by rw [small_of HEo.out.swap]; omega]; exact hrow) hgrow hblk)
                clear hrow hgrow hblk
                go_wp2_with fail
                refine cp_do rfl rfl rfl rfl (fun K hK => ?_)
                refine wp_append_texts (.tmp 47) (.tmp 52) (by rfl) _ rs.length _ (by rfl) (Owns.row Hp.out) y q cc o.list (by rfl) (HT.out _ Hp.out.base) HY.out (by have := HRl.out; have := HQ.out; omega) ?_
                intro v2 w11 hrow hgrow hblk
                have Hp2 := Lib.hid (Owns.grew (l' := rs ++ o.list) Hp.out (by rw [List.length_append, (HT.out _ Hp.out.base).len, show tcs (rs ++ o.list) = tcs rs ++ tcs o.list by simp [tcs]]; exact hrow) hgrow hblk)
                clear hrow hgrow hblk
                go_wp2_with fail
                refine cp_do rfl rfl rfl rfl (fun _ _ => ?_)
                go_wp2_with fail
                refine cp_nil ?_
                exact key g0 v' v2 w11 (Lib.hid (Hp2.out.re [0, 2, 3, 4, 1]))
            clear HO HYo
            intro b u v W2 HO2
            obtain ⟨x3, n3, c3, rfl, -⟩ := Owns.texts HO2.out
            replace HO := HO2
            have HN3 : Hid (n3 ≤ 20 * k + 20) := by
              show _ ≤ _
              have h1 := small_of HO2.out
              have h2 := (HT.out _ HO2.out.base).len
              have h3 := HRl.out
              have h4 := HQ.out
              rw [List.length_append] at h1
              omega
            clear HO2
            obtain ⟨hg, -, d2, -⟩ := HCl.out _ HO.out.base
            go_wp2_with fail
            obtain ⟨A, hA⟩ : ∃ A, A = max 0 (o.pos.tmod 100) := ⟨_, rfl⟩
            have HA1 : Hid (A ≤ 1000) := by
              show _ ≤ _
              have := Int.tmod_lt_of_pos o.pos (by decide : (0 : Int) < 100)
              omega
            rw [← hA]
            clear hA d2 hg
            obtain ⟨r, er⟩ : ∃ r, r = appendB (Dk.arm m A o.writes o.bytes) ⟨sec, cnt, rs, false⟩ o.list := ⟨_, rfl⟩
            obtain ⟨m3, em3⟩ : ∃ m3, m3 = Dk.arm (Dk.start (Dk.fail r.1 0 0)) (A.tmod 5) o.bytes o.writes := ⟨_, rfl⟩
            obtain ⟨r2, er2⟩ : ∃ r2, r2 = openB m3 := ⟨_, rfl⟩
            obtain ⟨m5, em5⟩ : ∃ m5, m5 = Dk.start (Dk.fail r2.1 0 0) := ⟨_, rfl⟩
            obtain ⟨r3, er3⟩ : ∃ r3, r3 = openB m5 := ⟨_, rfl⟩
            have HL := Lib.hid (atomic HV.out (by have := HSc.out; exact this.1) o.list A o.writes o.bytes (A.tmod 5) o.bytes o.writes er (er2.trans (by rw [em3])) (er3.trans (by rw [em5])))
            have HQm : Hid ((Dk.arm m A o.writes o.bytes).q = []) := by
              show _ = _
              have h1 := HV.out.calm
              unfold Dk.arm
              rw [h1.off]
              exact h1.q
            have Her := Lib.hid er
            have Hem3 := Lib.hid em3
            have Her2 := Lib.hid er2
            have Hem5 := Lib.hid em5
            have Her3 := Lib.hid er3
            have HQ3 : Hid (m3.q = []) := by
              show _ = _
              have h1 : Dk.start (Dk.fail r.1 0 0) = cal r.1.st := restart HL.out.1 0 0
              rw [em3, h1]
              rfl
            have HQ5 : Hid (m5.q = []) := by
              show _ = _
              rw [em5, restart HL.out.2.1 0 0]
              rfl
            clear er em3 er2 em5 er3
            refine wp_region_can [] (List.range 13) (by kernel_rfl) (by kernel_rfl) ?_
            replace HO := Lib.hid HO.out.drew
            obtain ⟨hg, -, -, d3, d4⟩ := HCl.out _ HO.out.base
            iterate 12 (refine cl_do rfl rfl rfl rfl (fun _ _ => ?_); go_wp2_with fail)
            clear hg d3 d4
            replace HO : Hid (Owns W W2.drew (disk db m :: jblk jb db sec cnt (.slice x' n' c') false :: trow (.slice x' n' c') rs :: trow (.slice x3 n3 c3) (rs ++ o.list) :: trow (.slice yo ko dd) rs :: [])) := HO.out.re [3, 1, 2, 0]
            refine cl_do rfl rfl rfl rfl (fun _ _ => ?_)
            go_wp2_with fail
            go_at_call 22
            refine (Owns.arm A o.writes o.bytes HO.out (by have := HA1.out; omega)).mono ?_
            rintro e w3 ⟨rfl, ho⟩
            obtain ⟨m1, hm1⟩ : ∃ m1, m1 = Dk.arm m A o.writes o.bytes := ⟨_, rfl⟩
            rw [← hm1] at ho HQm Her
            replace HO : Hid (Owns W w3 (jblk jb db sec cnt (.slice x' n' c') false :: trow (.slice x' n' c') rs :: disk db m1 :: trow (.slice x3 n3 c3) (rs ++ o.list) :: trow (.slice yo ko dd) rs :: [])) := ho.re [1, 2, 0]
            clear ho hm1
            go_wp2_with fail
            refine cl_nil ?_
            obtain ⟨hg, d1, -⟩ := HCl.out _ HO.out.base
            go_wp2_with fail
            clear hg d1
            go_at_call 18
            refine (Append_c HO.out (fun w' h => HT.out w' h.base) (HSm.out.text HMem.out) (by have := HQ.out; omega) (by rw [HQm.out]; simp) (by have := HSc.out; omega) (by have := HSc.out; omega) (by have := HRl.out; omega) HS.out).mono ?_
            rintro e w4 ⟨rv, rfl, ho⟩
            rw [← Her.out] at ho ⊢
            obtain ⟨f, hf⟩ : ∃ f, f = r.2.1 := ⟨_, rfl⟩
            have HF := Lib.hid hf
            rw [← hf]
            replace HO : Hid (Owns W w4 (disk db r.1 :: trow (.slice x3 n3 c3) (rs ++ o.list) :: trow (.slice yo ko dd) rs :: [])) := (ho.re [1, 0]).pop.pop
            clear ho hf
            go_wp2_with fail
            go_at_call 13
            refine (Owns.fail 0 0 HO.out (by rw [HL.out.1]; simp)).mono ?_
            rintro e w5 ⟨rfl, ho⟩
            replace HO := Lib.hid ho
            clear ho
            go_wp2_with fail
            go_at_call 14
            refine (Owns.st HO.out).mono ?_
            rintro e w6 ⟨rfl, ho⟩
            replace HO := Lib.hid ho
            clear ho
            go_wp2_with fail
            refine wp_region_can [] (List.range 14) (by kernel_rfl) (by kernel_rfl) ?_
            replace HO := Lib.hid HO.out.drew
            obtain ⟨hg, -, -, d3, d4⟩ := HCl.out _ HO.out.base
            iterate 13 (refine cl_do rfl rfl rfl rfl (fun _ _ => ?_); go_wp2_with fail)
            clear hg d3 d4
            refine cl_do rfl rfl rfl rfl (fun _ _ => ?_)
            go_wp2_with fail
            go_at_call 22
            refine (Owns.arm (A.tmod 5) o.bytes o.writes HO.out (by have := Int.tmod_lt_of_pos A (by decide : (0 : Int) < 5); omega)).mono ?_
            rintro e w7 ⟨rfl, ho⟩
            rw [← Hem3.out] at ho
            replace HO := Lib.hid ho
            clear ho
            go_wp2_with fail
            refine cl_nil ?_
            go_wp2_with fail
            go_at_call 15
            refine (Open_c HO.out (by rw [HQ3.out]; simp) HS.out).mono ?_
            intro e w8 ho
            have HGl : Hid (r3.2.2.recs.length ≤ 20 * k + 20) := by
              show _ ≤ _
              have h1 := HRl.out
              have h2 := (HT.out _ HO.out.base).len
              have h3 := HQ.out
              rcases HL.out.2.2.2.2.2.1 with h4 | h4
              · rw [h4]; omega
              · rw [h4, List.length_append]; omega
            have HP : ∀ p1 p2 : Bool, p1 = decide (r3.2.2.recs = rs) → p2 = decide (r3.2.2.recs = rs ++ o.list) → (f = 0 ∧ p2 = true) ∨ (f = 26 ∧ p1 = true) ∨ (f = 26 ∧ p2 = true) ∨ ((¬ f = 0 ∧ ¬ f = 26) ∧ p1 = true) := by
              intro p1 p2 h1 h2
              have e0 := HL.out.2.2.2.2.2.1
              have e1 := HL.out.2.2.2.2.2.2.1
              have e2 := HL.out.2.2.2.2.2.2.2.1
              rw [← HF.out] at e1 e2
              by_cases f0 : f = 0
              · exact .inl ⟨f0, by rw [h2]; exact decide_eq_true (e1 f0)⟩
              · by_cases f26 : f = 26
                · rcases e0 with e0 | e0
                  · exact .inr (.inl ⟨f26, by rw [h1]; exact decide_eq_true e0⟩)
                  · exact .inr (.inr (.inl ⟨f26, by rw [h2]; exact decide_eq_true e0⟩))
                · exact .inr (.inr (.inr ⟨⟨f0, f26⟩, by rw [h1]; exact decide_eq_true (e2 f0 f26)⟩))
            replace HP := Lib.hid HP
            by_cases hg0 : r2.2.1 = 0
            · have HEa : Hid (r2.2.2.recs = r3.2.2.recs) := HL.out.2.2.2.2.2.2.2.2.1 hg0
              obtain ⟨jb2, x4, n4, c4, y4, k4, d4, rfl, ho2⟩ := open_good ho (by rw [← Her2.out]; exact hg0)
              rw [← Her2.out] at ho2
              have HK4 : Hid (k4 ≤ 20 * k + 20) := by show _ ≤ _; rw [← small_of ho2, HEa.out]; exact HGl.out
              replace HO : Hid (Owns W w8 (disk db r2.1 :: trow (.slice y4 k4 d4) r2.2.2.recs :: trow (.slice x3 n3 c3) (rs ++ o.list) :: trow (.slice yo ko dd) rs :: [])) := (ho2.re [1, 2, 3, 0]).pop.pop
              clear ho ho2 hg0
              go_wp2_with fail
              go_at_call 13
              refine (Owns.fail 0 0 HO.out (by rw [HL.out.2.1]; simp)).mono ?_
              rintro e w9 ⟨rfl, ho⟩
              replace HO := Lib.hid ho
              clear ho
              go_wp2_with fail
              go_at_call 14
              refine (Owns.st HO.out).mono ?_
              rintro e w10 ⟨rfl, ho⟩
              rw [← Hem5.out] at ho
              replace HO := Lib.hid ho
              clear ho
              go_wp2_with fail
              go_at_call 15
              refine (Open_c HO.out (by rw [HQ5.out]; simp) HS.out).mono ?_
              intro e w11 ho
              obtain ⟨jb3, x5, n5, c5, y5, k5, d5, rfl, ho3⟩ := open_good ho (by rw [← Her3.out]; exact HL.out.2.2.1)
              rw [← Her3.out] at ho3
              replace HO := Lib.hid ho3
              have HK5 : Hid (k5 ≤ 20 * k + 20) := by show _ ≤ _; rw [← small_of ho3]; exact HGl.out
              clear ho ho3
              go_wp2_with fail
              go_at_call 11
              refine (Same_c _ _ _ _ _ _ _ _ _ (is_of HO.out) (is_of (HO.out.re [6, 0, 1, 2, 3, 4, 5])) (by have := HK5.out; omega) (by have := HK.out; omega)).mono ?_
              rintro e w12 ⟨rfl, hb⟩
              obtain ⟨p1, hp1⟩ : ∃ p1, p1 = decide (r3.2.2.recs = rs) := ⟨_, rfl⟩
              rw [← hp1]
              replace HO := Lib.hid (HO.out.below hb)
              have HP1 := Lib.hid hp1
              clear hb hp1
              go_wp2_with fail
              go_at_call 11
              refine (Same_c _ _ _ _ _ _ _ _ _ (is_of HO.out) (is_of (HO.out.re [5, 0, 1, 2, 3, 4])) (by have := HK5.out; omega) (by have := HN3.out; omega)).mono ?_
              rintro e w13 ⟨rfl, hb⟩
              obtain ⟨p2, hp2⟩ : ∃ p2, p2 = decide (r3.2.2.recs = rs ++ o.list) := ⟨_, rfl⟩
              rw [← hp2]
              replace HO := Lib.hid (HO.out.below hb)
              have HP2 := Lib.hid hp2
              clear hb hp2
              rcases HP.out p1 p2 HP1.out HP2.out with ⟨rfl, rfl⟩ | ⟨rfl, rfl⟩ | ⟨rfl, rfl⟩ | ⟨⟨hf0, hf26⟩, rfl⟩
              focus
                clear HP1 HP2 HP HF
                cases p1
                all_goals
                  go_wp2_with fail
                  go_at_call 11
                  refine (Same_c _ _ _ _ _ _ _ _ _ (is_of (HO.out.re [4, 0, 1, 2, 3])) (is_of HO.out) (by have := HK4.out; omega) (by have := HK5.out; omega)).mono ?_
                  rintro e w14 ⟨rfl, hb⟩
                  rw [decide_eq_true HEa.out]
                  replace HO : Hid (Owns W w14 (jblk jb3 db r3.2.2.sectors r3.2.2.count (.slice x5 n5 c5) false :: trow (.slice x5 n5 c5) r3.2.2.recs :: disk db r3.1 :: trow (.slice y5 k5 d5) r3.2.2.recs :: [])) := ((HO.out.below hb).re [4, 5, 6, 1, 2, 3, 0]).pop.pop.pop
                  clear hb
                  go_wp2_with fail
                  go_roundg (n - (k + 1))
                  case measure => have := HLt.out; omega
                  case rel => exact ⟨k + 1, jb3, rfl, by have := HLt.out; omega, by go_num, rfl, Lib.hid ⟨r3.1, r3.2.2, HL.out.2.2.2.1, HL.out.2.2.2.2.1, by have := HGl.out; omega, x5, n5, c5, HO.out⟩⟩
              focus
                clear HP1 HP2 HP HF
                cases p2
                all_goals
                  go_wp2_with fail
                  go_at_call 11
                  refine (Same_c _ _ _ _ _ _ _ _ _ (is_of (HO.out.re [4, 0, 1, 2, 3])) (is_of HO.out) (by have := HK4.out; omega) (by have := HK5.out; omega)).mono ?_
                  rintro e w14 ⟨rfl, hb⟩
                  rw [decide_eq_true HEa.out]
                  replace HO : Hid (Owns W w14 (jblk jb3 db r3.2.2.sectors r3.2.2.count (.slice x5 n5 c5) false :: trow (.slice x5 n5 c5) r3.2.2.recs :: disk db r3.1 :: trow (.slice y5 k5 d5) r3.2.2.recs :: [])) := ((HO.out.below hb).re [4, 5, 6, 1, 2, 3, 0]).pop.pop.pop
                  clear hb
                  go_wp2_with fail
                  go_roundg (n - (k + 1))
                  case measure => have := HLt.out; omega
                  case rel => exact ⟨k + 1, jb3, rfl, by have := HLt.out; omega, by go_num, rfl, Lib.hid ⟨r3.1, r3.2.2, HL.out.2.2.2.1, HL.out.2.2.2.2.1, by have := HGl.out; omega, x5, n5, c5, HO.out⟩⟩
              focus
                clear HP1 HP2 HP HF
                cases p1
                all_goals
                  go_wp2_with fail
                  go_at_call 11
                  refine (Same_c _ _ _ _ _ _ _ _ _ (is_of (HO.out.re [4, 0, 1, 2, 3])) (is_of HO.out) (by have := HK4.out; omega) (by have := HK5.out; omega)).mono ?_
                  rintro e w14 ⟨rfl, hb⟩
                  rw [decide_eq_true HEa.out]
                  replace HO : Hid (Owns W w14 (jblk jb3 db r3.2.2.sectors r3.2.2.count (.slice x5 n5 c5) false :: trow (.slice x5 n5 c5) r3.2.2.recs :: disk db r3.1 :: trow (.slice y5 k5 d5) r3.2.2.recs :: [])) := ((HO.out.below hb).re [4, 5, 6, 1, 2, 3, 0]).pop.pop.pop
                  clear hb
                  go_wp2_with fail
                  go_roundg (n - (k + 1))
                  case measure => have := HLt.out; omega
                  case rel => exact ⟨k + 1, jb3, rfl, by have := HLt.out; omega, by go_num, rfl, Lib.hid ⟨r3.1, r3.2.2, HL.out.2.2.2.1, HL.out.2.2.2.2.1, by have := HGl.out; omega, x5, n5, c5, HO.out⟩⟩
              focus
                clear HP1 HP2 HP HF
                cases p2
                all_goals
                  go_wp2_with fail
                  go_at_call 11
                  refine (Same_c _ _ _ _ _ _ _ _ _ (is_of (HO.out.re [4, 0, 1, 2, 3])) (is_of HO.out) (by have := HK4.out; omega) (by have := HK5.out; omega)).mono ?_
                  rintro e w14 ⟨rfl, hb⟩
                  rw [decide_eq_true HEa.out]
                  replace HO : Hid (Owns W w14 (jblk jb3 db r3.2.2.sectors r3.2.2.count (.slice x5 n5 c5) false :: trow (.slice x5 n5 c5) r3.2.2.recs :: disk db r3.1 :: trow (.slice y5 k5 d5) r3.2.2.recs :: [])) := ((HO.out.below hb).re [4, 5, 6, 1, 2, 3, 0]).pop.pop.pop
                  clear hb
                  go_wp2_with fail
                  go_roundg (n - (k + 1))
                  case measure => have := HLt.out; omega
                  case rel => exact ⟨k + 1, jb3, rfl, by have := HLt.out; omega, by go_num, rfl, Lib.hid ⟨r3.1, r3.2.2, HL.out.2.2.2.1, HL.out.2.2.2.2.1, by have := HGl.out; omega, x5, n5, c5, HO.out⟩⟩
            · have hg26 : r2.2.1 = 26 := HL.out.2.2.2.2.2.2.2.2.2 hg0
              obtain ⟨rfl, ho2⟩ := open_bad ho (c := 26) (by rw [← Her2.out]; exact hg26) (by decide)
              rw [← Her2.out] at ho2
              replace HO := Lib.hid ho2
              clear ho ho2 hg0 hg26
              go_wp2_with fail
              go_at_call 13
              refine (Owns.fail 0 0 HO.out (by rw [HL.out.2.1]; simp)).mono ?_
              rintro e w9 ⟨rfl, ho⟩
              replace HO := Lib.hid ho
              clear ho
              go_wp2_with fail
              go_at_call 14
              refine (Owns.st HO.out).mono ?_
              rintro e w10 ⟨rfl, ho⟩
              rw [← Hem5.out] at ho
              replace HO := Lib.hid ho
              clear ho
              go_wp2_with fail
              go_at_call 15
              refine (Open_c HO.out (by rw [HQ5.out]; simp) HS.out).mono ?_
              intro e w11 ho
              obtain ⟨jb3, x5, n5, c5, y5, k5, d5, rfl, ho3⟩ := open_good ho (by rw [← Her3.out]; exact HL.out.2.2.1)
              rw [← Her3.out] at ho3
              replace HO := Lib.hid ho3
              have HK5 : Hid (k5 ≤ 20 * k + 20) := by show _ ≤ _; rw [← small_of ho3]; exact HGl.out
              clear ho ho3
              go_wp2_with fail
              go_at_call 11
              refine (Same_c _ _ _ _ _ _ _ _ _ (is_of HO.out) (is_of (HO.out.re [5, 0, 1, 2, 3, 4])) (by have := HK5.out; omega) (by have := HK.out; omega)).mono ?_
              rintro e w12 ⟨rfl, hb⟩
              obtain ⟨p1, hp1⟩ : ∃ p1, p1 = decide (r3.2.2.recs = rs) := ⟨_, rfl⟩
              rw [← hp1]
              replace HO := Lib.hid (HO.out.below hb)
              have HP1 := Lib.hid hp1
              clear hb hp1
              go_wp2_with fail
              go_at_call 11
              refine (Same_c _ _ _ _ _ _ _ _ _ (is_of HO.out) (is_of (HO.out.re [4, 0, 1, 2, 3])) (by have := HK5.out; omega) (by have := HN3.out; omega)).mono ?_
              rintro e w13 ⟨rfl, hb⟩
              obtain ⟨p2, hp2⟩ : ∃ p2, p2 = decide (r3.2.2.recs = rs ++ o.list) := ⟨_, rfl⟩
              rw [← hp2]
              replace HO := Lib.hid (HO.out.below hb)
              have HP2 := Lib.hid hp2
              clear hb hp2
              replace HO : Hid (Owns W w13 (jblk jb3 db r3.2.2.sectors r3.2.2.count (.slice x5 n5 c5) false :: trow (.slice x5 n5 c5) r3.2.2.recs :: disk db r3.1 :: trow (.slice y5 k5 d5) r3.2.2.recs :: [])) := (HO.out.re [4, 5, 1, 2, 3, 0]).pop.pop
              rcases HP.out p1 p2 HP1.out HP2.out with ⟨rfl, rfl⟩ | ⟨rfl, rfl⟩ | ⟨rfl, rfl⟩ | ⟨⟨hf0, hf26⟩, rfl⟩
              focus
                clear HP1 HP2 HP HF
                cases p1
                all_goals
                  go_wp2_with fail
                  go_roundg (n - (k + 1))
                  case measure => have := HLt.out; omega
                  case rel => exact ⟨k + 1, jb3, rfl, by have := HLt.out; omega, by go_num, rfl, Lib.hid ⟨r3.1, r3.2.2, HL.out.2.2.2.1, HL.out.2.2.2.2.1, by have := HGl.out; omega, x5, n5, c5, HO.out⟩⟩
              focus
                clear HP1 HP2 HP HF
                cases p2
                all_goals
                  go_wp2_with fail
                  go_roundg (n - (k + 1))
                  case measure => have := HLt.out; omega
                  case rel => exact ⟨k + 1, jb3, rfl, by have := HLt.out; omega, by go_num, rfl, Lib.hid ⟨r3.1, r3.2.2, HL.out.2.2.2.1, HL.out.2.2.2.2.1, by have := HGl.out; omega, x5, n5, c5, HO.out⟩⟩
              focus
                clear HP1 HP2 HP HF
                cases p1
                all_goals
                  go_wp2_with fail
                  go_roundg (n - (k + 1))
                  case measure => have := HLt.out; omega
                  case rel => exact ⟨k + 1, jb3, rfl, by have := HLt.out; omega, by go_num, rfl, Lib.hid ⟨r3.1, r3.2.2, HL.out.2.2.2.1, HL.out.2.2.2.2.1, by have := HGl.out; omega, x5, n5, c5, HO.out⟩⟩
              focus
                clear HP1 HP2 HP HF
                cases p2
                all_goals
                  go_wp2_with fail
                  go_roundg (n - (k + 1))
                  case measure => have := HLt.out; omega
                  case rel => exact ⟨k + 1, jb3, rfl, by have := HLt.out; omega, by go_num, rfl, Lib.hid ⟨r3.1, r3.2.2, HL.out.2.2.2.1, HL.out.2.2.2.2.1, by have := HGl.out; omega, x5, n5, c5, HO.out⟩⟩
          · have HF : Hid (Owns W wr []) := HO.out.pop.pop.pop.pop
            obtain rfl : k = n := by omega
            clear hJ1 hK1 hlt
            replace HO := HF
            go_wp2_with fail
            go_ret
            exact ⟨rfl, HO.out.base⟩
end Go.Proofs.YtjcjpekndeoonaaDoor
