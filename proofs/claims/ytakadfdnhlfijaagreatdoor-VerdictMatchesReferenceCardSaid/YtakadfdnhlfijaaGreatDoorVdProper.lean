/-
  Scenes that are proper.
-/
import Derived.Test.YtakadfdnhlfijaaGreatDoorVdValid
import Derived.Test.YtakadfdnhlfijaaGreatDoorVdLen
import Derived.Test.YtakadfdnhlfijaaGreatDoorVdNames
namespace Go.Proofs.YtakadfdnhlfijaaGreatDoor
open Go.RowKit Go.Cz Go.Cz.Lx Go.Cz.Fo Go.Cz.Vd
open Go.WideMaps (keyOf_string_mk)
open Go.Cz.Ck (Shift validB)
set_option linter.unusedSimpArgs false
set_option linter.unusedVariables false
attribute [local go_sem] bs_size bs_extract bs_append bs_toList
attribute [local irreducible] cList cPlan
/-- A scene of a moderate size. -/
structure ScLen (s : Sc) : Prop where
  dom : DoLen s.dom
  auths : ∀ a ∈ s.auths, a.length ≤ 140737488355328
  cases : ∀ c ∈ s.cases, c.length ≤ 1000000
theorem auth_step {d : List Fact} {A : List Bytes} {Z : List (List Shift)} {C : List (List Int)} {k : Nat} {x : Bytes} {z : List Shift} {c : List Int} (hx : A[k]? = some x) (hz : Z[k]? = some z) (hc : C[k]? = some c) :
    authL d (A.take k).reverse (A.drop k) (Z.drop k) (C.drop k) = (nameB x && (!(A.take k).reverse.contains x && (validB z && (fitsB d c && authL d (A.take (k + 1)).reverse (A.drop (k + 1)) (Z.drop (k + 1)) (C.drop (k + 1)))))) := by
  obtain ⟨h1, rfl⟩ := List.getElem?_eq_some_iff.1 hx
  obtain ⟨h2, rfl⟩ := List.getElem?_eq_some_iff.1 hz
  obtain ⟨h3, rfl⟩ := List.getElem?_eq_some_iff.1 hc
  rw [List.drop_eq_getElem_cons h1, List.drop_eq_getElem_cons h2, List.drop_eq_getElem_cons h3, authL, List.take_add_one, List.getElem?_eq_getElem h1, List.reverse_append]
  rfl
set_option maxHeartbeats 4000000 in
theorem proper_c (s : Sc) (vd va vz vc : Value) (w : World) (hs : IsSc w s vd va vz vc) (hl : ScLen s) (hA : s.auths.length ≤ 1000000) (hZ : s.zones.length ≤ 1000000) (hC : s.cases.length ≤ 1000000) :
    Calls Tryz.prog 15 #[sval s vd va vz vc] w fun e w' => e = .returned (.bool (properB s)) ∧ Below w.heap.size w w' := by
  have HS := Lib.hid hs
  have HL := Lib.hid hl
  obtain ⟨yd, md, rfl⟩ := hs.dom.form
  obtain ⟨ya, ma, rfl⟩ := hs.auths.form
  obtain ⟨yz, mz, rfl⟩ := hs.zones.form
  obtain ⟨yc, mc, rfl⟩ := hs.cases.form
  obtain ⟨ND, hND⟩ : ∃ n, n = s.dom.length := ⟨_, rfl⟩
  obtain ⟨NA, hNA⟩ : ∃ n, n = s.auths.length := ⟨_, rfl⟩
  obtain ⟨NZ, hNZ⟩ : ∃ n, n = s.zones.length := ⟨_, rfl⟩
  obtain ⟨NC, hNC⟩ : ∃ n, n = s.cases.length := ⟨_, rfl⟩
  rw [← hND, ← hNA, ← hNZ, ← hNC] at HS ⊢
  rw [← hNA] at hA
  rw [← hNZ] at hZ
  rw [← hNC] at hC
  have HNA := Lib.hid hNA
  have HNZ := Lib.hid hNZ
  have HNC := Lib.hid hNC
  clear hs hl hND hNA hNZ hNC
  obtain ⟨bx, hbx⟩ : ∃ bx, bx = w.heap.size := ⟨_, rfl⟩
  obtain ⟨o, ho⟩ : ∃ o, o = sobj s (.slice yd ND md) (.slice ya NA ma) (.slice yz NZ mz) (.slice yc NC mc) := ⟨_, rfl⟩
  obtain ⟨W1, hW1⟩ : ∃ W1, W1 = w.alloc (sobj s (.slice yd ND md) (.slice ya NA ma) (.slice yz NZ mz) (.slice yc NC mc)) := ⟨_, rfl⟩
  have HO : Hid (Owns w W1 [blk bx (sobj s (.slice yd ND md) (.slice ya NA ma) (.slice yz NZ mz) (.slice yc NC mc))]) := by
    rw [hW1, hbx]
    exact Lib.hid ((Owns.start w).box _)
  have HB1 : Hid (W1.heap.size = bx + 1) := by show _ = _; rw [hW1, hbx, World.size_alloc]
  by_cases n1 : 1 ≤ NA
  rotate_left
  · have n1' : (NA : Int) < 1 := by omega
    have HE : Hid (properB s = false) := by
      show _ = _
      unfold properB
      rw [decide_eq_false (by rw [← HNA.out]; exact n1)]; simp
    go_enter Tryz.func15, Tryz.ntmps15
    go_wp2_with fail
    go_ret
    exact ⟨by rw [HE.out]; rfl, (Below.refl _ _).alloc (Nat.le_refl _) _⟩
  have n1' : ¬ (NA : Int) < 1 := by omega
  by_cases n6 : NA ≤ 6
  rotate_left
  · have n6' : (6 : Int) < NA := by omega
    have HE : Hid (properB s = false) := by
      show _ = _
      unfold properB
      rw [decide_eq_false (p := s.auths.length ≤ 6) (by rw [← HNA.out]; exact n6)]; simp
    go_enter Tryz.func15, Tryz.ntmps15
    go_wp2_with fail
    go_ret
    exact ⟨by rw [HE.out]; rfl, (Below.refl _ _).alloc (Nat.le_refl _) _⟩
  have n6' : ¬ (6 : Int) < NA := by omega
  go_enter Tryz.func15, Tryz.ntmps15
  go_wp2_with fail
  rw [← hW1, ← hbx]
  clear hW1 hbx
  (try clear hx0 c0 c1 c2 c3 c4 c5)
  obtain ⟨bk, -⟩ := HO.out.blk
  have hx0 := lt_of_block bk
  have c0 : W1.cell? ⟨bx, 0, none⟩ = some (.slice yd ND md) := by rw [cell_of_heap bk]; rfl
  have c1 : W1.cell? ⟨bx, 1, none⟩ = some (.slice ya NA ma) := by rw [cell_of_heap bk]; rfl
  have c2 : W1.cell? ⟨bx, 2, none⟩ = some (.slice yz NZ mz) := by rw [cell_of_heap bk]; rfl
  have c3 : W1.cell? ⟨bx, 3, none⟩ = some (.slice yc NC mc) := by rw [cell_of_heap bk]; rfl
  have c4 : W1.cell? ⟨bx, 4, none⟩ = some (.int .i64 s.signed) := by rw [cell_of_heap bk]; rfl
  have c5 : W1.cell? ⟨bx, 5, none⟩ = some (.int .i64 s.now) := by rw [cell_of_heap bk]; rfl
  clear bk
  go_wp2_with fail
  go_at_call 37
  obtain ⟨b2, hb2⟩ : ∃ b2, b2 = bx + 1 := ⟨_, rfl⟩
  obtain ⟨W2, hW2⟩ : ∃ W2, W2 = W1.alloc (.cells #[.int .i64 (NZ : Int), .int .i64 (NC : Int)] 3) := ⟨_, rfl⟩
  have h2 := new_heap W1 (.cells #[.int .i64 (NZ : Int), .int .i64 (NC : Int)] 3) b2 (hb2.trans HB1.out.symm)
  replace HO := Lib.hid (HO.out.alloc (.cells #[.int .i64 (NZ : Int), .int .i64 (NC : Int)] 3))
  rw [← hW2] at h2 HO ⊢
  rw [← hb2]
  have HI : IsC W2 [(NZ : Int), (NC : Int)] (.slice (some ⟨b2, 0, none⟩) 2 2) := by
    refine ⟨_, 2, rfl, .inr ⟨b2, 0, rfl, lt_of_block h2, by simp, fun j x hj => ?_⟩⟩
    rcases j with _ | _ | j
    · obtain rfl : (NZ : Int) = x := by simpa using hj
      rw [cell_of_heap h2]; rfl
    · obtain rfl : (NC : Int) = x := by simpa using hj
      rw [cell_of_heap h2]; rfl
    · simp at hj
  have HL2 := Lib.hid (lengths_c [(NZ : Int), (NC : Int)] NA _ W2 HI (by simp))
  clear hW2 h2 HI hb2 HB1
  refine HL2.out.mono ?_
  rintro e W3 ⟨rfl, hb⟩
  replace HO := Lib.hid (HO.out.below hb)
  clear hb HL2
  have hall : allB NA [(NZ : Int), (NC : Int)] = (decide ((NZ : Int) = NA) && (decide ((NC : Int) = NA) && true)) := rfl
  by_cases eZ : NZ = NA
  rotate_left
  · rw [hall, decide_eq_false (p := (NZ : Int) = NA) (by omega), Bool.false_and]
    clear hall
    have HE : Hid (properB s = false) := by
      show _ = _
      unfold properB
      rw [decide_eq_false (p := s.zones.length = s.auths.length) (by rw [← HNZ.out, ← HNA.out]; exact eZ)]; simp
    go_wp2_with fail
    go_ret
    exact ⟨by rw [HE.out]; rfl, HO.out.base⟩
  by_cases eC : NC = NA
  rotate_left
  · rw [hall, decide_eq_false (p := (NC : Int) = NA) (by omega), Bool.false_and, Bool.and_false]
    clear hall
    have HE : Hid (properB s = false) := by
      show _ = _
      unfold properB
      rw [decide_eq_false (p := s.cases.length = s.auths.length) (by rw [← HNC.out, ← HNA.out]; exact eC)]; simp
    go_wp2_with fail
    go_ret
    exact ⟨by rw [HE.out]; rfl, HO.out.base⟩
  subst eZ eC
  rw [hall, decide_eq_true rfl, Bool.true_and, Bool.true_and]
  clear hall
  (try clear hx0 c0 c1 c2 c3 c4 c5)
  obtain ⟨bk, -⟩ := HO.out.blk
  have hx0 := lt_of_block bk
  have c0 : W3.cell? ⟨bx, 0, none⟩ = some (.slice yd ND md) := by rw [cell_of_heap bk]; rfl
  have c1 : W3.cell? ⟨bx, 1, none⟩ = some (.slice ya NC ma) := by rw [cell_of_heap bk]; rfl
  have c2 : W3.cell? ⟨bx, 2, none⟩ = some (.slice yz NC mz) := by rw [cell_of_heap bk]; rfl
  have c3 : W3.cell? ⟨bx, 3, none⟩ = some (.slice yc NC mc) := by rw [cell_of_heap bk]; rfl
  have c4 : W3.cell? ⟨bx, 4, none⟩ = some (.int .i64 s.signed) := by rw [cell_of_heap bk]; rfl
  have c5 : W3.cell? ⟨bx, 5, none⟩ = some (.int .i64 s.now) := by rw [cell_of_heap bk]; rfl
  clear bk
  go_wp2_with fail
  go_at_call 38
  refine (factValid_c s.dom _ W3 (HS.out.dom.later HO.out.base) HL.out.dom.len HL.out.dom.names).mono ?_
  rintro e W4 ⟨rfl, hb⟩
  replace HO := Lib.hid (HO.out.below hb)
  clear hb
  obtain ⟨q, hq⟩ : ∃ q, q = validD s.dom := ⟨_, rfl⟩
  rw [← hq]
  have HQ := Lib.hid hq
  clear hq
  cases q
  · have HE : Hid (properB s = false) := by
      show _ = _
      unfold properB
      rw [← HQ.out]; simp
    go_wp2_with fail
    go_ret
    exact ⟨by rw [HE.out]; rfl, HO.out.base⟩
  have HP : Hid (properB s = (authL s.dom [] s.auths s.zones s.cases && timeB s.signed s.now)) := by
    show _ = _
    unfold properB
    rw [← HQ.out, decide_eq_true (p := 1 ≤ s.auths.length) (by rw [← HNA.out]; exact n1), decide_eq_true (p := s.auths.length ≤ 6) (by rw [← HNA.out]; exact n6), decide_eq_true (p := s.zones.length = s.auths.length) (by rw [← HNZ.out, ← HNA.out]), decide_eq_true (p := s.cases.length = s.auths.length) (by rw [← HNC.out, ← HNA.out])]; simp only [Bool.true_and]
  have hmm := @run_makeMap Tryz.prog
  clear n1 n1' hZ hA HQ
  (try clear hx0 c0 c1 c2 c3 c4 c5)
  obtain ⟨bk, -⟩ := HO.out.blk
  have hx0 := lt_of_block bk
  have c0 : W4.cell? ⟨bx, 0, none⟩ = some (.slice yd ND md) := by rw [cell_of_heap bk]; rfl
  have c1 : W4.cell? ⟨bx, 1, none⟩ = some (.slice ya NC ma) := by rw [cell_of_heap bk]; rfl
  have c2 : W4.cell? ⟨bx, 2, none⟩ = some (.slice yz NC mz) := by rw [cell_of_heap bk]; rfl
  have c3 : W4.cell? ⟨bx, 3, none⟩ = some (.slice yc NC mc) := by rw [cell_of_heap bk]; rfl
  have c4 : W4.cell? ⟨bx, 4, none⟩ = some (.int .i64 s.signed) := by rw [cell_of_heap bk]; rfl
  have c5 : W4.cell? ⟨bx, 5, none⟩ = some (.int .i64 s.now) := by rw [cell_of_heap bk]; rfl
  clear bk
  obtain ⟨bm, hbm⟩ : ∃ bm, bm = W4.heap.size := ⟨_, rfl⟩
  obtain ⟨W5, hW5⟩ : ∃ W5, W5 = W4.alloc (.map #[] 0) := ⟨_, rfl⟩
  have HV : Hid (VI w W5 bx bm o 0 []) := by
    rw [hW5, hbm, ho]
    obtain ⟨bk, -⟩ := HO.out.blk
    refine ⟨HO.out.base.alloc HO.out.base.size _, ?_, World.ownsMap_made W4 Tryz.prog 9 (plainElem (H := Unit) Tryz.prog 4), Nat.ne_of_lt (lt_of_block bk), HO.out.base.size⟩
    rw [((Below.refl _ _).alloc (Nat.le_refl _) (.map #[] 0)).block _ (lt_of_block bk)]
    exact bk
  go_wp2_with fail
  rw [← hW5, ← hbm]
  clear hW5 hbm
  go_wp2_with fail
  have H0 : Hid (authL s.dom [] s.auths s.zones s.cases = authL s.dom (s.auths.take 0).reverse (s.auths.drop 0) (s.zones.drop 0) (s.cases.drop 0)) := by show _ = _; simp
  clear c0 c1 c2 c3 c4 c5 hx0 HO hmm W1 W2 W3
  go_loopg [38] NC (fun gk i wr => ∃ k : Nat, gk = NC - k ∧ k ≤ NC ∧ i = .int .i64 (k : Int) ∧ Hid (authL s.dom [] s.auths s.zones s.cases = authL s.dom (s.auths.take k).reverse (s.auths.drop k) (s.zones.drop k) (s.cases.drop k)) ∧ Hid (VI w wr bx bm o k (s.auths.take k).reverse))
  case atStart => exact ⟨0, rfl, Nat.zero_le _, rfl, H0, HV⟩
  case round =>
    rename_i J1 K1 hJ1 hK1
    clear HV H0
    obtain ⟨k, rfl, hk, rfl, HI, HV⟩ := hrel
    by_cases hlt : k < NC
    · obtain ⟨x, hx⟩ : ∃ x, s.auths[k]? = some x := ⟨_, List.getElem?_eq_getElem (by rw [← HNA.out]; exact hlt)⟩
      obtain ⟨z, hz⟩ : ∃ x, s.zones[k]? = some x := ⟨_, List.getElem?_eq_getElem (by rw [← HNZ.out]; exact hlt)⟩
      obtain ⟨c, hc⟩ : ∃ x, s.cases[k]? = some x := ⟨_, List.getElem?_eq_getElem (by rw [← HNC.out]; exact hlt)⟩
      have HX := Lib.hid hx
      have HZ := Lib.hid hz
      have HC := Lib.hid hc
      have HXn : Hid (x.length ≤ 140737488355328) := Lib.hid (HL.out.auths x (List.mem_of_getElem? hx))
      have HCn : Hid (c.length ≤ 1000000) := Lib.hid (HL.out.cases c (List.mem_of_getElem? hc))
      clear hx hz hc
      obtain ⟨g, off, rfl, hg, ca⟩ := HS.out.auths.get HV.out.base HX.out
      obtain ⟨g2, off2, zx, zc, rfl, hg2, cz, -⟩ := HS.out.zones.get HV.out.base HZ.out
      obtain ⟨g3, off3, cu, rfl, hg3, cc, -⟩ := HS.out.cases.get HV.out.base HC.out
      go_wp2_with fail
      replace HV := Lib.hid (HV.out.below (Below.refl _ _).drew)
      refine wp_region_can [1, 14, 25] (List.range 28) (by decide +kernel) (by decide +kernel) ?_
      obtain ⟨W6, hW6⟩ : ∃ W6, W6 = wr.drew := ⟨_, rfl⟩
      rw [← hW6] at HV ⊢
      clear hW6 hg ca hg2 cz hg3 cc zx zc cu
      iterate 1 (first | (refine cl_do rfl rfl rfl rfl (fun _ _ => ?_); go_wp2_with fail) | (refine cl_yes rfl rfl rfl rfl (by first | rfl | simp [okB, lenV, plainV, Act.eval]) (fun _ _ => ?_); go_wp2_with fail) | (refine cl_no rfl rfl rfl ?_; go_simp))
      refine cl_call (i := 1) rfl rfl rfl (fun K hK => ?_)
      go_wp2_with fail
      go_at_call 39
      refine (isNameV_c x W6 HXn.out).mono ?_
      rintro e W6 ⟨rfl, hw⟩
      subst hw
      obtain ⟨q, hq⟩ : ∃ q, q = nameB x := ⟨_, rfl⟩
      rw [← hq]
      have HQ := Lib.hid hq
      clear hq
      go_wp2_with fail
      refine And.intro (Below.refl _ _) ?_
      cases q
      · have HE : Hid (properB s = false) := by
          show _ = _
          rw [HP.out, HI.out, auth_step HX.out HZ.out HC.out, ← HQ.out]; simp
        clear hJ1 hK1
        iterate 26 (first | (refine cl_do rfl rfl rfl rfl (fun _ _ => ?_); go_wp2_with fail) | (refine cl_yes rfl rfl rfl rfl (by first | rfl | simp [okB, lenV, plainV, Act.eval]) (fun _ _ => ?_); go_wp2_with fail) | (refine cl_no rfl rfl rfl ?_; go_simp))
        refine cl_nil ?_
        go_wp2_with fail
        go_ret
        exact ⟨by rw [HE.out]; rfl, HV.out.base⟩
      iterate 4 (first | (refine cl_do rfl rfl rfl rfl (fun _ _ => ?_); go_wp2_with fail) | (refine cl_yes rfl rfl rfl rfl (by first | rfl | simp [okB, lenV, plainV, Act.eval]) (fun _ _ => ?_); go_wp2_with fail) | (refine cl_no rfl rfl rfl ?_; go_simp))
      obtain ⟨q, hq⟩ : ∃ q, q = (s.auths.take k).reverse.contains x := ⟨_, rfl⟩
      have hrun := HV.out.look x HXn.out
      rw [← hq] at hrun
      have HQ2 := Lib.hid hq
      clear hq
      iterate 2 (first | (refine cl_do rfl rfl rfl rfl (fun _ _ => ?_); go_wp2_with fail) | (refine cl_yes rfl rfl rfl rfl (by first | rfl | simp [okB, lenV, plainV, Act.eval]) (fun _ _ => ?_); go_wp2_with fail) | (refine cl_no rfl rfl rfl ?_; go_simp))
      clear hrun
      cases q
      rotate_left
      · have HE : Hid (properB s = false) := by
          show _ = _
          rw [HP.out, HI.out, auth_step HX.out HZ.out HC.out, ← HQ.out, ← HQ2.out]; simp
        clear hJ1 hK1
        iterate 20 (first | (refine cl_do rfl rfl rfl rfl (fun _ _ => ?_); go_wp2_with fail) | (refine cl_yes rfl rfl rfl rfl (by first | rfl | simp [okB, lenV, plainV, Act.eval]) (fun _ _ => ?_); go_wp2_with fail) | (refine cl_no rfl rfl rfl ?_; go_simp))
        refine cl_nil ?_
        go_wp2_with fail
        go_ret
        exact ⟨by rw [HE.out]; rfl, HV.out.base⟩
      obtain ⟨g2, off2, zx, zc, e2, hg2, cz, hz⟩ := HS.out.zones.get HV.out.base HZ.out
      cases e2
      have hbox := HV.out.box
      rw [ho] at hbox
      have hx0 := lt_of_block hbox
      have c2 : W6.cell? ⟨bx, 2, none⟩ = some (.slice (some ⟨g2, off2, none⟩) NC mz) := by rw [cell_of_heap hbox]; rfl
      iterate 6 (first | (refine cl_do rfl rfl rfl rfl (fun _ _ => ?_); go_wp2_with fail) | (refine cl_yes rfl rfl rfl rfl (by first | rfl | simp [okB, lenV, plainV, Act.eval]) (fun _ _ => ?_); go_wp2_with fail) | (refine cl_no rfl rfl rfl ?_; go_simp))
      refine cl_ycall (i := 14) rfl rfl rfl rfl (fun K hK => ?_)
      go_wp2_with fail
      clear hg2 cz hx0 c2 hbox
      go_at_call 40
      refine (Valid_c zx z.length zc z W6 hz).mono ?_
      rintro e W7 ⟨rfl, hb⟩
      replace HV := Lib.hid (HV.out.below hb)
      have Hb := Lib.hid hb
      clear hz hb
      obtain ⟨q, hq⟩ : ∃ q, q = validB z := ⟨_, rfl⟩
      rw [← hq]
      have HQ3 := Lib.hid hq
      clear hq
      go_wp2_with fail
      refine And.intro Hb.out ?_
      clear Hb
      cases q
      · have HE : Hid (properB s = false) := by
          show _ = _
          rw [HP.out, HI.out, auth_step HX.out HZ.out HC.out, ← HQ.out, ← HQ2.out, ← HQ3.out]; simp
        clear hJ1 hK1
        iterate 13 (first | (refine cl_do rfl rfl rfl rfl (fun _ _ => ?_); go_wp2_with fail) | (refine cl_yes rfl rfl rfl rfl (by first | rfl | simp [okB, lenV, plainV, Act.eval]) (fun _ _ => ?_); go_wp2_with fail) | (refine cl_no rfl rfl rfl ?_; go_simp))
        refine cl_nil ?_
        go_wp2_with fail
        go_ret
        exact ⟨by rw [HE.out]; rfl, HV.out.base⟩
      obtain ⟨g3, off3, cu, e3, hg3, cc, hcu⟩ := HS.out.cases.get HV.out.base HC.out
      cases e3
      have hbox := HV.out.box
      rw [ho] at hbox
      have hx0 := lt_of_block hbox
      have c0 : W7.cell? ⟨bx, 0, none⟩ = some (.slice yd ND md) := by rw [cell_of_heap hbox]; rfl
      have c3 : W7.cell? ⟨bx, 3, none⟩ = some (.slice (some ⟨g3, off3, none⟩) NC mc) := by rw [cell_of_heap hbox]; rfl
      iterate 10 (first | (refine cl_do rfl rfl rfl rfl (fun _ _ => ?_); go_wp2_with fail) | (refine cl_yes rfl rfl rfl rfl (by first | rfl | simp [okB, lenV, plainV, Act.eval]) (fun _ _ => ?_); go_wp2_with fail) | (refine cl_no rfl rfl rfl ?_; go_simp))
      refine cl_ycall (i := 25) rfl rfl rfl rfl (fun K hK => ?_)
      go_wp2_with fail
      clear hg3 cc hx0 c0 c3 hbox
      go_at_call 41
      refine (Fits_c s.dom c _ cu W7 (HS.out.dom.later HV.out.base) hcu HL.out.dom.len HCn.out HL.out.dom.names).mono ?_
      rintro e W8 ⟨rfl, hb⟩
      replace HV := Lib.hid (HV.out.below hb)
      have Hb := Lib.hid hb
      clear hcu hb
      obtain ⟨q, hq⟩ : ∃ q, q = fitsB s.dom c := ⟨_, rfl⟩
      rw [← hq]
      have HQ4 := Lib.hid hq
      clear hq
      go_wp2_with fail
      refine And.intro Hb.out ?_
      clear Hb
      cases q
      · have HE : Hid (properB s = false) := by
          show _ = _
          rw [HP.out, HI.out, auth_step HX.out HZ.out HC.out, ← HQ.out, ← HQ2.out, ← HQ3.out, ← HQ4.out]; simp
        clear hJ1 hK1
        iterate 2 (first | (refine cl_do rfl rfl rfl rfl (fun _ _ => ?_); go_wp2_with fail) | (refine cl_yes rfl rfl rfl rfl (by first | rfl | simp [okB, lenV, plainV, Act.eval]) (fun _ _ => ?_); go_wp2_with fail) | (refine cl_no rfl rfl rfl ?_; go_simp))
        refine cl_nil ?_
        go_wp2_with fail
        go_ret
        exact ⟨by rw [HE.out]; rfl, HV.out.base⟩
      have HI2 : Hid (authL s.dom [] s.auths s.zones s.cases = authL s.dom (s.auths.take (k + 1)).reverse (s.auths.drop (k + 1)) (s.zones.drop (k + 1)) (s.cases.drop (k + 1))) := by
        show _ = _
        rw [HI.out, auth_step HX.out HZ.out HC.out, ← HQ.out, ← HQ2.out, ← HQ3.out, ← HQ4.out]; simp
      clear HI HQ HQ2 HQ3 HQ4
      iterate 2 (first | (refine cl_do rfl rfl rfl rfl (fun _ _ => ?_); go_wp2_with fail) | (refine cl_yes rfl rfl rfl rfl (by first | rfl | simp [okB, lenV, plainV, Act.eval]) (fun _ _ => ?_); go_wp2_with fail) | (refine cl_no rfl rfl rfl ?_; go_simp))
      refine cl_nil ?_
      go_wp2_with (first | (at_mapUpdate; refine wpList_mapUpdate_own _ rfl _ _ _ 73 rfl 9 4 key_str Tryz.underlying73 _ bm k (seenD (s.auths.take k).reverse) rfl HV.out.map (by unfold maxLen; omega) _ _ _ rfl rfl (keyOf_string_mk Tryz.underlying9 (s := bs x) (by rw [bs_size]; have := HXn.out; unfold maxLen; omega)) (.lit (.bool true)) [] (plainElem_bool Tryz.underlying4 true) ?_; intro w2 hown hgrow))
      have HV5 : Hid (VI w w2 bx bm o (k + 1) (s.auths.take (k + 1)).reverse) := by
        have e : (bs x).data.toList = x := by simp [bs]
        rw [e] at hown
        have := HV.out.step hown hgrow
        rw [List.take_add_one, HX.out]
        simpa using Lib.hid this
      clear hown hgrow HV
      go_roundg (NC - (k + 1))
      case measure => omega
      case rel => exact ⟨k + 1, rfl, by omega, by go_num, HI2, HV5⟩
    · obtain rfl : k = NC := by omega
      have HE : Hid (properB s = timeB s.signed s.now) := by
        show _ = _
        rw [HP.out, HI.out]
        have e1 : s.auths.drop k = [] := by rw [HNA.out]; exact List.drop_length
        rw [e1, authL, Bool.true_and]
      have hbox := HV.out.box
      rw [ho] at hbox
      have hx0 := lt_of_block hbox
      have c4 : wr.cell? ⟨bx, 4, none⟩ = some (.int .i64 s.signed) := by rw [cell_of_heap hbox]; rfl
      have c5 : wr.cell? ⟨bx, 5, none⟩ = some (.int .i64 s.now) := by rw [cell_of_heap hbox]; rfl
      clear hJ1 hK1 hlt
      go_wp2_with fail
      all_goals go_ret
      all_goals refine ⟨congrArg (fun b => Ending.returned (Value.bool b)) ?_, HV.out.base⟩
      all_goals rw [HE.out, Bool.eq_iff_iff]
      all_goals simp only [timeB, Bool.and_eq_true, decide_eq_true_eq, Bool.false_eq_true, false_iff] at *
      all_goals omega
end Go.Proofs.YtakadfdnhlfijaaGreatDoor
