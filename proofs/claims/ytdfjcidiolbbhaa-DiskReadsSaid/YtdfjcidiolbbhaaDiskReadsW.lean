/-
  'DiskReads': the walk.
-/
import Derived.Test.YtdfjcidiolbbhaaLwSep
import Derived.Outline
namespace Go.Proofs.Ytdfjcidiolbbhaa
open Go.RowKit Go.Cz Go.Cz.Dk
set_option linter.unusedSimpArgs false
set_option linter.unusedVariables false
attribute [local go_sem] bs_size bs_extract bs_append bs_toList
set_option maxRecDepth 20000 in
set_option maxHeartbeats 1000000 in
theorem DiskReads_walk (w : World) (r : Int) (hr : (Lit.int .u8 r).wf = true) (x : Option Addr) (n c : Nat) (l : List AAct) (hx : IsActs w x n l) (hl : ∀ y ∈ l, AAct.fine y) (y : AAct) (hy : AAct.fine y) :
    Calls Try.prog 6 #[.int .u8 r, .slice x n c, .agg (AAct.cells y)] w fun e w' => e = .returned (.bool true) ∧ Below w.heap.size w w' := by
  obtain ⟨N, hN0, hN, HSize⟩ := size_n hr
  have HHead := Lib.hid head_c
  have Hbox := box_new w y
  clear hr
  by_cases hok : okB l = true
  · have L := lawIn w x n c l hx hl hok
    by_cases hok1 : okB [y] = true
    · have HOk1 := ok_box y true hok1
      have HT := Lib.hid (text_c y ((okB_true hok1).2 y (by simp)))
      generalize hT : AAct.txt y = T at HT
      obtain ⟨hM, hMl, hMq⟩ := L.ran N
      have hn := L.few
      obtain ⟨M1, hM1⟩ : ∃ M, M = Dk.start (runs (Dk.fresh N) l) := ⟨_, rfl⟩
      have hc1 : Dk.Calm M1 := by rw [hM1]; exact calm_start _
      have hq1 : M1.q.length ≤ 60 := by rw [hM1]; exact hMq
      have hs1 : M1.st.length = N := by rw [hM1]; exact hMl
      obtain ⟨M2, hM2⟩ : ∃ M, M = (Dk.write M1 y.sector T).1 := ⟨_, rfl⟩
      have hc2 : Dk.Calm M2 := by rw [hM2]; exact calm_write hc1 _ _
      have hs2 : M2.st.length = N := by rw [hM2, length_write]; exact hs1
      have hq2 : M2.q.length ≤ 61 := by rw [hM2]; have := q_write M1 y.sector T; omega
      have HM1 := Lib.hid hM1.symm
      have HM2 := Lib.hid hM2.symm
      have ho1 : M1.off = false := hc1.1
      have ho2 : M2.off = false := hc2.1
      dsimp only [AAct.cells] at *
      clear hok hok1 hx hl hT hMl hMq hM hM1 hy
      by_cases hv : (valid M1 y.sector && T.length == 64) = true
      · simp only [Bool.and_eq_true, valid, decide_eq_true_eq, beq_iff_eq] at hv
        obtain ⟨⟨v0, v1⟩, v2⟩ := hv
        rw [hs1] at v1
        have hw := write_calm hc1 y.sector T
        rw [if_pos (by simp [valid, v0, hs1, v1, v2])] at hw
        have HE : Hid ((Dk.write M1 y.sector T).2 = 0) := by rw [hw]; rfl
        have hs : y.sector = (y.sector.toNat : Int) := by omega
        have hcon : conts M2 = (conts M1).set y.sector.toNat T := by rw [← HM2.out, hw]; exact conts_write
        obtain ⟨t, ht⟩ : ∃ t, (conts M1)[y.sector.toNat]? = some t := ⟨(conts M1)[y.sector.toNat]'(by rw [length_conts]; omega), List.getElem?_eq_getElem _⟩
        have HFo : Hid (Dk.write (Dk.fail M2 0 0) 0 (fillT [97]) = (Dk.fail M2 0 0, 26)) := by
          have : (Dk.fail M2 0 0).off = true := by simp [Dk.fail, ho2]
          simp [Hid, Dk.write, this]
        have HRo : Hid (Dk.read (Dk.fail M2 0 0) 0 = ([], 26)) := by
          have : (Dk.fail M2 0 0).off = true := by simp [Dk.fail, ho2]
          simp [Hid, Dk.read, this]
        have hqf : (Dk.fail M2 0 0).q.length ≤ 61 := by have := q_fail M2 0 0; omega
        have HA : Hid (∀ w, Calls Try.prog 28 #[.string (bs [97])] w fun e w' => e = .returned (.string (bs (fillT [97]))) ∧ Below w.heap.size w w') := fun w => fill_c [97] (by simp) w
        have Hcon := Lib.hid hcon
        have Ht := Lib.hid ht
        have v0' : ¬ y.sector < 0 := by omega
        have v1' : ¬ (N : Int) ≤ y.sector := by omega
        have Hs := Lib.hid hs
        clear hw hcon ht hs
        go_enter Try.func6, Try.ntmps6
        go_wp2_with fail; go_at_call 11; refine (HHead.out _).mono ?_; rintro e w1 ⟨rfl, hb⟩
        have h := Hbox.out.below hb
        (try clear hz c0 c1 c2 c3 c4 c5); obtain ⟨hz, c0, c1, c2, c3, c4, c5⟩ := Owns.cells (h)
        go_wp2_with fail; go_at_call 12; refine (L.ok _ h.base).mono ?_; rintro e w2 ⟨rfl, rfl⟩
        go_wp2_with fail; go_at_call 12; refine (HOk1.out _ _ (by exact new_heap _ _ _ (by simp))).mono ?_; rintro e w2 ⟨rfl, rfl⟩
        replace h := h.alloc (.cells (AAct.cells y) 34)
        dsimp only [AAct.cells] at h
        go_wp2_with fail; go_at_call 14; refine (HSize.out _).mono ?_; rintro e w3 ⟨rfl, rfl⟩
        go_wp2_with fail; go_at_call 13; refine (Owns.new N h hN0 (by omega)).mono ?_; rintro e w3 ⟨b, rfl, h0⟩
        clear hb h hz c0 c1 c2 c3 c4 c5
        go_wp2_with fail
        go_loopw [10] (fun i wr => ∃ j : Nat, j ≤ n ∧ i = .int .i64 j ∧ Hid (Owns w wr [disk b (runs (Dk.fresh N) (l.take j)), box w.heap.size y])) (fun i _ => n - (intOf i).toNat)
        case atStart => exact ⟨0, Nat.zero_le _, rfl, h0⟩
        case round =>
          clear h0
          obtain ⟨j, hj, rfl, hr⟩ := hrel
          by_cases hlt : j < n
          · have h := hr.out
            obtain ⟨g, off, x', rfl, ha, hg, e0, e1, e2, e3, e4, e5⟩ := (L.acts _ hr.out.base).at hlt
            have Ha := Lib.hid ha; clear ha
            go_wp2_with fail; go_at_call 16; refine (Owns.act x' h (L.q N j) (L.fine j x' Ha.out).1 (L.fine j x' Ha.out).2).mono ?_; rintro e w6 ⟨rfl, h6⟩
            clear e0 e1 e2 e3 e4 e5 hg h
            go_wp2_with fail
            go_roundw
            case rel => exact ⟨j + 1, by omega, by go_num, by rw [L.step N j x' Ha.out]; exact h6⟩
            case measure => simp [intOf]; omega
          · obtain rfl : j = n := by omega
            have h := hr.out
            rw [L.all N] at h
            clear hr
            go_wp2_with fail; go_at_call 20; refine (Owns.st h).mono ?_; rintro e w6 ⟨rfl, h⟩
            rw [HM1.out] at h
            go_wp2_with fail; go_at_call 22; refine (Owns.conts N h hs1.symm hN0 ho1 (by omega)).mono ?_; rintro e w7 ⟨g1, k1, rfl, h⟩
            (try clear hz c0 c1 c2 c3 c4 c5); obtain ⟨hz, c0, c1, c2, c3, c4, c5⟩ := Owns.cells (h.rot)
            go_wp2_with fail
            replace h := h.swap
            refine wp_region_can [4] (List.range 7) (by kernel_rfl) (by kernel_rfl) ?_; go_wp2_with (first | refine cl_nil ?_ | (go_at_call 24; refine (HT.out _).mono ?_; rintro e w8 ⟨rfl, hb8⟩; have Hb8 := Lib.hid hb8; replace h := h.drew.below hb8; (try clear hz c0 c1 c2 c3 c4 c5); obtain ⟨hz, c0, c1, c2, c3, c4, c5⟩ := Owns.cells (h.rot)) | (go_at_call 23; (have hw := Owns.write y.sector T h (by omega)); rw [HM2.out, HE.out] at hw; go_loud (refine hw.mono ?_); clear hw h; rintro e w9 ⟨rfl, h⟩; (try clear hz c0 c1 c2 c3 c4 c5); obtain ⟨hz, c0, c1, c2, c3, c4, c5⟩ := Owns.cells (h.rot)) | (refine And.intro (show Below _ _ _ from ?_) ?_; exact Hb8.out) | (refine cl_call (i := 4) rfl rfl rfl (fun K hK => ?_)) | (refine cl_do rfl rfl rfl rfl (fun _ _ => ?_)))
            go_wp2_with fail; go_at_call 22; refine (Owns.conts N h hs2.symm hN0 ho2 (by omega)).mono ?_; rintro e w10 ⟨g2, k2, rfl, h⟩
            go_wp2_with fail; go_at_call 22; refine (Owns.conts N h.swap hs2.symm hN0 ho2 (by omega)).mono ?_; rintro e w11 ⟨g3, k3, rfl, h⟩
            go_wp2_with fail; go_at_call 27; refine (same_l _ _ _ _ _ _ _ _ _ (Owns.lists h.rot) (Owns.lists h) (by rw [length_conts]; exact hs2) (by rw [length_conts]; exact hs2) (by omega) (by omega)).mono ?_; rintro e w12 ⟨rfl, hb⟩
            replace h := (h.below hb).rot4
            (try clear hz c0 c1 c2 c3 c4 c5); obtain ⟨hz, c0, c1, c2, c3, c4, c5⟩ := Owns.cells (h.rot5)
            go_wp2_with fail
            refine wp_region_can [4] (List.range 7) (by kernel_rfl) (by kernel_rfl) ?_
            go_wp2_with (first | refine cl_nil ?_ | (go_at_call 24; refine (HT.out _).mono ?_; rintro e w13 ⟨rfl, hb13⟩; have Hb13 := Lib.hid hb13; replace h := h.drew.below hb13; (try clear hz c0 c1 c2 c3 c4 c5); obtain ⟨hz, c0, c1, c2, c3, c4, c5⟩ := Owns.cells (h.rot5); obtain ⟨z0, z1, z2⟩ := Owns.text h Ht.out) | (refine And.intro (show Below _ _ _ from ?_) ?_; exact Hb13.out) | (refine cl_call (i := 4) rfl rfl rfl (fun K hK => ?_)) | (refine cl_do rfl rfl rfl rfl (fun _ _ => ?_)))
            have hcl := fun (w : World) => same_l g1 g2 N N k1 k2 ((conts M1).set y.sector.toNat T) (conts M2) w
            rw [Hcon.out] at hcl
            have h2 := Owns.setText (i := y.sector.toNat) (t := T) h
            have hl2 := Owns.lists h2.rot4
            rw [Hcon.out] at hl2
            go_wp2_with fail; go_at_call 27; refine (hcl _ (Owns.lists h2) hl2 (by rw [List.length_set, length_conts]; exact hs1) (by rw [List.length_set, length_conts]; exact hs1) (by omega) (by omega)).mono ?_; rintro e w14 ⟨rfl, hb⟩
            replace h := (h2.below hb).rot
            clear hz c0 c1 c2 c3 c4 c5 z0 z1 z2 hcl h2 hl2 hb
            go_wp2_with fail; go_at_call 25; refine (Owns.fail 0 0 h (by omega)).mono ?_; rintro e w15 ⟨rfl, h⟩
            go_wp2_with fail; go_at_call 28; refine (HA.out _).mono ?_; rintro e w16 ⟨rfl, hb⟩
            replace h := h.below hb
            have hw := Owns.write 0 (fillT [97]) h (by omega)
            rw [HFo.out] at hw
            go_wp2_with fail; go_at_call 23; refine (hw).mono ?_; rintro e w17 ⟨rfl, h⟩
            have hw := Owns.read 0 h (by show (Dk.fail M2 0 0).q.length ≤ 1000; omega)
            rw [HRo.out] at hw
            go_wp2_with fail; go_at_call 18; refine (hw).mono ?_; rintro e w18 ⟨rfl, h⟩
            go_wp2_with fail
            go_ret
            exact ⟨by first | rfl | simp [go_sem], h.base⟩
      · have hw := write_calm hc1 y.sector T
        rw [if_neg hv] at hw
        have HE : Hid ((Dk.write M1 y.sector T).2 = 1) := by rw [hw]; rfl
        have Hcon : Hid (M2 = M1) := by rw [← HM2.out, hw]; rfl
        clear hw
        go_enter Try.func6, Try.ntmps6
        go_wp2_with fail; go_at_call 11; refine (HHead.out _).mono ?_; rintro e w1 ⟨rfl, hb⟩
        have h := Hbox.out.below hb
        (try clear hz c0 c1 c2 c3 c4 c5); obtain ⟨hz, c0, c1, c2, c3, c4, c5⟩ := Owns.cells (h)
        go_wp2_with fail; go_at_call 12; refine (L.ok _ h.base).mono ?_; rintro e w2 ⟨rfl, rfl⟩
        go_wp2_with fail; go_at_call 12; refine (HOk1.out _ _ (by exact new_heap _ _ _ (by simp))).mono ?_; rintro e w2 ⟨rfl, rfl⟩
        replace h := h.alloc (.cells (AAct.cells y) 34)
        dsimp only [AAct.cells] at h
        go_wp2_with fail; go_at_call 14; refine (HSize.out _).mono ?_; rintro e w3 ⟨rfl, rfl⟩
        go_wp2_with fail; go_at_call 13; refine (Owns.new N h hN0 (by omega)).mono ?_; rintro e w3 ⟨b, rfl, h0⟩
        clear hb h hz c0 c1 c2 c3 c4 c5
        go_wp2_with fail
        go_loopw [10] (fun i wr => ∃ j : Nat, j ≤ n ∧ i = .int .i64 j ∧ Hid (Owns w wr [disk b (runs (Dk.fresh N) (l.take j)), box w.heap.size y])) (fun i _ => n - (intOf i).toNat)
        case atStart => exact ⟨0, Nat.zero_le _, rfl, h0⟩
        case round =>
          clear h0
          obtain ⟨j, hj, rfl, hr⟩ := hrel
          by_cases hlt : j < n
          · have h := hr.out
            obtain ⟨g, off, x', rfl, ha, hg, e0, e1, e2, e3, e4, e5⟩ := (L.acts _ hr.out.base).at hlt
            have Ha := Lib.hid ha; clear ha
            go_wp2_with fail; go_at_call 16; refine (Owns.act x' h (L.q N j) (L.fine j x' Ha.out).1 (L.fine j x' Ha.out).2).mono ?_; rintro e w6 ⟨rfl, h6⟩
            clear e0 e1 e2 e3 e4 e5 hg h
            go_wp2_with fail
            go_roundw
            case rel => exact ⟨j + 1, by omega, by go_num, by rw [L.step N j x' Ha.out]; exact h6⟩
            case measure => simp [intOf]; omega
          · obtain rfl : j = n := by omega
            have h := hr.out
            rw [L.all N] at h
            clear hr
            go_wp2_with fail; go_at_call 20; refine (Owns.st h).mono ?_; rintro e w6 ⟨rfl, h⟩
            rw [HM1.out] at h
            go_wp2_with fail; go_at_call 22; refine (Owns.conts N h hs1.symm hN0 ho1 (by omega)).mono ?_; rintro e w7 ⟨g1, k1, rfl, h⟩
            (try clear hz c0 c1 c2 c3 c4 c5); obtain ⟨hz, c0, c1, c2, c3, c4, c5⟩ := Owns.cells (h.rot)
            go_wp2_with fail
            replace h := h.swap
            refine wp_region_can [4] (List.range 7) (by kernel_rfl) (by kernel_rfl) ?_; go_wp2_with (first | refine cl_nil ?_ | (go_at_call 24; refine (HT.out _).mono ?_; rintro e w8 ⟨rfl, hb8⟩; have Hb8 := Lib.hid hb8; replace h := h.drew.below hb8; (try clear hz c0 c1 c2 c3 c4 c5); obtain ⟨hz, c0, c1, c2, c3, c4, c5⟩ := Owns.cells (h.rot)) | (go_at_call 23; (have hw := Owns.write y.sector T h (by omega)); rw [HM2.out, HE.out] at hw; go_loud (refine hw.mono ?_); clear hw h; rintro e w9 ⟨rfl, h⟩; (try clear hz c0 c1 c2 c3 c4 c5); obtain ⟨hz, c0, c1, c2, c3, c4, c5⟩ := Owns.cells (h.rot)) | (refine And.intro (show Below _ _ _ from ?_) ?_; exact Hb8.out) | (refine cl_call (i := 4) rfl rfl rfl (fun K hK => ?_)) | (refine cl_do rfl rfl rfl rfl (fun _ _ => ?_)))
            rw [Hcon.out] at h
            go_wp2_with fail; go_at_call 22; refine (Owns.conts N h hs1.symm hN0 ho1 (by omega)).mono ?_; rintro e w10 ⟨g2, k2, rfl, h⟩
            go_wp2_with fail; go_at_call 22; refine (Owns.conts N h.swap hs1.symm hN0 ho1 (by omega)).mono ?_; rintro e w11 ⟨g3, k3, rfl, h⟩
            go_wp2_with fail; go_at_call 27; refine (same_l _ _ _ _ _ _ _ _ _ (Owns.lists h.rot) (Owns.lists h) (by rw [length_conts]; exact hs1) (by rw [length_conts]; exact hs1) (by omega) (by omega)).mono ?_; rintro e w12 ⟨rfl, hb⟩
            replace h := h.below hb
            (try clear hz c0 c1 c2 c3 c4 c5); obtain ⟨hz, c0, c1, c2, c3, c4, c5⟩ := Owns.cells (h.rot5)
            go_wp2_with fail
            go_wp2_with fail; go_at_call 27; refine (same_l _ _ _ _ _ _ _ _ _ (Owns.lists h.rot4) (Owns.lists h.rot) (by rw [length_conts]; exact hs1) (by rw [length_conts]; exact hs1) (by omega) (by omega)).mono ?_; rintro e w13 ⟨rfl, hb⟩
            replace h := h.below hb
            (try clear hz c0 c1 c2 c3 c4 c5); obtain ⟨hz, c0, c1, c2, c3, c4, c5⟩ := Owns.cells (h.rot5)
            by_cases q0 : y.sector < 0
            · go_wp2_with fail
              go_ret
              exact ⟨by first | rfl | simp [go_sem], h.base⟩
            · by_cases q1 : (N : Int) ≤ y.sector
              · go_wp2_with fail
                go_ret
                exact ⟨by first | rfl | simp [go_sem], h.base⟩
              · have q2 : ((T.length : Int) != 64) = true := by
                  simp [valid, hs1] at hv
                  simp; omega
                go_wp2_with fail; go_at_call 24; refine (HT.out _).mono ?_; rintro e w14 ⟨rfl, hb⟩
                replace h := h.below hb
                go_wp2_with fail
                go_ret
                exact ⟨by first | rfl | simp [go_sem], h.base⟩
    · have HOk1 := ok_box y false (by simpa using hok1)
      dsimp only [AAct.cells] at *
      clear hok hok1 hx hl hy
      go_enter Try.func6, Try.ntmps6
      go_wp2_with fail; go_at_call 11; refine (HHead.out _).mono ?_; rintro e w1 ⟨rfl, hb⟩
      have h := Hbox.out.below hb
      (try clear hz c0 c1 c2 c3 c4 c5); obtain ⟨hz, c0, c1, c2, c3, c4, c5⟩ := Owns.cells (h)
      go_wp2_with fail; go_at_call 12; refine (L.ok _ h.base).mono ?_; rintro e w2 ⟨rfl, rfl⟩
      go_wp2_with fail; go_at_call 12; refine (HOk1.out _ _ (by exact new_heap _ _ _ (by simp))).mono ?_; rintro e w2 ⟨rfl, rfl⟩
      go_wp2_with fail
      go_ret
      exact ⟨by first | rfl | simp [go_sem], (h.alloc _).base⟩
  · have HOk := lawNot w x n c l hx (by simpa using hok)
    dsimp only [AAct.cells] at *
    clear hok hx hl hy
    go_enter Try.func6, Try.ntmps6
    go_wp2_with fail; go_at_call 11; refine (HHead.out _).mono ?_; rintro e w1 ⟨rfl, hb⟩
    have h := Hbox.out.below hb
    go_wp2_with fail; go_at_call 12; refine (HOk.out _ h.base).mono ?_; rintro e w2 ⟨rfl, rfl⟩
    go_wp2_with fail
    go_ret
    exact ⟨by first | rfl | simp [go_sem], h.base⟩
end Go.Proofs.Ytdfjcidiolbbhaa
