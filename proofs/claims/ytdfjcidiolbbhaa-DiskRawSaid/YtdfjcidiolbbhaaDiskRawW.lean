/-
  'DiskRaw': the walk.
-/
import Derived.Test.YtdfjcidiolbbhaaLwSep
import Derived.Test.YtdfjcidiolbbhaaLwPlain
import Derived.Outline
namespace Go.Proofs.Ytdfjcidiolbbhaa
open Go.RowKit Go.Cz Go.Cz.Dk
set_option linter.unusedSimpArgs false
set_option linter.unusedVariables false
attribute [local go_sem] bs_size bs_extract bs_append bs_toList
set_option maxHeartbeats 1000000 in
theorem DiskRaw_walk (w : World) (r : Int) (hr : (Lit.int .u8 r).wf = true) (x : Option Addr) (n c : Nat) (l : List AAct) (hx : IsActs w x n l) (hl : ∀ y ∈ l, AAct.fine y) (y : AAct) (hy : AAct.fine y) :
    Calls Try.prog 10 #[.int .u8 r, .slice x n c, .agg (AAct.cells y)] w fun e w' => e = .returned (.bool true) ∧ Below w.heap.size w w' := by
  obtain ⟨N, hN0, hN, HSize⟩ := size_n hr
  have HHead := Lib.hid head_c
  have Hx := Lib.hid hx
  have HOk : Hid (∀ wr, Below w.heap.size w wr → Calls Try.prog 12 #[.slice x n c] wr fun e w' => e = .returned (.bool (okB l)) ∧ w' = wr) := fun wr hb => ok_c x n c l wr (hx.below hb)
  have HOk1 : Hid (∀ g wr, wr.heap[g]? = some (.cells (AAct.cells y) 34 (0, 0)) → Calls Try.prog 12 #[.slice (some ⟨g, 0, none⟩) 1 1] wr fun e w' => e = .returned (.bool (okB [y])) ∧ w' = wr) := fun g wr hg => ok_c _ _ _ [y] wr (IsActs.one hg)
  have Hbox : Hid (Owns w (w.alloc (.cells (AAct.cells y) 34)) [box w.heap.size y]) := (Owns.start w).box _
  have Hl := Lib.hid hl
  clear hr hx hl
  by_cases hok : okB l = true
  · obtain ⟨hl60, hl100⟩ := okB_true hok
    have hn : n = l.length := Hx.out.1.symm
    have HF : Hid (∀ (j : Nat) (a : AAct), l[j]? = some a → a.text.length ≤ 100 ∧ a.after ≤ 9223372036854775807) := fun j a ha => ⟨hl100 a (List.mem_of_getElem? ha), Hl.out a (List.mem_of_getElem? ha)⟩
    have HQ : Hid (∀ j, (runs (Dk.fresh N) (l.take j)).q.length ≤ 1000) := fun j => by have := q_runs (l.take j) (Dk.fresh N); simp [Dk.fresh] at this ⊢; omega
    obtain ⟨hM, hMl, hMq⟩ := after_runs (n := N) hl60 Hl.out
    have HE : Hid (runs (Dk.fresh N) (l.take n) = runs (Dk.fresh N) l) := by rw [List.take_of_length_le (by omega)]; rfl
    have HR : Hid (∀ j a, l[j]? = some a → runs (Dk.fresh N) (l.take (j + 1)) = (act (runs (Dk.fresh N) (l.take j)) a).1) := fun j a ha => runs_take_succ _ _ ha
    rw [hok] at HOk
    have hn60 : n ≤ 60 := by omega
    clear hl60 hl100 hok hn
    by_cases hok1 : okB [y] = true
    · have hy100 := (okB_true hok1).2 y (by simp)
      rw [hok1] at HOk1
      clear hok1
      obtain ⟨T, hT⟩ : ∃ T, T = AAct.txt y := ⟨_, rfl⟩
      have HT : Hid (∀ w, Calls Try.prog 24 #[.agg (AAct.cells y)] w fun e w' => e = .returned (.string (bs T)) ∧ Below w.heap.size w w') := by rw [hT]; exact text_c y hy100
      obtain ⟨M1, hM1⟩ : ∃ M, M = Dk.start (runs (Dk.fresh N) l) := ⟨_, rfl⟩
      obtain ⟨M2, hM2⟩ : ∃ M, M = (Dk.write M1 y.sector T).1 := ⟨_, rfl⟩
      have hc1 : Dk.Calm M1 := by rw [hM1]; exact calm_start _
      have hc2 : Dk.Calm M2 := by rw [hM2]; exact calm_write hc1 _ _
      have hs1 : M1.st = (runs (Dk.fresh N) l).st := by rw [hM1]; rfl
      have hs2 : M2.st = M1.st := by rw [hM2]; exact st_write hc1 _ _
      have hq1 : M1.q.length ≤ 60 := by rw [hM1]; exact hMq
      have hq2 : M2.q.length ≤ 61 := by rw [hM2]; have := q_write M1 y.sector T; omega
      have hok1 : M1.ok := by rw [hM1]; exact ok_start hM
      have hok2 : M2.ok := by rw [hM2]; exact ok_write hok1 _ _
      obtain ⟨R, hR⟩ : ∃ R, R = raw M1 := ⟨_, rfl⟩
      have hRl : R.length = N * 64 := by rw [hR]; unfold raw; rw [length_flatten_of hok1.1, hs1, hMl]
      have HR1 : Hid (raw M1 = R) := hR.symm
      have HR2 : Hid (raw M2 = R) := by rw [hR]; unfold raw; rw [hs2]; rfl
      have HR3 : Hid (raw (Dk.fail M2 0 0) = R) := by rw [hR]; unfold raw; rw [fail_zero hc2.1, hs2]; rfl
      have HR4 : Hid (raw (Dk.start (Dk.fail M2 0 0)) = R) := HR3
      obtain ⟨M3, hM3⟩ : ∃ M, M = (Dk.sync M2).1 := ⟨_, rfl⟩
      have hc3 : Dk.Calm M3 := by rw [hM3]; exact calm_sync hc2
      have HY : Hid ((Dk.sync M2).2 = 0) := by rw [sync_calm hc2]; rfl
      have hq3 : M3.q = [] := by rw [hM3, sync_calm hc2]
      have hok3 : M3.ok := by rw [hM3]; exact ok_sync hok2
      have hq30 : M3.q.length = 0 := by rw [hq3]; rfl
      have hl3 : M3.st.length = N := by rw [hM3, length_sync, hs2, hs1, hMl]
      have hL : conts M3 = M3.st := conts_none hq3
      have HM3 := Lib.hid hM3.symm
      have HM1 := Lib.hid hM1.symm
      have HM2 := Lib.hid hM2.symm
      clear hT hM1 hM2 hM3 hR hq3
      obtain ⟨kind, sector, bytes, text, odd, after⟩ := y
      dsimp only [AAct.cells] at *
      go_enter Try.func10, Try.ntmps10
      go_wp2_with (first | (go_at_call 11; refine (HHead.out _).mono ?_; rintro e w1 ⟨rfl, hb⟩; have h := Hbox.out.below hb; obtain ⟨hz, c0, c1, c2, c3, c4, c5⟩ := Owns.cells h; clear hb) | (go_at_call 12; (with_reducible refine (HOk.out _ h.base).mono ?_); rintro e w2 ⟨rfl, rfl⟩) | (go_at_call 12; (with_reducible refine (HOk1.out _ _ (by exact new_heap _ _ _ (by simp))).mono ?_); rintro e w3 ⟨rfl, rfl⟩; replace h := h.alloc (.cells #[.int .i64 kind, .int .i64 sector, .int .i64 bytes, .string (bs text), .bool odd, .int .i64 after] 34)) | (go_at_call 14; refine (HSize.out _).mono ?_; rintro e w4 ⟨rfl, rfl⟩) | (go_at_call 13; go_loud (refine (Owns.new N h hN0 (by omega)).mono ?_); clear h; rintro e w5 ⟨b, rfl, h0⟩))
      go_loopw [10] (fun i wr => ∃ j : Nat, j ≤ n ∧ i = .int .i64 j ∧ Hid (Owns w wr [disk b (runs (Dk.fresh N) (l.take j)), box w.heap.size { kind := kind, sector := sector, bytes := bytes, text := text, odd := odd, after := after }])) (fun i _ => n - (intOf i).toNat)
      case atStart => exact ⟨0, Nat.zero_le _, rfl, h0⟩
      case round =>
        obtain ⟨j, hj, rfl, hr⟩ := hrel
        by_cases hlt : j < n
        · obtain ⟨g, off, a, rfl, ha, hg, e0, e1, e2, e3, e4, e5⟩ := (Hx.out.below hr.out.base).at hlt
          have Ha := Lib.hid ha; clear ha
          go_wp2_with (go_at_call 16; refine (Owns.act a hr.out (HQ.out j) (HF.out j a Ha.out).1 (HF.out j a Ha.out).2).mono ?_; rintro e w6 ⟨rfl, h6⟩)
          go_roundw
          case rel => exact ⟨j + 1, by omega, by go_num, by rw [HR.out j a Ha.out]; exact h6⟩
          case measure => simp [intOf]; omega
        · obtain rfl : j = n := by omega
          have h := hr.out
          rw [HE.out] at h
          clear hr
          obtain ⟨hz, c0, c1, c2, c3, c4, c5⟩ := Owns.cells h.swap
          cases odd
          · go_wp2_with (first | (go_at_call 20; refine (Owns.st h).mono ?_; clear h hz c0 c1 c2 c3 c4 c5; rintro e w6 ⟨rfl, h⟩; rw [HM1.out] at h; obtain ⟨hz, c0, c1, c2, c3, c4, c5⟩ := Owns.cells h.swap) | (go_at_call 31; (have hr1 := Owns.raw h); rw [HR1.out] at hr1; refine hr1.mono ?_; clear hr1; rintro e w7 ⟨rfl, rfl⟩))
            refine wp_region_can [4] (List.range 6) (by kernel_rfl) (by kernel_rfl) ?_
            go_wp2_with (first | refine cl_nil ?_ | (go_at_call 24; refine (HT.out _).mono ?_; rintro e w8 ⟨rfl, hb8⟩; have Hb8 := Lib.hid hb8; replace h := h.drew.below hb8; clear hz c0 c1 c2 c3 c4 c5; obtain ⟨hz, c0, c1, c2, c3, c4, c5⟩ := Owns.cells h.swap) | (go_at_call 23; go_loud (refine (Owns.write sector T h (by omega)).mono ?_); clear h hz c0 c1 c2 c3 c4 c5; rintro e w9 ⟨rfl, h⟩; rw [HM2.out] at h; obtain ⟨hz, c0, c1, c2, c3, c4, c5⟩ := Owns.cells h.swap) | (refine And.intro (show Below _ _ _ from ?_) ?_; exact Hb8.out) | (refine cl_call (i := 4) rfl rfl rfl (fun K hK => ?_)) | (refine cl_do rfl rfl rfl rfl (fun _ _ => ?_)))
            go_wp2_with (first | (go_at_call 18; go_loud (refine (Owns.read sector h (by omega)).mono ?_); clear h hz c0 c1 c2 c3 c4 c5; rintro e w10 ⟨rfl, h⟩; obtain ⟨hz, c0, c1, c2, c3, c4, c5⟩ := Owns.cells h.swap) | (go_at_call 31; (have hr1 := Owns.raw h); rw [HR2.out] at hr1; refine hr1.mono ?_; clear hr1; rintro e w11 ⟨rfl, rfl⟩) | (go_at_call 21; (have hr1 := Owns.sync h (by omega)); rw [HY.out, HM3.out] at hr1; refine hr1.mono ?_; clear hr1; clear h hz c0 c1 c2 c3 c4 c5; rintro e w12 ⟨rfl, h⟩) | (go_at_call 22; go_loud (refine (Owns.conts N h hl3.symm hN0 hc3.1 (by omega)).mono ?_); clear h; rintro e w13 ⟨g, cap, rfl, h⟩))
            obtain ⟨cur, hcur, hstr⟩ := Owns.lists h
            rw [hL] at hstr
            have hg := lt_of_block hcur
            have HC : Hid (∀ (k : Nat) (t : Bytes), M3.st[k]? = some t → w13.cell? ⟨g, k, none⟩ = some (.string (bs t)) ∧ t.length = 64) := fun k t hk => ⟨by rw [cell_of_heap hcur, hstr k t hk], hok3.1 t (List.mem_of_getElem? hk)⟩
            clear hcur hstr
            go_loopw [15, 16] (fun s i wr => wr = w13 ∧ ∃ k : Nat, k ≤ N ∧ i = .int .i64 k ∧ s = .string (bs (M3.st.take k).flatten) ∧ Hid ((M3.st.take k).flatten.length ≤ k * 64)) (fun _ i _ => N - (intOf i).toNat)
            case atStart => exact ⟨rfl, 0, Nat.zero_le _, rfl, rfl, Lib.hid (by simp)⟩
            case round =>
              obtain ⟨rfl, k, hk, rfl, rfl, hlen⟩ := hrel
              by_cases hlt2 : k < N
              · obtain ⟨t, ht⟩ : ∃ t, M3.st[k]? = some t := ⟨M3.st[k], List.getElem?_eq_getElem (by omega)⟩
                obtain ⟨d0, d1⟩ := HC.out k t ht
                have hsn : Hid ((M3.st.take (k + 1)).flatten = (M3.st.take k).flatten ++ t) := by
                  obtain ⟨h1, h2⟩ := List.getElem?_eq_some_iff.1 ht
                  rw [List.take_succ_eq_append_getElem h1, h2]
                  simp [Hid]
                clear ht
                have hlen' := hlen.out
                generalize hFe : (M3.st.take k).flatten = F at *
                have d2 : t.length ≤ 64 := by omega
                clear hFe d1 hlen
                have hlen := Lib.hid hlen'
                go_wp2
                go_roundw
                case rel => exact ⟨trivial, k + 1, by omega, by go_num, by rw [hsn.out], Lib.hid (by rw [hsn.out, List.length_append]; omega)⟩
                case measure => simp [intOf]; omega
              · obtain rfl : k = N := by omega
                have hfl : (M3.st.take k).flatten = raw M3 := by rw [List.take_of_length_le (by omega)]; rfl
                rw [hfl]
                go_wp2_with (go_at_call 31; go_loud (refine (Owns.raw h.swap).mono ?_); rintro e w11 ⟨rfl, rfl⟩)
                go_ret
                exact ⟨by simp [go_sem], h.base⟩
          · go_wp2_with (first | (go_at_call 20; refine (Owns.st h).mono ?_; clear h hz c0 c1 c2 c3 c4 c5; rintro e w6 ⟨rfl, h⟩; rw [HM1.out] at h; obtain ⟨hz, c0, c1, c2, c3, c4, c5⟩ := Owns.cells h.swap) | (go_at_call 31; (have hr1 := Owns.raw h); rw [HR1.out] at hr1; refine hr1.mono ?_; clear hr1; rintro e w7 ⟨rfl, rfl⟩))
            refine wp_region_can [4] (List.range 6) (by kernel_rfl) (by kernel_rfl) ?_
            go_wp2_with (first | refine cl_nil ?_ | (go_at_call 24; refine (HT.out _).mono ?_; rintro e w8 ⟨rfl, hb8⟩; have Hb8 := Lib.hid hb8; replace h := h.drew.below hb8; clear hz c0 c1 c2 c3 c4 c5; obtain ⟨hz, c0, c1, c2, c3, c4, c5⟩ := Owns.cells h.swap) | (go_at_call 23; go_loud (refine (Owns.write sector T h (by omega)).mono ?_); clear h hz c0 c1 c2 c3 c4 c5; rintro e w9 ⟨rfl, h⟩; rw [HM2.out] at h; obtain ⟨hz, c0, c1, c2, c3, c4, c5⟩ := Owns.cells h.swap) | (refine And.intro (show Below _ _ _ from ?_) ?_; exact Hb8.out) | (refine cl_call (i := 4) rfl rfl rfl (fun K hK => ?_)) | (refine cl_do rfl rfl rfl rfl (fun _ _ => ?_)))
            go_wp2_with (first | (go_at_call 18; go_loud (refine (Owns.read sector h (by omega)).mono ?_); clear h hz c0 c1 c2 c3 c4 c5; rintro e w10 ⟨rfl, h⟩; obtain ⟨hz, c0, c1, c2, c3, c4, c5⟩ := Owns.cells h.swap) | (go_at_call 31; (have hr1 := Owns.raw h); (first | rw [HR2.out] at hr1 | rw [HR3.out] at hr1 | rw [HR4.out] at hr1); refine hr1.mono ?_; clear hr1; rintro e w11 ⟨rfl, rfl⟩) | (go_at_call 25; refine (Owns.fail 0 0 h (by omega)).mono ?_; clear h; rintro e w12 ⟨rfl, h⟩) | (go_at_call 20; refine (Owns.st h).mono ?_; clear h; rintro e w12 ⟨rfl, h⟩))
            go_ret
            exact ⟨by simp [go_sem], h.base⟩
    · have hok1' : okB [y] = false := by simpa using hok1
      rw [hok1'] at HOk1
      clear hok1 hok1'
      obtain ⟨kind, sector, bytes, text, odd, after⟩ := y
      dsimp only [AAct.cells] at *
      go_enter Try.func10, Try.ntmps10
      go_wp2_with (first | (go_at_call 11; refine (HHead.out _).mono ?_; rintro e w1 ⟨rfl, hb⟩; have h := Hbox.out.below hb; obtain ⟨hz, c0, c1, c2, c3, c4, c5⟩ := Owns.cells h; clear hb) | (go_at_call 12; (with_reducible refine (HOk.out _ h.base).mono ?_); rintro e w2 ⟨rfl, rfl⟩) | (go_at_call 12; (with_reducible refine (HOk1.out _ _ (by exact new_heap _ _ _ (by simp))).mono ?_); rintro e w3 ⟨rfl, rfl⟩; replace h := h.alloc (.cells #[.int .i64 kind, .int .i64 sector, .int .i64 bytes, .string (bs text), .bool odd, .int .i64 after] 34)))
      go_ret
      exact ⟨by simp [go_sem], h.base⟩
  · have hok' : okB l = false := by simpa using hok
    rw [hok'] at HOk
    clear hok hok'
    obtain ⟨kind, sector, bytes, text, odd, after⟩ := y
    dsimp only [AAct.cells] at *
    go_enter Try.func10, Try.ntmps10
    go_wp2_with (first | (go_at_call 11; refine (HHead.out _).mono ?_; rintro e w1 ⟨rfl, hb⟩; have h := Hbox.out.below hb; obtain ⟨hz, c0, c1, c2, c3, c4, c5⟩ := Owns.cells h; clear hb) | (go_at_call 12; (with_reducible refine (HOk.out _ h.base).mono ?_); rintro e w2 ⟨rfl, rfl⟩))
    go_ret
    exact ⟨by simp [go_sem], h.base⟩
end Go.Proofs.Ytdfjcidiolbbhaa
