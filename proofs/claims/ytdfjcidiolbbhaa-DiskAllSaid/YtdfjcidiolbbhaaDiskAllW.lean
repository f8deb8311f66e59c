/-
  'DiskAll': the walk.
-/
import Derived.Test.YtdfjcidiolbbhaaLwSep
namespace Go.Proofs.Ytdfjcidiolbbhaa
open Go.RowKit Go.Cz Go.Cz.Dk
set_option linter.unusedSimpArgs false
set_option linter.unusedVariables false
attribute [local go_sem] bs_size bs_extract bs_append bs_toList
set_option maxHeartbeats 1000000 in
theorem DiskAll_walk (w : World) (r : Int) (hr : (Lit.int .u8 r).wf = true) (x : Option Addr) (n c : Nat) (l : List AAct) (hx : IsActs w x n l) (hl : ∀ y ∈ l, AAct.fine y) (by' : Int) (wb : (Lit.int .i64 by').wf = true) (more : Int) (wm : (Lit.int .i64 more).wf = true) :
    Calls Try.prog 7 #[.int .u8 r, .slice x n c, .int .i64 by', .int .i64 more] w fun e w' => e = .returned (.bool true) ∧ Below w.heap.size w w' := by
  obtain ⟨N, hN0, hN, HSize⟩ := size_n hr
  have HHead := Lib.hid head_c
  clear hr wb wm
  by_cases hok : okB l = true
  · have L := lawIn w x n c l hx hl hok
    obtain ⟨hM, hMl, hMq⟩ := L.ran N
    have hn := L.few
    obtain ⟨M1, hM1⟩ : ∃ M, M = Dk.start (runs (Dk.fresh N) l) := ⟨_, rfl⟩
    have hc1 : Dk.Calm M1 := by rw [hM1]; exact calm_start _
    have hq1 : M1.q.length ≤ 60 := by rw [hM1]; exact hMq
    have hs1 : M1.st.length = N := by rw [hM1]; exact hMl
    obtain ⟨A2, hA2⟩ : ∃ M, M = Dk.fail M1 60 by' := ⟨_, rfl⟩
    rw [fail_all hc1.1 60 by' (by omega)] at hA2
    have hA2q : A2.q.length = 0 := by rw [hA2]; rfl
    have HA2 : Hid (Dk.fail M1 60 by' = A2) := by rw [hA2]; exact fail_all hc1.1 60 by' (by omega)
    have HA3 : Hid (Dk.fail A2 more by' = A2) := fail_off (by rw [hA2]) _ _
    obtain ⟨B2, hB2⟩ : ∃ M, M = (Dk.sync M1).1 := ⟨_, rfl⟩
    have HB2 : Hid ((Dk.sync M1).1 = B2) := hB2.symm
    have HB2' : Hid ((Dk.sync M1).2 = 0) := by rw [sync_calm hc1]; rfl
    rw [sync_calm hc1] at hB2
    have hB2q : B2.q.length = 0 := by rw [hB2]; rfl
    have hB2o : B2.off = false := by rw [hB2]; exact hc1.1
    have hfin : conts (Dk.start (Dk.start A2)) = conts (Dk.start (Dk.fail B2 0 by')) := by
      rw [fail_all hB2o 0 by' (by omega), conts_none (by rw [hA2]; rfl), conts_none rfl, hA2, hB2]
      rfl
    have hl1 : (Dk.start (Dk.start A2)).st.length = N := by rw [hA2]; show (Dk.settle M1.st M1.q).length = N; rw [length_settle, hs1]
    have hl2 : (Dk.start (Dk.fail B2 0 by')).st.length = N := by show (Dk.fail B2 0 by').st.length = N; rw [length_fail, hB2]; show (Dk.settle M1.st M1.q).length = N; rw [length_settle, hs1]
    have hq2 : (Dk.start (Dk.fail B2 0 by')).q.length = 0 := by have := q_fail B2 0 by'; show (Dk.fail B2 0 by').q.length = 0; omega
    have HM1 := Lib.hid hM1.symm
    have Hfin := Lib.hid hfin
    clear hM1 hA2 hB2 hfin hok hx hl
    go_enter Try.func7, Try.ntmps7
    go_wp2_with fail; go_at_call 11; refine (HHead.out _).mono ?_; rintro e w1 ⟨rfl, hb⟩
    go_wp2_with fail; go_at_call 12; refine (L.ok _ hb).mono ?_; rintro e w2 ⟨rfl, rfl⟩
    go_wp2_with fail; go_at_call 14; refine (HSize.out _).mono ?_; rintro e w3 ⟨rfl, rfl⟩
    go_wp2_with fail; go_at_call 13; refine (Owns.new N ((Owns.start w).below hb) hN0 (by omega)).mono ?_; rintro e w3 ⟨a, rfl, h1⟩
    go_wp2_with fail; go_at_call 13; refine (Owns.new N h1 hN0 (by omega)).mono ?_; rintro e w4 ⟨b, rfl, h0⟩
    clear hb h1
    go_wp2_with fail
    go_loopw [13] (fun i wr => ∃ j : Nat, j ≤ n ∧ i = .int .i64 j ∧ Hid (Owns w wr [disk b (runs (Dk.fresh N) (l.take j)), disk a (runs (Dk.fresh N) (l.take j))])) (fun i _ => n - (intOf i).toNat)
    case atStart => exact ⟨0, Nat.zero_le _, rfl, h0⟩
    case round =>
      clear h0
      obtain ⟨j, hj, rfl, hr⟩ := hrel
      by_cases hlt : j < n
      · have h := hr.out
        obtain ⟨g, off, x', rfl, ha, hg, e0, e1, e2, e3, e4, e5⟩ := (L.acts _ hr.out.base).at hlt
        have Ha := Lib.hid ha; clear ha
        go_wp2_with fail; go_at_call 16; refine (Owns.act x' h.swap (L.q N j) (L.fine j x' Ha.out).1 (L.fine j x' Ha.out).2).mono ?_; rintro e w6 ⟨rfl, h6⟩
        clear e0 e1 e2 e3 e4 e5 hg h
        obtain ⟨hg, e0, e1, e2, e3, e4, e5⟩ := (L.acts _ h6.base).cells Ha.out
        go_wp2_with fail; go_at_call 16; refine (Owns.act x' h6.swap (L.q N j) (L.fine j x' Ha.out).1 (L.fine j x' Ha.out).2).mono ?_; rintro e w7 ⟨rfl, h7⟩
        clear e0 e1 e2 e3 e4 e5 hg h6
        go_wp2_with fail
        go_roundw
        case rel => exact ⟨j + 1, by omega, by go_num, by rw [L.step N j x' Ha.out]; exact h7⟩
        case measure => simp [intOf]; omega
      · obtain rfl : j = n := by omega
        have h := hr.out
        rw [L.all N] at h
        clear hr
        go_wp2_with fail; go_at_call 20; refine (Owns.st h.swap).mono ?_; rintro e w6 ⟨rfl, h⟩
        rw [HM1.out] at h
        go_wp2_with fail; go_at_call 20; refine (Owns.st h.swap).mono ?_; rintro e w7 ⟨rfl, h⟩
        rw [HM1.out] at h
        go_wp2_with fail; go_at_call 25; refine (Owns.fail 60 by' h.swap (by omega)).mono ?_; rintro e w8 ⟨rfl, h⟩
        rw [HA2.out] at h
        go_wp2_with fail; go_at_call 25; refine (Owns.fail more by' h (by omega)).mono ?_; rintro e w9 ⟨rfl, h⟩
        rw [HA3.out] at h
        have hc := Owns.sync h.swap (by omega)
        rw [HB2.out, HB2'.out] at hc
        go_wp2_with fail; go_at_call 21; refine (hc).mono ?_; rintro e w10 ⟨rfl, h⟩
        go_wp2_with fail; go_at_call 25; refine (Owns.fail 0 by' h (by omega)).mono ?_; rintro e w11 ⟨rfl, h⟩
        go_wp2_with fail; go_at_call 20; refine (Owns.st h.swap).mono ?_; rintro e w12 ⟨rfl, h⟩
        go_wp2_with fail; go_at_call 20; refine (Owns.st h.swap).mono ?_; rintro e w13 ⟨rfl, h⟩
        go_wp2_with fail; go_at_call 20; refine (Owns.st h.swap).mono ?_; rintro e w14 ⟨rfl, h⟩
        go_wp2_with fail; go_at_call 22; refine (Owns.conts N h hl1.symm hN0 rfl (by show A2.q.length ≤ 1000; omega)).mono ?_; rintro e w15 ⟨g1, c1, rfl, h⟩
        go_wp2_with fail; go_at_call 22; refine (Owns.conts N h.rot hl2.symm hN0 rfl (by omega)).mono ?_; rintro e w16 ⟨g2, c2, rfl, h⟩
        go_wp2_with fail; go_at_call 27; refine (same_l _ _ _ _ _ _ _ _ _ (Owns.lists h.rot) (Owns.lists h) (by rw [length_conts]; exact hl1) (by rw [length_conts]; exact hl2) (by omega) (by omega)).mono ?_; rintro e w17 ⟨rfl, hb⟩
        go_wp2_with fail
        go_ret
        exact ⟨by rw [Hfin.out]; simp [go_sem], (h.below hb).base⟩
  · have HOk := lawNot w x n c l hx (by simpa using hok)
    clear hok hx hl
    go_enter Try.func7, Try.ntmps7
    go_wp2_with fail; go_at_call 11; refine (HHead.out _).mono ?_; rintro e w1 ⟨rfl, hb⟩
    go_wp2_with fail; go_at_call 12; refine (HOk.out _ hb).mono ?_; rintro e w2 ⟨rfl, rfl⟩
    go_wp2_with fail
    go_ret
    exact ⟨by simp [go_sem], hb⟩
end Go.Proofs.Ytdfjcidiolbbhaa
