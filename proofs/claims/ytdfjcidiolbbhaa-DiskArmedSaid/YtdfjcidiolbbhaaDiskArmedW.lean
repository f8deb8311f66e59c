/-
  'DiskArmed': the walk.
-/
import Derived.Test.YtdfjcidiolbbhaaLwSep
import Derived.Test.YtdfjcidiolbbhaaLwPlain4
import Derived.IntWalk
import Derived.Test.YtdfjcidiolbbhaaKit2
import Derived.Deep.LoopGhost
import Derived.Deep.DeepCutAuto
namespace Go.Proofs.Ytdfjcidiolbbhaa
open Go.RowKit Go.Cz Go.Cz.Dk
set_option linter.unusedSimpArgs false
set_option linter.unusedVariables false
attribute [local go_sem] bs_size bs_extract bs_append bs_toList
attribute [local irreducible] cList
set_option maxRecDepth 20000 in
set_option maxHeartbeats 4000000 in
theorem DiskArmed_walk (w : World) (r : Int) (hr : (Lit.int .u8 r).wf = true) (x : Option Addr) (n c : Nat) (l : List AAct) (hx : IsActs w x n l) (hl : ∀ y ∈ l, AAct.fine y) (x2 : Option Addr) (n2 c2 : Nat) (l2 : List AAct) (hx2 : IsActs w x2 n2 l2) (hl2 : ∀ y ∈ l2, AAct.fine y) (aft : Int) (wf : (Lit.int .i64 aft).wf = true) (x' : Int) (ws : (Lit.int .i64 x').wf = true) (y' : Int) (wa : (Lit.int .i64 y').wf = true) :
    Calls Try.prog 8 #[.int .u8 r, .slice x n c, .slice x2 n2 c2, .int .i64 aft, .int .i64 x', .int .i64 y'] w fun e w' => e = .returned (.bool true) ∧ Below w.heap.size w w' := by
  obtain ⟨N, hN0, hN, HSize⟩ := size_n hr
  have HHead := Lib.hid head_c
  clear hr
  by_cases hok : okB l = true
  · by_cases hok2 : okB l2 = true
    · have L := lawIn w x n c l hx hl hok
      have L2 := lawIn w x2 n2 c2 l2 hx2 hl2 hok2
      obtain ⟨hM, hMl, hMq⟩ := L.ran N
      have hn := L.few
      have hn2 := L2.few
      obtain ⟨M1, hM1⟩ : ∃ M, M = Dk.start (runs (Dk.fresh N) l) := ⟨_, rfl⟩
      have hc1 : Dk.Calm M1 := by rw [hM1]; exact calm_start _
      have hq1 : M1.q.length ≤ 60 := by rw [hM1]; exact hMq
      have hs1 : M1.st.length = N := by rw [hM1]; exact hMl
      have haft : aft ≤ 9223372036854775807 ∧ -9223372036854775808 ≤ aft := by
        simp only [Lit.wf, Bool.and_eq_true, decide_eq_true_eq] at wf
        exact ⟨wf.2, wf.1⟩
      obtain ⟨haft, haft2⟩ := haft
      have HA : Hid (Dk.arm M1 aft x' y' = armed M1 aft x' y') := arm_calm hc1 _ _ _
      have HM1 := Lib.hid hM1.symm
      clear hM1 hok hok2 hx hx2 hl hl2 hMl hMq hM wf ws wa
      go_enter Try.func8, Try.ntmps8
      go_wp2_with fail; go_at_call 11; refine (HHead.out _).mono ?_; rintro e w1 ⟨rfl, hb⟩
      go_wp2_with fail; go_at_call 12; refine (L.ok _ hb).mono ?_; rintro e w2 ⟨rfl, rfl⟩
      go_wp2_with fail; go_at_call 12; refine (L2.ok _ hb).mono ?_; rintro e w2 ⟨rfl, rfl⟩
      go_wp2_with fail; go_at_call 14; refine (HSize.out _).mono ?_; rintro e w3 ⟨rfl, rfl⟩
      go_wp2_with fail; go_at_call 13; refine (Owns.new N ((Owns.start w).below hb) hN0 (by omega)).mono ?_; rintro e w3 ⟨a, rfl, h1⟩
      go_wp2_with fail; go_at_call 13; refine (Owns.new N h1 hN0 (by omega)).mono ?_; rintro e w4 ⟨b, rfl, h0⟩
      clear hb h1
      go_wp2_with fail
      go_loopg [17] n (fun gk i wr => ∃ j : Nat, gk = n - j ∧ j ≤ n ∧ i = .int .i64 j ∧ Owns w wr [disk b (runs (Dk.fresh N) (l.take j)), disk a (runs (Dk.fresh N) (l.take j))])
      case atStart => exact ⟨0, rfl, Nat.zero_le _, rfl, h0⟩
      case round =>
        rename_i J1 K1 hJ1 hK1
        clear h0
        obtain ⟨j, rfl, hj, rfl, h⟩ := hrel
        by_cases hlt : j < n
        · obtain ⟨g, off, z, rfl, ha, hg, e0, e1, e2, e3, e4, e5⟩ := (L.acts _ h.base).at hlt
          have Ha := Lib.hid ha; clear ha
          go_wp2_with fail; go_at_call 16; refine (Owns.act z h.swap (L.q N j) (L.fine j z Ha.out).1 (L.fine j z Ha.out).2).mono ?_; rintro e w6 ⟨rfl, h6⟩
          clear e0 e1 e2 e3 e4 e5 hg h
          obtain ⟨hg, e0, e1, e2, e3, e4, e5⟩ := (L.acts _ h6.base).cells Ha.out
          go_wp2_with fail; go_at_call 16; refine (Owns.act z h6.swap (L.q N j) (L.fine j z Ha.out).1 (L.fine j z Ha.out).2).mono ?_; rintro e w7 ⟨rfl, h7⟩
          clear e0 e1 e2 e3 e4 e5 hg h6
          go_wp2_with fail
          go_roundg (n - (j + 1))
          case measure => omega
          case rel => exact ⟨j + 1, rfl, by omega, by go_num, by rw [L.step N j z Ha.out]; exact h7⟩
        · obtain rfl : j = n := by omega
          clear hJ1 hK1
          rw [L.all N] at h
          go_wp2_with fail; go_at_call 20; refine (Owns.st h.swap).mono ?_; rintro e w6 ⟨rfl, h⟩
          rw [HM1.out] at h
          go_wp2_with fail; go_at_call 20; refine (Owns.st h.swap).mono ?_; rintro e w7 ⟨rfl, h⟩
          rw [HM1.out] at h
          go_wp2_with fail; go_at_call 29; refine (Owns.arm aft x' y' h.swap haft).mono ?_; rintro e w8 ⟨rfl, h⟩
          rw [HA.out] at h
          replace h := h.swap
          have H := Lib.hid h
          clear h
          go_wp2_with fail
          go_loopg [18, 19, 20, 21, 22, 23] n2 (fun gk lft i s20 s21 s22 s23 wr => ∃ (j : Nat) (B : Dm) (lf : Int), gk = n2 - j ∧ j ≤ n2 ∧ i = .int .i64 j ∧ lft = .int .i64 lf ∧ Dk.Calm B ∧ B.st.length = N ∧ B.q.length ≤ 60 + j ∧ (aft < 0 → lf = aft) ∧ (0 ≤ aft → 0 ≤ lf ∧ lf ≤ aft) ∧ Owns w wr [disk b B, disk a (armed B lf x' y')])
          case atStart => exact ⟨0, M1, aft, rfl, Nat.zero_le _, rfl, rfl, hc1, hs1, by omega, fun _ => rfl, fun ha => ⟨ha, Int.le_refl _⟩, H.out⟩
          case round =>
            rename_i J2 K2 hJ2 hK2
            clear H
            obtain ⟨j, B, lf, rfl, hj, rfl, rfl, hcB, hsB, hqB, hlf1, hlf2, h⟩ := hrel
            have hlfb : -9223372036854775808 ≤ lf ∧ lf ≤ 9223372036854775807 := by
              rcases Int.lt_or_le aft 0 with h1 | h1
              · have := hlf1 h1; omega
              · have := hlf2 h1; omega
            obtain ⟨hlfb1, hlfb2⟩ := hlfb
            have Hlf1 := Lib.hid hlf1
            have Hlf2 := Lib.hid hlf2
            have HcB := Lib.hid hcB
            have HsB := Lib.hid hsB
            clear hlf1 hlf2 hcB hsB
            by_cases hlt2 : j < n2
            · obtain ⟨g2, off2, z, rfl, ha, hg, e0, e1, e2, e3, e4, e5⟩ := (L2.acts _ h.base).at hlt2
              have Ha := Lib.hid ha; clear ha
              have HT := Lib.hid (text_c z (L2.fine j z Ha.out).1)
              dsimp only [AAct.cells] at HT
              by_cases hk : z.kind = 2
              · rw [hk] at e0 HT
                by_cases h0 : lf = 0
                · subst h0
                  have haf : 0 ≤ aft := by
                    rcases Int.lt_or_le aft 0 with h1 | h1
                    · have := Hlf1.out h1; omega
                    · exact h1
                  have haf' : ¬ aft < 0 := by omega
                  have hFl : (Dk.start (Dk.fail B x' y')).st.length = N := by show (Dk.fail B x' y').st.length = N; rw [length_fail]; exact HsB.out
                  have hFq : (Dk.start (Dk.fail B x' y')).q.length ≤ 1000 := by show (Dk.fail B x' y').q.length ≤ 1000; rw [fail_q HcB.out.1]; exact Nat.zero_le _
                  go_wp2_with fail; go_at_call 25; refine (Owns.fail x' y' h (by omega)).mono ?_; rintro e v0 ⟨rfl, h⟩
                  have hc := Owns.sync h.swap (by show B.q.length ≤ 1000; omega)
                  rw [sync_armed HcB.out] at hc
                  simp only [if_true] at hc
                  go_wp2_with fail; go_at_call 21; refine (hc).mono ?_; rintro e v6 ⟨rfl, h⟩
                  replace h := h.swap
                  go_wp2_with fail
                  clear hJ2 hK2
                  go_wp2_with fail; go_at_call 20; refine (Owns.st h.swap).mono ?_; rintro e v1 ⟨rfl, h⟩
                  go_wp2_with fail; go_at_call 20; refine (Owns.st h.swap).mono ?_; rintro e v2 ⟨rfl, h⟩
                  go_wp2_with fail; go_at_call 22; refine (Owns.conts N h.swap hFl.symm hN0 rfl hFq).mono ?_; rintro e v3 ⟨g1, k1, rfl, h⟩
                  go_wp2_with fail; go_at_call 22; refine (Owns.conts N h.rot hFl.symm hN0 rfl hFq).mono ?_; rintro e v4 ⟨g2', k2, rfl, h⟩
                  go_wp2_with fail; go_at_call 27; refine (same_l _ _ _ _ _ _ _ _ _ (Owns.lists h.rot) (Owns.lists h) (by rw [length_conts]; exact hFl) (by rw [length_conts]; exact hFl) (by omega) (by omega)).mono ?_; rintro e v5 ⟨rfl, hb⟩
                  go_wp2_with fail
                  go_ret
                  exact ⟨by first | rfl | simp [go_sem], (h.below hb).base⟩
                · have hne : (lf == 0) = false := by simpa using h0
                  by_cases hpos : 0 < lf
                  · have hcs := Owns.sync h (by omega)
                    rw [sync_calm2 HcB.out] at hcs
                    go_wp2_with fail; go_at_call 21; refine (hcs).mono ?_; rintro e v0 ⟨rfl, h⟩
                    clear hcs
                    have hc := Owns.sync h.swap (by show B.q.length ≤ 1000; omega)
                    rw [sync_armed HcB.out, if_neg h0] at hc
                    rw [if_pos hpos] at hc
                    go_wp2_with fail; go_at_call 21; refine (hc).mono ?_; rintro e v6 ⟨rfl, h⟩
                    clear hc
                    replace h := h.swap
                    go_wp2_with fail
                    go_roundg (n2 - (j + 1))
                    case measure => omega
                    case rel => exact ⟨j + 1, (Dk.sync B).1, lf - 1, rfl, by omega, by go_num, rfl, calm_sync HcB.out, by rw [length_sync]; exact HsB.out, by have := q_sync B; omega, fun ha => by have := Hlf1.out ha; omega, fun ha => by have := Hlf2.out ha; omega, h⟩
                  · have hcs := Owns.sync h (by omega)
                    rw [sync_calm2 HcB.out] at hcs
                    go_wp2_with fail; go_at_call 21; refine (hcs).mono ?_; rintro e v0 ⟨rfl, h⟩
                    clear hcs
                    have hc := Owns.sync h.swap (by show B.q.length ≤ 1000; omega)
                    rw [sync_armed HcB.out, if_neg h0] at hc
                    rw [if_neg (by omega)] at hc
                    go_wp2_with fail; go_at_call 21; refine (hc).mono ?_; rintro e v6 ⟨rfl, h⟩
                    clear hc
                    replace h := h.swap
                    go_wp2_with fail
                    go_roundg (n2 - (j + 1))
                    case measure => omega
                    case rel => exact ⟨j + 1, (Dk.sync B).1, lf, rfl, by omega, by go_num, rfl, calm_sync HcB.out, by rw [length_sync]; exact HsB.out, by have := q_sync B; omega, fun ha => by have := Hlf1.out ha; omega, fun ha => by have := Hlf2.out ha; omega, h⟩
              · have hkn : (z.kind == 2) = false := by simpa using hk
                clear hk
                rcases write_code HcB.out z.sector z.txt with he | ⟨he, he1⟩
                · by_cases h0 : lf = 0
                  · subst h0
                    have haf : 0 ≤ aft := by
                      rcases Int.lt_or_le aft 0 with h1 | h1
                      · have := Hlf1.out h1; omega
                      · exact h1
                    have haf' : ¬ aft < 0 := by omega
                    have HE : Hid ((Dk.write B z.sector z.txt).2 = 0) := he
                    clear he
                    go_wp2_with fail; refine wp_region_can [10] (List.range 13) (by kernel_rfl) (by kernel_rfl) ?_; iterate 10 (refine cl_do rfl rfl rfl rfl (fun _ _ => ?_); go_wp2_with fail)
                    refine cl_call (i := 10) rfl rfl rfl (fun K hK => ?_); go_wp2_with fail; go_at_call 24; refine (HT.out _).mono ?_; rintro e w8 ⟨rfl, hb8⟩; have Hb8 := Lib.hid hb8; replace h := h.drew.below hb8; clear hb8; go_wp2_with fail; refine And.intro Hb8.out ?_
                    refine cl_do rfl rfl rfl rfl (fun _ _ => ?_); go_wp2_with fail; go_at_call 23; (have hw := Owns.write z.sector z.txt h (by omega)); rw [HE.out] at hw; refine hw.mono ?_; clear hw h; rintro e w9 ⟨rfl, h⟩; go_wp2_with fail; iterate 1 (refine cl_do rfl rfl rfl rfl (fun _ _ => ?_); go_wp2_with fail)
                    refine cl_nil ?_
                    obtain ⟨B2, hB2⟩ : ∃ B2, B2 = (Dk.write B z.sector z.txt).1 := ⟨_, rfl⟩
                    have HcB2 : Hid (Dk.Calm B2) := by rw [hB2]; exact calm_write HcB.out _ _
                    have HsB2 : Hid (B2.st.length = N) := by rw [hB2, length_write]; exact HsB.out
                    have hqB2 : B2.q.length ≤ 60 + (j + 1) := by rw [hB2]; have := q_write B z.sector z.txt; omega
                    have hqA : (armed B 0 x' y').q.length ≤ 1000 := by show B.q.length ≤ 1000; omega
                    have HW := write_armed HcB.out 0 x' y' z.sector z.txt
                    rw [HE.out, if_pos rfl, ← hB2] at HW
                    rw [← hB2] at h
                    clear hB2
                    rw [if_pos rfl] at HW
                    have HWa : Hid ((Dk.write (armed B 0 x' y') z.sector z.txt).1 = Dk.fail B2 x' y') := by rw [HW]; rfl
                    have HWb : Hid ((Dk.write (armed B 0 x' y') z.sector z.txt).2 = 26) := by rw [HW]; rfl
                    clear HW
                    have hFl : (Dk.start (Dk.fail B2 x' y')).st.length = N := by show (Dk.fail B2 x' y').st.length = N; rw [length_fail]; exact HsB2.out
                    have hFq : (Dk.start (Dk.fail B2 x' y')).q.length ≤ 1000 := by show (Dk.fail B2 x' y').q.length ≤ 1000; rw [fail_q HcB2.out.1]; exact Nat.zero_le _
                    go_wp2_with fail; go_at_call 25; refine (Owns.fail x' y' h (by omega)).mono ?_; rintro e v0 ⟨rfl, h⟩
                    obtain ⟨hg, e0, e1, e2, e3, e4, e5⟩ := (L2.acts _ h.base).cells Ha.out
                    replace h := h.swap
                    go_wp2_with fail; refine wp_region_can [10] (List.range 13) (by kernel_rfl) (by kernel_rfl) ?_; iterate 10 (refine cl_do rfl rfl rfl rfl (fun _ _ => ?_); go_wp2_with fail)
                    refine cl_call (i := 10) rfl rfl rfl (fun K hK => ?_); go_wp2_with fail; go_at_call 24; refine (HT.out _).mono ?_; rintro e w8 ⟨rfl, hb8⟩; have Hb8 := Lib.hid hb8; replace h := h.drew.below hb8; clear hb8; go_wp2_with fail; refine And.intro Hb8.out ?_
                    refine cl_do rfl rfl rfl rfl (fun _ _ => ?_); go_wp2_with fail; go_at_call 23; (have hw := Owns.write z.sector z.txt h (by omega)); rw [HWa.out, HWb.out] at hw; refine hw.mono ?_; clear hw h; rintro e w9 ⟨rfl, h⟩; go_wp2_with fail; iterate 1 (refine cl_do rfl rfl rfl rfl (fun _ _ => ?_); go_wp2_with fail)
                    refine cl_nil ?_
                    replace h := h.swap
                    go_wp2_with fail; go_at_call 20; refine (Owns.st h.swap).mono ?_; rintro e v1 ⟨rfl, h⟩
                    go_wp2_with fail; go_at_call 20; refine (Owns.st h.swap).mono ?_; rintro e v2 ⟨rfl, h⟩
                    go_wp2_with fail; go_at_call 22; refine (Owns.conts N h.swap hFl.symm hN0 rfl hFq).mono ?_; rintro e v3 ⟨g1, k1, rfl, h⟩
                    go_wp2_with fail; go_at_call 22; refine (Owns.conts N h.rot hFl.symm hN0 rfl hFq).mono ?_; rintro e v4 ⟨g2', k2, rfl, h⟩
                    go_wp2_with fail; go_at_call 27; refine (same_l _ _ _ _ _ _ _ _ _ (Owns.lists h.rot) (Owns.lists h) (by rw [length_conts]; exact hFl) (by rw [length_conts]; exact hFl) (by omega) (by omega)).mono ?_; rintro e v5 ⟨rfl, hb⟩
                    go_wp2_with fail
                    go_ret
                    exact ⟨by first | rfl | simp [go_sem], (h.below hb).base⟩
                  · have hne : (lf == 0) = false := by simpa using h0
                    have HE : Hid ((Dk.write B z.sector z.txt).2 = 0) := he
                    clear he
                    go_wp2_with fail; refine wp_region_can [10] (List.range 13) (by kernel_rfl) (by kernel_rfl) ?_; iterate 10 (refine cl_do rfl rfl rfl rfl (fun _ _ => ?_); go_wp2_with fail)
                    refine cl_call (i := 10) rfl rfl rfl (fun K hK => ?_); go_wp2_with fail; go_at_call 24; refine (HT.out _).mono ?_; rintro e w8 ⟨rfl, hb8⟩; have Hb8 := Lib.hid hb8; replace h := h.drew.below hb8; clear hb8; go_wp2_with fail; refine And.intro Hb8.out ?_
                    refine cl_do rfl rfl rfl rfl (fun _ _ => ?_); go_wp2_with fail; go_at_call 23; (have hw := Owns.write z.sector z.txt h (by omega)); rw [HE.out] at hw; refine hw.mono ?_; clear hw h; rintro e w9 ⟨rfl, h⟩; go_wp2_with fail; iterate 1 (refine cl_do rfl rfl rfl rfl (fun _ _ => ?_); go_wp2_with fail)
                    refine cl_nil ?_
                    obtain ⟨B2, hB2⟩ : ∃ B2, B2 = (Dk.write B z.sector z.txt).1 := ⟨_, rfl⟩
                    have HcB2 : Hid (Dk.Calm B2) := by rw [hB2]; exact calm_write HcB.out _ _
                    have HsB2 : Hid (B2.st.length = N) := by rw [hB2, length_write]; exact HsB.out
                    have hqB2 : B2.q.length ≤ 60 + (j + 1) := by rw [hB2]; have := q_write B z.sector z.txt; omega
                    have hqA : (armed B lf x' y').q.length ≤ 1000 := by show B.q.length ≤ 1000; omega
                    have HW := write_armed HcB.out lf x' y' z.sector z.txt
                    rw [HE.out, if_pos rfl, ← hB2] at HW
                    rw [← hB2] at h
                    clear hB2
                    rw [if_neg h0] at HW
                    obtain ⟨hg, e0, e1, e2, e3, e4, e5⟩ := (L2.acts _ h.base).cells Ha.out
                    replace h := h.swap
                    by_cases hpos : 0 < lf
                    · have HWa : Hid ((Dk.write (armed B lf x' y') z.sector z.txt).1 = armed B2 (lf - 1) x' y') := by rw [HW, if_pos hpos]; rfl
                      have HWb : Hid ((Dk.write (armed B lf x' y') z.sector z.txt).2 = 0) := by rw [HW]; rfl
                      clear HW
                      go_wp2_with fail; refine wp_region_can [10] (List.range 13) (by kernel_rfl) (by kernel_rfl) ?_; iterate 10 (refine cl_do rfl rfl rfl rfl (fun _ _ => ?_); go_wp2_with fail)
                      refine cl_call (i := 10) rfl rfl rfl (fun K hK => ?_); go_wp2_with fail; go_at_call 24; refine (HT.out _).mono ?_; rintro e w8 ⟨rfl, hb8⟩; have Hb8 := Lib.hid hb8; replace h := h.drew.below hb8; clear hb8; go_wp2_with fail; refine And.intro Hb8.out ?_
                      refine cl_do rfl rfl rfl rfl (fun _ _ => ?_); go_wp2_with fail; go_at_call 23; (have hw := Owns.write z.sector z.txt h (by omega)); rw [HWa.out, HWb.out] at hw; refine hw.mono ?_; clear hw h; rintro e w9 ⟨rfl, h⟩; go_wp2_with fail; iterate 1 (refine cl_do rfl rfl rfl rfl (fun _ _ => ?_); go_wp2_with fail)
                      refine cl_nil ?_
                      replace h := h.swap
                      go_wp2_with fail
                      go_roundg (n2 - (j + 1))
                      case measure => omega
                      case rel => exact ⟨j + 1, B2, lf - 1, rfl, by omega, by go_num, rfl, HcB2.out, HsB2.out, by omega, fun ha => by have := Hlf1.out ha; omega, fun ha => by have := Hlf2.out ha; omega, h⟩
                    · have HWa : Hid ((Dk.write (armed B lf x' y') z.sector z.txt).1 = armed B2 lf x' y') := by rw [HW, if_neg (by omega)]; rfl
                      have HWb : Hid ((Dk.write (armed B lf x' y') z.sector z.txt).2 = 0) := by rw [HW]; rfl
                      clear HW
                      go_wp2_with fail; refine wp_region_can [10] (List.range 13) (by kernel_rfl) (by kernel_rfl) ?_; iterate 10 (refine cl_do rfl rfl rfl rfl (fun _ _ => ?_); go_wp2_with fail)
                      refine cl_call (i := 10) rfl rfl rfl (fun K hK => ?_); go_wp2_with fail; go_at_call 24; refine (HT.out _).mono ?_; rintro e w8 ⟨rfl, hb8⟩; have Hb8 := Lib.hid hb8; replace h := h.drew.below hb8; clear hb8; go_wp2_with fail; refine And.intro Hb8.out ?_
                      refine cl_do rfl rfl rfl rfl (fun _ _ => ?_); go_wp2_with fail; go_at_call 23; (have hw := Owns.write z.sector z.txt h (by omega)); rw [HWa.out, HWb.out] at hw; refine hw.mono ?_; clear hw h; rintro e w9 ⟨rfl, h⟩; go_wp2_with fail; iterate 1 (refine cl_do rfl rfl rfl rfl (fun _ _ => ?_); go_wp2_with fail)
                      refine cl_nil ?_
                      replace h := h.swap
                      go_wp2_with fail
                      go_roundg (n2 - (j + 1))
                      case measure => omega
                      case rel => exact ⟨j + 1, B2, lf, rfl, by omega, by go_num, rfl, HcB2.out, HsB2.out, by omega, fun ha => by have := Hlf1.out ha; omega, fun ha => by have := Hlf2.out ha; omega, h⟩
                · have HE : Hid ((Dk.write B z.sector z.txt).2 = 1) := he
                  have HE1 : Hid ((Dk.write B z.sector z.txt).1 = B) := he1
                  clear he he1
                  go_wp2_with fail; refine wp_region_can [10] (List.range 13) (by kernel_rfl) (by kernel_rfl) ?_; iterate 10 (refine cl_do rfl rfl rfl rfl (fun _ _ => ?_); go_wp2_with fail)
                  refine cl_call (i := 10) rfl rfl rfl (fun K hK => ?_); go_wp2_with fail; go_at_call 24; refine (HT.out _).mono ?_; rintro e w8 ⟨rfl, hb8⟩; have Hb8 := Lib.hid hb8; replace h := h.drew.below hb8; clear hb8; go_wp2_with fail; refine And.intro Hb8.out ?_
                  refine cl_do rfl rfl rfl rfl (fun _ _ => ?_); go_wp2_with fail; go_at_call 23; (have hw := Owns.write z.sector z.txt h (by omega)); rw [HE.out] at hw; refine hw.mono ?_; clear hw h; rintro e w9 ⟨rfl, h⟩; go_wp2_with fail; iterate 1 (refine cl_do rfl rfl rfl rfl (fun _ _ => ?_); go_wp2_with fail)
                  refine cl_nil ?_
                  rw [HE1.out] at h
                  obtain ⟨hg, e0, e1, e2, e3, e4, e5⟩ := (L2.acts _ h.base).cells Ha.out
                  replace h := h.swap
                  have hqA : (armed B lf x' y').q.length ≤ 1000 := by show B.q.length ≤ 1000; omega
                  have HW := write_armed HcB.out lf x' y' z.sector z.txt
                  rw [HE.out, if_neg (by omega)] at HW
                  have HWa : Hid ((Dk.write (armed B lf x' y') z.sector z.txt).1 = armed B lf x' y') := by rw [HW]; rfl
                  have HWb : Hid ((Dk.write (armed B lf x' y') z.sector z.txt).2 = 1) := by rw [HW]; rfl
                  clear HW
                  go_wp2_with fail; refine wp_region_can [10] (List.range 13) (by kernel_rfl) (by kernel_rfl) ?_; iterate 10 (refine cl_do rfl rfl rfl rfl (fun _ _ => ?_); go_wp2_with fail)
                  refine cl_call (i := 10) rfl rfl rfl (fun K hK => ?_); go_wp2_with fail; go_at_call 24; refine (HT.out _).mono ?_; rintro e w8 ⟨rfl, hb8⟩; have Hb8 := Lib.hid hb8; replace h := h.drew.below hb8; clear hb8; go_wp2_with fail; refine And.intro Hb8.out ?_
                  refine cl_do rfl rfl rfl rfl (fun _ _ => ?_); go_wp2_with fail; go_at_call 23; (have hw := Owns.write z.sector z.txt h (by omega)); rw [HWa.out, HWb.out] at hw; refine hw.mono ?_; clear hw h; rintro e w9 ⟨rfl, h⟩; go_wp2_with fail; iterate 1 (refine cl_do rfl rfl rfl rfl (fun _ _ => ?_); go_wp2_with fail)
                  refine cl_nil ?_
                  replace h := h.swap
                  go_wp2_with fail
                  go_roundg (n2 - (j + 1))
                  case measure => omega
                  case rel => exact ⟨j + 1, B, lf, rfl, by omega, by go_num, rfl, HcB.out, HsB.out, by omega, Hlf1.out, Hlf2.out, h⟩
            · obtain rfl : j = n2 := by omega
              clear hJ2 hK2
              have hsl : (Dk.start B).st.length = N := HsB.out
              by_cases hneg : aft < 0
              · obtain rfl := Hlf1.out hneg
                go_wp2_with fail; go_at_call 20; refine (Owns.st h.swap).mono ?_; rintro e v1 ⟨rfl, h⟩
                go_wp2_with fail; go_at_call 20; refine (Owns.st h.swap).mono ?_; rintro e v2 ⟨rfl, h⟩
                rw [start_armed] at h
                go_wp2_with fail; go_at_call 22; refine (Owns.conts N h.swap hsl.symm hN0 rfl (by show B.q.length ≤ 1000; omega)).mono ?_; rintro e v3 ⟨g1, k1, rfl, h⟩
                go_wp2_with fail; go_at_call 22; refine (Owns.conts N h.rot hsl.symm hN0 rfl (by show B.q.length ≤ 1000; omega)).mono ?_; rintro e v4 ⟨g2, k2, rfl, h⟩
                go_wp2_with fail; go_at_call 27; refine (same_l _ _ _ _ _ _ _ _ _ (Owns.lists h.rot) (Owns.lists h) (by rw [length_conts]; exact hsl) (by rw [length_conts]; exact hsl) (by omega) (by omega)).mono ?_; rintro e v5 ⟨rfl, hb⟩
                go_wp2_with fail
                go_ret
                exact ⟨by first | rfl | simp [go_sem], (h.below hb).base⟩
              · have hneg' : ¬ aft < 0 := hneg
                go_wp2_with fail; go_at_call 20; refine (Owns.st h.swap).mono ?_; rintro e v1 ⟨rfl, h⟩
                go_wp2_with fail; go_at_call 20; refine (Owns.st h.swap).mono ?_; rintro e v2 ⟨rfl, h⟩
                rw [start_armed] at h
                go_wp2_with fail; go_at_call 22; refine (Owns.conts N h.swap hsl.symm hN0 rfl (by show B.q.length ≤ 1000; omega)).mono ?_; rintro e v3 ⟨g1, k1, rfl, h⟩
                go_wp2_with fail; go_at_call 22; refine (Owns.conts N h.rot hsl.symm hN0 rfl (by show B.q.length ≤ 1000; omega)).mono ?_; rintro e v4 ⟨g2, k2, rfl, h⟩
                go_wp2_with fail; go_at_call 27; refine (same_l _ _ _ _ _ _ _ _ _ (Owns.lists h.rot) (Owns.lists h) (by rw [length_conts]; exact hsl) (by rw [length_conts]; exact hsl) (by omega) (by omega)).mono ?_; rintro e v5 ⟨rfl, hb⟩
                go_wp2_with fail
                go_ret
                exact ⟨by first | rfl | simp [go_sem], (h.below hb).base⟩
    · have HOk := lawNot w x2 n2 c2 l2 hx2 (by simpa using hok2)
      have L := lawIn w x n c l hx hl hok
      clear hok hx hl hok2 hx2 hl2
      go_enter Try.func8, Try.ntmps8
      go_wp2_with fail; go_at_call 11; refine (HHead.out _).mono ?_; rintro e w1 ⟨rfl, hb⟩
      go_wp2_with fail; go_at_call 12; refine (L.ok _ hb).mono ?_; rintro e w2 ⟨rfl, rfl⟩
      go_wp2_with fail; go_at_call 12; refine (HOk.out _ hb).mono ?_; rintro e w2 ⟨rfl, rfl⟩
      go_wp2_with fail
      go_ret
      exact ⟨by first | rfl | simp [go_sem], hb⟩
  · have HOk := lawNot w x n c l hx (by simpa using hok)
    clear hok hx hl
    go_enter Try.func8, Try.ntmps8
    go_wp2_with fail; go_at_call 11; refine (HHead.out _).mono ?_; rintro e w1 ⟨rfl, hb⟩
    go_wp2_with fail; go_at_call 12; refine (HOk.out _ hb).mono ?_; rintro e w2 ⟨rfl, rfl⟩
    go_wp2_with fail
    go_ret
    exact ⟨by first | rfl | simp [go_sem], hb⟩
end Go.Proofs.Ytdfjcidiolbbhaa
