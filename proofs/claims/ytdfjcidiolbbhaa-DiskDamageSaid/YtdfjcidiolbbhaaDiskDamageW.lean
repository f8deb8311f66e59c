/-
  'DiskDamage': the walk.
-/
import Derived.Test.YtdfjcidiolbbhaaLwSep
import Derived.Test.YtdfjcidiolbbhaaLwPlain2
import Derived.IntWalk
import Derived.Deep.LoopGhost
import Derived.Deep.DeepCutAuto
namespace Go.Proofs.Ytdfjcidiolbbhaa
open Go.RowKit Go.Cz Go.Cz.Dk
set_option linter.unusedSimpArgs false
set_option linter.unusedVariables false
attribute [local go_sem] bs_size bs_extract bs_append bs_toList
theorem bs_get {t : Bytes} {k : Nat} {x : UInt8} (h : t[k]? = some x) (hk : k < (bs t).size) : (bs t)[k] = x := by
  obtain ⟨h1, h2⟩ := List.getElem?_eq_some_iff.1 h
  rw [← h2]
  rfl
theorem xor_ne (u1 u2 : ByteArray) (k : Nat) (h1 : k < u1.size) (h2 : k < u2.size) {X Y : UInt8} (e1 : u1[k] = X) (e2 : u2[k] = Y) {b : Int} (h : ((X ^^^ Y).toNat : Int) = b) : (wrap64 (bits .xor .u8 (u1[k].toNat : Int) (u2[k].toNat : Int)) != b) = false := by
  have hlt := (X ^^^ Y).toNat_lt
  rw [e1, e2, bits_xor X Y.toNat Y.toNat_lt, UInt8.ofNat_toNat, IntWalk.wrap64_in _ (by omega), h]
  simp
set_option maxRecDepth 20000 in
set_option maxHeartbeats 2000000 in
theorem DiskDamage_walk (w : World) (r : Int) (hr : (Lit.int .u8 r).wf = true) (x : Option Addr) (n c : Nat) (l : List AAct) (hx : IsActs w x n l) (hl : ∀ y ∈ l, AAct.fine y) (sector : Int) (ws : (Lit.int .i64 sector).wf = true) (pos : Int) (wa : (Lit.int .i64 pos).wf = true) (mask : Int) (wm : (Lit.int .i64 mask).wf = true) :
    Calls Try.prog 9 #[.int .u8 r, .slice x n c, .int .i64 sector, .int .i64 pos, .int .i64 mask] w fun e w' => e = .returned (.bool true) ∧ Below w.heap.size w w' := by
  obtain ⟨N, hN0, hN, HSize⟩ := size_n hr
  have HHead := Lib.hid head_c
  clear hr
  by_cases hok : okB l = true
  · have L := lawIn w x n c l hx hl hok
    obtain ⟨hM, hMl, hMq⟩ := L.ran N
    have hn := L.few
    obtain ⟨M1, hM1⟩ : ∃ M, M = Dk.start (runs (Dk.fresh N) l) := ⟨_, rfl⟩
    have hc1 : Dk.Calm M1 := by rw [hM1]; exact calm_start _
    have hq1 : M1.q.length ≤ 60 := by rw [hM1]; exact hMq
    have hok1 : M1.ok := by rw [hM1]; exact ok_start hM
    have hs1 : M1.st.length = N := by rw [hM1]; exact hMl
    obtain ⟨M2, hM2⟩ : ∃ M, M = (Dk.sync M1).1 := ⟨_, rfl⟩
    have HM2 : Hid ((Dk.sync M1).1 = M2) := hM2.symm
    have HM2' : Hid ((Dk.sync M1).2 = 0) := by rw [sync_calm hc1]; rfl
    have hok2 : M2.ok := by rw [hM2]; exact ok_sync hok1
    have hs2 : M2.st.length = N := by rw [hM2, length_sync]; exact hs1
    rw [sync_calm hc1] at hM2
    have hq2 : M2.q = [] := by rw [hM2]
    have ho2 : M2.off = false := by rw [hM2]; exact hc1.1
    obtain ⟨M3, hM3⟩ : ∃ M, M = Dk.rot M2 sector pos mask := ⟨_, rfl⟩
    have hok3 : M3.ok := by rw [hM3]; exact ok_rot hok2 _ _ _
    have hs3 : M3.st.length = N := by rw [hM3, length_rot]; exact hs2
    have hq3 : M3.q = [] := by rw [hM3, (q_rot_eq _ _ _ _).1]; exact hq2
    have ho3 : M3.off = false := by rw [hM3, (q_rot_eq _ _ _ _).2]; exact ho2
    have HM3 : Hid (Dk.rot M2 sector pos mask = M3) := hM3.symm
    have HM4 : Hid (Dk.rot M3 sector pos mask = M2) := by rw [hM3]; exact rot_rot _ _ _ _
    have hv : ∃ V : Bool, V = rotOk M2 sector pos mask := ⟨_, rfl⟩
    obtain ⟨V, hV⟩ := hv
    have hbit := fun i j (hi : i < N) (hj : j < 64) => rot_bits hok2 sector pos mask (i := i) (j := j) (by omega) hj
    rw [← hV, ← hM3] at hbit
    have hVe : V = (decide (0 ≤ sector) && (decide (sector < N) && (decide (0 ≤ pos) && (decide (pos < 64) && (decide (1 ≤ mask) && decide (mask ≤ 255)))))) := by
      rw [hV]; simp only [rotOk, valid, hs2, Bool.and_assoc]
      rw [Bool.eq_iff_iff]; simp only [Bool.and_eq_true, decide_eq_true_eq]; omega
    have HVe := Lib.hid hVe
    have Hbit := Lib.hid hbit
    have HC2 : Hid (conts M2 = M2.st) := conts_none hq2
    have HC3 : Hid (conts M3 = M3.st) := conts_none hq3
    have hq20 : M2.q.length = 0 := by rw [hq2]; rfl
    have hq30 : M3.q.length = 0 := by rw [hq3]; rfl
    have HM1 := Lib.hid hM1.symm
    clear hM1 hM2 hM3 hV hVe hbit hok hx hl hq2 hq3 hok1 ws wa wm
    go_enter Try.func9, Try.ntmps9
    go_wp2_with fail; go_at_call 11; refine (HHead.out _).mono ?_; rintro e w1 ⟨rfl, hb⟩
    go_wp2_with fail; go_at_call 12; refine (L.ok _ hb).mono ?_; rintro e w2 ⟨rfl, rfl⟩
    go_wp2_with fail; go_at_call 14; refine (HSize.out _).mono ?_; rintro e w3 ⟨rfl, rfl⟩
    go_wp2_with fail; go_at_call 13; refine (Owns.new N ((Owns.start w).below hb) hN0 (by omega)).mono ?_; rintro e w3 ⟨b, rfl, h0⟩
    clear hb
    go_wp2_with fail
    go_loopg [14] n (fun gk i wr => ∃ j : Nat, gk = n - j ∧ j ≤ n ∧ i = .int .i64 j ∧ Owns w wr [disk b (runs (Dk.fresh N) (l.take j))])
    case atStart => exact ⟨0, rfl, Nat.zero_le _, rfl, h0⟩
    case round =>
      clear h0
      obtain ⟨j, rfl, hj, rfl, h⟩ := hrel
      by_cases hlt : j < n
      · obtain ⟨g, off, x', rfl, ha, hg, e0, e1, e2, e3, e4, e5⟩ := (L.acts _ h.base).at hlt
        have Ha := Lib.hid ha; clear ha
        go_wp2_with fail; go_at_call 16; refine (Owns.act x' h (L.q N j) (L.fine j x' Ha.out).1 (L.fine j x' Ha.out).2).mono ?_; rintro e w6 ⟨rfl, h6⟩
        clear e0 e1 e2 e3 e4 e5 hg h
        go_wp2_with fail
        go_roundg (n - (j + 1))
        case measure => omega
        case rel => exact ⟨j + 1, rfl, by omega, by go_num, by rw [L.step N j x' Ha.out]; exact h6⟩
      · obtain rfl : j = n := by omega
        rw [L.all N] at h
        go_wp2_with fail; go_at_call 20; refine (Owns.st h).mono ?_; rintro e w6 ⟨rfl, h⟩
        rw [HM1.out] at h
        have hc := Owns.sync h (by omega)
        rw [HM2.out, HM2'.out] at hc
        go_wp2_with fail; go_at_call 21; refine (hc).mono ?_; rintro e w7 ⟨rfl, h⟩
        go_wp2_with fail; go_at_call 22; refine (Owns.conts N h hs2.symm hN0 ho2 (by omega)).mono ?_; rintro e w8 ⟨g1, k1, rfl, h⟩
        have hc := Owns.rotten sector pos mask h.swap
        rw [HM3.out] at hc
        go_wp2_with fail; go_at_call 30; refine (hc).mono ?_; rintro e w9 ⟨rfl, h⟩
        go_wp2_with fail; go_at_call 22; refine (Owns.conts N h hs3.symm hN0 ho3 (by omega)).mono ?_; rintro e w10 ⟨g2, k2, rfl, h⟩
        have hc := Owns.rotten sector pos mask h.swap
        rw [HM4.out] at hc
        go_wp2_with fail; go_at_call 30; refine (hc).mono ?_; rintro e w11 ⟨rfl, h⟩
        go_wp2_with fail; go_at_call 22; refine (Owns.conts N h hs2.symm hN0 ho2 (by omega)).mono ?_; rintro e w12 ⟨g3, k3, rfl, h⟩
        go_wp2_with fail; go_at_call 27; refine (same_l _ _ _ _ _ _ _ _ _ (Owns.lists h.rot4) (Owns.lists h) (by rw [length_conts]; exact hs2) (by rw [length_conts]; exact hs2) (by omega) (by omega)).mono ?_; rintro e w13 ⟨rfl, hb⟩
        replace h := h.below hb
        rw [HC2.out, HC3.out] at h
        clear hc hb
        obtain ⟨wo, rfl⟩ : ∃ wo : World, wo = w13 := ⟨_, rfl⟩
        have H := Lib.hid h
        clear h
        go_upto_region 20 with fail
        go_cut [21] (fun s21 wx => s21 = .bool V ∧ wx = wo)
        case first =>
          go_wp2_with fail
          all_goals (go_meet; refine ⟨?_, rfl⟩; rw [HVe.out]; congr 1; rw [Bool.eq_iff_iff]; simp only [Bool.and_eq_true, decide_eq_true_eq, Bool.false_eq_true, false_iff, decide_true]; omega)
        case rest =>
          obtain ⟨rfl, rfl⟩ := hcut
          go_wp2_with fail
          go_loopg [22] N (fun gk i wr => ∃ j : Nat, gk = N - j ∧ j ≤ N ∧ i = .int .i64 j ∧ Below wc.heap.size wc wr)
          case atStart => exact ⟨0, rfl, Nat.zero_le _, rfl, Below.refl _ _⟩
          case round =>
            obtain ⟨i, rfl, hi, rfl, hb⟩ := hrel
            by_cases hlt2 : i < N
            · obtain ⟨wi, rfl⟩ : ∃ wi : World, wi = wr := ⟨_, rfl⟩
              have Hbi := Lib.hid hb
              clear hb
              go_wp2_with fail
              go_loopg [23, 24] 64 (fun gk k bts wr => ∃ j : Nat, gk = 64 - j ∧ j ≤ 64 ∧ k = .int .i64 j ∧ Below wc.heap.size wc wr)
              case atStart => exact ⟨0, rfl, Nat.zero_le _, rfl, Hbi.out⟩
              case round =>
                obtain ⟨k, rfl, hk, rfl, hb⟩ := hrel
                by_cases hlt3 : k < 64
                · obtain ⟨X, Y, hX, hY, hxy⟩ := Hbit.out i k hlt2 hlt3
                  have h := H.out.below hb
                  have hxt : ∃ t, M2.st[i]? = some t := ⟨M2.st[i]'(by omega), List.getElem?_eq_getElem (by omega)⟩
                  have hyt : ∃ t, M3.st[i]? = some t := ⟨M3.st[i]'(by omega), List.getElem?_eq_getElem (by omega)⟩
                  obtain ⟨t1, ht1⟩ := hxt
                  obtain ⟨t2, ht2⟩ := hyt
                  obtain ⟨z0, z1, z2⟩ := Owns.text h.rot4 ht1
                  obtain ⟨z3, z4, z5⟩ := Owns.text h.rot ht2
                  have l1 := hok2.1 t1 (List.mem_of_getElem? ht1)
                  have l2 := hok3.1 t2 (List.mem_of_getElem? ht2)
                  have e1 : M2.st.getD i [] = t1 := by rw [List.getD_eq_getElem?_getD, ht1]; rfl
                  have e2 : M3.st.getD i [] = t2 := by rw [List.getD_eq_getElem?_getD, ht2]; rfl
                  rw [e1] at hX
                  rw [e2] at hY
                  obtain ⟨u1, hu1⟩ : ∃ u, u = bs t1 := ⟨_, rfl⟩
                  obtain ⟨u2, hu2⟩ : ∃ u, u = bs t2 := ⟨_, rfl⟩
                  have kl1 : k < u1.size := by rw [hu1, bs_size]; omega
                  have kl2 : k < u2.size := by rw [hu2, bs_size]; omega
                  have ks1 : u1.size ≤ 64 := by rw [hu1, bs_size]; omega
                  have ks2 : u2.size ≤ 64 := by rw [hu2, bs_size]; omega
                  have HX1 : Hid (u1[k] = X) := by subst hu1; exact bs_get hX kl1
                  have HX2 : Hid (u2[k] = Y) := by subst hu2; exact bs_get hY kl2
                  rw [← hu1] at z1
                  rw [← hu2] at z4
                  clear e1 e2 ht1 ht2 l1 l2 h hu1 hu2 hX hY
                  by_cases hp : V = true ∧ sector = (i : Int) ∧ pos = (k : Int)
                  · have hm : 0 ≤ mask := by
                      have := HVe.out
                      rw [hp.1] at this
                      simp only [Bool.true_eq, Bool.and_eq_true, decide_eq_true_eq] at this
                      omega
                    obtain ⟨rfl, rfl, rfl⟩ := hp
                    have HZ := xor_ne u1 u2 k kl1 kl2 HX1.out HX2.out (b := mask) (by rw [hxy]; unfold bitsAt; rw [if_pos ⟨rfl, rfl, rfl⟩]; omega)
                    clear hxy
                    go_wp2_with fail
                    refine wp_region_can [] (List.range 16) (by kernel_rfl) (by kernel_rfl) ?_
                    iterate 16 (refine cl_do rfl rfl rfl rfl (fun _ _ => ?_); go_wp2_with fail)
                    refine cl_nil ?_
                    go_wp2_with fail
                    go_roundg (64 - (k + 1))
                    case measure => omega
                    case rel => exact ⟨k + 1, rfl, by omega, by go_num, hb.drew⟩
                  · have HZ := xor_ne u1 u2 k kl1 kl2 HX1.out HX2.out (b := 0) (by rw [hxy]; unfold bitsAt; rw [if_neg hp]; rfl)
                    clear hxy
                    have Hp := Lib.hid hp
                    clear hp
                    cases V
                    · clear Hp
                      go_wp2_with fail
                      refine wp_region_can [] (List.range 16) (by kernel_rfl) (by kernel_rfl) ?_
                      iterate 16 (refine cl_do rfl rfl rfl rfl (fun _ _ => ?_); go_wp2_with fail)
                      refine cl_nil ?_
                      go_wp2_with fail
                      go_roundg (64 - (k + 1))
                      case measure => omega
                      case rel => exact ⟨k + 1, rfl, by omega, by go_num, hb.drew⟩
                    · by_cases hs : ((i : Int) == sector) = true
                      · have hk2 : ((k : Int) == pos) = false := by
                          rw [Bool.eq_false_iff]
                          intro hk2
                          exact Hp.out ⟨rfl, (eq_of_beq hs).symm, (eq_of_beq hk2).symm⟩
                        clear Hp
                        go_wp2_with fail
                        refine wp_region_can [] (List.range 16) (by kernel_rfl) (by kernel_rfl) ?_
                        iterate 16 (refine cl_do rfl rfl rfl rfl (fun _ _ => ?_); go_wp2_with fail)
                        refine cl_nil ?_
                        go_wp2_with fail
                        go_roundg (64 - (k + 1))
                        case measure => omega
                        case rel => exact ⟨k + 1, rfl, by omega, by go_num, hb.drew⟩
                      · have hs' : ((i : Int) == sector) = false := by simpa using hs
                        clear Hp hs
                        go_wp2_with fail
                        refine wp_region_can [] (List.range 16) (by kernel_rfl) (by kernel_rfl) ?_
                        iterate 16 (refine cl_do rfl rfl rfl rfl (fun _ _ => ?_); go_wp2_with fail)
                        refine cl_nil ?_
                        go_wp2_with fail
                        go_roundg (64 - (k + 1))
                        case measure => omega
                        case rel => exact ⟨k + 1, rfl, by omega, by go_num, hb.drew⟩
                · obtain rfl : k = 64 := by omega
                  go_wp2_with fail
                  go_roundg (N - (i + 1))
                  case measure => omega
                  case rel => exact ⟨i + 1, rfl, by omega, by go_num, hb⟩
            · obtain rfl : i = N := by omega
              go_wp2_with fail
              go_ret
              exact ⟨by first | rfl | simp [go_sem], (H.out.below hb).base⟩
  · have HOk := lawNot w x n c l hx (by simpa using hok)
    clear hok hx hl
    go_enter Try.func9, Try.ntmps9
    go_wp2_with fail; go_at_call 11; refine (HHead.out _).mono ?_; rintro e w1 ⟨rfl, hb⟩
    go_wp2_with fail; go_at_call 12; refine (HOk.out _ hb).mono ?_; rintro e w2 ⟨rfl, rfl⟩
    go_wp2_with fail
    go_ret
    exact ⟨by first | rfl | simp [go_sem], hb⟩
end Go.Proofs.Ytdfjcidiolbbhaa
