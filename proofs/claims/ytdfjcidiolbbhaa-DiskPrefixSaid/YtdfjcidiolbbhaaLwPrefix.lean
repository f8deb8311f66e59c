/-
  What 'prefix' of the disk's laws leaves.
-/
import Derived.Test.YtdfjcidiolbbhaaLwSep
import Derived.Test.YtdfjcidiolbbhaaLwPlain5
import Derived.IntWalk
import Derived.Test.YtdfjcidiolbbhaaKit2
import Derived.Deep.LoopGhost
import Derived.Deep.DeepCutAuto
namespace Go.Proofs.Ytdfjcidiolbbhaa
open Go.RowKit Go.Cz Go.Cz.Dk
set_option linter.unusedSimpArgs false
set_option linter.unusedVariables false
attribute [local go_sem] bs_size bs_extract bs_append bs_toList
attribute [local irreducible] cList
set_option maxRecDepth 20000 in
set_option maxHeartbeats 2000000 in
theorem prefix_c (w0 w : World) (ps : List Piece) (N : Nat) (hN0 : 0 < N) (hN : N ≤ 12) (x : Option Addr) (n c : Nat) (l : List AAct) (L : LawIn w0 x n c l) (x2 : Option Addr) (n2 c2 : Nat) (l2 : List AAct) (L2 : LawIn w0 x2 n2 c2 l2) (K : Nat) (hK : K ≤ 60) (M2 : Dm) (hM2 : M2 = (Dk.sync (Dk.start (runs (Dk.fresh N) l))).1) (ho : Owns w0 w ps) :
    Calls Try.prog 26 #[.int .i64 (N : Int), .slice x n c, .slice x2 n2 c2, .int .i64 (K : Int)] w fun e w' => ∃ g cap b m, e = .returned (.tuple #[.slice (some ⟨g, 0, none⟩) N cap, .bool true]) ∧
      Owns w0 w' (strs g (conts { M2 with q := ((l2.filter (good N)).take K).map pend }) :: disk b m :: ps) := by
  obtain ⟨hM, hMl, hMq⟩ := L.ran N
  have hn := L.few
  have hn2 := L2.few
  have hlen2 := L2.len
  obtain ⟨M1, hM1⟩ : ∃ M, M = Dk.start (runs (Dk.fresh N) l) := ⟨_, rfl⟩
  rw [← hM1] at hM2
  have hc1 : Dk.Calm M1 := by rw [hM1]; exact calm_start _
  have hq1 : M1.q.length ≤ 60 := by rw [hM1]; exact hMq
  have hs1 : M1.st.length = N := by rw [hM1]; exact hMl
  have HM2 : Hid ((Dk.sync M1).1 = M2) := hM2.symm
  have HM2' : Hid ((Dk.sync M1).2 = 0) := by rw [sync_calm hc1]; rfl
  have hc2 : Dk.Calm M2 := by rw [hM2]; exact calm_sync hc1
  have hs2 : M2.st.length = N := by rw [hM2, length_sync]; exact hs1
  rw [sync_calm hc1] at hM2
  have hq2 : M2.q = [] := by rw [hM2]
  have H0 : Hid ({ M2 with q := (done N l2 0).map pend } = M2) := by rw [done_zero]; cases M2; simp at hq2; simp [Hid, hq2]
  have HW : Hid (∀ (j : Nat) (a : AAct), Dk.write { M2 with q := (done N l2 j).map pend } a.sector a.txt = if good N a then ({ M2 with q := (done N l2 j).map pend ++ [pend a] }, 0) else ({ M2 with q := (done N l2 j).map pend }, 1)) := fun j a => by
    have := write_good (m := { M2 with q := (done N l2 j).map pend }) hc2 a
    rw [show ({ M2 with q := (done N l2 j).map pend } : Dm).st.length = N from hs2] at this
    exact this
  have HD : Hid (∀ j, (done N l2 j).length ≤ 60) := fun j => by have := done_len N l2 j; omega
  have HM1 := Lib.hid hM1.symm
  have ho2 : M2.off = false := hc2.1
  clear hM1 hM2 hMl hMq hM hq2 hc1 hc2 hlen2
  have hlen2 := Lib.hid L2.len
  go_enter Try.func26, Try.ntmps26
  go_wp2_with fail; go_at_call 13; refine (Owns.new N ho hN0 (by omega)).mono ?_; rintro e w3 ⟨b, rfl, h0⟩
  clear ho
  go_wp2_with fail
  go_loopg [11] n (fun gk i wr => ∃ j : Nat, gk = n - j ∧ j ≤ n ∧ i = .int .i64 j ∧ Owns w0 wr (disk b (runs (Dk.fresh N) (l.take j)) :: ps))
  case atStart => exact ⟨0, rfl, Nat.zero_le _, rfl, h0⟩
  case round =>
    rename_i J1 K1 hJ1 hK1
    clear h0
    obtain ⟨j, rfl, hj, rfl, h⟩ := hrel
    by_cases hlt : j < n
    · obtain ⟨g, off, x', rfl, ha, hg, e0, e1, e2, e3, e4, e5⟩ := (L.acts _ h.base).at hlt
      have Ha := Lib.hid ha; clear ha
      go_wp2_with fail; go_at_call 16; refine (Owns.act x' h (L.q N j) (L.fine j x' Ha.out).1 (L.fine j x' Ha.out).2).mono ?_; rintro e w6 ⟨rfl, h6⟩
      clear e0 e1 e2 e3 e4 e5 hg h
      go_wp2_with fail
      go_roundg (n - (j + 1))
      case measure => omega
      case rel => exact ⟨j + 1, rfl, by omega, by go_num, by rw [L.step N j x' Ha.out]; exact h6⟩
    · obtain rfl : j = n := by omega
      clear hJ1 hK1
      rw [L.all N] at h
      go_wp2_with fail; go_at_call 20; refine (Owns.st h).mono ?_; rintro e w6 ⟨rfl, h⟩
      rw [HM1.out] at h
      have hc := Owns.sync h (by omega)
      rw [HM2.out, HM2'.out, ← H0.out] at hc
      go_wp2_with fail; go_at_call 21; refine (hc).mono ?_; rintro e w7 ⟨rfl, h⟩
      clear hc
      have H := Lib.hid h
      clear h
      go_wp2_with fail
      go_loopg [12, 13] n2 (fun gk d i wr => ∃ j : Nat, gk = n2 - j ∧ j ≤ n2 ∧ i = .int .i64 j ∧ d = .int .i64 ((done N l2 j).length : Nat) ∧ (done N l2 j).length ≤ K ∧ Owns w0 wr (disk b { M2 with q := (done N l2 j).map pend } :: ps))
      case atStart => exact ⟨0, rfl, Nat.zero_le _, rfl, rfl, Nat.zero_le _, H.out⟩
      case round =>
        rename_i J2 K2 hJ2 hK2
        clear H
        obtain ⟨j, rfl, hj, rfl, rfl, hd, h⟩ := hrel
        by_cases hlt2 : j < n2
        · by_cases hdk : (done N l2 j).length < K
          · obtain ⟨g2, off2, a, rfl, ha, hg, e0, e1, e2, e3, e4, e5⟩ := (L2.acts _ h.base).at hlt2
            have Ha := Lib.hid ha; clear ha
            have HT := Lib.hid (text_c a (L2.fine j a Ha.out).1)
            dsimp only [AAct.cells] at HT
            have Hq : Hid (({ M2 with q := (done N l2 j).map pend } : Dm).q.length ≤ 1000) := by show ((done N l2 j).map pend).length ≤ 1000; rw [List.length_map]; have := HD.out j; omega
            have hw := HW.out j a
            by_cases hg2 : good N a = true
            · rw [if_pos hg2] at hw
              have Hy : Hid (done N l2 (j + 1) = done N l2 j ++ [a]) := done_yes Ha.out hg2
              have HEa : Hid ((Dk.write { M2 with q := (done N l2 j).map pend } a.sector a.txt).1 = { M2 with q := (done N l2 (j + 1)).map pend }) := by rw [hw, Hy.out, List.map_append]; rfl
              have HEb : Hid ((Dk.write { M2 with q := (done N l2 j).map pend } a.sector a.txt).2 = 0) := by rw [hw]; rfl
              clear hw hg2
              go_wp2_with fail; refine wp_region_can [10] (List.range 13) (by kernel_rfl) (by kernel_rfl) ?_; iterate 10 (refine cl_do rfl rfl rfl rfl (fun _ _ => ?_); go_wp2_with fail)
              refine cl_call (i := 10) rfl rfl rfl (fun K hK => ?_); go_wp2_with fail; go_at_call 24; refine (HT.out _).mono ?_; rintro e w8 ⟨rfl, hb8⟩; have Hb8 := Lib.hid hb8; replace h := h.drew.below hb8; clear hb8; go_wp2_with fail; refine And.intro Hb8.out ?_
              refine cl_do rfl rfl rfl rfl (fun _ _ => ?_); go_wp2_with fail; go_at_call 23; (have hw := Owns.write a.sector a.txt h (by first | omega | exact Hq.out)); rw [HEa.out, HEb.out] at hw; refine hw.mono ?_; clear hw h; rintro e w9 ⟨rfl, h⟩; go_wp2_with fail; iterate 1 (refine cl_do rfl rfl rfl rfl (fun _ _ => ?_); go_wp2_with fail)
              refine cl_nil ?_
              go_wp2_with fail
              go_roundg (n2 - (j + 1))
              case measure => omega
              case rel => exact ⟨j + 1, rfl, by omega, by go_num, by rw [Hy.out, List.length_append, List.length_singleton]; go_num, by rw [Hy.out, List.length_append, List.length_singleton]; omega, h⟩
            · rw [if_neg hg2] at hw
              have Hy : Hid (done N l2 (j + 1) = done N l2 j) := done_no Ha.out hg2
              have HEa : Hid ((Dk.write { M2 with q := (done N l2 j).map pend } a.sector a.txt).1 = { M2 with q := (done N l2 (j + 1)).map pend }) := by rw [hw, Hy.out]; rfl
              have HEb : Hid ((Dk.write { M2 with q := (done N l2 j).map pend } a.sector a.txt).2 = 1) := by rw [hw]; rfl
              clear hw hg2
              go_wp2_with fail; refine wp_region_can [10] (List.range 13) (by kernel_rfl) (by kernel_rfl) ?_; iterate 10 (refine cl_do rfl rfl rfl rfl (fun _ _ => ?_); go_wp2_with fail)
              refine cl_call (i := 10) rfl rfl rfl (fun K hK => ?_); go_wp2_with fail; go_at_call 24; refine (HT.out _).mono ?_; rintro e w8 ⟨rfl, hb8⟩; have Hb8 := Lib.hid hb8; replace h := h.drew.below hb8; clear hb8; go_wp2_with fail; refine And.intro Hb8.out ?_
              refine cl_do rfl rfl rfl rfl (fun _ _ => ?_); go_wp2_with fail; go_at_call 23; (have hw := Owns.write a.sector a.txt h (by first | omega | exact Hq.out)); rw [HEa.out, HEb.out] at hw; refine hw.mono ?_; clear hw h; rintro e w9 ⟨rfl, h⟩; go_wp2_with fail; iterate 1 (refine cl_do rfl rfl rfl rfl (fun _ _ => ?_); go_wp2_with fail)
              refine cl_nil ?_
              go_wp2_with fail
              go_roundg (n2 - (j + 1))
              case measure => omega
              case rel => exact ⟨j + 1, rfl, by omega, by go_num, by rw [Hy.out], by rw [Hy.out]; exact hd, h⟩
          · have E : Hid ((l2.filter (good N)).take K = done N l2 j) := done_take (by omega)
            clear hJ2 hK2
            go_wp2_with fail; go_at_call 22; refine (Owns.conts N h hs2.symm hN0 ho2 (by show ((done N l2 j).map pend).length ≤ 1000; rw [List.length_map]; have := HD.out j; omega)).mono ?_; rintro e v9 ⟨g, cap, rfl, h⟩
            go_wp2_with fail
            refine bodyPost_ret (results_tmp2 rfl _ _ _) (by rfl) ⟨g, cap, b, { M2 with q := (done N l2 j).map pend }, ?_, ?_⟩
            · simp [go_sem]
            · rw [E.out]; exact h
        · obtain rfl : j = n2 := by omega
          have E : Hid ((l2.filter (good N)).take K = done N l2 j) := done_all (by have := hlen2.out; omega) hd
          clear hJ2 hK2
          go_wp2_with fail; go_at_call 22; refine (Owns.conts N h hs2.symm hN0 ho2 (by show ((done N l2 j).map pend).length ≤ 1000; rw [List.length_map]; have := HD.out j; omega)).mono ?_; rintro e v9 ⟨g, cap, rfl, h⟩
          go_wp2_with fail
          refine bodyPost_ret (results_tmp2 rfl _ _ _) (by rfl) ⟨g, cap, b, { M2 with q := (done N l2 j).map pend }, ?_, ?_⟩
          · simp [go_sem]
          · rw [E.out]; exact h
end Go.Proofs.Ytdfjcidiolbbhaa
