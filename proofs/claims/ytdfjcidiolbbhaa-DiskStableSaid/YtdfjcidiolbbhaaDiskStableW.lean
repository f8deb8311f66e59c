/-
  'DiskStable': the walk.
-/
import Derived.Test.YtdfjcidiolbbhaaLwSep
import Derived.Test.YtdfjcidiolbbhaaLwPlain3
import Derived.IntWalk
import Derived.Test.YtdfjcidiolbbhaaKit2
import Derived.Deep.LoopGhost
import Derived.Deep.DeepCutAuto
namespace Go.Proofs.Ytdfjcidiolbbhaa
open Go.RowKit Go.Cz Go.Cz.Dk
set_option linter.unusedSimpArgs false
set_option linter.unusedVariables false
attribute [local go_sem] bs_size bs_extract bs_append bs_toList
attribute [local irreducible] cList
theorem info_bool : (Try.prog.info? 4).map (fun i => (i.zero, i.size, i.bytes)) = some (some (.bool false), 1, 1) := by kernel_rfl
/-- A list of flags at block g. -/
def bools (g : Nat) (l : List Bool) : Piece := blk g (.cells (l.map Value.bool).toArray 4 (0, 0))
theorem made_bools (n : Nat) : madeCells #[Value.bool false] n = ((List.replicate n false).map Value.bool).toArray := by
  apply Array.ext
  · simp [madeCells]
  · intro i h1 h2
    simp [madeCells, Nat.mod_one]
theorem Owns.flag {w0 w : World} {ps : List Piece} {g i : Nat} {l : List Bool} {x : Bool} (h : Owns w0 w (bools g l :: ps)) (hi : l[i]? = some x) : g < w.heap.size ∧ w.cell? ⟨g, i, none⟩ = some (.bool x) ∧ w.frozen? ⟨g, i, none⟩ = false := by
  have hc := (Owns.blk h).1
  exact ⟨lt_of_block hc, by rw [cell_of_heap hc]; simp [hi], free_of_heap hc⟩
theorem Owns.setFlag {w0 w : World} {ps : List Piece} {g : Nat} (i : Nat) (x : Bool) {l : List Bool} (h : Owns w0 w (bools g l :: ps)) : Owns w0 (w.setCell ⟨g, i, none⟩ (.bool x)) (bools g (l.set i x) :: ps) := by
  have := Owns.store (i := i) h (.bool x)
  rw [List.setIfInBounds_toArray, ← List.map_set] at this
  exact this
set_option maxRecDepth 20000 in
set_option maxHeartbeats 2000000 in
theorem DiskStable_walk (w : World) (r : Int) (hr : (Lit.int .u8 r).wf = true) (x : Option Addr) (n c : Nat) (l : List AAct) (hx : IsActs w x n l) (hl : ∀ y ∈ l, AAct.fine y) (x2 : Option Addr) (n2 c2 : Nat) (l2 : List AAct) (hx2 : IsActs w x2 n2 l2) (hl2 : ∀ y ∈ l2, AAct.fine y) (fw : Int) (ws : (Lit.int .i64 fw).wf = true) (fb : Int) (wa : (Lit.int .i64 fb).wf = true) :
    Calls Try.prog 4 #[.int .u8 r, .slice x n c, .slice x2 n2 c2, .int .i64 fw, .int .i64 fb] w fun e w' => e = .returned (.bool true) ∧ Below w.heap.size w w' := by
  obtain ⟨N, hN0, hN, HSize⟩ := size_n hr
  have HHead := Lib.hid head_c
  clear hr
  by_cases hok : okB l = true
  · by_cases hok2 : okB l2 = true
    · have L := lawIn w x n c l hx hl hok
      have L2 := lawIn w x2 n2 c2 l2 hx2 hl2 hok2
      obtain ⟨hM, hMl, hMq⟩ := L.ran N
      have hn := L.few
      have hn2 := L2.few
      have hlen2 := L2.len
      obtain ⟨M1, hM1⟩ : ∃ M, M = Dk.start (runs (Dk.fresh N) l) := ⟨_, rfl⟩
      have hc1 : Dk.Calm M1 := by rw [hM1]; exact calm_start _
      have hq1 : M1.q.length ≤ 60 := by rw [hM1]; exact hMq
      have hs1 : M1.st.length = N := by rw [hM1]; exact hMl
      obtain ⟨M2, hM2⟩ : ∃ M, M = (Dk.sync M1).1 := ⟨_, rfl⟩
      have HM2 : Hid ((Dk.sync M1).1 = M2) := hM2.symm
      have HM2' : Hid ((Dk.sync M1).2 = 0) := by rw [sync_calm hc1]; rfl
      have hc2 : Dk.Calm M2 := by rw [hM2]; exact calm_sync hc1
      have hs2 : M2.st.length = N := by rw [hM2, length_sync]; exact hs1
      rw [sync_calm hc1] at hM2
      have hq2 : M2.q = [] := by rw [hM2]
      have hq20 : M2.q.length = 0 := by rw [hq2]; rfl
      have ho2 : M2.off = false := hc2.1
      have HWst : Hid (∀ k, Dk.Calm (writes M2 k) ∧ (writes M2 k).st = M2.st) := fun k => ⟨calm_writes hc2 k, by rw [writes_eq hc2]⟩
      have HWq : Hid (∀ k : Nat, (writes M2 (l2.take k)).q.length ≤ 60) := fun k => by
        rw [writes_eq hc2, hq2]
        simp
        have := List.length_filter_le (good M2.st.length) (l2.take k)
        simp at this
        omega
      have HW0 : Hid (writes M2 (l2.take 0) = M2) := rfl
      have HWl : Hid (writes M2 (l2.take n2) = writes M2 l2) := by rw [List.take_of_length_le (by omega)]; rfl
      have HF0 : Hid (flags M2 = List.replicate N false) := by rw [flags_none hq2, hs2]; rfl
      have HWs : Hid (∀ (k : Nat) (a : AAct), l2[k]? = some a → writes M2 (l2.take (k + 1)) = (Dk.write (writes M2 (l2.take k)) a.sector a.txt).1) := fun k a ha => writes_take_succ _ _ ha
      obtain ⟨W, hW⟩ : ∃ W, W = writes M2 l2 := ⟨_, rfl⟩
      have hWs : W.st = M2.st := by rw [hW]; exact (HWst.out _).2
      have hWq : W.q.length ≤ 60 := by have := HWq.out n2; rw [HWl.out, ← hW] at this; exact this
      have hWc : Dk.Calm W := by rw [hW]; exact (HWst.out _).1
      have hFs : (Dk.start (Dk.fail W fw fb)).st.length = N := by show (Dk.fail W fw fb).st.length = N; rw [length_fail, hWs]; exact hs2
      have hFq : (Dk.start (Dk.fail W fw fb)).q.length = 0 := by show (Dk.fail W fw fb).q.length = 0; rw [fail_q hWc.1]; rfl
      have HFc : Hid (conts (Dk.start (Dk.fail W fw fb)) = (Dk.fail W fw fb).st) := conts_none (by show (Dk.fail W fw fb).q = []; exact fail_q hWc.1 _ _)
      have HC2 : Hid (conts M2 = M2.st) := conts_none hq2
      have HFi : Hid (∀ i, i < N → ∃ f : Bool, (flags W)[i]? = some f ∧ ∃ t1 t2 : Bytes, M2.st[i]? = some t1 ∧ (Dk.fail W fw fb).st[i]? = some t2 ∧ (f = false → t1 = t2)) := by
        intro i hi
        refine ⟨W.q.any (fun p => p.1 == i), flags_get (by rw [hWs, hs2]; exact hi), M2.st[i]'(by omega), (Dk.fail W fw fb).st[i]'(by rw [length_fail, hWs, hs2]; exact hi), List.getElem?_eq_getElem _, List.getElem?_eq_getElem _, fun hf => ?_⟩
        have hno : ∀ p ∈ W.q, p.1 ≠ i := by
          intro p hp
          have := List.any_eq_false.1 hf p hp
          simpa using this
        have := fail_other fw fb hno
        rw [hWs] at this
        have e1 : M2.st[i]? = some (M2.st[i]'(by omega)) := List.getElem?_eq_getElem _
        have e2 : (Dk.fail W fw fb).st[i]? = some ((Dk.fail W fw fb).st[i]'(by rw [length_fail, hWs, hs2]; exact hi)) := List.getElem?_eq_getElem _
        rw [e1, e2] at this
        exact (Option.some.inj this).symm
      have HW := Lib.hid hW.symm
      have HM1 := Lib.hid hM1.symm
      clear hM1 hM2 hok hok2 hx hx2 hl hl2 hq2 hW hMl hMq hM ws wa hWs hlen2
      go_enter Try.func4, Try.ntmps4
      go_wp2_with fail; go_at_call 11; refine (HHead.out _).mono ?_; rintro e w1 ⟨rfl, hb⟩
      go_wp2_with fail; go_at_call 12; refine (L.ok _ hb).mono ?_; rintro e w2 ⟨rfl, rfl⟩
      go_wp2_with fail; go_at_call 12; refine (L2.ok _ hb).mono ?_; rintro e w2 ⟨rfl, rfl⟩
      go_wp2_with fail; go_at_call 14; refine (HSize.out _).mono ?_; rintro e w3 ⟨rfl, rfl⟩
      go_wp2_with fail; go_at_call 13; refine (Owns.new N ((Owns.start w).below hb) hN0 (by omega)).mono ?_; rintro e w3 ⟨b, rfl, h0⟩
      clear hb
      go_wp2_with fail
      go_loopg [14] n (fun gk i wr => ∃ j : Nat, gk = n - j ∧ j ≤ n ∧ i = .int .i64 j ∧ Owns w wr [disk b (runs (Dk.fresh N) (l.take j))])
      case atStart => exact ⟨0, rfl, Nat.zero_le _, rfl, h0⟩
      case round =>
        rename_i J1 K1 hJ1 hK1
        clear h0
        obtain ⟨j, rfl, hj, rfl, h⟩ := hrel
        by_cases hlt : j < n
        · obtain ⟨g, off, x', rfl, ha, hg, e0, e1, e2, e3, e4, e5⟩ := (L.acts _ h.base).at hlt
          have Ha := Lib.hid ha; clear ha
          go_wp2_with fail; go_at_call 16; refine (Owns.act x' h (L.q N j) (L.fine j x' Ha.out).1 (L.fine j x' Ha.out).2).mono ?_; rintro e w6 ⟨rfl, h6⟩
          clear e0 e1 e2 e3 e4 e5 hg h
          go_wp2_with fail
          go_roundg (n - (j + 1))
          case measure => omega
          case rel => exact ⟨j + 1, rfl, by omega, by go_num, by rw [L.step N j x' Ha.out]; exact h6⟩
        · obtain rfl : j = n := by omega
          clear hJ1 hK1
          rw [L.all N] at h
          go_wp2_with fail; go_at_call 20; refine (Owns.st h).mono ?_; rintro e w6 ⟨rfl, h⟩
          rw [HM1.out] at h
          have hc := Owns.sync h (by omega)
          rw [HM2.out, HM2'.out] at hc
          go_wp2_with fail; go_at_call 21; refine (hc).mono ?_; rintro e w7 ⟨rfl, h⟩
          clear hc
          go_wp2_with fail; go_at_call 22; refine (Owns.conts N h hs2.symm hN0 ho2 (by omega)).mono ?_; rintro e w8 ⟨g1, k1, rfl, h⟩
          go_wp2_with (refine wpList_plain rfl fun K hK => wp_make (.tmp 60) (.tmp 60) 42 (by rfl) 4 (.bool false) 1 1 Try.underlying42 info_bool N N (by go_num) (by go_num) (by omega) (by omega) (by omega) ?_)
          have h2 := h.box (.cells (madeCells #[Value.bool false] N) 4)
          rw [made_bools, ← HF0.out] at h2
          obtain ⟨gw, hgw⟩ : ∃ g, g = w8.heap.size := ⟨_, rfl⟩
          rw [made_bools, ← HF0.out, ← hgw]
          rw [← hgw] at h2
          obtain ⟨w9, hw9⟩ : ∃ w9 : World, w9 = w8.alloc (.cells ((flags M2).map Value.bool).toArray 4) := ⟨_, rfl⟩
          rw [← hw9] at h2 ⊢
          have H2 := Lib.hid h2
          clear h h2 hgw hw9
          go_wp2_with fail
          go_loopg [18, 19] n2 (fun gk i e wr => ∃ j : Nat, gk = n2 - j ∧ j ≤ n2 ∧ i = .int .i64 j ∧ Owns w wr [bools gw (flags (writes M2 (l2.take j))), strs g1 (conts M2), disk b (writes M2 (l2.take j))])
          case atStart => exact ⟨0, rfl, Nat.zero_le _, rfl, H2.out⟩
          case round =>
            rename_i J2 K2 hJ2 hK2
            obtain ⟨k, rfl, hk, rfl, h⟩ := hrel
            by_cases hlt2 : k < n2
            · obtain ⟨g2, off2, a, rfl, ha, hg, e0, e1, e2, e3, e4, e5⟩ := (L2.acts _ h.base).at hlt2
              have Ha := Lib.hid ha; clear ha
              have HT := Lib.hid (text_c a (L2.fine k a Ha.out).1)
              have hq := HWq.out k
              have hw := write_good (HWst.out (l2.take k)).1 a
              rw [show (writes M2 (l2.take k)).st.length = N by rw [(HWst.out (l2.take k)).2, hs2]] at hw
              replace h := h.rot
              by_cases hg2 : good N a = true
              · rw [if_pos hg2] at hw
                have HE : Hid ((Dk.write (writes M2 (l2.take k)) a.sector a.txt).2 = 0) := by rw [hw]; rfl
                have HE1 := HWs.out k a Ha.out
                have HE2 : Hid (flags (writes M2 (l2.take (k + 1))) = (flags (writes M2 (l2.take k))).set a.sector.toNat true) := by rw [HE1, hw]; exact flags_write (m := writes M2 (l2.take k)) (s := a.sector.toNat) (t := a.txt)
                have HE1 := Lib.hid HE1.symm
                simp only [good, Bool.and_eq_true, decide_eq_true_eq] at hg2
                obtain ⟨⟨v0, v1⟩, v2⟩ := hg2
                have v0' : ¬ a.sector < 0 := by omega
                have v1' : ¬ (N : Int) ≤ a.sector := by omega
                obtain ⟨f0, hf0⟩ : ∃ f, (flags (writes M2 (l2.take k)))[a.sector.toNat]? = some f := ⟨_, flags_get (by rw [(HWst.out (l2.take k)).2, hs2]; omega)⟩
                have Hf0 := Lib.hid hf0
                clear hw v2 hf0
                dsimp only [AAct.cells] at HT
                go_wp2_with fail; refine wp_region_can [10] (List.range 13) (by kernel_rfl) (by kernel_rfl) ?_; iterate 10 (refine cl_do rfl rfl rfl rfl (fun _ _ => ?_); go_wp2_with fail)
                refine cl_call (i := 10) rfl rfl rfl (fun K hK => ?_); go_wp2_with fail; go_at_call 24; refine (HT.out _).mono ?_; rintro e w8 ⟨rfl, hb8⟩; have Hb8 := Lib.hid hb8; replace h := h.drew.below hb8; clear hb8; go_wp2_with fail; refine And.intro Hb8.out ?_
                refine cl_do rfl rfl rfl rfl (fun _ _ => ?_); go_wp2_with fail; go_at_call 23; (have hw := Owns.write a.sector a.txt h (by omega)); rw [HE1.out, HE.out] at hw; refine hw.mono ?_; clear hw h; rintro e w9 ⟨rfl, h⟩; go_wp2_with fail; iterate 1 (refine cl_do rfl rfl rfl rfl (fun _ _ => ?_); go_wp2_with fail)
                refine cl_nil ?_
                have h := h.swap
                obtain ⟨hg, e0, e1, e2, e3, e4, e5⟩ := (L2.acts _ h.base).cells Ha.out
                obtain ⟨z0, z1, z2⟩ := Owns.flag h Hf0.out
                go_wp2_with fail
                have h := Owns.setFlag a.sector.toNat true h
                rw [← HE2.out] at h
                go_roundg (n2 - (k + 1))
                case measure => omega
                case rel => exact ⟨k + 1, rfl, by omega, by go_num, h.rot.swap⟩
              · rw [if_neg hg2] at hw
                have HE : Hid ((Dk.write (writes M2 (l2.take k)) a.sector a.txt).2 = 1) := by rw [hw]; rfl
                have HE1 := HWs.out k a Ha.out
                have HE2 : Hid (writes M2 (l2.take (k + 1)) = writes M2 (l2.take k)) := by rw [HE1, hw]; rfl
                have HE1 := Lib.hid HE1.symm
                clear hw hg2
                dsimp only [AAct.cells] at HT
                go_wp2_with fail; refine wp_region_can [10] (List.range 13) (by kernel_rfl) (by kernel_rfl) ?_; iterate 10 (refine cl_do rfl rfl rfl rfl (fun _ _ => ?_); go_wp2_with fail)
                refine cl_call (i := 10) rfl rfl rfl (fun K hK => ?_); go_wp2_with fail; go_at_call 24; refine (HT.out _).mono ?_; rintro e w8 ⟨rfl, hb8⟩; have Hb8 := Lib.hid hb8; replace h := h.drew.below hb8; clear hb8; go_wp2_with fail; refine And.intro Hb8.out ?_
                refine cl_do rfl rfl rfl rfl (fun _ _ => ?_); go_wp2_with fail; go_at_call 23; (have hw := Owns.write a.sector a.txt h (by omega)); rw [HE1.out, HE.out] at hw; refine hw.mono ?_; clear hw h; rintro e w9 ⟨rfl, h⟩; go_wp2_with fail; iterate 1 (refine cl_do rfl rfl rfl rfl (fun _ _ => ?_); go_wp2_with fail)
                refine cl_nil ?_
                rw [HE2.out] at h
                obtain ⟨hg, e0, e1, e2, e3, e4, e5⟩ := (L2.acts _ h.base).cells Ha.out
                go_wp2_with fail
                go_roundg (n2 - (k + 1))
                case measure => omega
                case rel => exact ⟨k + 1, rfl, by omega, by go_num, by rw [HE2.out]; exact h.rot.rot⟩
            · obtain rfl : k = n2 := by omega
              clear hJ2 hK2
              rw [HWl.out, HW.out, HC2.out] at h
              go_wp2_with fail; go_at_call 25; refine (Owns.fail fw fb h.rot (by omega)).mono ?_; rintro e w12 ⟨rfl, h⟩
              go_wp2_with fail; go_at_call 20; refine (Owns.st h).mono ?_; rintro e w13 ⟨rfl, h⟩
              go_wp2_with fail; go_at_call 22; refine (Owns.conts N h hFs.symm hN0 rfl (by omega)).mono ?_; rintro e w14 ⟨g3, k3, rfl, h⟩
              rw [HFc.out] at h
              have H := Lib.hid h
              clear h
              go_wp2_with fail
              clear HHead HSize HWst HWq HW0 HWl HF0 HWs HFc HC2 HM1 HM2 HM2' HW hWc hWq hFs hFq hc1 hc2 hs1 hs2 hn hn2 hq1 hq20 ho2
              go_loopg [22] N (fun gk i wr => ∃ j : Nat, gk = N - j ∧ j ≤ N ∧ i = .int .i64 j ∧ Below w14.heap.size w14 wr)
              case atStart => exact ⟨0, rfl, Nat.zero_le _, rfl, Below.refl _ _⟩
              case round =>
                obtain ⟨i, rfl, hi, rfl, hb⟩ := hrel
                by_cases hlt3 : i < N
                · obtain ⟨f, hf, t1, t2, ht1, ht2, hft⟩ := HFi.out i hlt3
                  have h := H.out.below hb
                  obtain ⟨z0, z1, z2⟩ := Owns.flag h.rot hf
                  obtain ⟨z3, z4, z5⟩ := Owns.text h.rot4 ht1
                  obtain ⟨z6, z7, z8⟩ := Owns.text h ht2
                  have Hb := Lib.hid hb
                  clear ht1 ht2 h hf hb
                  cases f
                  · obtain rfl := hft rfl
                    clear hft
                    go_wp2_with fail
                    refine wp_region_can [] (List.range 16) (by kernel_rfl) (by kernel_rfl) ?_
                    iterate 6 (refine cl_do rfl rfl rfl rfl (fun _ _ => ?_); go_wp2_with fail)
                    iterate 9 (refine cl_yes rfl rfl rfl rfl rfl (fun _ _ => ?_); go_wp2_with fail)
                    refine cl_do rfl rfl rfl rfl (fun _ _ => ?_); go_wp2_with fail
                    refine cl_nil ?_
                    go_wp2_with fail
                    go_roundg (N - (i + 1))
                    case measure => omega
                    case rel => exact ⟨i + 1, rfl, by omega, by go_num, Hb.out.drew⟩
                  · clear hft
                    go_wp2_with fail
                    refine wp_region_can [] (List.range 16) (by kernel_rfl) (by kernel_rfl) ?_
                    iterate 6 (refine cl_do rfl rfl rfl rfl (fun _ _ => ?_); go_wp2_with fail)
                    iterate 9 (refine cl_no rfl rfl rfl ?_; go_simp)
                    refine cl_do rfl rfl rfl rfl (fun _ _ => ?_); go_wp2_with fail
                    refine cl_nil ?_
                    go_wp2_with fail
                    go_roundg (N - (i + 1))
                    case measure => omega
                    case rel => exact ⟨i + 1, rfl, by omega, by go_num, Hb.out.drew⟩
                · obtain rfl : i = N := by omega
                  go_wp2_with fail
                  go_ret
                  exact ⟨by first | rfl | simp [go_sem], (H.out.below hb).base⟩
    · have HOk := lawNot w x2 n2 c2 l2 hx2 (by simpa using hok2)
      have L := lawIn w x n c l hx hl hok
      clear hok hx hl hok2 hx2 hl2
      go_enter Try.func4, Try.ntmps4
      go_wp2_with fail; go_at_call 11; refine (HHead.out _).mono ?_; rintro e w1 ⟨rfl, hb⟩
      go_wp2_with fail; go_at_call 12; refine (L.ok _ hb).mono ?_; rintro e w2 ⟨rfl, rfl⟩
      go_wp2_with fail; go_at_call 12; refine (HOk.out _ hb).mono ?_; rintro e w2 ⟨rfl, rfl⟩
      go_wp2_with fail
      go_ret
      exact ⟨by first | rfl | simp [go_sem], hb⟩
  · have HOk := lawNot w x n c l hx (by simpa using hok)
    clear hok hx hl
    go_enter Try.func4, Try.ntmps4
    go_wp2_with fail; go_at_call 11; refine (HHead.out _).mono ?_; rintro e w1 ⟨rfl, hb⟩
    go_wp2_with fail; go_at_call 12; refine (HOk.out _ hb).mono ?_; rintro e w2 ⟨rfl, rfl⟩
    go_wp2_with fail
    go_ret
    exact ⟨by first | rfl | simp [go_sem], hb⟩
end Go.Proofs.Ytdfjcidiolbbhaa
