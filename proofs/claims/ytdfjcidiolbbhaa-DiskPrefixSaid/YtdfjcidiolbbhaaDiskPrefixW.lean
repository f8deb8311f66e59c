/-
  'DiskPrefix': the walk.
-/
import Derived.Test.YtdfjcidiolbbhaaLwSep
import Derived.Test.YtdfjcidiolbbhaaLwPrefix
import Derived.IntWalk
import Derived.Test.YtdfjcidiolbbhaaKit2
import Derived.Deep.LoopGhost
import Derived.Deep.DeepCutAuto
namespace Go.Proofs.Ytdfjcidiolbbhaa
open Go.RowKit Go.Cz Go.Cz.Dk
set_option linter.unusedSimpArgs false
set_option linter.unusedVariables false
attribute [local go_sem] bs_size bs_extract bs_append bs_toList
attribute [local irreducible] cList
/-- No write. -/
def nil0 : AAct := { kind := 0, sector := -1, bytes := 0, text := [], odd := false, after := 0 }
/-- The write number k of those that succeed. -/
def nxt (S : List AAct) (k : Nat) : AAct := (S[k]?).getD nil0
theorem nxt_hit {S : List AAct} {k : Nat} {a : AAct} (h : S.length = k) : nxt (S ++ [a]) k = a := by unfold nxt; subst h; simp
theorem nxt_miss {S : List AAct} {k : Nat} {a : AAct} (h : S.length ≠ k) : nxt (S ++ [a]) k = nxt S k := by
  unfold nxt
  rcases Nat.lt_or_ge k S.length with h1 | h1
  · rw [List.getElem?_append_left h1]
  · rw [List.getElem?_eq_none h1, List.getElem?_eq_none (by simp; omega)]
theorem Owns.put {w0 w : World} {ps : List Piece} {g : Nat} {a0 : AAct} (a : AAct) (h : Owns w0 w (box g a0 :: ps)) :
    Owns w0 ((((((w.setCell ⟨g, 0, none⟩ (.int .i64 a.kind)).setCell ⟨g, 1, none⟩ (.int .i64 a.sector)).setCell ⟨g, 2, none⟩ (.int .i64 a.bytes)).setCell ⟨g, 3, none⟩ (.string (bs a.text))).setCell ⟨g, 4, none⟩ (.bool a.odd)).setCell ⟨g, 5, none⟩ (.int .i64 a.after)) (box g a :: ps) := by
  have h1 := Owns.store (i := 5) (Owns.store (i := 4) (Owns.store (i := 3) (Owns.store (i := 2) (Owns.store (i := 1) (Owns.store (i := 0) h (.int .i64 a.kind)) (.int .i64 a.sector)) (.int .i64 a.bytes)) (.string (bs a.text))) (.bool a.odd)) (.int .i64 a.after)
  exact h1
theorem Owns.thaw {w0 w : World} {ps : List Piece} {g : Nat} {a : AAct} (h : Owns w0 w (box g a :: ps)) (i : Nat) : w.frozen? ⟨g, i, none⟩ = false := free_of_heap (Owns.blk h).1
theorem u8_nat {r : Int} (hr : (Lit.int .u8 r).wf = true) : ∃ k : Nat, r = k ∧ k ≤ 255 := by
  simp only [Lit.wf, Bool.and_eq_true, decide_eq_true_eq] at hr
  have h1 : 0 ≤ r := hr.1
  have h2 : r ≤ 255 := hr.2
  exact ⟨r.toNat, by omega, by omega⟩
theorem tmod_nat (k m : Nat) (hm : 0 < m) : ∃ j : Nat, j < m ∧ ((k : Int).tmod (m : Int) = (j : Int)) := ⟨k % m, Nat.mod_lt _ hm, by rw [Int.tmod_eq_emod_of_nonneg (by omega)]; simp⟩
set_option maxRecDepth 20000 in
set_option maxHeartbeats 4000000 in
theorem DiskPrefix_walk (w : World) (r : Int) (hr : (Lit.int .u8 r).wf = true) (x : Option Addr) (n c : Nat) (l : List AAct) (hx : IsActs w x n l) (hl : ∀ y ∈ l, AAct.fine y) (x2 : Option Addr) (n2 c2 : Nat) (l2 : List AAct) (hx2 : IsActs w x2 n2 l2) (hl2 : ∀ y ∈ l2, AAct.fine y) (fw : Int) (ws : (Lit.int .u8 fw).wf = true) (fb : Int) (wa : (Lit.int .u8 fb).wf = true) :
    Calls Try.prog 5 #[.int .u8 r, .slice x n c, .slice x2 n2 c2, .int .u8 fw, .int .u8 fb] w fun e w' => e = .returned (.bool true) ∧ Below w.heap.size w w' := by
  obtain ⟨N, hN0, hN, HSize⟩ := size_n hr
  have HHead := Lib.hid head_c
  obtain ⟨f, rfl, hf⟩ := u8_nat ws
  obtain ⟨t, rfl, ht⟩ := u8_nat wa
  clear hr ws wa
  by_cases hok : okB l = true
  · by_cases hok2 : okB l2 = true
    · have L := lawIn w x n c l hx hl hok
      have L2 := lawIn w x2 n2 c2 l2 hx2 hl2 hok2
      obtain ⟨hM, hMl, hMq⟩ := L.ran N
      have hn := L.few
      have hn2 := L2.few
      obtain ⟨K, hK, hKe⟩ := tmod_nat f 61 (by omega)
      obtain ⟨B, hB, hBe⟩ := tmod_nat t 33 (by omega)
      have hKe' : (f : Int).tmod 61 = (K : Int) := hKe
      have hBe' : (t : Int).tmod 33 = (B : Int) := hBe
      obtain ⟨M1, hM1⟩ : ∃ M, M = Dk.start (runs (Dk.fresh N) l) := ⟨_, rfl⟩
      have hc1 : Dk.Calm M1 := by rw [hM1]; exact calm_start _
      have hq1 : M1.q.length ≤ 60 := by rw [hM1]; exact hMq
      have hs1 : M1.st.length = N := by rw [hM1]; exact hMl
      obtain ⟨M2, hM2⟩ : ∃ M, M = (Dk.sync M1).1 := ⟨_, rfl⟩
      have HM2 : Hid ((Dk.sync M1).1 = M2) := hM2.symm
      have HM2' : Hid ((Dk.sync M1).2 = 0) := by rw [sync_calm hc1]; rfl
      have hc2 : Dk.Calm M2 := by rw [hM2]; exact calm_sync hc1
      have hs2 : M2.st.length = N := by rw [hM2, length_sync]; exact hs1
      have hq2 : M2.q = [] := by rw [hM2, sync_calm hc1]
      have H0 : Hid ({ M2 with q := (done N l2 0).map pend } = M2) := by rw [done_zero]; cases M2; simp at hq2; simp [Hid, hq2]
      have HW : Hid (∀ (j : Nat) (a : AAct), Dk.write { M2 with q := (done N l2 j).map pend } a.sector a.txt = if good N a then ({ M2 with q := (done N l2 j).map pend ++ [pend a] }, 0) else ({ M2 with q := (done N l2 j).map pend }, 1)) := fun j a => by
        have := write_good (m := { M2 with q := (done N l2 j).map pend }) hc2 a
        rw [show ({ M2 with q := (done N l2 j).map pend } : Dm).st.length = N from hs2] at this
        exact this
      have hlen2 := L2.len
      have HM : Hid (M2 = (Dk.sync (Dk.start (runs (Dk.fresh N) l))).1) := by rw [hM2, hM1]; rfl
      have hok2' : M2.ok := by rw [hM2, hM1]; exact ok_sync (ok_start hM)
      have HAll : Hid (l2.filter (good N) = done N l2 n2) := by unfold done; rw [List.take_of_length_le (by omega)]; rfl
      have HFail : Hid ((Dk.fail { M2 with q := (done N l2 n2).map pend } K B).st = match (done N l2 n2)[K]? with
          | none => conts { M2 with q := ((done N l2 n2).take K).map pend }
          | some a => setS (conts { M2 with q := ((done N l2 n2).take K).map pend }) a.sector.toNat (a.txt.take B)) :=
        fail_torn hok2' hc2 hq2 _ (fun a ha => by rw [hs2]; exact (List.mem_filter.1 ha).2) K B (by omega)
      have HD : Hid (∀ j, (done N l2 j).length ≤ 60) := fun j => by have := done_len N l2 j; omega
      have HM1 := Lib.hid hM1.symm
      clear hM1 hM2 hok hok2 hx hx2 hl hl2 hMl hMq hM hKe hBe hq2 hlen2
      go_enter Try.func5, Try.ntmps5
      go_wp2_with fail; go_at_call 11; refine (HHead.out _).mono ?_; rintro e w1 ⟨rfl, hb⟩
      go_wp2_with fail; go_at_call 12; refine (L.ok _ hb).mono ?_; rintro e w2 ⟨rfl, rfl⟩
      go_wp2_with fail; go_at_call 12; refine (L2.ok _ hb).mono ?_; rintro e w2 ⟨rfl, rfl⟩
      go_wp2_with fail; go_at_call 14; refine (HSize.out _).mono ?_; rintro e w3 ⟨rfl, rfl⟩
      go_wp2_with fail; go_at_call 13; refine (Owns.new N ((Owns.start w).below hb) hN0 (by omega)).mono ?_; rintro e w3 ⟨b, rfl, h0⟩
      clear hb
      go_wp2_with fail
      go_loopg [16] n (fun gk i wr => ∃ j : Nat, gk = n - j ∧ j ≤ n ∧ i = .int .i64 j ∧ Owns w wr [disk b (runs (Dk.fresh N) (l.take j))])
      case atStart => exact ⟨0, rfl, Nat.zero_le _, rfl, h0⟩
      case round =>
        rename_i J1 K1 hJ1 hK1
        clear h0
        obtain ⟨j, rfl, hj, rfl, h⟩ := hrel
        by_cases hlt : j < n
        · obtain ⟨g, off, x', rfl, ha, hg, e0, e1, e2, e3, e4, e5⟩ := (L.acts _ h.base).at hlt
          have Ha := Lib.hid ha; clear ha
          go_wp2_with fail; go_at_call 16; refine (Owns.act x' h (L.q N j) (L.fine j x' Ha.out).1 (L.fine j x' Ha.out).2).mono ?_; rintro e w6 ⟨rfl, h6⟩
          clear e0 e1 e2 e3 e4 e5 hg h
          go_wp2_with fail
          go_roundg (n - (j + 1))
          case measure => omega
          case rel => exact ⟨j + 1, rfl, by omega, by go_num, by rw [L.step N j x' Ha.out]; exact h6⟩
        · obtain rfl : j = n := by omega
          clear hJ1 hK1
          rw [L.all N] at h
          go_wp2_with fail; go_at_call 20; refine (Owns.st h).mono ?_; rintro e w6 ⟨rfl, h⟩
          rw [HM1.out] at h
          have hc := Owns.sync h (by omega)
          rw [HM2.out, HM2'.out] at hc
          go_wp2_with fail; go_at_call 21; refine (hc).mono ?_; rintro e w7 ⟨rfl, h⟩
          clear hc
          go_wp2_with fail
          have hbx := h.box (.cells (AAct.cells nil0) 34)
          obtain ⟨gx, hgx⟩ : ∃ g, g = w7.heap.size := ⟨_, rfl⟩
          rw [← hgx] at hbx ⊢
          obtain ⟨w9, hw9⟩ : ∃ w9 : World, w9 = w7.alloc (.cells #[.int .i64 0, .int .i64 (-1), .int .i64 0, .string ⟨#[]⟩, .bool false, .int .i64 0] 34) := ⟨_, rfl⟩
          rw [← hw9]
          have H2 : Hid (Owns w w9 [box gx (nxt (done N l2 0) K), disk b { M2 with q := (done N l2 0).map pend }]) := by
            rw [H0.out, hw9]; exact hbx
          clear h hbx hgx hw9
          go_loopg [17, 19] n2 (fun gk d i wr => ∃ j : Nat, gk = n2 - j ∧ j ≤ n2 ∧ i = .int .i64 j ∧ d = .int .i64 ((done N l2 j).length : Nat) ∧ Owns w wr [box gx (nxt (done N l2 j) K), disk b { M2 with q := (done N l2 j).map pend }])
          case atStart => exact ⟨0, rfl, Nat.zero_le _, rfl, rfl, H2.out⟩
          case round =>
            rename_i J2 K2 hJ2 hK2
            clear H2
            obtain ⟨j, rfl, hj, rfl, rfl, h⟩ := hrel
            by_cases hlt2 : j < n2
            · obtain ⟨g2, off2, a, rfl, ha, hg, e0, e1, e2, e3, e4, e5⟩ := (L2.acts _ h.base).at hlt2
              have Ha := Lib.hid ha; clear ha
              have HT := Lib.hid (text_c a (L2.fine j a Ha.out).1)
              dsimp only [AAct.cells] at HT
              have Hq : Hid (({ M2 with q := (done N l2 j).map pend } : Dm).q.length ≤ 1000) := by show ((done N l2 j).map pend).length ≤ 1000; rw [List.length_map]; have := HD.out j; omega
              have hd60 := HD.out j
              have hw := HW.out j a
              replace h := h.swap
              by_cases hg2 : good N a = true
              · rw [if_pos hg2] at hw
                have Hy : Hid (done N l2 (j + 1) = done N l2 j ++ [a]) := done_yes Ha.out hg2
                have HEa : Hid ((Dk.write { M2 with q := (done N l2 j).map pend } a.sector a.txt).1 = { M2 with q := (done N l2 (j + 1)).map pend }) := by rw [hw, Hy.out, List.map_append]; rfl
                have HEb : Hid ((Dk.write { M2 with q := (done N l2 j).map pend } a.sector a.txt).2 = 0) := by rw [hw]; rfl
                clear hw hg2
                by_cases hk : (done N l2 j).length = K
                · have hk' : (((done N l2 j).length : Int) == (K : Int)) = true := by simp [hk]
                  have Hn : Hid (nxt (done N l2 (j + 1)) K = a) := by rw [Hy.out]; exact nxt_hit hk
                  have Hk := Lib.hid hk
                  clear hk
                  go_wp2_with fail; refine wp_region_can [10] (List.range 13) (by kernel_rfl) (by kernel_rfl) ?_; iterate 10 (refine cl_do rfl rfl rfl rfl (fun _ _ => ?_); go_wp2_with fail)
                  refine cl_call (i := 10) rfl rfl rfl (fun K hK => ?_); go_wp2_with fail; go_at_call 24; refine (HT.out _).mono ?_; rintro e w8 ⟨rfl, hb8⟩; have Hb8 := Lib.hid hb8; replace h := h.drew.below hb8; clear hb8; go_wp2_with fail; refine And.intro Hb8.out ?_
                  refine cl_do rfl rfl rfl rfl (fun _ _ => ?_); go_wp2_with fail; go_at_call 23; (have hw := Owns.write a.sector a.txt h (by first | omega | exact Hq.out)); rw [HEa.out, HEb.out] at hw; refine hw.mono ?_; clear hw h; rintro e w9 ⟨rfl, h⟩; go_wp2_with fail; iterate 1 (refine cl_do rfl rfl rfl rfl (fun _ _ => ?_); go_wp2_with fail)
                  refine cl_nil ?_
                  replace h := h.swap
                  obtain ⟨hg, e0, e1, e2, e3, e4, e5⟩ := (L2.acts _ h.base).cells Ha.out
                  obtain ⟨hz, c0, c1, c2', c3, c4, c5⟩ := Owns.cells h
                  have hz0 := Owns.thaw h 0
                  have hz1 := Owns.thaw h 1
                  have hz2 := Owns.thaw h 2
                  have hz3 := Owns.thaw h 3
                  have hz4 := Owns.thaw h 4
                  have hz5 := Owns.thaw h 5
                  go_wp2_with fail
                  go_roundg (n2 - (j + 1))
                  case measure => omega
                  case rel => exact ⟨j + 1, rfl, by omega, by go_num, by rw [Hy.out, List.length_append, List.length_singleton]; go_num, by rw [Hn.out]; exact Owns.put a h⟩
                · have hk' : (((done N l2 j).length : Int) == (K : Int)) = false := by simp; omega
                  have Hn : Hid (nxt (done N l2 (j + 1)) K = nxt (done N l2 j) K) := by rw [Hy.out]; exact nxt_miss hk
                  clear hk
                  go_wp2_with fail; refine wp_region_can [10] (List.range 13) (by kernel_rfl) (by kernel_rfl) ?_; iterate 10 (refine cl_do rfl rfl rfl rfl (fun _ _ => ?_); go_wp2_with fail)
                  refine cl_call (i := 10) rfl rfl rfl (fun K hK => ?_); go_wp2_with fail; go_at_call 24; refine (HT.out _).mono ?_; rintro e w8 ⟨rfl, hb8⟩; have Hb8 := Lib.hid hb8; replace h := h.drew.below hb8; clear hb8; go_wp2_with fail; refine And.intro Hb8.out ?_
                  refine cl_do rfl rfl rfl rfl (fun _ _ => ?_); go_wp2_with fail; go_at_call 23; (have hw := Owns.write a.sector a.txt h (by first | omega | exact Hq.out)); rw [HEa.out, HEb.out] at hw; refine hw.mono ?_; clear hw h; rintro e w9 ⟨rfl, h⟩; go_wp2_with fail; iterate 1 (refine cl_do rfl rfl rfl rfl (fun _ _ => ?_); go_wp2_with fail)
                  refine cl_nil ?_
                  replace h := h.swap
                  go_wp2_with fail
                  go_roundg (n2 - (j + 1))
                  case measure => omega
                  case rel => exact ⟨j + 1, rfl, by omega, by go_num, by rw [Hy.out, List.length_append, List.length_singleton]; go_num, by rw [Hn.out]; exact h⟩
              · rw [if_neg hg2] at hw
                have Hy : Hid (done N l2 (j + 1) = done N l2 j) := done_no Ha.out hg2
                have HEa : Hid ((Dk.write { M2 with q := (done N l2 j).map pend } a.sector a.txt).1 = { M2 with q := (done N l2 (j + 1)).map pend }) := by rw [hw, Hy.out]; rfl
                have HEb : Hid ((Dk.write { M2 with q := (done N l2 j).map pend } a.sector a.txt).2 = 1) := by rw [hw]; rfl
                clear hw hg2
                go_wp2_with fail; refine wp_region_can [10] (List.range 13) (by kernel_rfl) (by kernel_rfl) ?_; iterate 10 (refine cl_do rfl rfl rfl rfl (fun _ _ => ?_); go_wp2_with fail)
                refine cl_call (i := 10) rfl rfl rfl (fun K hK => ?_); go_wp2_with fail; go_at_call 24; refine (HT.out _).mono ?_; rintro e w8 ⟨rfl, hb8⟩; have Hb8 := Lib.hid hb8; replace h := h.drew.below hb8; clear hb8; go_wp2_with fail; refine And.intro Hb8.out ?_
                refine cl_do rfl rfl rfl rfl (fun _ _ => ?_); go_wp2_with fail; go_at_call 23; (have hw := Owns.write a.sector a.txt h (by first | omega | exact Hq.out)); rw [HEa.out, HEb.out] at hw; refine hw.mono ?_; clear hw h; rintro e w9 ⟨rfl, h⟩; go_wp2_with fail; iterate 1 (refine cl_do rfl rfl rfl rfl (fun _ _ => ?_); go_wp2_with fail)
                refine cl_nil ?_
                replace h := h.swap
                go_wp2_with fail
                go_roundg (n2 - (j + 1))
                case measure => omega
                case rel => exact ⟨j + 1, rfl, by omega, by go_num, by rw [Hy.out], by rw [Hy.out] at h ⊢; exact h⟩
            · obtain rfl : j = n2 := by omega
              clear hJ2 hK2
              have hall := HAll.out
              have hd60 := HD.out j
              have Hq : ({ M2 with q := (done N l2 j).map pend } : Dm).q.length ≤ 1000 := by show ((done N l2 j).map pend).length ≤ 1000; rw [List.length_map]; omega
              have hFl : (Dk.start (Dk.fail { M2 with q := (done N l2 j).map pend } K B)).st.length = N := by show (Dk.fail _ _ _).st.length = N; rw [length_fail]; exact hs2
              have hFq : (Dk.start (Dk.fail { M2 with q := (done N l2 j).map pend } K B)).q.length ≤ 1000 := by show (Dk.fail _ _ _).q.length ≤ 1000; rw [fail_q (m := { M2 with q := (done N l2 j).map pend }) hc2.1]; exact Nat.zero_le _
              have HFc : Hid (conts (Dk.start (Dk.fail { M2 with q := (done N l2 j).map pend } K B)) = (Dk.fail { M2 with q := (done N l2 j).map pend } K B).st) := conts_none (by show (Dk.fail _ _ _).q = []; exact fail_q (m := { M2 with q := (done N l2 j).map pend }) hc2.1 _ _)
              have HFt := Lib.hid (HFail.out)
              clear hall
              have Hq' := Lib.hid Hq
              have hFl' := Lib.hid hFl
              have hFq' := Lib.hid hFq
              clear Hq hFl hFq
              go_wp2_with fail; go_at_call 25; refine (Owns.fail K B h.swap Hq'.out).mono ?_; rintro e v0 ⟨rfl, h⟩
              go_wp2_with fail; go_at_call 20; refine (Owns.st h).mono ?_; rintro e v1 ⟨rfl, h⟩
              go_wp2_with fail; go_at_call 22; refine (Owns.conts N h hFl'.out.symm hN0 rfl hFq'.out).mono ?_; rintro e v2 ⟨g1, k1, rfl, h⟩
              rw [HFc.out] at h
              go_wp2_with fail
              have hpc := prefix_c w _ _ N hN0 hN x _ c l L x2 _ c2 l2 L2 K (by omega) M2 HM.out h
              go_at_call 26
              (with_reducible refine hpc.mono ?_)
              clear hpc
              rintro e v3 ⟨g3, k3, b3, m3, rfl, h⟩
              rw [HAll.out] at h
              obtain ⟨X, hX⟩ : ∃ X, X = (Dk.fail { M2 with q := (done N l2 j).map pend } K B).st := ⟨_, rfl⟩
              obtain ⟨C, hC⟩ : ∃ C, C = conts { M2 with q := ((done N l2 j).take K).map pend } := ⟨_, rfl⟩
              rw [← hX, ← hC] at h
              have hXl : X.length = N := by rw [hX, length_fail]; exact hs2
              have hCl : C.length = N := by rw [hC, length_conts]; exact hs2
              have hCu : ∀ u ∈ C, u.length = 64 := by
                rw [hC]
                intro u hu
                obtain ⟨i, hi, rfl⟩ := List.mem_map.1 hu
                refine look_length (m := { M2 with q := ((done N l2 j).take K).map pend }) ⟨hok2'.1, ?_, hok2'.2.2⟩ (List.mem_range.1 hi)
                intro p hp
                obtain ⟨a, ha, rfl⟩ := List.mem_map.1 hp
                have := good_pend (n := N) (List.mem_filter.1 (List.mem_of_mem_take ha)).2
                rw [show ({ M2 with q := ((done N l2 j).take K).map pend } : Dm).st.length = N from hs2]
                exact this
              have HX := HFt.out
              rw [← hX, ← hC] at HX
              clear hX hC HFt HFc HFail hFl' hFq' Hq' HD HW HM1 HM HM2 HM2' H0 HAll
              cases hcase : (done N l2 j)[K]? with
              | none =>
                have hnx : nxt (done N l2 j) K = nil0 := by unfold nxt; rw [hcase]; rfl
                rw [hcase] at HX
                rw [hnx] at h
                dsimp only at HX
                subst HX
                clear hcase hnx
                obtain ⟨hz, c0, c1, c2', c3, c4, c5⟩ := Owns.cells h.rot5
                dsimp only [nil0] at c0 c1 c2' c3 c4 c5
                have Hsame := Lib.hid (same_l g1 g3 N N k1 k3 X X _ (Owns.lists (Owns.rot h)) (Owns.lists h) hXl hXl (by omega) (by omega))
                rw [decide_eq_true rfl] at Hsame
                have Hl := Lib.hid hXl
                clear hXl hCl hCu
                go_wp2_with fail
                go_at_call 27
                refine Hsame.out.mono ?_
                rintro e v4 ⟨rfl, hb4⟩
                have Hb4 := Lib.hid (h.below hb4).base
                clear hb4
                go_wp2_with fail
                go_ret
                exact ⟨rfl, Hb4.out⟩
              | some a =>
                have hg : good N a = true := (List.mem_filter.1 (List.mem_of_getElem? hcase)).2
                have hnx : nxt (done N l2 j) K = a := by unfold nxt; rw [hcase]; rfl
                rw [hcase] at HX
                rw [hnx] at h
                dsimp only at HX
                obtain ⟨i, hi⟩ := List.getElem?_of_mem (List.mem_of_mem_take (List.mem_filter.1 (List.mem_of_getElem? hcase)).1)
                have hta := (L2.fine i a hi).1
                clear hcase hnx hi
                simp only [good, Bool.and_eq_true, decide_eq_true_eq, beq_iff_eq] at hg
                obtain ⟨⟨hs0, hsN⟩, ht64⟩ := hg
                have HT := Lib.hid (text_c a hta)
                obtain ⟨kind, sector, bytes, text, odd, after⟩ := a
                dsimp only [AAct.cells] at HT
                dsimp only at hs0 hsN HX hta
                obtain ⟨s, rfl⟩ : ∃ s : Nat, sector = s := ⟨sector.toNat, by omega⟩
                obtain ⟨T, hT⟩ : ∃ T, T = AAct.txt { kind := kind, sector := s, bytes := bytes, text := text, odd := odd, after := after } := ⟨_, rfl⟩
                rw [← hT] at HT HX ht64
                rw [Int.toNat_natCast] at HX
                obtain ⟨u, hu⟩ : ∃ u, C[s]? = some u := ⟨_, List.getElem?_eq_getElem (by omega)⟩
                have hul := hCu u (List.mem_of_getElem? hu)
                have HX' := Lib.hid (HX.trans (setS_set hu ht64 (by omega : B ≤ 64)))
                have HXl := Lib.hid hXl
                have hBT : B ≤ T.length := by omega
                have hBu : B ≤ u.length := by omega
                have hu64 : u.length ≤ 64 := by omega
                have Hdu : Hid ((u.drop B).take (u.length - B) = u.drop B) := List.take_of_length_le (by simp)
                have Hu := Lib.hid hu
                have HCl := Lib.hid hCl
                clear HX hXl hCl hCu hT hu hul ht64 hta hs0
                obtain ⟨hz, c0, c1, c2', c3, c4, c5⟩ := Owns.cells h.rot5
                dsimp only at c0 c1 c2' c3 c4 c5
                go_wp2_with fail
                obtain ⟨gz, gc, gf⟩ := Owns.text h Hu.out
                refine wp_region_can [4] [0, 1, 2, 3, 7, 8, 9, 10, 11, 4, 5, 6, 12, 13, 14, 15, 16] (by kernel_rfl) (by kernel_rfl) ?_
                iterate 9 (refine cl_do rfl rfl rfl rfl (fun _ _ => ?_); go_wp2_with fail)
                refine cl_call (i := 4) rfl rfl rfl (fun K hK => ?_); go_wp2_with fail
                go_at_call 24
                refine (HT.out _).mono ?_
                rintro e v5 ⟨rfl, hb5⟩
                have Hb5 := Lib.hid hb5
                replace h := h.drew.below hb5
                clear hb5 hz c0 c1 c2' c3 c4 c5 gz gc gf
                obtain ⟨gz, gc, gf⟩ := Owns.text h Hu.out
                go_wp2_with fail
                refine And.intro Hb5.out ?_
                iterate 4 (refine cl_do rfl rfl rfl rfl (fun _ _ => ?_); go_wp2_with fail)
                refine cl_do rfl rfl rfl (by kernel_rfl) (fun _ _ => ?_); go_wp2_with fail
                iterate 2 (refine cl_do rfl rfl rfl rfl (fun _ _ => ?_); go_wp2_with fail)
                refine cl_nil ?_
                go_wp2_with fail
                have h8 := Owns.setText (i := s) (t := T.take B ++ u.drop B) h
                have Hsame := Lib.hid (same_l g1 g3 N N k1 k3 X (C.set s (T.take B ++ u.drop B)) _ (Owns.lists (Owns.rot h8)) (Owns.lists h8) HXl.out (by rw [List.length_set]; exact HCl.out) (by omega) (by omega))
                rw [decide_eq_true HX'.out] at Hsame
                go_at_call 27
                rw [Hdu.out]
                refine Hsame.out.mono ?_
                rintro e v6 ⟨rfl, hb6⟩
                have Hb6 := Lib.hid (h8.below hb6).base
                clear hb6 h8
                go_wp2_with fail
                go_ret
                exact ⟨rfl, Hb6.out⟩
    · have HOk := lawNot w x2 n2 c2 l2 hx2 (by simpa using hok2)
      have L := lawIn w x n c l hx hl hok
      clear hok hx hl hok2 hx2 hl2
      go_enter Try.func5, Try.ntmps5
      go_wp2_with fail; go_at_call 11; refine (HHead.out _).mono ?_; rintro e w1 ⟨rfl, hb⟩
      go_wp2_with fail; go_at_call 12; refine (L.ok _ hb).mono ?_; rintro e w2 ⟨rfl, rfl⟩
      go_wp2_with fail; go_at_call 12; refine (HOk.out _ hb).mono ?_; rintro e w2 ⟨rfl, rfl⟩
      go_wp2_with fail
      go_ret
      exact ⟨by first | rfl | simp [go_sem], hb⟩
  · have HOk := lawNot w x n c l hx (by simpa using hok)
    clear hok hx hl
    go_enter Try.func5, Try.ntmps5
    go_wp2_with fail; go_at_call 11; refine (HHead.out _).mono ?_; rintro e w1 ⟨rfl, hb⟩
    go_wp2_with fail; go_at_call 12; refine (HOk.out _ hb).mono ?_; rintro e w2 ⟨rfl, rfl⟩
    go_wp2_with fail
    go_ret
    exact ⟨by first | rfl | simp [go_sem], hb⟩
end Go.Proofs.Ytdfjcidiolbbhaa
