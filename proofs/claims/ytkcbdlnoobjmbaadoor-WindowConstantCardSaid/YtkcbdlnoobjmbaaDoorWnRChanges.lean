/-
  The reference's 'Changes'.
-/
import Derived.Test.YtkcbdlnoobjmbaaDoorWnRPut
import Derived.Test.YtkcbdlnoobjmbaaDoorWnRDated
import Derived.Test.YtkcbdlnoobjmbaaDoorLxA
import Derived.Test.YtkcbdlnoobjmbaaDoorRcValid
namespace Go.Proofs.YtkcbdlnoobjmbaaDoor
open Go.RowKit Go.Cz Go.Cz.Ck Go.Cz.Wn Go.Cz.Lx
set_option linter.unusedSimpArgs false
set_option linter.unusedVariables false
attribute [local go_sem] bs_size bs_extract bs_append bs_toList
attribute [local irreducible] cList cPlan
theorem one_row (V U : World) (x : Int) (h : Below V.heap.size V U) : ORow 3 1 V (U.alloc (.cells #[.int .i64 x] 3)) (.slice (some ⟨U.heap.size, 0, none⟩) 1 1) 1 (icl [x]) := by
  have hh : (U.alloc (.cells #[.int .i64 x] 3)).heap[U.heap.size]? = some (.cells #[.int .i64 x] 3 (0, 0)) := new_heap U _ _ rfl
  exact ⟨⟨rfl, .inr ⟨U.heap.size, 1, #[.int .i64 x], rfl, Nat.zero_le _, hh, Nat.le_refl _, by unfold maxLen; omega, rfl, rfl⟩⟩, fun k hk => (by cases hk; exact h.size), h.alloc h.size _⟩
theorem ints_row {V W : World} {v : Value} {xs : List Int} (h : ORow 3 1 V W v xs.length (icl xs)) : IsInts W v xs := by
  rcases h.at with ⟨h1, h2⟩ | ⟨g, c, h1, h2, h3, h4, h5⟩
  · exact .inl ⟨h1, List.length_eq_zero_iff.1 h2⟩
  · exact .inr ⟨g, c, h1, h4, fun j x hx => h5 j _ (by rw [List.getElem?_map, hx]; rfl)⟩
/-- Cells of a measure. -/
def MCells (W : World) (g off : Nat) (m : Ms) : Prop := g < W.heap.size ∧ W.cell? ⟨g, off, none⟩ = some (.string m.id) ∧ W.cell? ⟨g, off + 1, none⟩ = some (.string m.auth) ∧ W.cell? ⟨g, off + 2, none⟩ = some (.int .i64 m.kind) ∧ W.cell? ⟨g, off + 3, none⟩ = some (.string m.target) ∧
  W.cell? ⟨g, off + 4, none⟩ = some (.int .i64 m.op) ∧ W.cell? ⟨g, off + 5, none⟩ = some (.string m.name) ∧ W.cell? ⟨g, off + 6, none⟩ = some (.int .i64 m.cmp) ∧ W.cell? ⟨g, off + 7, none⟩ = some (.int .i64 m.num) ∧ W.cell? ⟨g, off + 8, none⟩ = some (.slice m.ka m.kn m.kc) ∧
  W.cell? ⟨g, off + 9, none⟩ = some (.int .i64 m.fr) ∧ W.cell? ⟨g, off + 10, none⟩ = some (.int .i64 m.un) ∧ W.cell? ⟨g, off + 11, none⟩ = some (.int .i64 m.wi)
theorem IsMs.at {w : World} {x : Option Addr} {n : Nat} {ms : List Ms} (h : IsMs w x n ms) {k : Nat} {m : Ms} (hk : k < n) (hm : ms[k]? = some m) : ∃ g off, x = some ⟨g, off, none⟩ ∧ ∀ W, Below w.heap.size w W → MCells W g (off + k * 12) m := by
  rcases h.2 with h | ⟨g, off, h1, h2, h3⟩
  · omega
  · refine ⟨g, off, h1, fun W hb => ?_⟩
    have hc : ∀ (i : Nat) (u : Value), m.v[i]? = some u → W.cell? ⟨g, off + k * 12 + i, none⟩ = some u := fun i u hu => (hb.cell (p := ⟨g, off + k * 12 + i, none⟩) h2).trans (h3 k m hm i u hu)
    exact ⟨Nat.lt_of_lt_of_le h2 hb.size, hc 0 _ rfl, hc 1 _ rfl, hc 2 _ rfl, hc 3 _ rfl, hc 4 _ rfl, hc 5 _ rfl, hc 6 _ rfl, hc 7 _ rfl, hc 8 _ rfl, hc 9 _ rfl, hc 10 _ rfl, hc 11 _ rfl⟩
theorem IsStrs.at {w : World} {x : Option Addr} {n : Nat} {au : List ByteArray} (h : IsStrs w x n au) (hn : 0 < n) : ∃ g off, x = some ⟨g, off, none⟩ ∧ ∀ W, Below w.heap.size w W → g < W.heap.size ∧ ∀ k < n, W.cell? ⟨g, off + k, none⟩ = some (.string (au.getD k ByteArray.empty)) := by
  rcases h.2 with h0 | ⟨g, off, h1, h2, h3⟩
  · omega
  · exact ⟨g, off, h1, fun W hb => ⟨Nat.lt_of_lt_of_le h2 hb.size, fun k hk => (hb.cell (p := ⟨g, off + k, none⟩) h2).trans (h3 k (by have := h.1; omega))⟩⟩
theorem IsZones.at {w : World} {x : Option Addr} {n : Nat} {zs : List Zn} (h : IsZones w x n zs) (hn : 0 < n) : ∃ g off, x = some ⟨g, off, none⟩ ∧ ∀ W, Below w.heap.size w W → g < W.heap.size ∧ ∀ k z, zs[k]? = some z → W.cell? ⟨g, off + k, none⟩ = some (.slice z.x z.n z.c) ∧ IsShifts W z.x z.n z.l := by
  rcases h.2 with h0 | ⟨g, off, h1, h2, h3⟩
  · omega
  · exact ⟨g, off, h1, fun W hb => ⟨Nat.lt_of_lt_of_le h2 hb.size, fun k z hz => ⟨(hb.cell (p := ⟨g, off + k, none⟩) h2).trans (h3 k z hz).1, (h3 k z hz).2.below hb⟩⟩⟩
theorem rput_pos {t : Int} {xs : List Int} (h : 0 < xs.length) : 0 < (rputF t xs).length := by
  rcases xs with _ | ⟨x, r⟩
  · simp at h
  · have : x ∈ rputF t (x :: r) := rputF_mem.2 (.inl (by simp))
    exact List.length_pos_of_mem this
set_option maxRecDepth 100000 in
set_option maxHeartbeats 4000000 in
theorem rChanges_c (w : World) (ma : Option Addr) (mn mc : Nat) (aa : Option Addr) (an ac : Nat) (za : Option Addr) (zn zc : Nat) (ms : List Ms) (au : List ByteArray) (zs : List Zn) (hE : ChEnv w ma mn aa an ac za zn ms au zs) :
    Calls Tryd.prog 17 #[.slice ma mn mc, .slice aa an ac, .slice za zn zc] w (ChPost w (changesF ms au (zs.map (·.l)))) := by
  have hml := hE.hm.1
  have hal := hE.ha.1
  have hzl := hE.hz.1
  have hac := hE.hac
  have HE := Lib.hid hE
  clear hE
  by_cases h1 : 200 < mn
  · have He : Hid (changesF ms au (zs.map (·.l)) = ([], 2)) := by show _ = _; unfold changesF; rw [if_pos (by omega)]
    clear hml hal hzl
    go_enter Tryd.func17, Tryd.ntmps17
    go_wp2_with fail
    refine bodyPost_ret (results_tmp2 rfl _ _ _) (by rfl) ⟨.slice none 0 0, ?_, ?_, Below.refl _ _⟩
    · rw [He.out]; rfl
    · rw [He.out]; exact .inl ⟨rfl, rfl⟩
  by_cases h2 : 6 < an
  · have He : Hid (changesF ms au (zs.map (·.l)) = ([], 2)) := by show _ = _; unfold changesF; rw [if_pos (by omega)]
    clear hml hal hzl
    go_enter Tryd.func17, Tryd.ntmps17
    go_wp2_with fail
    refine bodyPost_ret (results_tmp2 rfl _ _ _) (by rfl) ⟨.slice none 0 0, ?_, ?_, Below.refl _ _⟩
    · rw [He.out]; rfl
    · rw [He.out]; exact .inl ⟨rfl, rfl⟩
  by_cases h3 : an = zn
  · subst h3
    have hzm : (zs.map (·.l)).length = an := by simpa using hzl
    have HF : Hid (∀ i, i < an → authsOk au (zs.map (·.l)) i = false → changesF ms au (zs.map (·.l)) = ([], 1)) := fun i hi hb => changes_bad (by omega) (by omega) (by omega) (by omega) hb
    have HG : Hid ((∀ i, i < an → authsOk au (zs.map (·.l)) i = true) → changesF ms au (zs.map (·.l)) = chg au (zs.map (·.l)) ms [0]) := fun h => changes_good (by omega) (by omega) (by omega) fun i hi => h i (by omega)
    have HLn := Lib.hid (And.intro hml (And.intro hal (And.intro hzl hzm)))
    clear hml hal hzl hzm
    go_enter Tryd.func17, Tryd.ntmps17
    go_wp2_with fail
    go_loopg [8] an (fun gk i wr => ∃ k : Nat, gk = an - k ∧ k ≤ an ∧ i = .int .i64 (k : Int) ∧ Hid (∀ j, j < k → authsOk au (zs.map (·.l)) j = true) ∧ Hid (Below w.heap.size w wr))
    case atStart => exact ⟨0, rfl, Nat.zero_le _, rfl, Lib.hid (fun j hj => by omega), Below.refl _ _⟩
    case round =>
      rename_i J1 K1 hJ1 hK1
      obtain ⟨k, rfl, hk, rfl, hv, hw⟩ := hrel
      by_cases hlt : k < an
      · obtain ⟨g, off, rfl, hAc⟩ := HE.out.ha.at (by omega)
        have HAc := Lib.hid hAc
        clear hAc
        obtain ⟨s, hs⟩ : ∃ s, s = au.getD k ByteArray.empty := ⟨_, rfl⟩
        have hsm : s ∈ au := by
          rw [hs, List.getD_eq_getElem?_getD, List.getElem?_eq_getElem (by have := HLn.out.2.1; omega)]
          exact List.getElem_mem _
        obtain ⟨hg, ha⟩ := HAc.out wr hw.out
        have c0 := ha k hlt
        rw [← hs, ← bs_of s] at c0
        have Hs := Lib.hid (And.intro hs hsm)
        clear hs hsm ha
        go_wp2_with fail
        go_at_call 34
        refine (rName_c s.data.toList wr (HE.out.hl s Hs.out.2)).mono ?_
        rintro e W2 ⟨rfl, hb⟩
        obtain rfl : W2 = wr := hb
        rw [← identB_name]
        clear c0
        cases hi : identB s.data.toList
        · have He : Hid (changesF ms au (zs.map (·.l)) = ([], 1)) := HF.out k hlt (by unfold authsOk; rw [← Hs.out.1, hi]; rfl)
          clear hi
          go_wp2_with fail
          refine bodyPost_ret (results_tmp2 rfl _ _ _) (by rfl) ⟨.slice none 0 0, ?_, ?_, hw.out⟩
          · rw [He.out]; rfl
          · rw [He.out]; exact .inl ⟨rfl, rfl⟩
        obtain ⟨gz, oz, rfl, hZc⟩ := HE.out.hz.at (by omega)
        have HZc := Lib.hid hZc
        clear hZc
        obtain ⟨z, hzk⟩ : ∃ z, zs[k]? = some z := ⟨_, List.getElem?_eq_getElem (by have := HLn.out.2.2.1; omega)⟩
        obtain ⟨hgz, hz⟩ := HZc.out W2 hw.out
        obtain ⟨cz, hsh⟩ := hz k z hzk
        have hzl : (zs.map (·.l)).getD k [] = z.l := by rw [List.getD_eq_getElem?_getD, List.getElem?_map, hzk]; rfl
        have Hzl := Lib.hid hzl
        have Hsh := Lib.hid hsh
        obtain ⟨zx, zn', zc', zl⟩ := z
        dsimp only at cz Hzl Hsh
        have Hi := Lib.hid hi
        clear hz hzk hsh hzl hi
        go_wp2_with fail
        go_at_call 25
        refine (rValid_c zx zn' zc' zl W2 Hsh.out).mono ?_
        rintro e W3 ⟨rfl, hb⟩
        have HW3 := Lib.hid (hw.out.trans (hb.mono hw.out.size))
        clear hb cz hgz hg hw
        cases hv2 : validB zl
        · have He : Hid (changesF ms au (zs.map (·.l)) = ([], 1)) := HF.out k hlt (by unfold authsOk; rw [← Hs.out.1, Hi.out, Hzl.out, hv2]; rfl)
          clear hv2
          go_wp2_with fail
          refine bodyPost_ret (results_tmp2 rfl _ _ _) (by rfl) ⟨.slice none 0 0, ?_, ?_, HW3.out⟩
          · rw [He.out]; rfl
          · rw [He.out]; exact .inl ⟨rfl, rfl⟩
        have Hv2 := Lib.hid hv2
        clear hv2
        go_wp2_with fail
        go_loopg [9] k (fun gk i wr => ∃ q : Nat, gk = k - q ∧ q ≤ k ∧ i = .int .i64 (q : Int) ∧ Hid (∀ j, j < q → au.getD j ByteArray.empty ≠ s) ∧ Hid (Below w.heap.size w wr))
        case atStart => exact ⟨0, rfl, Nat.zero_le _, rfl, Lib.hid (fun j hj => by omega), HW3⟩
        case round =>
          rename_i J2 K2 hJ2 hK2
          clear HW3
          obtain ⟨q, rfl, hq, rfl, hq2, hw⟩ := hrel
          by_cases hqk : q < k
          · obtain ⟨hg, ha⟩ := HAc.out wr hw.out
            have c0 := ha k hlt
            have c1 := ha q (by omega)
            rw [← Hs.out.1] at c0
            obtain ⟨s2, hs2⟩ : ∃ s2, s2 = au.getD q ByteArray.empty := ⟨_, rfl⟩
            rw [← hs2] at c1
            have Hs2 := Lib.hid hs2
            have HWD : Hid (Below w.heap.size w wr.drew) := hw.out.drew
            clear hs2 ha hw
            by_cases hse : s = s2
            · have He : Hid (changesF ms au (zs.map (·.l)) = ([], 1)) := HF.out k hlt (by
                unfold authsOk
                have : Lib.containsS (au.take k) (au.getD k ByteArray.empty) = true := by
                  rw [Lib.containsS_iff, ← Hs.out.1, hse, Hs2.out, ← Lib.getD_takeS au k q hqk, List.getD_eq_getElem?_getD, List.getElem?_eq_getElem (by rw [List.length_take]; have := HLn.out.2.1; omega)]
                  exact List.getElem_mem _
                rw [this]
                simp)
              have hb : (s.toList == s2.toList) = true := (Lib.bytes_beq_iff s s2).2 hse
              clear hse hq2
              go_wp2_with fail
              refine wp_region_can [] (List.range 9) (by kernel_rfl) (by kernel_rfl) ?_
              iterate 9 (refine cl_do rfl rfl rfl rfl (fun _ _ => ?_); go_wp2_with fail)
              refine cl_nil ?_
              go_wp2_with fail
              refine bodyPost_ret (results_tmp2 rfl _ _ _) (by rfl) ⟨.slice none 0 0, ?_, ?_, HWD.out⟩
              · rw [He.out]; rfl
              · rw [He.out]; exact .inl ⟨rfl, rfl⟩
            · have hb : (s.toList == s2.toList) = false := (Lib.bytes_beq_false_iff s s2).2 hse
              have HQ : Hid (∀ j, j < q + 1 → au.getD j ByteArray.empty ≠ s) := Lib.hid fun j hj => by
                by_cases hjq : j = q
                · subst hjq; rw [← Hs2.out]; exact fun h => hse h.symm
                · exact hq2.out j (by omega)
              clear hse hq2
              go_wp2_with fail
              refine wp_region_can [] (List.range 9) (by kernel_rfl) (by kernel_rfl) ?_
              iterate 9 (refine cl_do rfl rfl rfl rfl (fun _ _ => ?_); go_wp2_with fail)
              refine cl_nil ?_
              go_wp2_with fail
              go_roundg (k - (q + 1))
              case measure => omega
              case rel => exact ⟨q + 1, rfl, by omega, by go_num, HQ, HWD⟩
          · have HN : Hid (∀ j, j < k + 1 → authsOk au (zs.map (·.l)) j = true) := Lib.hid fun j hj => by
              by_cases hjk : j = k
              · subst hjk
                have hcs : Lib.containsS (au.take j) s = false := by
                  cases hc : Lib.containsS (au.take j) s with
                  | false => rfl
                  | true =>
                    rw [Lib.containsS_iff] at hc
                    obtain ⟨p, hp, he⟩ := List.mem_iff_getElem.1 hc
                    rw [List.length_take] at hp
                    have h5 := hq2.out p (by omega)
                    rw [← Lib.getD_takeS au j p (by omega), List.getD_eq_getElem?_getD, List.getElem?_eq_getElem (by rw [List.length_take]; omega)] at h5
                    exact absurd he h5
                unfold authsOk
                rw [← Hs.out.1, Hi.out, Hzl.out, Hv2.out, hcs]
                rfl
              · exact hv.out j (by omega)
            clear hJ2 hK2 hq2 hv
            go_wp2_with fail
            go_roundg (an - (k + 1))
            case measure => omega
            case rel => exact ⟨k + 1, rfl, by omega, by go_num, HN, hw⟩
      · have HC : Hid (changesF ms au (zs.map (·.l)) = chg au (zs.map (·.l)) ms [0]) := HG.out fun i hi => hv.out i (by omega)
        have HOk : Hid (∀ i, i < an → authsOk au (zs.map (·.l)) i = true) := fun i hi => hv.out i (by omega)
        clear hJ1 hK1 HF HG hv
        go_wp2_with fail
        have HO := Lib.hid (one_row w wr 0 hw.out)
        go_loopg [10, 11] mn (fun gk v i wr => ∃ (j : Nat) (xs : List Int), gk = mn - j ∧ j ≤ mn ∧ i = .int .i64 (j : Int) ∧ Hid (chg au (zs.map (·.l)) ms [0] = chg au (zs.map (·.l)) (ms.drop j) xs) ∧ Hid (xs.Pairwise (· < ·) ∧ xs.length ≤ 3 * j + 1 ∧ 0 < xs.length) ∧ Hid (ORow 3 1 w wr v xs.length (icl xs)))
        case atStart => exact ⟨0, [0], rfl, Nat.zero_le _, rfl, rfl, Lib.hid ⟨by simp, by simp, by simp⟩, HO⟩
        case round =>
          rename_i J1 K1 hJ1 hK1
          clear HO hw hlt hk
          obtain ⟨k, xs, rfl, hk, rfl, hv, HSo0, HR⟩ := hrel
          by_cases hlt : k < mn
          · obtain ⟨m, hmk⟩ : ∃ m, ms[k]? = some m := ⟨_, List.getElem?_eq_getElem (by have := HLn.out.1; omega)⟩
            have HStep : Hid ((Lib.idxOfS au m.auth < 0 → chg au (zs.map (·.l)) ms [0] = chg au (zs.map (·.l)) (ms.drop (k + 1)) xs) ∧
                (0 ≤ Lib.idxOfS au m.auth ∧ datedB m.kind m.fr m.un m.wi = true → chg au (zs.map (·.l)) ms [0] = chg au (zs.map (·.l)) (ms.drop (k + 1)) (beginsF ((zs.map (·.l)).getD (Lib.idxOfS au m.auth).toNat []) (daysF m) xs)) ∧
                (0 ≤ Lib.idxOfS au m.auth ∧ datedB m.kind m.fr m.un m.wi = false → chg au (zs.map (·.l)) ms [0] = ([], 1))) := by
              obtain ⟨q1, q2⟩ := List.getElem?_eq_some_iff.1 hmk
              have hd : ms.drop k = m :: ms.drop (k + 1) := by rw [List.drop_eq_getElem_cons q1, q2]
              refine ⟨fun h => ?_, fun h => ?_, fun h => ?_⟩
              · rw [hv.out, hd]; simp only [chg]; rw [if_pos h]
              · rw [hv.out, hd]; simp only [chg]; rw [if_neg (by omega), if_pos h.2]
              · rw [hv.out, hd]; simp only [chg]; rw [if_neg (by omega), if_neg (by rw [h.2]; simp)]
            have HI : Hid (∀ q, q < an → (au.getD q ByteArray.empty = m.auth ↔ Lib.idxOfS au m.auth = q)) := fun q hq => idx_is (by have := HLn.out.2.1; omega) fun i hi => by
              have h5 := HOk.out i (by have := HLn.out.2.1; omega)
              unfold authsOk at h5
              simp only [Bool.and_eq_true, Bool.not_eq_true'] at h5
              exact h5.2.2
            have hidx := idxOfS_lt au m.auth
            obtain ⟨I, hI⟩ : ∃ I, I = Lib.idxOfS au m.auth := ⟨_, rfl⟩
            rw [← hI] at HStep HI hidx
            have hIan : I < an := by have := HLn.out.2.1; omega
            obtain ⟨g, off, rfl, hM⟩ := HE.out.hm.at hlt hmk
            have HMc := Lib.hid hM
            clear hI hM hmk hv hidx
            go_wp2_with fail
            go_loopg [10, 12] an (fun gk v i wr => ∃ (q : Nat) (ys : List Int), gk = an - q ∧ q ≤ an ∧ i = .int .i64 (q : Int) ∧ Hid ((I < 0 ∨ (q : Int) ≤ I → ys = xs) ∧ (0 ≤ I ∧ I < (q : Int) → datedB m.kind m.fr m.un m.wi = true ∧ ys = rstep ((zs.map (·.l)).getD I.toNat []) m xs)) ∧ Hid (ORow 3 1 w wr v ys.length (icl ys)))
            case atStart => exact ⟨0, xs, rfl, Nat.zero_le _, rfl, Lib.hid ⟨fun _ => rfl, fun h => by omega⟩, HR⟩
            case round =>
              rename_i J2 K2 hJ2 hK2
              clear HR
              obtain ⟨q, ys, rfl, hq, rfl, HY, HR⟩ := hrel
              by_cases hqa : q < an
              · obtain ⟨ga, oa, rfl, hAc⟩ := HE.out.ha.at (by omega)
                obtain ⟨gz, oz, rfl, hZc⟩ := HE.out.hz.at (by omega)
                have HZc := Lib.hid hZc
                obtain ⟨z, hzk⟩ : ∃ z, zs[q]? = some z := ⟨_, List.getElem?_eq_getElem (by have := HLn.out.2.2.1; omega)⟩
                have hzl : (zs.map (·.l)).getD q [] = z.l := by rw [List.getD_eq_getElem?_getD, List.getElem?_map, hzk]; rfl
                have Hzl := Lib.hid hzl
                have HZk := Lib.hid hzk
                obtain ⟨zx, zn', zc', zl⟩ := z
                dsimp only at Hzl
                obtain ⟨hga, ha⟩ := hAc _ HR.out.below
                have c1 := ha q hqa
                obtain ⟨s2, hs2⟩ : ∃ s2, s2 = au.getD q ByteArray.empty := ⟨_, rfl⟩
                rw [← hs2] at c1
                have HIq := Lib.hid (HI.out q hqa)
                rw [← hs2] at HIq
                clear hs2 ha hAc hZc hzk hzl
                by_cases hse : s2 = m.auth
                · have hIq : I = (q : Int) := HIq.out.1 hse
                  rw [HY.out.1 (by omega)] at HR
                  have hb : (m.auth.toList == s2.toList) = true := (Lib.bytes_beq_iff _ _).2 hse.symm
                  obtain ⟨zm, m0, m1, m2, m3, m4, m5, m6, m7, m8, m9, m10, m11⟩ := HMc.out _ HR.out.below
                  obtain ⟨zz, hz⟩ := HZc.out _ HR.out.below
                  obtain ⟨cz, hsh⟩ := hz q _ HZk.out
                  have Hsh := Lib.hid hsh
                  dsimp only at cz Hsh
                  clear hz hsh
                  have hau : Hid (m.auth = s2) := hse.symm
                  clear hse HIq HY
                  go_wp2_with fail
                  refine wp_region_can [] (List.range 10) (by kernel_rfl) (by kernel_rfl) ?_
                  iterate 10 (refine cl_do rfl rfl rfl rfl (fun _ _ => ?_); go_wp2_with fail)
                  refine cl_nil ?_
                  replace HR := Lib.hid (HR.out.keep ((Below.refl _ _).drew))
                  go_wp2_with fail
                  go_at_call 24
                  refine (rDated_c m _).mono ?_
                  rintro e W3 ⟨rfl, hb3⟩
                  replace HR := Lib.hid (HR.out.keep hb3)
                  clear hb3 c1 hga hb
                  clear zm m0 m1 m2 m3 m4 m5 m6 m7 m8 m9 m10 m11 zz cz Hsh
                  cases hdt : datedB m.kind m.fr m.un m.wi
                  · have He : Hid (changesF ms au (zs.map (·.l)) = ([], 1)) := HC.out.trans (HStep.out.2.2 ⟨by omega, hdt⟩)
                    clear hdt
                    go_wp2_with fail
                    refine bodyPost_ret (results_tmp2 rfl _ _ _) (by rfl) ⟨.slice none 0 0, ?_, ?_, HR.out.below⟩
                    · rw [He.out]; rfl
                    · rw [He.out]; exact .inl ⟨rfl, rfl⟩
                  have Hd := Lib.hid hdt
                  obtain ⟨d1, d2, d3, d4, d5, -⟩ := dated_in hdt
                  clear hdt
                  have HSo := HSo0
                  obtain ⟨zm, m0, m1, m2, m3, m4, m5, m6, m7, m8, m9, m10, m11⟩ := HMc.out _ HR.out.below
                  obtain ⟨zz, hz⟩ := HZc.out _ HR.out.below
                  obtain ⟨cz, hsh⟩ := hz q _ HZk.out
                  have Hsh := Lib.hid hsh
                  dsimp only at cz Hsh
                  clear hz hsh
                  by_cases hun : 0 ≤ m.un
                  · by_cases hwi : 0 < m.wi
                    · go_wp2_with fail
                      refine wp_region_can [] (List.range 13) (by kernel_rfl) (by kernel_rfl) ?_
                      iterate 10 (refine cl_do rfl rfl rfl rfl (fun _ _ => ?_); go_wp2_with fail)
                      refine cl_do rfl rfl rfl rfl (fun _ _ => ?_)
                      go_wp2_with fail
                      go_at_call 26
                      refine (rBegin_c zx zn' zc' zl (m.fr) _ (Hsh.out.below (by exact (Below.refl _ _).drew))).mono ?_
                      rintro e W4 ⟨rfl, hb⟩
                      replace HR := Lib.hid ((HR.out.keep ((Below.refl _ _).drew)).keep hb)
                      clear hb
                      clear zm m0 m1 m2 m3 m4 m5 m6 m7 m8 m9 m10 m11 zz cz Hsh
                      go_wp2_with fail
                      refine cl_do rfl rfl rfl rfl (fun _ _ => ?_)
                      go_wp2_with fail
                      go_at_call 35
                      refine (rPut_c w _ _ (xs) (beginF zl (m.fr)) HR.out HSo.out.1 (by have := HSo.out.2.1; omega) HSo.out.2.2).mono ?_
                      rintro e W5 ⟨v5, rfl, hr⟩
                      replace HR := Lib.hid hr
                      clear hr
                      replace HSo : Hid ((rputF (beginF zl (m.fr)) (xs)).Pairwise (· < ·) ∧ (rputF (beginF zl (m.fr)) (xs)).length ≤ 3 * k + 1 + 1 ∧ 0 < (rputF (beginF zl (m.fr)) (xs)).length) := by
                        have h1 := HSo.out
                        have h2 := rputF_len (beginF zl (m.fr)) (xs)
                        refine ⟨rputF_sorted h1.1, by omega, rput_pos h1.2.2⟩
                      go_wp2_with fail
                      refine cl_do rfl rfl rfl rfl (fun _ _ => ?_)
                      go_wp2_with fail
                      refine cl_nil ?_
                      obtain ⟨zm, m0, m1, m2, m3, m4, m5, m6, m7, m8, m9, m10, m11⟩ := HMc.out _ HR.out.below
                      obtain ⟨zz, hz⟩ := HZc.out _ HR.out.below
                      obtain ⟨cz, hsh⟩ := hz q _ HZk.out
                      have Hsh := Lib.hid hsh
                      dsimp only at cz Hsh
                      clear hz hsh
                      go_wp2_with fail
                      refine wp_region_can [] (List.range 13) (by kernel_rfl) (by kernel_rfl) ?_
                      iterate 10 (refine cl_do rfl rfl rfl rfl (fun _ _ => ?_); go_wp2_with fail)
                      refine cl_do rfl rfl rfl rfl (fun _ _ => ?_)
                      go_wp2_with fail
                      go_at_call 26
                      refine (rBegin_c zx zn' zc' zl (m.un) _ (Hsh.out.below (by exact (Below.refl _ _).drew))).mono ?_
                      rintro e W6 ⟨rfl, hb⟩
                      replace HR := Lib.hid ((HR.out.keep ((Below.refl _ _).drew)).keep hb)
                      clear hb
                      clear zm m0 m1 m2 m3 m4 m5 m6 m7 m8 m9 m10 m11 zz cz Hsh
                      go_wp2_with fail
                      refine cl_do rfl rfl rfl rfl (fun _ _ => ?_)
                      go_wp2_with fail
                      go_at_call 35
                      refine (rPut_c w _ _ (rputF (beginF zl m.fr) xs) (beginF zl (m.un)) HR.out HSo.out.1 (by have := HSo.out.2.1; omega) HSo.out.2.2).mono ?_
                      rintro e W7 ⟨v7, rfl, hr⟩
                      replace HR := Lib.hid hr
                      clear hr
                      replace HSo : Hid ((rputF (beginF zl (m.un)) (rputF (beginF zl m.fr) xs)).Pairwise (· < ·) ∧ (rputF (beginF zl (m.un)) (rputF (beginF zl m.fr) xs)).length ≤ 3 * k + 1 + 2 ∧ 0 < (rputF (beginF zl (m.un)) (rputF (beginF zl m.fr) xs)).length) := by
                        have h1 := HSo.out
                        have h2 := rputF_len (beginF zl (m.un)) (rputF (beginF zl m.fr) xs)
                        refine ⟨rputF_sorted h1.1, by omega, rput_pos h1.2.2⟩
                      go_wp2_with fail
                      refine cl_do rfl rfl rfl rfl (fun _ _ => ?_)
                      go_wp2_with fail
                      refine cl_nil ?_
                      obtain ⟨zm, m0, m1, m2, m3, m4, m5, m6, m7, m8, m9, m10, m11⟩ := HMc.out _ HR.out.below
                      obtain ⟨zz, hz⟩ := HZc.out _ HR.out.below
                      obtain ⟨cz, hsh⟩ := hz q _ HZk.out
                      have Hsh := Lib.hid hsh
                      dsimp only at cz Hsh
                      clear hz hsh
                      go_wp2_with fail
                      refine wp_region_can [] (List.range 19) (by kernel_rfl) (by kernel_rfl) ?_
                      iterate 16 (refine cl_do rfl rfl rfl rfl (fun _ _ => ?_); go_wp2_with fail)
                      refine cl_do rfl rfl rfl rfl (fun _ _ => ?_)
                      go_wp2_with fail
                      go_at_call 26
                      refine (rBegin_c zx zn' zc' zl (m.fr + m.wi) _ (Hsh.out.below (by exact (Below.refl _ _).drew))).mono ?_
                      rintro e W8 ⟨rfl, hb⟩
                      replace HR := Lib.hid ((HR.out.keep ((Below.refl _ _).drew)).keep hb)
                      clear hb
                      clear zm m0 m1 m2 m3 m4 m5 m6 m7 m8 m9 m10 m11 zz cz Hsh
                      go_wp2_with fail
                      refine cl_do rfl rfl rfl rfl (fun _ _ => ?_)
                      go_wp2_with fail
                      go_at_call 35
                      refine (rPut_c w _ _ (rputF (beginF zl m.un) (rputF (beginF zl m.fr) xs)) (beginF zl (m.fr + m.wi)) HR.out HSo.out.1 (by have := HSo.out.2.1; omega) HSo.out.2.2).mono ?_
                      rintro e W9 ⟨v9, rfl, hr⟩
                      replace HR := Lib.hid hr
                      clear hr
                      replace HSo : Hid ((rputF (beginF zl (m.fr + m.wi)) (rputF (beginF zl m.un) (rputF (beginF zl m.fr) xs))).Pairwise (· < ·) ∧ (rputF (beginF zl (m.fr + m.wi)) (rputF (beginF zl m.un) (rputF (beginF zl m.fr) xs))).length ≤ 3 * k + 1 + 3 ∧ 0 < (rputF (beginF zl (m.fr + m.wi)) (rputF (beginF zl m.un) (rputF (beginF zl m.fr) xs))).length) := by
                        have h1 := HSo.out
                        have h2 := rputF_len (beginF zl (m.fr + m.wi)) (rputF (beginF zl m.un) (rputF (beginF zl m.fr) xs))
                        refine ⟨rputF_sorted h1.1, by omega, rput_pos h1.2.2⟩
                      go_wp2_with fail
                      refine cl_do rfl rfl rfl rfl (fun _ _ => ?_)
                      go_wp2_with fail
                      refine cl_nil ?_
                      obtain ⟨zm, m0, m1, m2, m3, m4, m5, m6, m7, m8, m9, m10, m11⟩ := HMc.out _ HR.out.below
                      obtain ⟨zz, hz⟩ := HZc.out _ HR.out.below
                      obtain ⟨cz, hsh⟩ := hz q _ HZk.out
                      have Hsh := Lib.hid hsh
                      dsimp only at cz Hsh
                      clear hz hsh
                      go_wp2_with fail
                      have HX : Hid ((I < 0 ∨ ((q + 1 : Nat) : Int) ≤ I → (rputF (beginF zl (m.fr + m.wi)) (rputF (beginF zl m.un) (rputF (beginF zl m.fr) xs))) = xs) ∧ (0 ≤ I ∧ I < ((q + 1 : Nat) : Int) → datedB m.kind m.fr m.un m.wi = true ∧ (rputF (beginF zl (m.fr + m.wi)) (rputF (beginF zl m.un) (rputF (beginF zl m.fr) xs))) = rstep ((zs.map (·.l)).getD I.toNat []) m xs)) := by
                        refine ⟨fun h => by omega, fun _ => ⟨Hd.out, ?_⟩⟩
                        rw [hIq, Int.toNat_natCast, Hzl.out]
                        unfold rstep rstep2 rstep1
                        rw [if_pos (by omega), if_pos (by omega)]
                      go_roundg (an - (q + 1))
                      case measure => omega
                      case rel => exact ⟨q + 1, _, rfl, by omega, by go_num, HX, HR⟩
                    · go_wp2_with fail
                      refine wp_region_can [] (List.range 13) (by kernel_rfl) (by kernel_rfl) ?_
                      iterate 10 (refine cl_do rfl rfl rfl rfl (fun _ _ => ?_); go_wp2_with fail)
                      refine cl_do rfl rfl rfl rfl (fun _ _ => ?_)
                      go_wp2_with fail
                      go_at_call 26
                      refine (rBegin_c zx zn' zc' zl (m.fr) _ (Hsh.out.below (by exact (Below.refl _ _).drew))).mono ?_
                      rintro e W4 ⟨rfl, hb⟩
                      replace HR := Lib.hid ((HR.out.keep ((Below.refl _ _).drew)).keep hb)
                      clear hb
                      clear zm m0 m1 m2 m3 m4 m5 m6 m7 m8 m9 m10 m11 zz cz Hsh
                      go_wp2_with fail
                      refine cl_do rfl rfl rfl rfl (fun _ _ => ?_)
                      go_wp2_with fail
                      go_at_call 35
                      refine (rPut_c w _ _ (xs) (beginF zl (m.fr)) HR.out HSo.out.1 (by have := HSo.out.2.1; omega) HSo.out.2.2).mono ?_
                      rintro e W5 ⟨v5, rfl, hr⟩
                      replace HR := Lib.hid hr
                      clear hr
                      replace HSo : Hid ((rputF (beginF zl (m.fr)) (xs)).Pairwise (· < ·) ∧ (rputF (beginF zl (m.fr)) (xs)).length ≤ 3 * k + 1 + 1 ∧ 0 < (rputF (beginF zl (m.fr)) (xs)).length) := by
                        have h1 := HSo.out
                        have h2 := rputF_len (beginF zl (m.fr)) (xs)
                        refine ⟨rputF_sorted h1.1, by omega, rput_pos h1.2.2⟩
                      go_wp2_with fail
                      refine cl_do rfl rfl rfl rfl (fun _ _ => ?_)
                      go_wp2_with fail
                      refine cl_nil ?_
                      obtain ⟨zm, m0, m1, m2, m3, m4, m5, m6, m7, m8, m9, m10, m11⟩ := HMc.out _ HR.out.below
                      obtain ⟨zz, hz⟩ := HZc.out _ HR.out.below
                      obtain ⟨cz, hsh⟩ := hz q _ HZk.out
                      have Hsh := Lib.hid hsh
                      dsimp only at cz Hsh
                      clear hz hsh
                      go_wp2_with fail
                      refine wp_region_can [] (List.range 13) (by kernel_rfl) (by kernel_rfl) ?_
                      iterate 10 (refine cl_do rfl rfl rfl rfl (fun _ _ => ?_); go_wp2_with fail)
                      refine cl_do rfl rfl rfl rfl (fun _ _ => ?_)
                      go_wp2_with fail
                      go_at_call 26
                      refine (rBegin_c zx zn' zc' zl (m.un) _ (Hsh.out.below (by exact (Below.refl _ _).drew))).mono ?_
                      rintro e W6 ⟨rfl, hb⟩
                      replace HR := Lib.hid ((HR.out.keep ((Below.refl _ _).drew)).keep hb)
                      clear hb
                      clear zm m0 m1 m2 m3 m4 m5 m6 m7 m8 m9 m10 m11 zz cz Hsh
                      go_wp2_with fail
                      refine cl_do rfl rfl rfl rfl (fun _ _ => ?_)
                      go_wp2_with fail
                      go_at_call 35
                      refine (rPut_c w _ _ (rputF (beginF zl m.fr) xs) (beginF zl (m.un)) HR.out HSo.out.1 (by have := HSo.out.2.1; omega) HSo.out.2.2).mono ?_
                      rintro e W7 ⟨v7, rfl, hr⟩
                      replace HR := Lib.hid hr
                      clear hr
                      replace HSo : Hid ((rputF (beginF zl (m.un)) (rputF (beginF zl m.fr) xs)).Pairwise (· < ·) ∧ (rputF (beginF zl (m.un)) (rputF (beginF zl m.fr) xs)).length ≤ 3 * k + 1 + 2 ∧ 0 < (rputF (beginF zl (m.un)) (rputF (beginF zl m.fr) xs)).length) := by
                        have h1 := HSo.out
                        have h2 := rputF_len (beginF zl (m.un)) (rputF (beginF zl m.fr) xs)
                        refine ⟨rputF_sorted h1.1, by omega, rput_pos h1.2.2⟩
                      go_wp2_with fail
                      refine cl_do rfl rfl rfl rfl (fun _ _ => ?_)
                      go_wp2_with fail
                      refine cl_nil ?_
                      obtain ⟨zm, m0, m1, m2, m3, m4, m5, m6, m7, m8, m9, m10, m11⟩ := HMc.out _ HR.out.below
                      obtain ⟨zz, hz⟩ := HZc.out _ HR.out.below
                      obtain ⟨cz, hsh⟩ := hz q _ HZk.out
                      have Hsh := Lib.hid hsh
                      dsimp only at cz Hsh
                      clear hz hsh
                      go_wp2_with fail
                      have HX : Hid ((I < 0 ∨ ((q + 1 : Nat) : Int) ≤ I → (rputF (beginF zl m.un) (rputF (beginF zl m.fr) xs)) = xs) ∧ (0 ≤ I ∧ I < ((q + 1 : Nat) : Int) → datedB m.kind m.fr m.un m.wi = true ∧ (rputF (beginF zl m.un) (rputF (beginF zl m.fr) xs)) = rstep ((zs.map (·.l)).getD I.toNat []) m xs)) := by
                        refine ⟨fun h => by omega, fun _ => ⟨Hd.out, ?_⟩⟩
                        rw [hIq, Int.toNat_natCast, Hzl.out]
                        unfold rstep rstep2 rstep1
                        rw [if_neg (by omega), if_pos (by omega)]
                      go_roundg (an - (q + 1))
                      case measure => omega
                      case rel => exact ⟨q + 1, _, rfl, by omega, by go_num, HX, HR⟩
                  · by_cases hwi : 0 < m.wi
                    · go_wp2_with fail
                      refine wp_region_can [] (List.range 13) (by kernel_rfl) (by kernel_rfl) ?_
                      iterate 10 (refine cl_do rfl rfl rfl rfl (fun _ _ => ?_); go_wp2_with fail)
                      refine cl_do rfl rfl rfl rfl (fun _ _ => ?_)
                      go_wp2_with fail
                      go_at_call 26
                      refine (rBegin_c zx zn' zc' zl (m.fr) _ (Hsh.out.below (by exact (Below.refl _ _).drew))).mono ?_
                      rintro e W4 ⟨rfl, hb⟩
                      replace HR := Lib.hid ((HR.out.keep ((Below.refl _ _).drew)).keep hb)
                      clear hb
                      clear zm m0 m1 m2 m3 m4 m5 m6 m7 m8 m9 m10 m11 zz cz Hsh
                      go_wp2_with fail
                      refine cl_do rfl rfl rfl rfl (fun _ _ => ?_)
                      go_wp2_with fail
                      go_at_call 35
                      refine (rPut_c w _ _ (xs) (beginF zl (m.fr)) HR.out HSo.out.1 (by have := HSo.out.2.1; omega) HSo.out.2.2).mono ?_
                      rintro e W5 ⟨v5, rfl, hr⟩
                      replace HR := Lib.hid hr
                      clear hr
                      replace HSo : Hid ((rputF (beginF zl (m.fr)) (xs)).Pairwise (· < ·) ∧ (rputF (beginF zl (m.fr)) (xs)).length ≤ 3 * k + 1 + 1 ∧ 0 < (rputF (beginF zl (m.fr)) (xs)).length) := by
                        have h1 := HSo.out
                        have h2 := rputF_len (beginF zl (m.fr)) (xs)
                        refine ⟨rputF_sorted h1.1, by omega, rput_pos h1.2.2⟩
                      go_wp2_with fail
                      refine cl_do rfl rfl rfl rfl (fun _ _ => ?_)
                      go_wp2_with fail
                      refine cl_nil ?_
                      obtain ⟨zm, m0, m1, m2, m3, m4, m5, m6, m7, m8, m9, m10, m11⟩ := HMc.out _ HR.out.below
                      obtain ⟨zz, hz⟩ := HZc.out _ HR.out.below
                      obtain ⟨cz, hsh⟩ := hz q _ HZk.out
                      have Hsh := Lib.hid hsh
                      dsimp only at cz Hsh
                      clear hz hsh
                      go_wp2_with fail
                      refine wp_region_can [] (List.range 19) (by kernel_rfl) (by kernel_rfl) ?_
                      iterate 16 (refine cl_do rfl rfl rfl rfl (fun _ _ => ?_); go_wp2_with fail)
                      refine cl_do rfl rfl rfl rfl (fun _ _ => ?_)
                      go_wp2_with fail
                      go_at_call 26
                      refine (rBegin_c zx zn' zc' zl (m.fr + m.wi) _ (Hsh.out.below (by exact (Below.refl _ _).drew))).mono ?_
                      rintro e W8 ⟨rfl, hb⟩
                      replace HR := Lib.hid ((HR.out.keep ((Below.refl _ _).drew)).keep hb)
                      clear hb
                      clear zm m0 m1 m2 m3 m4 m5 m6 m7 m8 m9 m10 m11 zz cz Hsh
                      go_wp2_with fail
                      refine cl_do rfl rfl rfl rfl (fun _ _ => ?_)
                      go_wp2_with fail
                      go_at_call 35
                      refine (rPut_c w _ _ (rputF (beginF zl m.fr) xs) (beginF zl (m.fr + m.wi)) HR.out HSo.out.1 (by have := HSo.out.2.1; omega) HSo.out.2.2).mono ?_
                      rintro e W9 ⟨v9, rfl, hr⟩
                      replace HR := Lib.hid hr
                      clear hr
                      replace HSo : Hid ((rputF (beginF zl (m.fr + m.wi)) (rputF (beginF zl m.fr) xs)).Pairwise (· < ·) ∧ (rputF (beginF zl (m.fr + m.wi)) (rputF (beginF zl m.fr) xs)).length ≤ 3 * k + 1 + 2 ∧ 0 < (rputF (beginF zl (m.fr + m.wi)) (rputF (beginF zl m.fr) xs)).length) := by
                        have h1 := HSo.out
                        have h2 := rputF_len (beginF zl (m.fr + m.wi)) (rputF (beginF zl m.fr) xs)
                        refine ⟨rputF_sorted h1.1, by omega, rput_pos h1.2.2⟩
                      go_wp2_with fail
                      refine cl_do rfl rfl rfl rfl (fun _ _ => ?_)
                      go_wp2_with fail
                      refine cl_nil ?_
                      obtain ⟨zm, m0, m1, m2, m3, m4, m5, m6, m7, m8, m9, m10, m11⟩ := HMc.out _ HR.out.below
                      obtain ⟨zz, hz⟩ := HZc.out _ HR.out.below
                      obtain ⟨cz, hsh⟩ := hz q _ HZk.out
                      have Hsh := Lib.hid hsh
                      dsimp only at cz Hsh
                      clear hz hsh
                      go_wp2_with fail
                      have HX : Hid ((I < 0 ∨ ((q + 1 : Nat) : Int) ≤ I → (rputF (beginF zl (m.fr + m.wi)) (rputF (beginF zl m.fr) xs)) = xs) ∧ (0 ≤ I ∧ I < ((q + 1 : Nat) : Int) → datedB m.kind m.fr m.un m.wi = true ∧ (rputF (beginF zl (m.fr + m.wi)) (rputF (beginF zl m.fr) xs)) = rstep ((zs.map (·.l)).getD I.toNat []) m xs)) := by
                        refine ⟨fun h => by omega, fun _ => ⟨Hd.out, ?_⟩⟩
                        rw [hIq, Int.toNat_natCast, Hzl.out]
                        unfold rstep rstep2 rstep1
                        rw [if_pos (by omega), if_neg (by omega)]
                      go_roundg (an - (q + 1))
                      case measure => omega
                      case rel => exact ⟨q + 1, _, rfl, by omega, by go_num, HX, HR⟩
                    · go_wp2_with fail
                      refine wp_region_can [] (List.range 13) (by kernel_rfl) (by kernel_rfl) ?_
                      iterate 10 (refine cl_do rfl rfl rfl rfl (fun _ _ => ?_); go_wp2_with fail)
                      refine cl_do rfl rfl rfl rfl (fun _ _ => ?_)
                      go_wp2_with fail
                      go_at_call 26
                      refine (rBegin_c zx zn' zc' zl (m.fr) _ (Hsh.out.below (by exact (Below.refl _ _).drew))).mono ?_
                      rintro e W4 ⟨rfl, hb⟩
                      replace HR := Lib.hid ((HR.out.keep ((Below.refl _ _).drew)).keep hb)
                      clear hb
                      clear zm m0 m1 m2 m3 m4 m5 m6 m7 m8 m9 m10 m11 zz cz Hsh
                      go_wp2_with fail
                      refine cl_do rfl rfl rfl rfl (fun _ _ => ?_)
                      go_wp2_with fail
                      go_at_call 35
                      refine (rPut_c w _ _ (xs) (beginF zl (m.fr)) HR.out HSo.out.1 (by have := HSo.out.2.1; omega) HSo.out.2.2).mono ?_
                      rintro e W5 ⟨v5, rfl, hr⟩
                      replace HR := Lib.hid hr
                      clear hr
                      replace HSo : Hid ((rputF (beginF zl (m.fr)) (xs)).Pairwise (· < ·) ∧ (rputF (beginF zl (m.fr)) (xs)).length ≤ 3 * k + 1 + 1 ∧ 0 < (rputF (beginF zl (m.fr)) (xs)).length) := by
                        have h1 := HSo.out
                        have h2 := rputF_len (beginF zl (m.fr)) (xs)
                        refine ⟨rputF_sorted h1.1, by omega, rput_pos h1.2.2⟩
                      go_wp2_with fail
                      refine cl_do rfl rfl rfl rfl (fun _ _ => ?_)
                      go_wp2_with fail
                      refine cl_nil ?_
                      obtain ⟨zm, m0, m1, m2, m3, m4, m5, m6, m7, m8, m9, m10, m11⟩ := HMc.out _ HR.out.below
                      obtain ⟨zz, hz⟩ := HZc.out _ HR.out.below
                      obtain ⟨cz, hsh⟩ := hz q _ HZk.out
                      have Hsh := Lib.hid hsh
                      dsimp only at cz Hsh
                      clear hz hsh
                      go_wp2_with fail
                      have HX : Hid ((I < 0 ∨ ((q + 1 : Nat) : Int) ≤ I → (rputF (beginF zl m.fr) xs) = xs) ∧ (0 ≤ I ∧ I < ((q + 1 : Nat) : Int) → datedB m.kind m.fr m.un m.wi = true ∧ (rputF (beginF zl m.fr) xs) = rstep ((zs.map (·.l)).getD I.toNat []) m xs)) := by
                        refine ⟨fun h => by omega, fun _ => ⟨Hd.out, ?_⟩⟩
                        rw [hIq, Int.toNat_natCast, Hzl.out]
                        unfold rstep rstep2 rstep1
                        rw [if_neg (by omega), if_neg (by omega)]
                      go_roundg (an - (q + 1))
                      case measure => omega
                      case rel => exact ⟨q + 1, _, rfl, by omega, by go_num, HX, HR⟩
                · have hIq : I ≠ (q : Int) := fun h => hse (HIq.out.2 h)
                  have hb : (m.auth.toList == s2.toList) = false := (Lib.bytes_beq_false_iff _ _).2 (Ne.symm hse)
                  have HX : Hid ((I < 0 ∨ ((q + 1 : Nat) : Int) ≤ I → ys = xs) ∧ (0 ≤ I ∧ I < ((q + 1 : Nat) : Int) → datedB m.kind m.fr m.un m.wi = true ∧ ys = rstep ((zs.map (·.l)).getD I.toNat []) m xs)) :=
                    ⟨fun h => HY.out.1 (by omega), fun h => HY.out.2 (by omega)⟩
                  obtain ⟨zm, m0, m1, m2, m3, m4, m5, m6, m7, m8, m9, m10, m11⟩ := HMc.out _ HR.out.below
                  obtain ⟨zz, hz⟩ := HZc.out _ HR.out.below
                  obtain ⟨cz, hsh⟩ := hz q _ HZk.out
                  have Hsh := Lib.hid hsh
                  dsimp only at cz Hsh
                  clear hz hsh
                  have HRD := Lib.hid (HR.out.keep ((Below.refl _ _).drew))
                  clear hse HIq HY HR
                  go_wp2_with fail
                  refine wp_region_can [] (List.range 10) (by kernel_rfl) (by kernel_rfl) ?_
                  iterate 10 (refine cl_do rfl rfl rfl rfl (fun _ _ => ?_); go_wp2_with fail)
                  refine cl_nil ?_
                  go_wp2_with fail
                  go_roundg (an - (q + 1))
                  case measure => omega
                  case rel => exact ⟨q + 1, _, rfl, by omega, by go_num, HX, HRD⟩
              · obtain rfl : an = q := by omega
                have HN : Hid (chg au (zs.map (·.l)) ms [0] = chg au (zs.map (·.l)) (ms.drop (k + 1)) ys ∧ ys.Pairwise (· < ·) ∧ ys.length ≤ 3 * (k + 1) + 1 ∧ 0 < ys.length) := by
                  have hso := HSo0.out
                  by_cases hI0 : I < 0
                  · have hy := HY.out.1 (.inl hI0)
                    rw [hy]
                    exact ⟨HStep.out.1 hI0, hso.1, by omega, hso.2.2⟩
                  · obtain ⟨hd, hy⟩ := HY.out.2 (by omega)
                    have hvd : validB ((zs.map (·.l)).getD I.toNat []) = true := by
                      have h5 := HOk.out I.toNat (by omega)
                      unfold authsOk at h5
                      simp only [Bool.and_eq_true] at h5
                      exact h5.2.1
                    have h6 := rstep_eq hvd hd hso.1
                    refine ⟨?_, ?_, ?_, ?_⟩
                    · rw [hy, h6]; exact HStep.out.2.1 ⟨by omega, hd⟩
                    · rw [hy, h6]; exact beginsF_sorted _ _ _ hso.1
                    · rw [hy, h6]
                      have h7 := beginsF_len ((zs.map (·.l)).getD I.toNat []) (daysF m) xs
                      have h8 : (daysF m).length ≤ 3 := by unfold daysF; split <;> simp
                      omega
                    · rw [hy]
                      unfold rstep rstep2 rstep1
                      have := hso.2.2
                      repeat' split
                      all_goals repeat (first | assumption | apply rput_pos)
                have HN1 := Lib.hid HN.out.1
                have HN2 := Lib.hid HN.out.2
                clear hJ2 hK2 HN HY HStep HI HSo0
                go_wp2_with fail
                go_roundg (mn - (k + 1))
                case measure => omega
                case rel => exact ⟨k + 1, ys, rfl, by omega, by go_num, HN1, HN2, HR⟩
          · have He : Hid (changesF ms au (zs.map (·.l)) = (xs, 0)) := by
              show _ = _
              rw [HC.out, hv.out, List.drop_of_length_le (by have := HLn.out.1; omega)]
              rfl
            have HI := Lib.hid (ints_row HR.out)
            clear hJ1 hK1 hv
            go_wp2_with fail
            exact bodyPost_ret (results_tmp2 rfl _ _ _) (by rfl) ⟨_, by rw [He.out]; rfl, by rw [He.out]; exact HI.out, HR.out.below⟩
  · have He : Hid (changesF ms au (zs.map (·.l)) = ([], 1)) := by show _ = _; unfold changesF; rw [if_neg (by omega), if_pos (by simp; omega)]
    have h3b : ((an : Int) != (zn : Int)) = true := by simp; omega
    clear hml hal hzl h3
    go_enter Tryd.func17, Tryd.ntmps17
    go_wp2_with fail
    refine bodyPost_ret (results_tmp2 rfl _ _ _) (by rfl) ⟨.slice none 0 0, ?_, ?_, Below.refl _ _⟩
    · rw [He.out]; rfl
    · rw [He.out]; exact .inl ⟨rfl, rfl⟩
end Go.Proofs.YtkcbdlnoobjmbaaDoor
