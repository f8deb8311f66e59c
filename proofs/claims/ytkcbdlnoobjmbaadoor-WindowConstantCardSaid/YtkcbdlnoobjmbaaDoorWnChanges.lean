/-
  The windows' 'Changes'.
-/
import Derived.Test.YtkcbdlnoobjmbaaDoorWnChModel
import Derived.Test.YtkcbdlnoobjmbaaDoorBase
namespace Go.Proofs.YtkcbdlnoobjmbaaDoor
open Go.RowKit Go.Cz Go.Cz.Ck Go.Cz.Wn Go.Cz.Lx
set_option linter.unusedSimpArgs false
set_option linter.unusedVariables false
attribute [local go_sem] bs_size bs_extract bs_append bs_toList
attribute [local irreducible] cList
/-- What the walk of 'Changes' knows of its arguments. -/
structure ChEnv (w : World) (ma : Option Addr) (mn : Nat) (aa : Option Addr) (an ac : Nat) (za : Option Addr) (zn : Nat) (ms : List Ms) (au : List ByteArray) (zs : List Zn) : Prop where
  hm : IsMs w ma mn ms
  ha : IsStrs w aa an au
  hz : IsZones w za zn zs
  hac : an ≤ ac
  hi : ∀ a ∈ au, 34 ∈ a.data.toList → IdxAny
  hl : ∀ a ∈ au, a.data.toList.length ≤ 140737488355328
theorem idx_c (W : World) (aa : Option Addr) (an ac : Nat) (au : List ByteArray) (x : ByteArray) (ha : IsStrs W aa an au) (hn : an ≤ 1000) : Calls Tryd.prog 32 #[.slice aa an ac, .string x] W fun e w' => e = .returned (.int .i64 (Lib.idxOfS au x)) ∧ w' = W := by
  obtain ⟨h1, h2⟩ := ha
  rcases h2 with h2 | ⟨g, off, rfl, h3, h4⟩
  · subst h2
    obtain rfl := List.length_eq_zero_iff.1 h1
    exact Tryd.slices_Index_string_empty aa ac x W
  · refine (Tryd.slices_Index_string g off an ac au x W (by omega) (by omega) h4).mono ?_
    rintro e w' ⟨rfl, hw⟩
    rw [← h1, List.take_length]
    exact ⟨rfl, hw⟩
theorem info_int' : (Tryd.prog.info? 3).map (fun i => (i.zero, i.size, i.bytes)) = some (some (.int .i64 0), 1, 8) := by kernel_rfl
theorem days_start (V : World) (a b : Int) : ORow 3 1 V (V.alloc (.cells #[.int .i64 a, .int .i64 b] 3)) (.slice (some ⟨V.heap.size, 0, none⟩) 2 2) 2 [.int .i64 a, .int .i64 b] := by
  have h : (V.alloc (.cells #[.int .i64 a, .int .i64 b] 3)).heap[V.heap.size]? = some (.cells #[.int .i64 a, .int .i64 b] 3 (0, 0)) := new_heap V _ _ rfl
  refine ⟨⟨?_, .inr ⟨V.heap.size, 2, #[.int .i64 a, .int .i64 b], rfl, ?_, ?_, ?_, ?_, ?_, ?_⟩⟩, fun k hk => (by cases hk; exact Nat.le_refl _), (Below.refl _ _).alloc (Nat.le_refl _) _⟩
  all_goals first | exact h | (simp; done) | omega | rfl | (unfold maxLen; simp)
/-- A row of integers becomes a piece. -/
theorem row_piece {w0 V W : World} {v : Value} {n : Nat} {ds : List Int} {ps : List Piece} (h : ORow 3 1 V W v n (ds.map (Value.int .i64 ·))) (hn : 0 < n) (ho : Owns w0 V ps) : ∃ g c cur, v = .slice (some ⟨g, 0, none⟩) n c ∧ Owns w0 W (blk g (.cells cur 3 (0, 0)) :: ps) ∧ ∀ (j : Nat) (d : Int), ds[j]? = some d → cur[j]? = some (.int .i64 d) := by
  rcases h.row.2 with ⟨-, h2⟩ | ⟨g, c, cur, rfl, h2, h3, h4, h5, h6, h7⟩
  · omega
  · refine ⟨g, c, cur, rfl, ho.push (S := [g]) ⟨rfl, h3⟩ h.below (fun k hk => by simp at hk; subst hk; exact h.new k rfl), fun j d hd => ?_⟩
    have h8 : (ds.map (Value.int .i64 ·))[j]? = some (.int .i64 d) := by rw [List.getElem?_map, hd]; rfl
    rw [← h7, List.getElem?_take] at h8
    split at h8
    · simpa using h8
    · cases h8
theorem ol_new {w W : World} (hb : Below w.heap.size w W) : Owns w (W.alloc (.cells #[.slice none 0 0] 60)) [olP w W.heap.size []] :=
  Owns.push (S := [W.heap.size]) (⟨hb, trivial⟩ : Owns w W []) ⟨.slice none 0 0, rfl, Bk.new _ _ _, .inl ⟨rfl, rfl⟩⟩ ((Below.refl _ _).alloc (Nat.le_refl _) _) (by simp)
set_option maxRecDepth 100000 in
set_option maxHeartbeats 4000000 in
theorem Changes_c (w : World) (ma : Option Addr) (mn mc : Nat) (aa : Option Addr) (an ac : Nat) (za : Option Addr) (zn zc : Nat) (ms : List Ms) (au : List ByteArray) (zs : List Zn) (hE : ChEnv w ma mn aa an ac za zn ms au zs) :
    Calls Tryd.prog 16 #[.slice ma mn mc, .slice aa an ac, .slice za zn zc] w (ChPost w (changesF ms au (zs.map (·.l)))) := by
  have hml := hE.hm.1
  have hal := hE.ha.1
  have hzl := hE.hz.1
  have hac := hE.hac
  have HE := Lib.hid hE
  clear hE
  by_cases h1 : 200 < mn
  · have He : Hid (changesF ms au (zs.map (·.l)) = ([], 2)) := by show _ = _; unfold changesF; rw [if_pos (by omega)]
    clear hml hal hzl
    go_enter Tryd.func16, Tryd.ntmps16
    go_wp2_with fail
    refine bodyPost_ret (results_tmp2 rfl _ _ _) (by rfl) ⟨.slice none 0 0, ?_, ?_, Below.refl _ _⟩
    · rw [He.out]; rfl
    · rw [He.out]; exact .inl ⟨rfl, rfl⟩
  by_cases h2 : 6 < an
  · have He : Hid (changesF ms au (zs.map (·.l)) = ([], 2)) := by show _ = _; unfold changesF; rw [if_pos (by omega)]
    clear hml hal hzl
    go_enter Tryd.func16, Tryd.ntmps16
    go_wp2_with fail
    refine bodyPost_ret (results_tmp2 rfl _ _ _) (by rfl) ⟨.slice none 0 0, ?_, ?_, Below.refl _ _⟩
    · rw [He.out]; rfl
    · rw [He.out]; exact .inl ⟨rfl, rfl⟩
  by_cases h3 : an = zn
  · subst h3
    have hzm : (zs.map (·.l)).length = an := by simpa using hzl
    have HF : Hid (∀ i, i < an → authsOk au (zs.map (·.l)) i = false → changesF ms au (zs.map (·.l)) = ([], 1)) := fun i hi hb => changes_bad (by omega) (by omega) (by omega) (by omega) hb
    have HG : Hid ((∀ i, i < an → authsOk au (zs.map (·.l)) i = true) → changesF ms au (zs.map (·.l)) = chg au (zs.map (·.l)) ms [0]) := fun h => changes_good (by omega) (by omega) (by omega) fun i hi => h i (by omega)
    have HLn := Lib.hid (And.intro hml (And.intro hal (And.intro hzl hzm)))
    clear hml hal hzl hzm
    go_enter Tryd.func16, Tryd.ntmps16
    go_wp2_with fail
    go_loopg [30] an (fun gk i wr => ∃ k : Nat, gk = an - k ∧ k ≤ an ∧ i = .int .i64 (k : Int) ∧ Hid (∀ j, j < k → authsOk au (zs.map (·.l)) j = true) ∧ Hid (Below w.heap.size w wr))
    case atStart => exact ⟨0, rfl, Nat.zero_le _, rfl, Lib.hid (fun j hj => by omega), Below.refl _ _⟩
    case round =>
      rename_i J1 K1 hJ1 hK1
      obtain ⟨k, rfl, hk, rfl, hv, hw⟩ := hrel
      by_cases hlt : k < an
      · have ha := HE.out.ha.below hw.out
        obtain ⟨-, ha⟩ := ha
        rcases ha with ha | ⟨g, off, rfl, hg, ha⟩
        · omega
        obtain ⟨s, hs⟩ : ∃ s, s = au.getD k ByteArray.empty := ⟨_, rfl⟩
        have hsm : s ∈ au := by
          rw [hs, List.getD_eq_getElem?_getD, List.getElem?_eq_getElem (by have := HLn.out.2.1; omega)]
          exact List.getElem_mem _
        have c0 := ha k (by have := HLn.out.2.1; omega)
        rw [← hs, ← bs_of s] at c0
        have HHa := Lib.hid ha
        have Hs := Lib.hid (And.intro hs hsm)
        clear ha hs hsm
        go_wp2_with fail
        go_at_call 29
        refine (identifier_c s.data.toList (HE.out.hi s Hs.out.2) wr (HE.out.hl s Hs.out.2)).mono ?_
        rintro e W2 ⟨rfl, hb⟩
        have HW2 := Lib.hid (hw.out.trans (hb.mono hw.out.size))
        have h2g := hg
        clear hb c0 hg
        cases hi : identB s.data.toList
        · have He : Hid (changesF ms au (zs.map (·.l)) = ([], 1)) := HF.out k hlt (by unfold authsOk; rw [← Hs.out.1, hi]; rfl)
          clear hi
          go_wp2_with fail
          refine bodyPost_ret (results_tmp2 rfl _ _ _) (by rfl) ⟨.slice none 0 0, ?_, ?_, HW2.out⟩
          · rw [He.out]; rfl
          · rw [He.out]; exact .inl ⟨rfl, rfl⟩
        have hz := HE.out.hz.below HW2.out
        obtain ⟨-, hz⟩ := hz
        rcases hz with hz | ⟨gz, oz, rfl, hgz, hz⟩
        · omega
        obtain ⟨z, hzk⟩ : ∃ z, zs[k]? = some z := ⟨_, List.getElem?_eq_getElem (by have := HLn.out.2.2.1; omega)⟩
        obtain ⟨cz, hsh⟩ := hz k z hzk
        have hzl : (zs.map (·.l)).getD k [] = z.l := by rw [List.getD_eq_getElem?_getD, List.getElem?_map, hzk]; rfl
        have Hzl := Lib.hid hzl
        have Hsh := Lib.hid hsh
        obtain ⟨zx, zn', zc', zl⟩ := z
        dsimp only at cz Hzl Hsh
        have Hi := Lib.hid hi
        clear hz hzk hsh hzl hi
        go_wp2_with fail
        go_at_call 23
        refine (Valid_c zx zn' zc' zl W2 Hsh.out).mono ?_
        rintro e W3 ⟨rfl, hb⟩
        have HW3 := Lib.hid (HW2.out.trans (hb.mono HW2.out.size))
        clear hb cz hgz
        cases hv2 : validB zl
        · have He : Hid (changesF ms au (zs.map (·.l)) = ([], 1)) := HF.out k hlt (by unfold authsOk; rw [← Hs.out.1, Hi.out, Hzl.out, hv2]; rfl)
          clear hv2
          go_wp2_with fail
          refine bodyPost_ret (results_tmp2 rfl _ _ _) (by rfl) ⟨.slice none 0 0, ?_, ?_, HW3.out⟩
          · rw [He.out]; rfl
          · rw [He.out]; exact .inl ⟨rfl, rfl⟩
        have Hv2 := Lib.hid hv2
        clear hv2
        have Hsr : Hid (Calls Tryd.prog 30 #[.slice (some ⟨g, off, none⟩) k ac, .string s] W3 fun e w' => e = .returned (.bool (Lib.containsS (au.take k) s)) ∧ w' = W3) :=
          Tryd.slices_Contains_string g off k ac au s W3 (by have := HLn.out.2.1; omega) (by omega) (fun j hj => by
            have hag := HE.out.ha.below HW3.out
            rcases hag.2 with hh | ⟨g', off', he, hg', hh⟩
            · omega
            · simp only [Option.some.injEq, Addr.mk.injEq] at he
              obtain ⟨rfl, rfl, -⟩ := he
              exact hh j hj)
        go_wp2_with fail
        rw [bs_of]
        go_at_call 30
        refine Hsr.out.mono ?_
        rintro e W4 ⟨rfl, hb⟩
        obtain rfl : W4 = W3 := hb
        cases hcs : Lib.containsS (au.take k) s
        · have HN : Hid (∀ j, j < k + 1 → authsOk au (zs.map (·.l)) j = true) := Lib.hid fun j hj => by
            by_cases hjk : j = k
            · subst hjk
              unfold authsOk
              rw [← Hs.out.1, Hi.out, Hzl.out, Hv2.out, hcs]
              rfl
            · exact hv.out j (by omega)
          clear hcs hv Hsr
          go_wp2_with fail
          go_roundg (an - (k + 1))
          case measure => omega
          case rel => exact ⟨k + 1, rfl, by omega, by go_num, HN, HW3⟩
        · have He : Hid (changesF ms au (zs.map (·.l)) = ([], 1)) := HF.out k hlt (by unfold authsOk; rw [← Hs.out.1, Hi.out, Hzl.out, Hv2.out, hcs]; rfl)
          clear hcs Hsr
          go_wp2_with fail
          refine bodyPost_ret (results_tmp2 rfl _ _ _) (by rfl) ⟨.slice none 0 0, ?_, ?_, HW3.out⟩
          · rw [He.out]; rfl
          · rw [He.out]; exact .inl ⟨rfl, rfl⟩
      · obtain rfl : an = k := by omega
        clear hJ1 hK1
        have HC : Hid (changesF ms au (zs.map (·.l)) = chg au (zs.map (·.l)) ms [0]) := HG.out hv.out
        clear HF HG hv
        go_wp2_with fail
        have HO := Lib.hid (ol_new hw.out)
        obtain ⟨bo, hbo⟩ : ∃ bo, bo = wr.heap.size := ⟨_, rfl⟩
        rw [← hbo] at HO ⊢
        clear hbo hw
        go_at_call 31
        refine (put_o 0 HO.out (by simp) (by simp)).mono ?_
        rintro e W2 ⟨rfl, ho⟩
        have HO1 : Hid (Owns w W2 [olP w bo [0]]) := ho
        clear ho HO
        go_wp2_with fail
        go_loopg [57] mn (fun gk i wr => ∃ (j : Nat) (xs : List Int), gk = mn - j ∧ j ≤ mn ∧ i = .int .i64 (j : Int) ∧ Hid (chg au (zs.map (·.l)) ms [0] = chg au (zs.map (·.l)) (ms.drop j) xs) ∧ Hid (xs.Pairwise (· < ·) ∧ xs.length ≤ 3 * j + 1) ∧ Hid (Owns w wr [olP w bo xs]))
        case atStart => exact ⟨0, [0], rfl, Nat.zero_le _, rfl, rfl, Lib.hid ⟨by simp, by simp⟩, HO1⟩
        case round =>
          rename_i J1 K1 hJ1 hK1
          clear HO1
          clear hlt hk
          obtain ⟨k, xs, rfl, hk, rfl, hv, HSo, hw⟩ := hrel
          by_cases hlt : k < mn
          · have hmm := HE.out.hm.below hw.out.base
            obtain ⟨-, hmm⟩ := hmm
            rcases hmm with hmm | ⟨g, off, rfl, hg, hmm⟩
            · omega
            obtain ⟨m, hmk⟩ : ∃ m, ms[k]? = some m := ⟨_, List.getElem?_eq_getElem (by have := HLn.out.1; omega)⟩
            have hc := hmm k m hmk
            have HStep : Hid ((Lib.idxOfS au m.auth < 0 → chg au (zs.map (·.l)) ms [0] = chg au (zs.map (·.l)) (ms.drop (k + 1)) xs) ∧
                (0 ≤ Lib.idxOfS au m.auth ∧ datedB m.kind m.fr m.un m.wi = true → chg au (zs.map (·.l)) ms [0] = chg au (zs.map (·.l)) (ms.drop (k + 1)) (beginsF ((zs.map (·.l)).getD (Lib.idxOfS au m.auth).toNat []) (daysF m) xs)) ∧
                (0 ≤ Lib.idxOfS au m.auth ∧ datedB m.kind m.fr m.un m.wi = false → chg au (zs.map (·.l)) ms [0] = ([], 1))) := by
              obtain ⟨q1, q2⟩ := List.getElem?_eq_some_iff.1 hmk
              have hd : ms.drop k = m :: ms.drop (k + 1) := by rw [List.drop_eq_getElem_cons q1, q2]
              refine ⟨fun h => ?_, fun h => ?_, fun h => ?_⟩
              · rw [hv.out, hd]; simp only [chg]; rw [if_pos h]
              · rw [hv.out, hd]; simp only [chg]; rw [if_neg (by omega), if_pos h.2]
              · rw [hv.out, hd]; simp only [chg]; rw [if_neg (by omega), if_neg (by rw [h.2]; simp)]
            have hidx := idxOfS_lt au m.auth
            have HIx := Lib.hid (fun W hb => idx_c W aa an ac au m.auth (HE.out.ha.below hb) (by omega))
            obtain ⟨id, auth, kind, target, op, name, cmp, num, ka, kn, kc, fr, un, wi⟩ := m
            dsimp only [Ms.v] at hc HStep hidx HIx
            have m0 : wr.cell? ⟨g, off + k * 12, none⟩ = some (.string id) := hc 0 _ rfl
            have m1 : wr.cell? ⟨g, off + k * 12 + 1, none⟩ = some (.string auth) := hc 1 _ rfl
            have m2 : wr.cell? ⟨g, off + k * 12 + 2, none⟩ = some (.int .i64 kind) := hc 2 _ rfl
            have m3 : wr.cell? ⟨g, off + k * 12 + 3, none⟩ = some (.string target) := hc 3 _ rfl
            have m4 : wr.cell? ⟨g, off + k * 12 + 4, none⟩ = some (.int .i64 op) := hc 4 _ rfl
            have m5 : wr.cell? ⟨g, off + k * 12 + 5, none⟩ = some (.string name) := hc 5 _ rfl
            have m6 : wr.cell? ⟨g, off + k * 12 + 6, none⟩ = some (.int .i64 cmp) := hc 6 _ rfl
            have m7 : wr.cell? ⟨g, off + k * 12 + 7, none⟩ = some (.int .i64 num) := hc 7 _ rfl
            have m8 : wr.cell? ⟨g, off + k * 12 + 8, none⟩ = some (.slice ka kn kc) := hc 8 _ rfl
            have m9 : wr.cell? ⟨g, off + k * 12 + 9, none⟩ = some (.int .i64 fr) := hc 9 _ rfl
            have m10 : wr.cell? ⟨g, off + k * 12 + 10, none⟩ = some (.int .i64 un) := hc 10 _ rfl
            have m11 : wr.cell? ⟨g, off + k * 12 + 11, none⟩ = some (.int .i64 wi) := hc 11 _ rfl
            clear hc hmm hmk hv
            have HB1 := Lib.hid (hw.out.box (.cells #[.string id, .string auth, .int .i64 kind, .string target, .int .i64 op, .string name, .int .i64 cmp, .int .i64 num, .slice ka kn kc, .int .i64 fr, .int .i64 un, .int .i64 wi] 26))
            go_wp2_with fail
            obtain ⟨mb, hmb⟩ : ∃ mb, mb = wr.heap.size := ⟨_, rfl⟩
            obtain ⟨W1, hW1⟩ : ∃ W1, W1 = wr.alloc (.cells #[.string id, .string auth, .int .i64 kind, .string target, .int .i64 op, .string name, .int .i64 cmp, .int .i64 num, .slice ka kn kc, .int .i64 fr, .int .i64 un, .int .i64 wi] 26) := ⟨_, rfl⟩
            rw [← hW1, ← hmb] at HB1 ⊢
            clear hW1 hmb m0 m1 m2 m3 m4 m5 m6 m7 m8 m9 m10 m11 hg hw
            go_at_call 32
            refine (HIx.out W1 HB1.out.base).mono ?_
            rintro e W1' ⟨rfl, hb⟩
            obtain rfl : W1' = W1 := hb
            obtain ⟨I, hI⟩ : ∃ I, I = Lib.idxOfS au auth := ⟨_, rfl⟩
            rw [← hI] at hidx HStep ⊢
            clear hI HIx
            by_cases hI0 : I < 0
            · have HN := Lib.hid (HStep.out.1 hI0)
              have HON := Lib.hid HB1.out.pop
              have HS2 : Hid (xs.Pairwise (· < ·) ∧ xs.length ≤ 3 * (k + 1) + 1) := ⟨HSo.out.1, by have := HSo.out.2; omega⟩
              have hI1 : decide (I < 0) = true := decide_eq_true hI0
              clear HB1 HStep HSo
              go_wp2_with fail
              go_roundg (mn - (k + 1))
              case measure => omega
              case rel => exact ⟨k + 1, xs, rfl, by omega, by go_num, HN, HS2, HON⟩
            obtain ⟨K, rfl⟩ : ∃ K : Nat, I = K := ⟨I.toNat, by omega⟩
            have hKan : K < an := by have := HLn.out.2.1; omega
            clear hI0 hidx
            obtain ⟨hbk, -⟩ := HB1.out.blk
            have z1 := lt_of_block hbk
            have n0 : W1'.cell? ⟨mb, 0, none⟩ = some (.string id) := by rw [cell_of_heap hbk]; rfl
            have n1 : W1'.cell? ⟨mb, 1, none⟩ = some (.string auth) := by rw [cell_of_heap hbk]; rfl
            have n2 : W1'.cell? ⟨mb, 2, none⟩ = some (.int .i64 kind) := by rw [cell_of_heap hbk]; rfl
            have n3 : W1'.cell? ⟨mb, 3, none⟩ = some (.string target) := by rw [cell_of_heap hbk]; rfl
            have n4 : W1'.cell? ⟨mb, 4, none⟩ = some (.int .i64 op) := by rw [cell_of_heap hbk]; rfl
            have n5 : W1'.cell? ⟨mb, 5, none⟩ = some (.string name) := by rw [cell_of_heap hbk]; rfl
            have n6 : W1'.cell? ⟨mb, 6, none⟩ = some (.int .i64 cmp) := by rw [cell_of_heap hbk]; rfl
            have n7 : W1'.cell? ⟨mb, 7, none⟩ = some (.int .i64 num) := by rw [cell_of_heap hbk]; rfl
            have n8 : W1'.cell? ⟨mb, 8, none⟩ = some (.slice ka kn kc) := by rw [cell_of_heap hbk]; rfl
            have n9 : W1'.cell? ⟨mb, 9, none⟩ = some (.int .i64 fr) := by rw [cell_of_heap hbk]; rfl
            have n10 : W1'.cell? ⟨mb, 10, none⟩ = some (.int .i64 un) := by rw [cell_of_heap hbk]; rfl
            have n11 : W1'.cell? ⟨mb, 11, none⟩ = some (.int .i64 wi) := by rw [cell_of_heap hbk]; rfl
            clear hbk
            go_wp2_with fail
            go_at_call 22
            refine (dated_c ⟨id, auth, kind, target, op, name, cmp, num, ka, kn, kc, fr, un, wi⟩ _).mono ?_
            rintro e W3 ⟨rfl, hb⟩
            dsimp only
            have HB3 := Lib.hid (HB1.out.below hb)
            clear hb HB1 z1 n0 n1 n2 n3 n4 n5 n6 n7 n8 n9 n10 n11
            cases hdt : datedB kind fr un wi
            · have He : Hid (changesF ms au (zs.map (·.l)) = ([], 1)) := HC.out.trans (HStep.out.2.2 ⟨by omega, hdt⟩)
              clear hdt HStep
              go_wp2_with fail
              refine bodyPost_ret (results_tmp2 rfl _ _ _) (by rfl) ⟨.slice none 0 0, ?_, ?_, HB3.out.base⟩
              · rw [He.out]; rfl
              · rw [He.out]; exact .inl ⟨rfl, rfl⟩
            obtain ⟨d1, d2, d3, d4, d5, -⟩ := dated_in hdt
            have HDt := Lib.hid hdt
            clear hdt
            obtain ⟨hbk, -⟩ := HB3.out.blk
            have z1 := lt_of_block hbk
            have n0 : W3.cell? ⟨mb, 0, none⟩ = some (.string id) := by rw [cell_of_heap hbk]; rfl
            have n1 : W3.cell? ⟨mb, 1, none⟩ = some (.string auth) := by rw [cell_of_heap hbk]; rfl
            have n2 : W3.cell? ⟨mb, 2, none⟩ = some (.int .i64 kind) := by rw [cell_of_heap hbk]; rfl
            have n3 : W3.cell? ⟨mb, 3, none⟩ = some (.string target) := by rw [cell_of_heap hbk]; rfl
            have n4 : W3.cell? ⟨mb, 4, none⟩ = some (.int .i64 op) := by rw [cell_of_heap hbk]; rfl
            have n5 : W3.cell? ⟨mb, 5, none⟩ = some (.string name) := by rw [cell_of_heap hbk]; rfl
            have n6 : W3.cell? ⟨mb, 6, none⟩ = some (.int .i64 cmp) := by rw [cell_of_heap hbk]; rfl
            have n7 : W3.cell? ⟨mb, 7, none⟩ = some (.int .i64 num) := by rw [cell_of_heap hbk]; rfl
            have n8 : W3.cell? ⟨mb, 8, none⟩ = some (.slice ka kn kc) := by rw [cell_of_heap hbk]; rfl
            have n9 : W3.cell? ⟨mb, 9, none⟩ = some (.int .i64 fr) := by rw [cell_of_heap hbk]; rfl
            have n10 : W3.cell? ⟨mb, 10, none⟩ = some (.int .i64 un) := by rw [cell_of_heap hbk]; rfl
            have n11 : W3.cell? ⟨mb, 11, none⟩ = some (.int .i64 wi) := by rw [cell_of_heap hbk]; rfl
            clear hbk
            clear n0 n1 n2 n3 n4 n5 n6 n7 n8
            rcases HE.out.hz.2 with hh | ⟨gz, oz, hza, hgz0, hh⟩
            · omega
            subst hza
            obtain ⟨z, hzk⟩ : ∃ z, zs[K]? = some z := ⟨_, List.getElem?_eq_getElem (by have := HLn.out.2.2.1; omega)⟩
            obtain ⟨cz0, hsh⟩ := hh K z hzk
            have hzl : (zs.map (·.l)).getD K [] = z.l := by rw [List.getD_eq_getElem?_getD, List.getElem?_map, hzk]; rfl
            have Hzl := Lib.hid hzl
            have Hsh := Lib.hid hsh
            obtain ⟨zx, zn', zc', zl⟩ := z
            dsimp only at cz0 Hzl Hsh
            have hgz3 : gz < W3.heap.size := Nat.lt_of_lt_of_le hgz0 HB3.out.base.size
            have cz3 : W3.cell? ⟨gz, oz + K, none⟩ = some (.slice zx zn' zc') := (HB3.out.base.cell (p := ⟨gz, oz + K, none⟩) hgz0).trans cz0
            clear hh hzk hsh hzl cz0
            by_cases hun : 0 ≤ un
            · obtain ⟨ds, hds⟩ : ∃ ds, ds = [fr, fr + wi, un] := ⟨_, rfl⟩
              have HDs : Hid (daysF ⟨id, auth, kind, target, op, name, cmp, num, ka, kn, kc, fr, un, wi⟩ = ds) := by show _ = _; rw [hds]; unfold daysF; rw [if_pos hun]; rfl
              have HR0 := Lib.hid (days_start W3 fr (fr + wi))
              have hd5 : un ≤ 100000 := by omega
              clear d5
              go_wp2_with (refine wpList_plain rfl fun K' hK' => wp_append (.tmp 81) (.tmp 84) 39 (by rfl) 3 _ 1 8 Tryd.underlying39 info_int' (by rfl) (by omega) _ 2 _ (by rfl) (HR0.out.row.alloc _) (W3.heap.size + 1) 1 1 [.int .i64 un] (by rfl) (by rfl) 3 (by exact new_heap (W3.alloc _) _ _ (by simp)) (by simp [Value.oneCell']) (by omega) (by omega) ?_; intro v' w4 hrow hgrow hblk; have HR2 := Lib.hid ((HR0.out.keep ((Below.refl _ _).alloc (Nat.le_refl _) _)).step hrow hgrow hblk); clear hrow hgrow hblk; have cz4 : w4.cell? ⟨gz, oz + K, none⟩ = some (.slice zx zn' zc') := (HR2.out.below.cell (p := ⟨gz, oz + K, none⟩) hgz3).trans cz3; have hgz4 : gz < w4.heap.size := Nat.lt_of_lt_of_le hgz3 HR2.out.below.size)
              have hR := HR2.out
              rw [show ([Value.int .i64 fr, Value.int .i64 (fr + wi)] ++ [Value.int .i64 un]) = ds.map (Value.int .i64 ·) by rw [hds]; rfl] at hR
              obtain ⟨dg, dc, cur, hv', hod, hcur⟩ := row_piece hR (by omega) HB3.out
              subst hv'
              have HOD : Hid (Owns w w4 [olP w bo xs, blk dg (.cells cur 3 (0, 0)), blk mb (.cells #[.string id, .string auth, .int .i64 kind, .string target, .int .i64 op, .string name, .int .i64 cmp, .int .i64 num, .slice ka kn kc, .int .i64 fr, .int .i64 un, .int .i64 wi] 26 (0, 0))]) := hod.rot
              have HCur := Lib.hid hcur
              clear hR hod hcur HR2 HR0 HB3 z1 n9 n10 n11 cz3 hgz3 cz4 hgz4
              go_at_call 33
              refine (begins_c zx zn' zc' zl dg 3 dc ds cur Hsh.out (by rw [hds]; rfl) (by omega) HCur.out HSo.out.1 (by have := HSo.out.2; omega) HOD.out).mono ?_
              rintro e W6 ⟨rfl, ho⟩
              have HON : Hid (Owns w W6 [olP w bo (beginsF zl ds xs)]) := ho.swap.pop.swap.pop
              have HNX : Hid (chg au (zs.map (·.l)) ms [0] = chg au (zs.map (·.l)) (ms.drop (k + 1)) (beginsF zl ds xs)) := by
                have h1 := HStep.out.2.1 ⟨by omega, HDt.out⟩
                rw [Int.toNat_natCast, Hzl.out, HDs.out] at h1
                exact h1
              have HS2 : Hid ((beginsF zl ds xs).Pairwise (· < ·) ∧ (beginsF zl ds xs).length ≤ 3 * (k + 1) + 1) := by
                refine ⟨beginsF_sorted zl ds xs HSo.out.1, ?_⟩
                have h1 := beginsF_len zl ds xs
                have h2 := HSo.out.2
                have h3 : ds.length ≤ 3 := by rw [hds]; simp
                omega
              clear ho hds
              go_wp2_with fail
              go_roundg (mn - (k + 1))
              case measure => omega
              case rel => exact ⟨k + 1, _, rfl, by omega, by go_num, HNX, HS2, HON⟩
            · obtain ⟨ds, hds⟩ : ∃ ds, ds = [fr, fr + wi] := ⟨_, rfl⟩
              have HDs : Hid (daysF ⟨id, auth, kind, target, op, name, cmp, num, ka, kn, kc, fr, un, wi⟩ = ds) := by show _ = _; rw [hds]; unfold daysF; rw [if_neg hun]; rfl
              obtain ⟨dg, hdg⟩ : ∃ dg, dg = W3.heap.size := ⟨_, rfl⟩
              obtain ⟨cur, hcu⟩ : ∃ cur : Array Value, cur = #[.int .i64 fr, .int .i64 (fr + wi)] := ⟨_, rfl⟩
              have HOD : Hid (Owns w (W3.alloc (.cells #[.int .i64 fr, .int .i64 (fr + wi)] 3)) [olP w bo xs, blk dg (.cells cur 3 (0, 0)), blk mb (.cells #[.string id, .string auth, .int .i64 kind, .string target, .int .i64 op, .string name, .int .i64 cmp, .int .i64 num, .slice ka kn kc, .int .i64 fr, .int .i64 un, .int .i64 wi] 26 (0, 0))]) := by
                rw [hdg, hcu]
                exact (HB3.out.box _).rot
              have HCur : Hid (∀ (j : Nat) (d : Int), ds[j]? = some d → cur[j]? = some (.int .i64 d)) := Lib.hid fun j d hd => by
                rw [hcu]
                rw [hds] at hd
                rcases j with _ | _ | j
                · simp at hd; subst hd; rfl
                · simp at hd; subst hd; rfl
                · simp at hd
              clear hcu
              go_wp2_with fail
              rw [← hdg]
              clear hdg HB3 z1 n9 n10 n11 cz3 hgz3
              go_at_call 33
              refine (begins_c zx zn' zc' zl dg 2 2 ds cur Hsh.out (by rw [hds]; rfl) (by omega) HCur.out HSo.out.1 (by have := HSo.out.2; omega) HOD.out).mono ?_
              rintro e W6 ⟨rfl, ho⟩
              have HON : Hid (Owns w W6 [olP w bo (beginsF zl ds xs)]) := ho.swap.pop.swap.pop
              have HNX : Hid (chg au (zs.map (·.l)) ms [0] = chg au (zs.map (·.l)) (ms.drop (k + 1)) (beginsF zl ds xs)) := by
                have h1 := HStep.out.2.1 ⟨by omega, HDt.out⟩
                rw [Int.toNat_natCast, Hzl.out, HDs.out] at h1
                exact h1
              have HS2 : Hid ((beginsF zl ds xs).Pairwise (· < ·) ∧ (beginsF zl ds xs).length ≤ 3 * (k + 1) + 1) := by
                refine ⟨beginsF_sorted zl ds xs HSo.out.1, ?_⟩
                have h1 := beginsF_len zl ds xs
                have h2 := HSo.out.2
                have h3 : ds.length ≤ 3 := by rw [hds]; simp
                omega
              clear ho hds
              go_wp2_with fail
              go_roundg (mn - (k + 1))
              case measure => omega
              case rel => exact ⟨k + 1, _, rfl, by omega, by go_num, HNX, HS2, HON⟩
          · obtain rfl : mn = k := by omega
            have He : Hid (changesF ms au (zs.map (·.l)) = (xs, 0)) := by
              show _ = _
              rw [HC.out, hv.out, List.drop_of_length_le (by rw [HLn.out.1]; exact Nat.le_refl _)]
              rfl
            obtain ⟨S, ⟨v, -, hk1, hs1⟩, -⟩ := hw.out.first
            have z0 := hk1.lt
            have c0 : wr.cell? ⟨bo, 0, none⟩ = some v := by rw [hk1.cell]; rfl
            have HI := Lib.hid (ints_of_SL hs1)
            clear hJ1 hK1 hv hk1 hs1
            go_wp2_with fail
            refine bodyPost_ret (results_tmp2 rfl _ _ _) (by rfl) ⟨v, ?_, ?_, hw.out.base⟩
            · rw [He.out]; rfl
            · rw [He.out]; exact HI.out
  · have He : Hid (changesF ms au (zs.map (·.l)) = ([], 1)) := by show _ = _; unfold changesF; rw [if_neg (by omega), if_pos (by simp; omega)]
    have h3b : ((an : Int) != (zn : Int)) = true := by simp; omega
    clear hml hal hzl h3
    go_enter Tryd.func16, Tryd.ntmps16
    go_wp2_with fail
    refine bodyPost_ret (results_tmp2 rfl _ _ _) (by rfl) ⟨.slice none 0 0, ?_, ?_, Below.refl _ _⟩
    · rw [He.out]; rfl
    · rw [He.out]; exact .inl ⟨rfl, rfl⟩
end Go.Proofs.YtkcbdlnoobjmbaaDoor
