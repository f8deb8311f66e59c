/-
  'Open'.
-/
import Derived.Test.YtjcjpekndeoonaaGreatDoorJnOpL
namespace Go.Proofs.YtjcjpekndeoonaaGreatDoor
open Go.RowKit Go.Cz Go.Cz.Jn
set_option linter.unusedSimpArgs false
set_option linter.unusedVariables false
attribute [local go_sem] bs_size bs_extract bs_append bs_toList
attribute [local irreducible] cList cPlan
/-- What 'Open' leaves. -/
def OpenP (w0 : World) (db : Nat) (m : Dk.Dm) (ps : List Piece) (e : Ending) (w' : World) : Prop :=
  ((openB m).2.1 ≠ 0 ∧ e = .returned (.tuple #[.pointer none, .slice none 0 0, .int .i64 (openB m).2.1]) ∧ Owns w0 w' (disk db (openB m).1 :: ps)) ∨
  ((openB m).2.1 = 0 ∧ ∃ jb rv out, e = .returned (.tuple #[.pointer (some ⟨jb, 0, none⟩), out, .int .i64 0]) ∧
    Owns w0 w' (trow out (openB m).2.2.recs :: jblk jb db (openB m).2.2.sectors (openB m).2.2.count rv false :: trow rv (openB m).2.2.recs :: disk db (openB m).1 :: ps))
set_option maxRecDepth 10000 in
set_option maxHeartbeats 8000000 in
theorem Open_c {w0 w : World} {ps : List Piece} {m : Dk.Dm} {db : Nat} (h : Owns w0 w (disk db m :: ps)) (hq : m.q.length ≤ 1000) (hs : Std w0) :
    Calls Tryz.prog 7 #[.pointer (some ⟨db, 0, none⟩)] w (OpenP w0 db m ps) := by
  have hlen := (Owns.ok h).2
  have HL := Lib.hid hlen
  have hok := (Owns.ok h).1
  have HS := Lib.hid hs
  have HK := Lib.hid hok
  have HO : Hid (Owns w0 w (trow (.slice none 0 0) (sects m 0) :: disk db m :: ps)) := trow_base h (World.ownsRow_nil _ _ _ _) (Below.refl _ _)
  clear h hs hok
  go_enter Tryz.func7, Tryz.ntmps7
  go_wp2_with fail
  go_loopg [5] m.st.length (fun gk v wr => ∃ k : Nat, gk = m.st.length - k ∧ k ≤ m.st.length ∧ Hid (Owns w0 wr (trow v (sects m k) :: disk db m :: ps)))
  case atStart => exact ⟨0, rfl, Nat.zero_le _, HO⟩
  case round =>
    rename_i J1 K1 hJ1 hK1
    clear HO
    obtain ⟨k, rfl, hk, HO⟩ := hrel
    obtain ⟨x, n, c, rfl, ht⟩ := Owns.texts HO.out
    obtain rfl : n = k := by have := ht.len; rw [sects_len] at this; omega
    clear ht
    have HR := Lib.hid (Owns.read (n : Int) HO.out.swap (by omega))
    by_cases hoff : m.off = true
    · have hrd : Dk.read m (n : Int) = ([], 26) := by unfold Dk.read; rw [if_pos hoff]
      have HE : Hid (openB m = (m, 26, ⟨0, 0, [], false⟩)) := open_err (by unfold findB; rw [if_pos hoff])
      rw [hrd] at HR
      clear hrd hJ1 hK1 hoff HO
      go_wp2_with fail
      go_at_call 32
      refine HR.out.mono ?_
      rintro e w1 ⟨rfl, ho⟩
      replace HO := Lib.hid ho.swap.pop
      clear ho HR
      go_wp2_with fail
      go_ret3
      exact .inl ⟨by rw [HE.out]; exact Int.ofNat_ne_zero.2 (by decide), by rw [HE.out]; rfl, by rw [HE.out]; exact HO.out⟩
    · have HF := Lib.hid hoff
      by_cases hlt : n < m.st.length
      · have hrd : Dk.read m (n : Int) = (Dk.look m n, 0) := by
          unfold Dk.read Dk.valid
          rw [if_neg hoff, decide_eq_true (by omega : (0 : Int) ≤ (n : Int)), decide_eq_true (by omega : (n : Int) < (m.st.length : Int))]
          rfl
        rw [hrd] at HR
        clear hrd hoff HO
        obtain ⟨s, hs⟩ : ∃ s, s = Dk.look m n := ⟨_, rfl⟩
        have HSe : Hid (sects m (n + 1) = sects m n ++ [s]) := by show _ = _; rw [sects_succ, hs]
        rw [← hs] at HR
        clear hs
        go_wp2_with fail
        go_at_call 32
        refine HR.out.mono ?_
        rintro e w1 ⟨rfl, ho⟩
        have hrow := Owns.row (ho.swap.alloc (.cells #[.string (bs s)] 9))
        replace HO := Lib.hid (ho.swap.alloc (.cells #[.string (bs s)] 9))
        rw [sects_len] at hrow
        have Hrow := Lib.hid hrow
        clear ho HR hrow
        go_wp2_with (refine wpList_plain rfl fun K hK => wp_append (.tmp 32) (.tmp 34) 26 (by rfl) 9 _ 1 16 Tryz.underlying26 info_jstr (by rfl) (by omega) _ n _ (by rfl) Hrow.out w1.heap.size 1 1 [.string (bs s)] (by rfl) (by rfl) 9 (by exact new_heap w1 _ _ rfl) (by simp [Value.oneCell']) (by omega) (by omega) ?_; intro v' w4 hrow hgrow hblk; have hp2 := Owns.grew (l' := sects m (n + 1)) HO.out (by rw [sects_len, HSe.out, show tcs (sects m n ++ [s]) = tcs (sects m n) ++ [.string (bs s)] by simp [tcs]]; exact hrow) hgrow hblk; have Hp := Lib.hid hp2; clear hp2 hrow hgrow hblk)
        go_roundg (m.st.length - (n + 1))
        case measure => omega
        case rel => exact ⟨n + 1, rfl, by omega, Hp⟩
      · have hrd : Dk.read m (n : Int) = ([], 1) := by
          unfold Dk.read Dk.valid
          rw [if_neg hoff, decide_eq_false (by omega : ¬ (n : Int) < (m.st.length : Int)), Bool.and_false]
          rfl
        rw [hrd] at HR
        have HNm : Hid (m.st.length = n) := by show _ = _; omega
        clear hrd hoff HO hJ1 hK1 hlt hk hlen
        go_wp2_with fail
        go_at_call 32
        refine HR.out.mono ?_
        rintro e w1 ⟨rfl, ho⟩
        replace HO := Lib.hid ho.swap
        clear ho HR
        by_cases h3 : n < 3
        · have HE : Hid (openB m = (m, 1, ⟨0, 0, [], false⟩)) := open_err (by unfold findB; rw [if_neg HF.out, if_pos (by rw [HNm.out]; exact h3)])
          go_wp2_with fail
          go_ret3
          exact .inl ⟨by rw [HE.out]; exact Int.ofNat_ne_zero.2 (by decide), by rw [HE.out]; rfl, by rw [HE.out]; exact HO.out.pop⟩
        · have hn3 : 3 ≤ n := by omega
          have hn4 : n ≤ 4000 := by rw [← HNm.out]; exact HL.out
          have hl0 : (Dk.look m 0).length = 64 := look_len HK.out (by rw [HNm.out]; omega)
          have hl1 : (Dk.look m 1).length = 64 := look_len HK.out (by rw [HNm.out]; omega)
          obtain ⟨g, off, rfl⟩ : ∃ g off, x = some ⟨g, off, none⟩ := by
            obtain ⟨x', n', c', he, ht⟩ := Owns.texts HO.out
            cases he
            obtain ⟨g, off, s, hx, -⟩ := ht.get (k := 0) (by omega)
            exact ⟨g, off, hx⟩
          have HG0 := Lib.hid (sects_get m (k := n) (i := 0) (by omega))
          have HG1 := Lib.hid (sects_get m (k := n) (i := 1) (by omega))
          obtain ⟨s0, hs0⟩ : ∃ s0, s0 = Dk.look m 0 := ⟨_, rfl⟩
          obtain ⟨s1, hs1⟩ : ∃ s1, s1 = Dk.look m 1 := ⟨_, rfl⟩
          obtain ⟨c0, hc0⟩ : ∃ c0, c0 = countB 0 s0 (n - 2) := ⟨_, rfl⟩
          obtain ⟨c1, hc1⟩ : ∃ c1, c1 = countB 1 s1 (n - 2) := ⟨_, rfl⟩
          have HFL := Lib.hid (find_law HF.out (by rw [HNm.out]; exact hn3) (c := c0) (d := c1) (by rw [hc0, hs0, HNm.out]) (by rw [hc1, hs1, HNm.out]))
          have hcl : -1 ≤ c0 ∧ c0 ≤ (n - 2 : Nat) ∧ -1 ≤ c1 ∧ c1 ≤ (n - 2 : Nat) := by rw [hc0, hc1]; exact ⟨(countB_le _ _ _).1, (countB_le _ _ _).2, (countB_le _ _ _).1, (countB_le _ _ _).2⟩
          obtain ⟨r, hr⟩ : ∃ r : Nat, r = n - 2 := ⟨_, rfl⟩
          rw [← hr] at hc0 hc1 hcl
          have er : (n : Int) - 2 = (r : Int) := by omega
          have hr8 : r < 10 ^ 8 := by omega
          rw [← hs0] at hl0 HG0
          rw [← hs1] at hl1 HG1
          have HC0 := Lib.hid hc0
          have HC1 := Lib.hid hc1
          have HS0 := Lib.hid hs0
          have HS1 := Lib.hid hs1
          have HR8 := Lib.hid hr8
          obtain ⟨jb, hjb⟩ : ∃ jb, jb = w1.heap.size := ⟨_, rfl⟩
          obtain ⟨W2, hW2⟩ : ∃ W2, W2 = w1.alloc (.cells #[.pointer (some ⟨db, 0, none⟩), .int .i64 (n : Int), .int .i64 0, .slice none 0 0, .bool false] 53) := ⟨_, rfl⟩
          have HO2 : Hid (Owns w0 W2 (jblk jb db n 0 (.slice none 0 0) false :: trow (.slice (some ⟨g, off, none⟩) n c) (sects m n) :: disk db m :: ps)) := by
            rw [hW2, hjb]
            exact Lib.hid (HO.out.box _)
          have HSt : Hid (Std W2.drew) := HS.out.below HO2.out.drew.base
          have HCap : Hid (n ≤ c) := by
            rcases (Owns.row HO.out).2 with ⟨hv, -⟩ | ⟨_, _, _, hv, -, -, h4, -⟩
            · cases hv
            · simp only [Value.slice.injEq] at hv
              rw [sects_len] at h4
              rw [hv.2.2]
              exact h4
          clear hc0 hc1 hs0 hs1 hr8 HO hr
          go_wp2_with fail
          rw [← hjb, ← hW2]
          clear hjb hW2
          refine wp_region_can [7, 14] [0, 1, 2, 3, 4, 5, 6, 8, 9, 10, 11, 12, 13, 7, 14, 15, 16, 17, 18] (by kernel_rfl) (by kernel_rfl) ?_
          obtain ⟨hg1, cs0⟩ := Owns.txt HO2.out.drew.swap HG0.out
          obtain ⟨-, cs1⟩ := Owns.txt HO2.out.drew.swap HG1.out
          rw [Nat.add_zero] at cs0
          iterate 13 (refine cl_do rfl rfl rfl (by first | rfl | simp [okB, lenV, Act.eval]) (fun _ _ => ?_); go_wp2_with fail)
          refine cl_call (i := 7) rfl rfl rfl (fun K hK => ?_)
          go_wp2_with fail
          go_at_call 33
          refine (countJ_c 0 r s0 (by omega) HR8.out hl0 _ HSt.out).mono ?_
          rintro e w3 ⟨rfl, hb⟩
          rw [← HC0.out]
          have HB := Lib.hid hb
          replace HO2 := Lib.hid (HO2.out.drew.below hb)
          replace HSt := Lib.hid (HSt.out.below hb)
          clear hb cs0 cs1 hg1
          go_wp2_with fail
          refine And.intro HB.out ?_
          refine cl_call (i := 14) rfl rfl rfl (fun K hK => ?_)
          go_wp2_with fail
          go_at_call 33
          refine (countJ_c 1 r s1 (by omega) HR8.out hl1 _ HSt.out).mono ?_
          rintro e w4 ⟨rfl, hb⟩
          rw [← HC1.out]
          replace HB := Lib.hid hb
          replace HO2 := Lib.hid (HO2.out.below hb)
          replace HSt := Lib.hid (HSt.out.below hb)
          clear hb
          go_wp2_with fail
          refine And.intro HB.out ?_
          obtain ⟨M, hM⟩ : ∃ M, M = max c0 c1 := ⟨_, rfl⟩
          rw [← hM] at HFL
          have eM : max c0 c1 = M := hM.symm
          have hM1 : -1 ≤ M ∧ M ≤ r := by omega
          obtain ⟨bk, -⟩ := HO2.out.blk
          have hb1 := lt_of_block bk
          have c2 : w4.cell? ⟨jb, 2, none⟩ = some (.int .i64 0) := by rw [cell_of_heap bk]; rfl
          have f2 : w4.frozen? ⟨jb, 2, none⟩ = false := free_of_heap bk
          replace HO2 : Hid (Owns w0 (w4.setCell ⟨jb, 2, none⟩ (.int .i64 M)) (blk jb (.cells #[.pointer (some ⟨db, 0, none⟩), .int .i64 (n : Int), .int .i64 M, .slice none 0 0, .bool false] 53 (0, 0)) :: trow (.slice (some ⟨g, off, none⟩) n c) (sects m n) :: disk db m :: ps)) := HO2.out.store (i := 2) (.int .i64 M)
          clear bk hM HB
          iterate 4 (refine cl_do rfl rfl rfl (by first | rfl | simp [okB, plainV, Act.eval]) (fun _ _ => ?_); go_wp2_with fail)
          refine cl_nil ?_
          obtain ⟨W5, hW5⟩ : ∃ W5, W5 = w4.setCell ⟨jb, 2, none⟩ (.int .i64 M) := ⟨_, rfl⟩
          rw [← hW5] at HO2 ⊢
          have HSt5 : Hid (Std W5) := HS.out.below HO2.out.base
          obtain ⟨bk, -⟩ := HO2.out.blk
          have hb5 := lt_of_block bk
          have c52 : W5.cell? ⟨jb, 2, none⟩ = some (.int .i64 M) := by rw [cell_of_heap bk]; rfl
          clear hW5 hb1 c2 f2 bk
          by_cases hM0 : M < 0
          · have HE : Hid (openB m = (m, 27, ⟨0, 0, [], false⟩)) := open_err (by rw [HFL.out, if_pos hM0])
            clear hM1 HFL
            go_wp2_with fail
            go_ret3
            exact .inl ⟨by rw [HE.out]; exact Int.ofNat_ne_zero.2 (by decide), by rw [HE.out]; rfl, by rw [HE.out]; exact HO2.out.pop.pop⟩
          · obtain ⟨cn, rfl⟩ : ∃ cn : Nat, M = (cn : Int) := ⟨M.toNat, by omega⟩
            rw [if_neg hM0, Int.toNat_natCast] at HFL
            have hcr : cn ≤ r := by omega
            obtain ⟨tn, htn⟩ : ∃ tn : Nat, tn = 2 + cn := ⟨_, rfl⟩
            have etn : (2 : Int) + (cn : Int) = (tn : Int) := by omega
            have htc : tn ≤ c := by have := HCap.out; omega
            obtain ⟨B, hB⟩ : ∃ B, B = W5.heap.size := ⟨_, rfl⟩
            obtain ⟨W6, hW6⟩ : ∃ W6, W6 = W5.alloc (.cells #[.pointer none, .slice none 0 0] 58) := ⟨_, rfl⟩
            have HF : Hid (Lib.IsBuilderF 58 5 B B (Lib.byteCells ([] : List Bytes).flatten) W6) := by
              refine Or.inl (Lib.BuilderAtF.of ⟨Nat.le_refl _, _, by rw [hB, hW6]; exact heap_alloc_new W5 _, World.ownsRow_nil _ _ _ _, by simp [Value.ownBlock]⟩)
            have HB : Hid (Below W5.heap.size W5 W6) := by rw [hW6]; exact Lib.hid ((Below.refl _ W5).alloc (Nat.le_refl _) _)
            have HBs := Lib.hid hB
            have c62 : W6.cell? ⟨jb, 2, none⟩ = some (.int .i64 (cn : Int)) := by rw [HB.out.cell (p := ⟨jb, 2, none⟩) hb5]; exact c52
            have hb6 : jb < W6.heap.size := Nat.lt_of_lt_of_le hb5 HB.out.size
            have etn2 : tn - 2 = cn := by omega
            have hc2 : ¬ c = 2 := by have := HCap.out; omega
            have htn2 : 2 ≤ tn := by omega
            have HTn := Lib.hid htn
            clear htn
            go_wp2_with fail
            rw [← hB, ← hW6]
            have HNum : Hid (cn ≤ r ∧ (n : Int) - 2 = (r : Int) ∧ n ≤ 4000 ∧ 3 ≤ n) := ⟨hcr, er, hn4, hn3⟩
            clear hB hW6 c62 hb6 hcl er eM hM1 etn htc etn2 hc2 htn2 hcr hn4 hn3 hb5 c52
            go_loopg [75] cn (fun gk i wr => ∃ (k : Nat) (done : List Bytes), gk = cn - k ∧ k ≤ cn ∧ i = .int .i64 (k : Int) ∧ Hid (done.length = k ∧ (∀ j, j < k → pieceB (2 + j) (Dk.look m (2 + j)) = done[j]?) ∧ ∀ p ∈ done, p.length ≤ 46) ∧ Hid (Lib.IsBuilderF 58 5 B B (Lib.byteCells done.flatten) wr) ∧ Hid (Below W5.heap.size W5 wr))
            case atStart => exact ⟨0, [], rfl, Nat.zero_le _, rfl, Lib.hid ⟨rfl, fun j hj => absurd hj (Nat.not_lt_zero _), by simp⟩, HF, HB⟩
            case round =>
              rename_i J2 K2 hJ2 hK2
              clear HF HB
              obtain ⟨k, done, rfl, hk, rfl, HD, HF, HB⟩ := hrel
              by_cases hlt : k < cn
              · obtain ⟨s, hs⟩ : ∃ s, s = Dk.look m (2 + k) := ⟨_, rfl⟩
                have h2k : 2 + k < n := by have := HNum.out; omega
                have hsl : s.length = 64 := by rw [hs]; exact look_len HK.out (by rw [HNm.out]; exact h2k)
                obtain ⟨hg1, cs⟩ := Owns.txt (HO2.out.pop.below HB.out) (show (sects m n)[2 + k]? = some s by rw [hs]; exact sects_get m h2k)
                rw [← Nat.add_assoc] at cs
                have HP := Lib.hid (piece_law (p := 2 + k) hsl)
                have HPS : Hid (∀ t, pieceB (2 + k) s = some t → (done ++ [t]).length = k + 1 ∧ (∀ j, j < k + 1 → pieceB (2 + j) (Dk.look m (2 + j)) = (done ++ [t])[j]?) ∧ ∀ p ∈ done ++ [t], p.length ≤ 46) := by
                  intro t ht
                  obtain ⟨h1, h2, h3⟩ := HD.out
                  refine ⟨by simp [h1], fun j hj => ?_, fun p hp => ?_⟩
                  · by_cases hjk : j < k
                    · rw [h2 j hjk, List.getElem?_append_left (by omega)]
                    · obtain rfl : j = k := by omega
                      rw [← hs, ht, List.getElem?_append_right (by omega), h1]
                      simp
                  · rcases List.mem_append.1 hp with hp | hp
                    · exact h3 p hp
                    · have : p = t := by simpa using hp
                      rw [this]
                      exact pieceB_len ht
                have HDL : Hid (done.flatten.length ≤ 200000) := by
                  show _ ≤ _
                  have h1 := flat_le done HD.out.2.2
                  have h2 := HD.out.1
                  have h3 := HNum.out
                  omega
                have HPN : Hid (pieceB (2 + k) s = none → openB m = (m, 27, ⟨0, 0, [], false⟩)) := fun h => open_err (by rw [HFL.out, piecesOf_none (k := k) hlt (by rw [← hs]; exact h)])
                obtain ⟨pk, hpk⟩ : ∃ pk, pk = 2 + k := ⟨_, rfl⟩
                have epk : (2 : Int) + (k : Int) = (pk : Int) := by omega
                have hpk4 : pk ≤ 4002 := by have := HNum.out; omega
                rw [← hpk] at HP HPN HPS
                obtain ⟨f, hf⟩ : ∃ f, f = (s.drop 16).take 2 := ⟨_, rfl⟩
                obtain ⟨v, hv⟩ : ∃ v, v = atV f := ⟨_, rfl⟩
                have hfl : f.length ≤ 281474976710656 := by rw [hf, List.length_take]; omega
                rw [← hf, ← hv] at HP
                clear hpk hs h2k
                go_wp2_with fail
                rw [← hf]
                go_at_call 34
                refine (AtoiV_c f _ hfl (HSt5.out.below HB.out)).mono ?_
                rintro e w7 ⟨x, rfl, hb⟩
                rw [← hv]
                replace HF := Lib.hid (bldF_keep HF.out hb)
                replace HB := Lib.hid (HB.out.trans (hb.mono HB.out.size))
                clear hb hf hv hfl cs hg1
                by_cases hv1 : v < 1
                · have HE := Lib.hid (HPN.out (by rw [HP.out, if_neg (by omega)]))
                  clear HPN HPS HP hJ2 hK2
                  go_wp2_with fail
                  go_ret3
                  exact .inl ⟨by rw [HE.out]; exact Int.ofNat_ne_zero.2 (by decide), by rw [HE.out]; rfl, by rw [HE.out]; exact (HO2.out.below HB.out).pop.pop⟩
                · by_cases hv2 : 46 < v
                  · have HE := Lib.hid (HPN.out (by rw [HP.out, if_neg (by omega)]))
                    clear HPN HPS HP hJ2 hK2
                    go_wp2_with fail
                    go_ret3
                    exact .inl ⟨by rw [HE.out]; exact Int.ofNat_ne_zero.2 (by decide), by rw [HE.out]; rfl, by rw [HE.out]; exact (HO2.out.below HB.out).pop.pop⟩
                  · obtain ⟨u, rfl⟩ : ∃ u : Nat, v = (u : Int) := ⟨v.toNat, by omega⟩
                    rw [Int.toNat_natCast] at HP
                    obtain ⟨q, hq18⟩ : ∃ q : Nat, q = 18 + u := ⟨_, rfl⟩
                    have eq : (18 : Int) + (u : Int) = (q : Int) := by omega
                    have eq2 : q - 18 = u := by omega
                    have hq64 : q ≤ 64 := by omega
                    have hq1 : 18 ≤ q := by omega
                    have HQ := Lib.hid hq18
                    clear hq18
                    obtain ⟨t, ht⟩ : ∃ t, t = (s.drop 18).take u := ⟨_, rfl⟩
                    have HTL : Hid (t.length ≤ 46) := by show _ ≤ _; rw [ht, List.length_take]; omega
                    have HT := Lib.hid ht
                    rw [← ht] at HP
                    obtain ⟨y, hy⟩ : ∃ y, y = sectorB pk t := ⟨_, rfl⟩
                    rw [← hy] at HP
                    have HY := Lib.hid hy
                    have HPY : Hid (y = s → pieceB pk s = some t) := fun h => by rw [HP.out, if_pos ⟨by omega, by omega, h⟩]
                    have HPX : Hid (y ≠ s → pieceB pk s = none) := fun h => by rw [HP.out, if_neg fun h' => h h'.2.2]
                    clear ht hy HP
                    go_wp2_with fail
                    rw [← HT.out]
                    go_at_call 35
                    refine (sectorJ_c pk t (by omega) (by have := HTL.out; omega) _ (HSt5.out.below HB.out)).mono ?_
                    rintro e w8 ⟨rfl, hb⟩
                    replace HF := Lib.hid (bldF_keep HF.out hb)
                    replace HB := Lib.hid (HB.out.trans (hb.mono HB.out.size))
                    clear hb
                    rw [← HY.out]
                    by_cases hys : y = s
                    · have hq2 : (y == s) = true := by simpa using hys
                      have HPSt := Lib.hid (HPS.out t (HPY.out hys))
                      clear HPN HPS HPX HPY hys
                      go_wp2_with fail
                      rw [← HT.out]
                      have HW := Lib.hid (writeS_c B B _ (bs t) w8 HF.out (by have := HDL.out; have := HTL.out; rw [Lib.byteCells_length, bs_size]; omega) (by have := HB.out.size; have := HBs.out; omega))
                      go_at_call 36
                      refine HW.out.mono ?_
                      rintro e w9 ⟨rfl, h4, b4⟩
                      have HF2 : Hid (Lib.IsBuilderF 58 5 B B (Lib.byteCells (done ++ [t]).flatten) w9) := by
                        rw [Lib.strCells_eq, ← Lib.byteCells_append] at h4
                        rw [List.flatten_append, show [t].flatten = t by simp]
                        exact Or.inr h4
                      replace HB := Lib.hid (HB.out.trans (b4.mono (Nat.le_of_eq HBs.out.symm)))
                      clear HW h4 b4 HT HF
                      go_wp2_with fail
                      go_roundg (cn - (k + 1))
                      case measure => omega
                      case rel => exact ⟨k + 1, done ++ [t], rfl, by omega, by go_num, HPSt, HF2, HB⟩
                    · have hq2 : (y == s) = false := by simpa using hys
                      have HE := Lib.hid (HPN.out (HPX.out hys))
                      clear HPN HPS HPX HPY hJ2 hK2 hys
                      go_wp2_with fail
                      go_ret3
                      exact .inl ⟨by rw [HE.out]; exact Int.ofNat_ne_zero.2 (by decide), by rw [HE.out]; rfl, by rw [HE.out]; exact (HO2.out.below HB.out).pop.pop⟩
              · obtain rfl : k = cn := by omega
                have HPO : Hid (findB m = match parseB done.flatten with | none => .error 27 | some rs => .ok (k, rs)) := by
                  show _ = _
                  rw [HFL.out, piecesOf_some HD.out.1 HD.out.2.1]
                  rfl
                obtain ⟨t, ht⟩ : ∃ t, t = done.flatten := ⟨_, rfl⟩
                have HTL : Hid (t.length ≤ 200000) := by
                  show _ ≤ _
                  rw [ht]
                  have h1 := flat_le done HD.out.2.2
                  have h2 := HD.out.1
                  have h3 := HNum.out
                  omega
                rw [← ht] at HPO HF
                clear ht HD HFL hJ2 hK2
                have HT := Lib.hid (Tryz.Builder_String_any_f B B t _ HF.out (by have := HB.out.size; have := HBs.out; omega))
                change Hid (Calls _ _ _ _ fun e w' => e = .returned (.string (bs t)) ∧ _) at HT
                go_wp2_with fail
                go_at_call 38
                refine HT.out.mono ?_
                rintro e w7 ⟨rfl, h3, b3⟩
                replace HB := Lib.hid (HB.out.trans (b3.mono (Nat.le_of_eq HBs.out.symm)))
                clear HT h3 b3 HF
                go_wp2_with fail
                go_at_call 37
                refine (parse_c t w7 w7 (Below.refl _ _) (by have := HTL.out; omega) (HSt5.out.below HB.out)).mono ?_
                rintro e w8 (⟨rv, rs, hp, rfl, htr⟩ | ⟨hp, rfl, hb⟩)
                · replace HPO : Hid (findB m = .ok (k, rs)) := by have h := HPO.out; rw [hp] at h; exact h
                  have HO3 := Lib.hid (Owns.trow (HO2.out.below HB.out) htr)
                  obtain ⟨x, nn, cc, rfl, -⟩ := Owns.texts HO3.out
                  obtain ⟨bk, -⟩ := HO3.out.swap.blk
                  have hb1 := lt_of_block bk
                  have c3 : w8.cell? ⟨jb, 3, none⟩ = some (.slice none 0 0) := by rw [cell_of_heap bk]; rfl
                  have f3 : w8.frozen? ⟨jb, 3, none⟩ = false := free_of_heap bk
                  have HRl : Hid (rs.length ≤ 1000000) := by
                    have h1 := (Owns.row HO3.out).1
                    have h2 := parse_count hp
                    have h3 := HTL.out
                    show _ ≤ _
                    omega
                  replace HO3 : Hid (Owns w0 (w8.setCell ⟨jb, 3, none⟩ (.slice x nn cc)) (jblk jb db n k (.slice x nn cc) false :: trow (.slice x nn cc) rs :: trow (.slice (some ⟨g, off, none⟩) n c) (sects m n) :: disk db m :: ps)) := HO3.out.swap.store (i := 3) (.slice x nn cc)
                  clear bk hp htr HO2 HB HBs
                  go_wp2_with fail
                  obtain ⟨W9, hW9⟩ : ∃ W9, W9 = w8.setCell ⟨jb, 3, none⟩ (.slice x nn cc) := ⟨_, rfl⟩
                  rw [← hW9] at HO3 ⊢
                  clear hW9 c3 f3 hb1
                  obtain ⟨D, E, hD0, hD, hDe, hDo⟩ := open_fix HPO.out
                  have HOD : Hid (Owns w0 W9 (disk db (D 0) :: jblk jb db n k (.slice x nn cc) false :: trow (.slice x nn cc) rs :: trow (.slice (some ⟨g, off, none⟩) n c) (sects m n) :: ps)) := by rw [hD0]; exact Lib.hid HO3.out.rot4
                  have HQ0 : Hid ((D 0).q.length ≤ 1000 + 2 * 0) := by rw [hD0]; exact Lib.hid hq
                  have HD := Lib.hid hD
                  have HDe := Lib.hid hDe
                  have HDo := Lib.hid hDo
                  have HK9 : Hid (k ≤ 4000) := by show _ ≤ _; have := HNum.out; omega
                  clear hD0 hD hDe hDo HO3 hq hk HK HCap
                  go_loopg [119] 2 (fun gk i wr => ∃ q : Nat, gk = 2 - q ∧ q ≤ 2 ∧ i = .int .i64 (q : Int) ∧ Hid (∀ j, j < q → E j = 0) ∧ Hid ((D q).q.length ≤ 1000 + 2 * q) ∧ Hid (Owns w0 wr (disk db (D q) :: jblk jb db n k (.slice x nn cc) false :: trow (.slice x nn cc) rs :: trow (.slice (some ⟨g, off, none⟩) n c) (sects m n) :: ps)))
                  case atStart => exact ⟨0, rfl, Nat.zero_le _, rfl, Lib.hid fun j hj => absurd hj (Nat.not_lt_zero _), HQ0, HOD⟩
                  case round =>
                    rename_i J3 K3 hJ3 hK3
                    clear HOD HQ0
                    obtain ⟨q, rfl, hq2, rfl, HE0, HQ, HOD⟩ := hrel
                    by_cases hlt : q < 2
                    · have h2q : q < n := by have := HNum.out; omega
                      have HLT := Lib.hid hlt
                      obtain ⟨s, hs⟩ : ∃ s, s = Dk.look m q := ⟨_, rfl⟩
                      have hgt : (sects m n)[q]? = some s := by rw [hs]; exact sects_get m h2q
                      have HG := Lib.hid hgt
                      have HF := Lib.hid (HD.out q hlt)
                      rw [← hs] at HF
                      obtain ⟨xh, hxh⟩ : ∃ xh, xh = headB q k := ⟨_, rfl⟩
                      have HX := Lib.hid hxh
                      have HXl : xh.length = 64 := by rw [hxh]; exact headB_len _ _
                      obtain ⟨z, hz⟩ : ∃ z, z = zeroB := ⟨_, rfl⟩
                      have HZ := Lib.hid hz
                      have HZl : z.length = 64 := by rw [hz]; exact zeroB_len
                      have HFy : Hid (s = xh ∨ (k = 0 ∧ s = z) → D (q + 1) = D q ∧ E q = 0) := fun h => by
                        have h1 := HF.out
                        unfold fixB at h1
                        rw [if_pos (by rw [← hxh, ← hz]; exact h)] at h1
                        simp only [Prod.mk.injEq] at h1
                        exact ⟨h1.1.symm, h1.2.symm⟩
                      have HFn : Hid (¬ (s = xh ∨ (k = 0 ∧ s = z)) → ((writesB (D q) q [z]).2 = 0 ∧ 0 < k → writesB (writesB (D q) q [z]).1 q [xh] = (D (q + 1), E q)) ∧ (¬ ((writesB (D q) q [z]).2 = 0 ∧ 0 < k) → writesB (D q) q [z] = (D (q + 1), E q))) := fun h => by
                        have h1 := HF.out
                        unfold fixB at h1
                        rw [if_neg (by rw [← hxh, ← hz]; exact h), ← hxh, ← hz] at h1
                        refine ⟨fun h2 => ?_, fun h2 => ?_⟩
                        · rw [if_pos h2] at h1; exact h1
                        · rw [if_neg h2] at h1; exact h1
                      have HFq : Hid ((D (q + 1)).q.length ≤ 1000 + 2 * (q + 1)) := by
                        have h1 := fix_q (D q) q s k
                        rw [HF.out] at h1
                        have h2 := HQ.out
                        show _ ≤ _
                        dsimp only at h1
                        omega
                      obtain ⟨bk, -⟩ := HOD.out.swap.blk
                      have hb1 := lt_of_block bk
                      have c2 : wr.cell? ⟨jb, 2, none⟩ = some (.int .i64 (k : Int)) := by rw [cell_of_heap bk]; rfl
                      clear hs hgt hxh hz HF bk h2q
                      go_wp2_with fail
                      go_at_call 39
                      refine (headJ_c q k (by omega) (by have := HK9.out; omega) _ (HS.out.below HOD.out.base)).mono ?_
                      rintro e w10 ⟨rfl, hb⟩
                      rw [← HX.out]
                      replace HOD := Lib.hid (HOD.out.below hb).drew
                      clear hb c2 hb1
                      go_wp2_with fail
                      refine wp_region_can [17] (List.range 21) (by kernel_rfl) (by kernel_rfl) ?_
                      obtain ⟨hg1, cs⟩ := Owns.txt HOD.out.rot4 HG.out
                      obtain ⟨bk, -⟩ := HOD.out.swap.blk
                      have hb1 := lt_of_block bk
                      have c2 : w10.drew.cell? ⟨jb, 2, none⟩ = some (.int .i64 (k : Int)) := by rw [cell_of_heap bk]; rfl
                      clear bk
                      by_cases hsx : s = xh
                      · have hq1 : (s == xh) = true := by simpa using hsx
                        obtain ⟨hD1, hE1⟩ := HFy.out (.inl hsx)
                        have HE2 : Hid (∀ j, j < q + 1 → E j = 0) := fun j hj => by
                          by_cases hjq : j < q
                          · exact HE0.out j hjq
                          · obtain rfl : j = q := by omega
                            exact hE1
                        rw [← hD1] at HOD
                        clear hsx hD1 hE1 HFy HFn
                        iterate 21 (first | (refine cl_do rfl rfl rfl rfl (fun _ _ => ?_); go_wp2_with fail) | (refine cl_yes rfl rfl rfl rfl rfl (fun _ _ => ?_); go_wp2_with fail) | (refine cl_no rfl rfl rfl ?_; go_simp) | (refine cl_skip rfl rfl ?_; go_simp))
                        refine cl_nil ?_
                        go_wp2_with fail
                        go_roundg (2 - (q + 1))
                        case measure => omega
                        case rel => exact ⟨q + 1, rfl, by omega, by go_num, HE2, HFq, HOD⟩
                      · have hq1 : (s == xh) = false := by simpa using hsx
                        by_cases hk0 : k = 0
                        · have HFy0 : Hid (s = z → D (q + 1) = D q ∧ E q = 0) := fun h => HFy.out (.inr ⟨hk0, h⟩)
                          have HFn0 : Hid (s ≠ z → writesB (D q) q [z] = (D (q + 1), E q)) := fun h => (HFn.out (fun h' => h'.elim hsx fun h' => h h'.2)).2 (fun h' => by omega)
                          clear HFy HFn hsx
                          subst hk0
                          replace c2 : w10.drew.cell? ⟨jb, 2, none⟩ = some (.int .i64 0) := c2
                          iterate 17 (first | (refine cl_do rfl rfl rfl rfl (fun _ _ => ?_); go_wp2_with fail) | (refine cl_yes rfl rfl rfl rfl rfl (fun _ _ => ?_); go_wp2_with fail) | (refine cl_no rfl rfl rfl ?_; go_simp) | (refine cl_skip rfl rfl ?_; go_simp))
                          refine cl_ycall (i := 17) rfl rfl rfl rfl (fun K hK => ?_)
                          go_wp2_with fail
                          go_at_call 40
                          refine (zeroJ_c _).mono ?_
                          rintro e w11 ⟨rfl, hb⟩
                          rw [← HZ.out]
                          have Hb := Lib.hid hb
                          replace HOD := Lib.hid (HOD.out.below hb)
                          clear hb cs c2 hb1 hg1
                          go_wp2_with fail
                          refine And.intro Hb.out ?_
                          clear Hb
                          by_cases hsz : s = z
                          · have hq3 : (s == z) = true := by simpa using hsz
                            obtain ⟨hD1, hE1⟩ := HFy0.out hsz
                            have HE2 : Hid (∀ j, j < q + 1 → E j = 0) := fun j hj => by
                              by_cases hjq : j < q
                              · exact HE0.out j hjq
                              · obtain rfl : j = q := by omega
                                exact hE1
                            rw [← hD1] at HOD
                            clear hsz hD1 hE1 HFy0 HFn0
                            iterate 3 (first | (refine cl_do rfl rfl rfl rfl (fun _ _ => ?_); go_wp2_with fail) | (refine cl_yes rfl rfl rfl rfl rfl (fun _ _ => ?_); go_wp2_with fail) | (refine cl_no rfl rfl rfl ?_; go_simp) | (refine cl_skip rfl rfl ?_; go_simp))
                            refine cl_nil ?_
                            go_wp2_with fail
                            go_roundg (2 - (q + 1))
                            case measure => omega
                            case rel => exact ⟨q + 1, rfl, by omega, by go_num, HE2, HFq, HOD⟩
                          · have hq3 : (s == z) = false := by simpa using hsz
                            have HFn := Lib.hid (HFn0.out hsz)
                            clear HFy0 HFn0 hsz
                            obtain ⟨bk, -⟩ := HOD.out.swap.blk
                            have hb1 := lt_of_block bk
                            have c2 : World.cell? w11 ⟨jb, 2, none⟩ = some (.int .i64 0) := by rw [cell_of_heap bk]; rfl
                            clear bk
                            iterate 3 (first | (refine cl_do rfl rfl rfl rfl (fun _ _ => ?_); go_wp2_with fail) | (refine cl_yes rfl rfl rfl rfl rfl (fun _ _ => ?_); go_wp2_with fail) | (refine cl_no rfl rfl rfl ?_; go_simp) | (refine cl_skip rfl rfl ?_; go_simp))
                            refine cl_nil ?_
                            clear c2 hb1
                            go_wp2_with fail
                            go_at_call 40
                            refine (zeroJ_c _).mono ?_
                            rintro e w12 ⟨rfl, hb⟩
                            rw [← HZ.out]
                            obtain ⟨gz, hgz⟩ : ∃ gz, gz = w12.heap.size := ⟨_, rfl⟩
                            obtain ⟨W13, hW13⟩ : ∃ W13, W13 = w12.alloc (.cells #[.string (bs z)] 9) := ⟨_, rfl⟩
                            have HM : Hid (Owns w0 W13 (trow (.slice (some ⟨gz, 0, none⟩) 1 1) [z] :: disk db (D q) :: jblk jb db n 0 (.slice x nn cc) false :: trow (.slice x nn cc) rs :: trow (.slice (some ⟨g, off, none⟩) n c) (sects m n) :: ps)) := by
                              rw [hW13, hgz]
                              exact Lib.hid (Owns.made (HOD.out.below hb) [z] (by simp))
                            clear hb HOD
                            go_wp2_with fail
                            rw [← hgz, ← hW13]
                            clear hgz hW13
                            go_at_call 41
                            refine (writeJ_c q HM.out.rot.rot (by omega) (by simp) (by have := HQ.out; simp; omega)).mono ?_
                            rintro e w14 ⟨rfl, ho⟩
                            have hyq := writes_q [z] (D q) q
                            obtain ⟨y, hy⟩ : ∃ y, y = writesB (D q) q [z] := ⟨_, rfl⟩
                            rw [← hy] at HFn ho hyq ⊢
                            have HYQ : Hid (y.1.q.length ≤ 1005) := by show _ ≤ _; have := HQ.out; simp at hyq; omega
                            have HOD := Lib.hid ho.rot.pop
                            clear ho HM hy hyq
                            obtain ⟨bk, -⟩ := HOD.out.swap.blk
                            have hb1 := lt_of_block bk
                            have c2 : World.cell? w14 ⟨jb, 2, none⟩ = some (.int .i64 0) := by rw [cell_of_heap bk]; rfl
                            clear bk
                            by_cases hy0 : y.2 = 0
                            · have hyq : (y.2 == 0) = true := by simpa using hy0
                              have hE1 : E q = 0 := by rw [← hy0, HFn.out]
                              have HE2 : Hid (∀ j, j < q + 1 → E j = 0) := fun j hj => by
                                by_cases hjq : j < q
                                · exact HE0.out j hjq
                                · obtain rfl : j = q := by omega
                                  exact hE1
                              have hD1 : D (q + 1) = y.1 := congrArg Prod.fst HFn.out.symm
                              rw [← hD1] at HOD
                              clear hD1 hE1 hy0 HFn
                              go_wp2_with fail
                              go_roundg (2 - (q + 1))
                              case measure => omega
                              case rel => exact ⟨q + 1, rfl, by omega, by go_num, HE2, HFq, HOD⟩
                            · have hyq : (y.2 == 0) = false := by simpa using hy0
                              have HEq : E q = y.2 := congrArg Prod.snd HFn.out.symm
                              have HE := HDe.out q HLT.out HE0.out (by rw [HEq]; exact hy0)
                              rw [HEq] at HE
                              replace HE := Lib.hid HE
                              have HNe := Lib.hid hy0
                              clear HEq
                              have hD1 : D (q + 1) = y.1 := congrArg Prod.fst HFn.out.symm
                              rw [← hD1] at HOD
                              clear hD1 hy0 HFn hJ3 hK3
                              clear HFq HDe
                              go_wp2_with fail
                              go_ret3
                              exact .inl ⟨by rw [HE.out]; exact HNe.out, by rw [HE.out]; rfl, by rw [HE.out]; exact HOD.out.swap.pop.swap.pop.swap.pop⟩
                        · have hkq : ((k : Int) == 0) = false := by simp; omega
                          have hkp : (0 : Int) < (k : Int) := by omega
                          have HFw := HFn.out (fun h => h.elim hsx fun h => hk0 h.1)
                          have HFn := Lib.hid HFw
                          have HKp : Hid (0 < k) := by show _ < _; omega
                          clear HFw HFy hsx hk0
                          iterate 21 (first | (refine cl_do rfl rfl rfl rfl (fun _ _ => ?_); go_wp2_with fail) | (refine cl_yes rfl rfl rfl rfl rfl (fun _ _ => ?_); go_wp2_with fail) | (refine cl_no rfl rfl rfl ?_; go_simp) | (refine cl_skip rfl rfl ?_; go_simp))
                          refine cl_nil ?_
                          clear cs hg1
                          clear c2 hb1
                          go_wp2_with fail
                          go_at_call 40
                          refine (zeroJ_c _).mono ?_
                          rintro e w12 ⟨rfl, hb⟩
                          rw [← HZ.out]
                          obtain ⟨gz, hgz⟩ : ∃ gz, gz = w12.heap.size := ⟨_, rfl⟩
                          obtain ⟨W13, hW13⟩ : ∃ W13, W13 = w12.alloc (.cells #[.string (bs z)] 9) := ⟨_, rfl⟩
                          have HM : Hid (Owns w0 W13 (trow (.slice (some ⟨gz, 0, none⟩) 1 1) [z] :: disk db (D q) :: jblk jb db n k (.slice x nn cc) false :: trow (.slice x nn cc) rs :: trow (.slice (some ⟨g, off, none⟩) n c) (sects m n) :: ps)) := by
                            rw [hW13, hgz]
                            exact Lib.hid (Owns.made (HOD.out.below hb) [z] (by simp))
                          clear hb HOD
                          go_wp2_with fail
                          rw [← hgz, ← hW13]
                          clear hgz hW13
                          go_at_call 41
                          refine (writeJ_c q HM.out.rot.rot (by omega) (by simp) (by have := HQ.out; simp; omega)).mono ?_
                          rintro e w14 ⟨rfl, ho⟩
                          have hyq := writes_q [z] (D q) q
                          obtain ⟨y, hy⟩ : ∃ y, y = writesB (D q) q [z] := ⟨_, rfl⟩
                          rw [← hy] at HFn ho hyq ⊢
                          have HYQ : Hid (y.1.q.length ≤ 1005) := by show _ ≤ _; have := HQ.out; simp at hyq; omega
                          have HOD := Lib.hid ho.rot.pop
                          clear ho HM hy hyq
                          obtain ⟨bk, -⟩ := HOD.out.swap.blk
                          have hb1 := lt_of_block bk
                          have c2 : World.cell? w14 ⟨jb, 2, none⟩ = some (.int .i64 (k : Int)) := by rw [cell_of_heap bk]; rfl
                          clear bk
                          by_cases hy0 : y.2 = 0
                          · have hyq : (y.2 == 0) = true := by simpa using hy0
                            have HFn2 := Lib.hid (HFn.out.1 ⟨hy0, HKp.out⟩)
                            clear hy0 HFn
                            go_wp2_with fail
                            obtain ⟨gz, hgz⟩ : ∃ gz, gz = w14.heap.size := ⟨_, rfl⟩
                            obtain ⟨W15, hW15⟩ : ∃ W13, W13 = w14.alloc (.cells #[.string (bs xh)] 9) := ⟨_, rfl⟩
                            have HM : Hid (Owns w0 W15 (trow (.slice (some ⟨gz, 0, none⟩) 1 1) [xh] :: disk db y.1 :: jblk jb db n k (.slice x nn cc) false :: trow (.slice x nn cc) rs :: trow (.slice (some ⟨g, off, none⟩) n c) (sects m n) :: ps)) := by
                              rw [hW15, hgz]
                              exact Lib.hid (Owns.made HOD.out [xh] (by simp))
                            clear HOD c2 hb1
                            rw [← hgz, ← hW15]
                            clear hgz hW15
                            go_at_call 41
                            refine (writeJ_c q HM.out.rot.rot (by omega) (by simp) (by have := HYQ.out; simp; omega)).mono ?_
                            rintro e w16 ⟨rfl, ho⟩
                            rw [HFn2.out] at ho ⊢
                            have HOD := Lib.hid ho.rot.pop
                            clear ho HM HFn2
                            by_cases hy0 : E q = 0
                            · have hyq : (E q == 0) = true := by simpa using hy0
                              have hE1 := hy0
                              have HE2 : Hid (∀ j, j < q + 1 → E j = 0) := fun j hj => by
                                by_cases hjq : j < q
                                · exact HE0.out j hjq
                                · obtain rfl : j = q := by omega
                                  exact hE1
                              clear hE1 hy0
                              go_wp2_with fail
                              go_roundg (2 - (q + 1))
                              case measure => omega
                              case rel => exact ⟨q + 1, rfl, by omega, by go_num, HE2, HFq, HOD⟩
                            · have hyq : (E q == 0) = false := by simpa using hy0
                              have HE := Lib.hid (HDe.out q HLT.out HE0.out hy0)
                              have HNe := Lib.hid hy0
                              clear hy0 hJ3 hK3
                              clear HFq HDe
                              go_wp2_with fail
                              go_ret3
                              exact .inl ⟨by rw [HE.out]; exact HNe.out, by rw [HE.out]; rfl, by rw [HE.out]; exact HOD.out.swap.pop.swap.pop.swap.pop⟩
                          · have hyq : (y.2 == 0) = false := by simpa using hy0
                            have HFn2 := HFn.out.2 (fun h => hy0 h.1)
                            have HEq : E q = y.2 := congrArg Prod.snd HFn2.symm
                            have HE := HDe.out q HLT.out HE0.out (by rw [HEq]; exact hy0)
                            rw [HEq] at HE
                            replace HE := Lib.hid HE
                            have HNe := Lib.hid hy0
                            clear HEq
                            have hD1 : D (q + 1) = y.1 := congrArg Prod.fst HFn2.symm
                            rw [← hD1] at HOD
                            clear hD1 hy0 HFn HFn2 hJ3 hK3
                            clear HFq HDe
                            go_wp2_with fail
                            go_ret3
                            exact .inl ⟨by rw [HE.out]; exact HNe.out, by rw [HE.out]; rfl, by rw [HE.out]; exact HOD.out.swap.pop.swap.pop.swap.pop⟩
                    · obtain rfl : q = 2 := by omega
                      have HE := Lib.hid (HDo.out HE0.out)
                      rw [HNm.out] at HE
                      obtain ⟨bk, -⟩ := HOD.out.swap.blk
                      have hb1 := lt_of_block bk
                      have c3 : wr.cell? ⟨jb, 3, none⟩ = some (.slice x nn cc) := by rw [cell_of_heap bk]; rfl
                      clear bk hJ3 hK3
                      go_wp2_with fail
                      go_at_call 42
                      refine (clone_c HOD.out.rot HRl.out).mono ?_
                      rintro e w10 ⟨ov, rfl, ho⟩
                      have HOF := Lib.hid ho.rot5.pop.rot4.swap
                      clear ho c3 hb1
                      go_wp2_with fail
                      go_ret3
                      exact .inr ⟨by rw [HE.out], jb, .slice x nn cc, ov, rfl, by rw [HE.out]; exact HOF.out⟩
                · have HE : Hid (openB m = (m, 27, ⟨0, 0, [], false⟩)) := open_err (by rw [HPO.out, hp])
                  have HO3 := Lib.hid (HO2.out.below (HB.out.trans (hb.mono HB.out.size)))
                  obtain ⟨bk, -⟩ := HO3.out.blk
                  have hb1 := lt_of_block bk
                  have c3 : w8.cell? ⟨jb, 3, none⟩ = some (.slice none 0 0) := by rw [cell_of_heap bk]; rfl
                  have f3 : w8.frozen? ⟨jb, 3, none⟩ = false := free_of_heap bk
                  replace HO3 := Lib.hid (HO3.out.store (i := 3) (.slice none 0 0)).pop.pop
                  clear hb hp HPO HO2 HB bk
                  go_wp2_with fail
                  go_ret3
                  exact .inl ⟨by rw [HE.out]; exact Int.ofNat_ne_zero.2 (by decide), by rw [HE.out]; rfl, by rw [HE.out]; exact HO3.out⟩
end Go.Proofs.YtjcjpekndeoonaaGreatDoor
